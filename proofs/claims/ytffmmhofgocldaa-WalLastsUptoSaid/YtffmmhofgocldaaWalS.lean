/- wal: the example 'small', in plain Lean. -/
import Derived.Test.YtffmmhofgocldaaWalW5
import Derived.Test.YtffmmhofgocldaaWalW7
set_option linter.unusedVariables false
namespace Go.Proofs.Ytffmmhofgocldaa
open Go.RowKit
def sd1 : DS := opn2 2 dNew
def sd2 : DS := wapp2 2 [97] sd1
def sd3 : DS := flush2 2 sd2
def sd4 : DS := wapp2 2 [98] sd3
def sd5 : DS := dCrash [] sd4
def sd6 : DS := wapp2 2 [99] sd5
def sd7 : DS := dStart sd6
def sd8 : DS := opn2 2 sd7
def sm : List (List UInt8) := [[120], [], [97]]
def sd9 : DS := rew2 2 sm sd8
def sd10 : DS := dCrash [] sd9
def sd11 : DS := dStart sd10
def sd12 : DS := opn2 2 sd11
theorem sk1 : opn1 2 dNew = 0 := by decide +kernel
theorem sr1 : rowsOf (dNew.data 2) = [] := by decide +kernel
theorem sk2 : wapp1 2 [97] sd1 = 0 := by decide +kernel
theorem sk3 : flush1 2 sd2 = 0 := by decide +kernel
theorem sk4 : wapp1 2 [98] sd3 = 0 := by decide +kernel
theorem sk6 : wapp1 2 [99] sd5 = 12 := by decide +kernel
theorem sk8 : opn1 2 sd7 = 0 := by decide +kernel
theorem sr8 : rowsOf (sd7.data 2) = [[97]] := by decide +kernel
theorem sk9 : rew1 2 sm sd8 = 0 := by decide +kernel
theorem sk12 : opn1 2 sd11 = 0 := by decide +kernel
theorem sr12 : rowsOf (sd11.data 2) = sm := by decide +kernel
end Go.Proofs.Ytffmmhofgocldaa
