/- LexP: NumN, NumP, LexP, in one text. -/
import Derived.Below
import Derived.Lib.ItoaNum
import Derived.Lib.ItoaMem
import Derived.Test.YtfejagpjahoibaaGreatDoorChecked
import Derived.Test.YtfejagpjahoibaaGreatDoorRel
set_option linter.unusedVariables false
namespace Go.Proofs.YtfejagpjahoibaaGreatDoor
def rng (n:Int):Bool:=decide (-9007199254740992≤n) && decide (n≤9007199254740992)
end Go.Proofs.YtfejagpjahoibaaGreatDoor
namespace Go.Proofs.YtfejagpjahoibaaGreatDoor
open Go.Lib (itoa decDigits itoa_nonneg itoa_neg)
end Go.Proofs.YtfejagpjahoibaaGreatDoor
namespace Go.Proofs.YtfejagpjahoibaaGreatDoor
open Go.RowKit
open Go.Lib (hid IsBuilder byteCells)

abbrev two (n:Int) (b:Bool):Value:=.tuple #[.int .i64 n,.bool b]
end Go.Proofs.YtfejagpjahoibaaGreatDoor
