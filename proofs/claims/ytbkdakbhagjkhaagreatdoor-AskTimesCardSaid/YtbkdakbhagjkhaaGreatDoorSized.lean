/- What the form's own reach gives on a slice of integers. -/
import Derived.Test.YtbkdakbhagjkhaaGreatDoorFrame
set_option linter.unusedVariables false
namespace Go.Proofs.YtbkdakbhagjkhaaGreatDoor
theorem str_sized {H : Type} {P : Program} {ts : List TypeId} {ds : List (DataW H)} (h : (DataW.weightsEach P ts ds).all (· ≤ reachBytes) = true) {j : Nat} {t : TypeId} {l : List UInt8} (ht : ts[j]? = some t) (hd : ds[j]? = some (.lit (.string l))) : l.length ≤ 140737488351232:=sized_string h ht hd
end Go.Proofs.YtbkdakbhagjkhaaGreatDoor
