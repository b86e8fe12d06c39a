/- Readers, plainly: what Take gives. -/
import Derived.Test.YtomijpoglnihgaaDoorCodeN3
set_option linter.unusedVariables false
namespace Go.Proofs.YtomijpoglnihgaaDoor
open Go.RowKit
def doneB (st : St) : Bool := !st.2 && st.1.isEmpty
theorem take_bad (n : Int) (st : St) (h : st.2 = true ∨ n < 0 ∨ (st.1.length : Int) < n) : stTake n st = ([], failed) := if_pos h
theorem take_ok (n : Int) (st : St) (h : ¬ (st.2 = true ∨ n < 0 ∨ (st.1.length : Int) < n)) : stTake n st = (st.1.take n.toNat, (st.1.drop n.toNat, st.2)) := if_neg h
end Go.Proofs.YtomijpoglnihgaaDoor
