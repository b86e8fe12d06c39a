/- Chapter 01 (num): the table of powers, out of what the row lists. -/
import Derived.Test.YteepjelfohakaaaDoorLaid
import Derived.Test.YteepjelfohakaaaDoorNumL0
import Derived.Test.YteepjelfohakaaaDoorRows
set_option linter.unusedVariables false
namespace Go.Proofs.YteepjelfohakaaaDoor
theorem tab_of_laid {W : World} (h : laidMetH Tryd.prog Rows.numLawsRow.laid W) : Tab W := by
  rw [MakeChecks.laidMetH_plain _ _ _ (by kernel_rfl)] at h
  have h2 := laidMet_tail (laidMet_tail h)
  exact Lib.tabIs_of_head (g := 0) (t := 46) (e := 40) (n := 20) (rest := []) (by kernel_rfl) (by kernel_rfl) (by kernel_rfl) (by kernel_rfl) (by kernel_rfl) (by kernel_rfl) h2
end Go.Proofs.YteepjelfohakaaaDoor
