/- The table of sum's rounds, out of what the row lists. -/
import Derived.Test.YtnbhpicmflagcaaDoorLaid
import Derived.Test.YtnbhpicmflagcaaDoorSha2
import Derived.Test.YtnbhpicmflagcaaDoorRows
set_option linter.unusedVariables false
namespace Go.Proofs.YtnbhpicmflagcaaDoor
theorem tab_of_laid {W : World} (h : laidMetH Tryd.prog [("retroact/sum.rounds", Rows.laid_retroact_sum_rounds)] W) : TabR W := by
  rw [MakeChecks.laidMetH_plain _ _ _ (by kernel_rfl)] at h
  exact Lib.tabIs_of_head (g := 0) (t := 97) (e := 82) (n := 64) (rest := []) (by kernel_rfl) (by kernel_rfl) (by kernel_rfl) (by kernel_rfl) (by kernel_rfl) (by kernel_rfl) h
end Go.Proofs.YtnbhpicmflagcaaDoor
