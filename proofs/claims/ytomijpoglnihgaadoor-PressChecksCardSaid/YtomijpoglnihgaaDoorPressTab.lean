/- Chapter 04 (press): the table of sum's rounds, out of what the row lists. -/
import Derived.Test.YtomijpoglnihgaaDoorLaid
import Derived.Test.YtomijpoglnihgaaDoorSha2
import Derived.Test.YtomijpoglnihgaaDoorRows
set_option linter.unusedVariables false
namespace Go.Proofs.YtomijpoglnihgaaDoor
theorem tab_of_laid {W : World} (h : laidMetH Tryd.prog Rows.pressChecksRow.laid W) : TabR W := by
  rw [MakeChecks.laidMetH_plain _ _ _ (by kernel_rfl)] at h
  exact Lib.tabIs_of_head (g := 0) (t := 67) (e := 28) (n := 64) (rest := []) (by kernel_rfl) (by kernel_rfl) (by kernel_rfl) (by kernel_rfl) (by kernel_rfl) (by kernel_rfl) h
end Go.Proofs.YtomijpoglnihgaaDoor
