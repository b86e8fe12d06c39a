/- press: the zero of an index (4099 cells). -/
import Derived.Test.YtomijpoglnihgaaDoorPressW4
set_option linter.unusedVariables false
namespace Go.Proofs.YtomijpoglnihgaaDoor
open Go.RowKit
open Go.Lib (hid byteCells)
def isZero : Value → Bool | .int .i64 0 => true | _ => false
def ixOk (i : TypeInfo) : Bool := match i.zero with | some (.agg z) => z.size == 4099 && (z.toList.drop 2).all isZero | _ => false
theorem ixZero : (Tryd.prog.info? 49).any ixOk = true := by kernel_rfl
theorem ixBuilt : ∃ z : Array Value, (∀ W, (zeroValue 49).run Tryd.prog W = .ok (.agg z) W) ∧ z.size = 4099 ∧ ∀ q, 2 ≤ q → q < 4099 → z[q]? = some (iv 0) := by
  have h1 := ixZero
  cases hi : Tryd.prog.info? 49 with
  | none => rw [hi] at h1; cases h1
  | some i =>
    rw [hi] at h1
    simp only [Option.any_some, ixOk] at h1
    split at h1
    · rename_i z hz
      simp only [Bool.and_eq_true, beq_iff_eq] at h1
      obtain ⟨h4, h5⟩ := h1
      refine ⟨z, fun W => ?_, h4, fun q hq1 hq2 => ?_⟩
      · simp [zeroValue, typeInfo, hi, hz, go_sem]
      · rw [Array.getElem?_eq_getElem (by omega)]
        have hm : z[q] ∈ z.toList.drop 2 := by
          rw [List.mem_iff_getElem?]
          refine ⟨q - 2, ?_⟩
          rw [List.getElem?_drop, show 2 + (q - 2) = q by omega, Array.getElem?_toList]
          exact Array.getElem?_eq_getElem (by omega)
        have := List.all_eq_true.1 h5 _ hm
        generalize z[q] = u at *
        unfold isZero at this
        split at this
        · rfl
        · cases this
    · cases h1
end Go.Proofs.YtomijpoglnihgaaDoor
