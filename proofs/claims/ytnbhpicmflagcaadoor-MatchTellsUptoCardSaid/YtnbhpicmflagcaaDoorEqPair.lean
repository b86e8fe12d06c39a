/- == and != of two pairs of integers. -/
import Derived.Test.YtnbhpicmflagcaaDoorDgst
set_option linter.unusedVariables false
namespace Go.Proofs.YtnbhpicmflagcaaDoor
open Go.RowKit
theorem eqItems_pair (w : World) (d : Nat) (D E : List Int) : ∀ is : List Nat, (∀ i ∈ is, i < D.length ∧ i < E.length) →
    (Op.eqItems (d + 1) 3 1 (D.map iv).toArray (E.map iv).toArray is).run Tryd.prog w = .ok (is.all fun i => D.getD i 0 == E.getD i 0) w
  | [], _ => by simp [Op.eqItems]
  | i :: is, h => by
    have h1 := h i (by simp)
    have ih := eqItems_pair w d D E is (fun j hj => h j (by simp [hj]))
    have pk : Tryd.prog.plainKey 3 = true := by kernel_rfl
    have g : ∀ L : List Int, i < L.length → (L.map iv).toArray[i]? = some (iv (L.getD i 0)) := fun L hL => by simp [hL]
    have p1 : (part 3 (D.map iv).toArray (i * 1)).run Tryd.prog w = .ok (iv (D.getD i 0)) w := run_part_plain w pk (by rw [Nat.mul_one]; exact g D h1.1)
    have p2 : (part 3 (E.map iv).toArray (i * 1)).run Tryd.prog w = .ok (iv (E.getD i 0)) w := run_part_plain w pk (by rw [Nat.mul_one]; exact g E h1.2)
    have p3 : (Op.equalIn (d + 1) 3 (iv (D.getD i 0)) (iv (E.getD i 0))).run Tryd.prog w = .ok (D.getD i 0 == E.getD i 0) w := run_equalIn_int w d 3 .i64 .i64 _ _ Tryd.underlying3
    simp only [Op.eqItems, Sem.run_bind, p1, p2, p3, Result.andThen_ok, List.all_cons]
    cases hc : (D.getD i 0 == E.getD i 0)
    · simp
    · simpa using ih
set_option maxRecDepth 100000 in
theorem pr_equal (w : World) (a b c d : Int) : (Op.equalIn 10000 40 (.agg #[iv a, iv b]) (.agg #[iv c, iv d])).run Tryd.prog w = .ok (a == c && b == d) w := by
  obtain ⟨i, hi⟩ := info_of_underlying (P := Tryd.prog) Tryd.underlying3
  have hu : Tryd.prog.underlying 40 = some (.array 2 3) := Tryd.underlying40
  have h := run_equalIn_array (P := Tryd.prog) w 9999 #[iv a, iv b] #[iv c, iv d] hu hi
  have h1 : Tryd.prog.cellsOf 3 = 1 := by kernel_rfl
  rw [h1] at h
  have h2 := eqItems_pair w 9998 [a, b] [c, d] (List.range 2) (fun i hi => by have := List.mem_range.1 hi; simp; omega)
  have e : ((List.range 2).all fun i => [a, b].getD i 0 == [c, d].getD i 0) = (a == c && b == d) := by simp [show List.range 2 = [0, 1] from rfl]
  rw [e] at h2
  exact h.trans h2
end Go.Proofs.YtnbhpicmflagcaaDoor
