/- digests: == and != of two of them. -/
import Derived.Test.YtnbhpicmflagcaaDoorSha3
import Derived.ChangeKeysEq
import Derived.Laws.StructEq
set_option linter.unusedVariables false
namespace Go.Proofs.YtnbhpicmflagcaaDoor
open Go.RowKit
open Go.Lib (hid byteCells)
theorem bc_at (D : List UInt8) {i : Nat} (h : i < D.length) : (byteCells D).toArray[i]? = some (bv (D.getD i 0)) := by
  simp [byteCells, h]
theorem eqItems_bytes (w : World) (d : Nat) (D E : List UInt8) : ∀ is : List Nat, (∀ i ∈ is, i < D.length ∧ i < E.length) →
    (Op.eqItems (d + 1) 5 1 (byteCells D).toArray (byteCells E).toArray is).run Tryd.prog w = .ok (is.all fun i => D.getD i 0 == E.getD i 0) w
  | [], _ => by simp [Op.eqItems]
  | i :: is, h => by
    have h1 := h i (by simp)
    have ih := eqItems_bytes w d D E is (fun j hj => h j (by simp [hj]))
    have pk : Tryd.prog.plainKey 5 = true := by kernel_rfl
    have p1 : (part 5 (byteCells D).toArray (i * 1)).run Tryd.prog w = .ok (bv (D.getD i 0)) w := run_part_plain w pk (by rw [Nat.mul_one]; exact bc_at D h1.1)
    have p2 : (part 5 (byteCells E).toArray (i * 1)).run Tryd.prog w = .ok (bv (E.getD i 0)) w := run_part_plain w pk (by rw [Nat.mul_one]; exact bc_at E h1.2)
    have p3 : (Op.equalIn (d + 1) 5 (bv (D.getD i 0)) (bv (E.getD i 0))).run Tryd.prog w = .ok (((D.getD i 0).toNat : Int) == ((E.getD i 0).toNat : Int)) w := run_equalIn_int w d 5 .u8 .u8 _ _ Tryd.underlying5
    have e : (((D.getD i 0).toNat : Int) == ((E.getD i 0).toNat : Int)) = (D.getD i 0 == E.getD i 0) := by
      rw [Bool.eq_iff_iff, beq_iff_eq, beq_iff_eq, ← UInt8.toNat_inj]; omega
    simp only [Op.eqItems, Sem.run_bind, p1, p2, p3, Result.andThen_ok, e, List.all_cons]
    cases hc : (D.getD i 0 == E.getD i 0)
    · simp
    · simpa using ih
theorem dg_all (D E : List UInt8) (hD : D.length = 32) (hE : E.length = 32) : ((List.range 32).all fun i => D.getD i 0 == E.getD i 0) = decide (D = E) := by
  rw [Bool.eq_iff_iff, List.all_eq_true, decide_eq_true_iff]
  constructor
  · intro h
    apply List.ext_getElem (by omega)
    intro i h1 h2
    have := h i (List.mem_range.2 (by omega))
    simp only [beq_iff_eq, List.getD_eq_getElem?_getD, List.getElem?_eq_getElem h1, List.getElem?_eq_getElem h2, Option.getD_some] at this
    exact this
  · intro h i _
    rw [h]; simp
theorem dg_equal (w : World) (D E : List UInt8) (hD : D.length = 32) (hE : E.length = 32) : (Op.equalIn 10000 48 (dgv D) (dgv E)).run Tryd.prog w = .ok (decide (D = E)) w := by
  obtain ⟨i, hi⟩ := info_of_underlying (P := Tryd.prog) Tryd.underlying5
  have hu : Tryd.prog.underlying 48 = some (.array 32 5) := Tryd.underlying48
  have h := run_equalIn_array (P := Tryd.prog) w 9999 (byteCells D).toArray (byteCells E).toArray hu hi
  have h1 : Tryd.prog.cellsOf 5 = 1 := by kernel_rfl
  rw [h1] at h
  unfold dgv
  rw [h, eqItems_bytes w 9998 D E (List.range 32) (fun i hi => by have := List.mem_range.1 hi; omega), dg_all D E hD hE]
theorem dg_eql (w : World) (D E : List UInt8) (hD : D.length = 32) (hE : E.length = 32) : (binOp .eql 48 (dgv D) (dgv E)).run Tryd.prog w = .ok (.bool (decide (D = E))) w := by
  have h := dg_equal w D E hD hE
  unfold dgv at *
  rw [run_eql_struct, h]
  rfl
theorem dg_neq (w : World) (D E : List UInt8) (hD : D.length = 32) (hE : E.length = 32) : (binOp .neq 48 (dgv D) (dgv E)).run Tryd.prog w = .ok (.bool (!decide (D = E))) w := by
  have h := dg_equal w D E hD hE
  unfold dgv at *
  rw [run_neq_struct, h]
  rfl
theorem dg_guard (w : World) (op : BinOp) (x y : Operand) (D E : List UInt8) : (eqGuard op 48 x y (dgv D) (dgv E)).run Tryd.prog w = .ok () w :=
  run_eqGuard_agg w op 48 x y _ _ (by kernel_rfl)
theorem shaF_len (s : List UInt8) : (shaF s).length = 32 := by simp [shaF]
end Go.Proofs.YtnbhpicmflagcaaDoor
