/- A struct of one-cell fields given by value, read as data. -/
import Derived.Test.YtnbhpicmflagcaaDoorStructs
import Derived.Lib.SmallJoins
set_option linter.unusedVariables false
namespace Go.Proofs.YtnbhpicmflagcaaDoor
open Go.Joins Go.ChangeShapes Go.WideShapes Go.ChangeAt Go.RowKit Go.WideMaps Go.WideElems Go.Deep
/-- a struct of one-cell fields given by value: each field's cell and its reading -/
theorem read_agg {H : Type} {enc : TypeId × Value → H} {P : Program} {W : World} {r : Reach} {b0 : Nat} {t : TypeId} {fs : Array Field} (hs : P.underlying t = some (.struct fs)) (hone : oneCellFields P fs = true) (hC : P.cellsOf t = fs.size) {v : Value} {d : DataW H} {p : List MemPlace}
    (hv : Value.okWide P W r b0 t v) (h : DataW.Trod enc P W 0 (fun _ => true) true t v d p) (hlt : ∀ x ∈ p, x.block < W.heap.size) :
    ∃ (cs : List Value) (ys : List (DataW H × List MemPlace)), v = .agg cs.toArray ∧ cs.length = fs.size ∧ ys.length = fs.size ∧ d = .agg (ys.map (·.1)) ∧
      ∀ (j : Nat) (f : Field), fs[j]? = some f → ∃ u y n, cs[j]? = some u ∧ ys[j]? = some y ∧ DataW.trod enc P W 0 (fun _ => true) true n f.type [u] = some y ∧ ∀ x ∈ y.2, x.block < W.heap.size := by
  obtain ⟨⟨cs⟩, rfl, hsz⟩ := okWide_struct hs hv
  replace hsz : cs.length = fs.size := hsz.trans hC
  obtain ⟨fuel, hf⟩ := h
  obtain ⟨ys, n, _, hx, _, hyl, hfd⟩ := DataW.trod_struct hs hf
  simp only [Prod.mk.injEq] at hx
  refine ⟨cs, ys, rfl, hsz, hyl, hx.1, fun j f hj => ?_⟩
  obtain ⟨ho, hk⟩ := hone_of hone j f hj
  have hjl : j < fs.size := (Array.getElem?_eq_some_iff.1 hj).1
  have hjc : j < cs.length := by omega
  have hjy : j < ys.length := by omega
  have hys : ys[j]? = some ys[j] := List.getElem?_eq_getElem hjy
  have h9 := hfd j f hj
  rw [ho, hk] at h9
  have hd : (cs.drop j).take 1 = [cs[j]] := by rw [List.drop_eq_getElem_cons hjc]; rfl
  simp only [Value.cells] at h9
  rw [hd] at h9
  refine ⟨cs[j], ys[j], n, List.getElem?_eq_getElem hjc, hys, h9.trans hys, fun x hx' => hlt x ?_⟩
  rw [hx.2]
  exact List.mem_flatMap.2 ⟨ys[j], List.getElem_mem hjy, hx'⟩
theorem strs_sum {H : Type} {d : DataW H} {ss : List (List UInt8)} (h : (d = .nil ∧ ss = []) ∨ ∃ sp, d = .slice (ss.map fun s => .lit (.string s)) sp) : (ss.map List.length).sum + ss.length ≤ Rows.uptoBulk d := by
  rcases h with ⟨rfl, rfl⟩ | ⟨sp, rfl⟩
  · simp
  · simp only [Rows.uptoBulk]
    have : (ss.map List.length).sum + ss.length ≤ Rows.uptoBulkAll (ss.map fun s => (DataW.lit (.string s) : DataW H)) := by
      induction ss with
      | nil => simp
      | cons x r ih => simp only [List.map_cons, List.sum_cons, List.length_cons, Rows.uptoBulkAll, Rows.uptoBulk]; omega
    omega
end Go.Proofs.YtnbhpicmflagcaaDoor
