/- Chapter 02 (code): one of the law's values, given by value, read as data. -/
import Derived.Test.YtmlcnmpfjallkaaCodeVals
import Derived.Test.YtmlcnmpfjallkaaCodeL5
import Derived.Lib.SmallJoins
set_option linter.unusedVariables false
namespace Go.Proofs.Ytmlcnmpfjallkaa
open Go.Joins Go.ChangeShapes Go.WideShapes Go.ChangeAt Go.RowKit Go.WideMaps Go.WideElems Go.Deep
/-- a struct of one-cell fields given by value: each field's cell and its reading -/
theorem read_agg {H : Type} {enc : TypeId × Value → H} {P : Program} {W : World} {r : Reach} {b0 : Nat} {t : TypeId} {fs : Array Field} (hs : P.underlying t = some (.struct fs)) (hone : oneCellFields P fs = true) (hC : P.cellsOf t = fs.size) {v : Value} {d : DataW H} {p : List MemPlace}
    (hv : Value.okWide P W r b0 t v) (h : DataW.Trod enc P W 0 (fun _ => true) true t v d p) (hlt : ∀ x ∈ p, x.block < W.heap.size) :
    ∃ (cs : List Value) (ys : List (DataW H × List MemPlace)), v = .agg cs.toArray ∧ cs.length = fs.size ∧ ys.length = fs.size ∧ d = .agg (ys.map (·.1)) ∧
      ∀ (j : Nat) (f : Field), fs[j]? = some f → ∃ u y n, cs[j]? = some u ∧ ys[j]? = some y ∧ DataW.trod enc P W 0 (fun _ => true) true n f.type [u] = some y ∧ ∀ x ∈ y.2, x.block < W.heap.size := by
  obtain ⟨⟨cs⟩, rfl, hsz⟩ := okWide_struct hs hv
  replace hsz : cs.length = fs.size := hsz.trans hC
  obtain ⟨fuel, hf⟩ := h
  obtain ⟨ys, n, _, hx, _, hyl, hfd⟩ := DataW.trod_struct hs hf
  simp only [Prod.mk.injEq] at hx
  refine ⟨cs, ys, rfl, hsz, hyl, hx.1, fun j f hj => ?_⟩
  obtain ⟨ho, hk⟩ := hone_of hone j f hj
  have hjl : j < fs.size := (Array.getElem?_eq_some_iff.1 hj).1
  have hjc : j < cs.length := by omega
  have hjy : j < ys.length := by omega
  have hys : ys[j]? = some ys[j] := List.getElem?_eq_getElem hjy
  have h9 := hfd j f hj
  rw [ho, hk] at h9
  have hd : (cs.drop j).take 1 = [cs[j]] := by rw [List.drop_eq_getElem_cons hjc]; rfl
  simp only [Value.cells] at h9
  rw [hd] at h9
  refine ⟨cs[j], ys[j], n, List.getElem?_eq_getElem hjc, hys, h9.trans hys, fun x hx' => hlt x ?_⟩
  rw [hx.2]
  exact List.mem_flatMap.2 ⟨ys[j], List.getElem_mem hjy, hx'⟩
theorem strs_sum {H : Type} {d : DataW H} {ss : List (List UInt8)} (h : (d = .nil ∧ ss = []) ∨ ∃ sp, d = .slice (ss.map fun s => .lit (.string s)) sp) : (ss.map List.length).sum + ss.length ≤ Rows.uptoBulk d := by
  rcases h with ⟨rfl, rfl⟩ | ⟨sp, rfl⟩
  · simp
  · simp only [Rows.uptoBulk]
    have : (ss.map List.length).sum + ss.length ≤ Rows.uptoBulkAll (ss.map fun s => (DataW.lit (.string s) : DataW H)) := by
      induction ss with
      | nil => simp
      | cons x r ih => simp only [List.map_cons, List.sum_cons, List.length_cons, Rows.uptoBulkAll, Rows.uptoBulk]; omega
    omega
theorem read_valv {H : Type} {enc : TypeId × Value → H} {W : World} {r : Reach} {b0 : Nat} {v : Value} {d : DataW H} {p : List MemPlace} (hv : Value.okWide Try.prog W r b0 47 v) (h : DataW.Trod enc Try.prog W 0 (fun _ => true) true 47 v d p) (hlt : ∀ x ∈ p, x.block < W.heap.size) (hd : Rows.uptoBulk d ≤ 1048576) :
    ∃ (t : CV) (vt vn : Value), v = agv t vt vn ∧ RowS NoS W vt (t.texts.map sv) ∧ RowS NoS W vn (t.nums.map iv) ∧ Small t := by
  obtain ⟨cs, ys, rfl, hcl, hyl, rfl, hf⟩ := read_agg Try.underlying47 (by kernel_rfl) (by kernel_rfl) hv h hlt
  obtain ⟨u0, y0, n0, c0, e0, t0, p0⟩ := hf 0 _ rfl
  obtain ⟨u1, y1, n1, c1, e1, t1, p1⟩ := hf 1 _ rfl
  obtain ⟨u2, y2, n2, c2, e2, t2, p2⟩ := hf 2 _ rfl
  obtain ⟨u3, y3, n3, c3, e3, t3, p3⟩ := hf 3 _ rfl
  obtain ⟨u4, y4, n4, c4, e4, t4, p4⟩ := hf 4 _ rfl
  obtain ⟨k, rfl, hk⟩ := read_int1 Try.underlying3 t0
  obtain ⟨n, rfl, hn⟩ := read_int1 Try.underlying3 t1
  obtain ⟨s, rfl, hs⟩ := read_str1 Try.underlying9 t2
  obtain ⟨ss, hss, hsb⟩ := read_strs1 Try.underlying22 Try.underlying9 (by kernel_rfl) t3 p3
  obtain ⟨zs, hzs, _, hzb⟩ := read_ints1 Try.underlying23 Try.underlying3 (by kernel_rfl) t4 p4
  simp only [Rows.uptoBulk] at hd
  have bnd : ∀ (j : Nat) (y : DataW H × List MemPlace), ys[j]? = some y → Rows.uptoBulk y.1 ≤ 1048576 := fun j y hj => by
    have := bulks.part_le (List.mem_map.2 ⟨y, List.mem_of_getElem? hj, rfl⟩ : y.1 ∈ ys.map (·.1)); omega
  have b2 := bnd 2 y2 e2
  have b3 := bnd 3 y3 e3
  have b4 := bnd 4 y4 e4
  have q3 := bulks.strs_le hsb
  have q5 := strs_sum hsb
  have q4 := bulks.ints_le hzb
  rw [hs] at b2
  simp only [Rows.uptoBulk] at b2
  have hcs : cs = [iv k, iv n, sv s, u3, u4] := by
    match cs, hcl with
    | [a0, a1, a2, a3, a4], _ => simp at c0 c1 c2 c3 c4; simp [c0, c1, c2, c3, c4]
  refine ⟨⟨k, n, s, ss, zs⟩, u3, u4, by rw [hcs], (rowS_of hss (by simp)).weaken (fun _ _ e => e.elim), (rowS_of hzs (by simp)).weaken (fun _ _ e => e.elim), wf64 hk, wf64 hn, by show s.length ≤ _; omega, by show ss.length ≤ _; omega, fun x hx => by have := q3.2 x hx; omega, ?_, by show zs.length ≤ _; omega, ?_⟩
  · have g4 := tenc_flat ss (fun x hx => by have := q3.2 x hx; omega)
    have g5 := (venc_bound ss.length (by omega)).2
    simp only [lenc, List.length_append]; omega
  · have g4 := ienc_flat zs
    have g5 := (venc_bound zs.length (by omega)).2
    simp only [msenc, List.length_append]; omega
end Go.Proofs.Ytmlcnmpfjallkaa
