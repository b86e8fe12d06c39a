/- Chapter 05 (disk): the law's acts, read as data. -/
import Derived.Test.YtdapjoapndemkaaAgg
import Derived.Test.YtdapjoapndemkaaDiskW11
set_option linter.unusedVariables false
namespace Go.Proofs.Ytdapjoapndemkaa
open Go.ChangeShapes Go.WideShapes Go.ChangeAt Go.RowKit Go.WideMaps Go.WideElems
/-- six fields' readings make an act -/
theorem act_of {H : Type} {enc : TypeId × Value → H} {W : World} {fs : Array Field} (he : Try.prog.underlying 39 = some (.struct fs)) {ys : List (DataW H × List MemPlace)} {cell : Nat → Value → Prop} (hl : ys.length = fs.size)
    (hf : ∀ (j : Nat) (f : Field), fs[j]? = some f → ∃ u y n, cell j u ∧ ys[j]? = some y ∧ DataW.trod enc Try.prog W 0 (fun _ => true) true n f.type [u] = some y ∧ ∀ x ∈ y.2, x.block < W.heap.size) (hb : Rows.uptoBulkAll (ys.map (·.1)) ≤ 1048576) :
    ∃ (a : AC) (vk : Value), cell 0 (iv a.op) ∧ cell 1 (iv a.f) ∧ cell 2 (iv a.g) ∧ cell 3 (iv a.n) ∧ cell 4 (sv a.s) ∧ cell 5 vk ∧ Row W.heap.size W 1 vk a.keep.length (a.keep.map iv) ∧ ActOk a ∧ a.s.length + a.keep.length ≤ Rows.uptoBulkAll (ys.map (·.1)) := by
  obtain rfl : fs = _ := by have := Try.underlying39.symm.trans he; simpa using this.symm
  obtain ⟨u0, y0, n0, c0, e0, t0, p0⟩ := hf 0 _ rfl
  obtain ⟨u1, y1, n1, c1, e1, t1, p1⟩ := hf 1 _ rfl
  obtain ⟨u2, y2, n2, c2, e2, t2, p2⟩ := hf 2 _ rfl
  obtain ⟨u3, y3, n3, c3, e3, t3, p3⟩ := hf 3 _ rfl
  obtain ⟨u4, y4, n4, c4, e4, t4, p4⟩ := hf 4 _ rfl
  obtain ⟨u5, y5, n5, c5, e5, t5, p5⟩ := hf 5 _ rfl
  obtain ⟨z0, rfl, h0⟩ := read_int1 Try.underlying3 t0
  obtain ⟨z1, rfl, h1⟩ := read_int1 Try.underlying3 t1
  obtain ⟨z2, rfl, h2⟩ := read_int1 Try.underlying3 t2
  obtain ⟨z3, rfl, h3⟩ := read_int1 Try.underlying3 t3
  obtain ⟨s, rfl, hs⟩ := read_str1 Try.underlying9 t4
  obtain ⟨zs, hzs, hzw, hzb⟩ := read_ints1 Try.underlying22 Try.underlying3 (by kernel_rfl) t5 p5
  have q := bulks.ints_le hzb
  have hys : ys = [y0, y1, y2, y3, y4, y5] := by
    match ys, hl with
    | [x0, x1, x2, x3, x4, x5], _ => simp at e0 e1 e2 e3 e4 e5; simp [e0, e1, e2, e3, e4, e5]
  have hsum : s.length + zs.length ≤ Rows.uptoBulkAll (ys.map (·.1)) := by
    rw [hys]
    simp only [List.map_cons, List.map_nil, Rows.uptoBulkAll]
    rw [hs]
    simp only [Rows.uptoBulk]
    omega
  exact ⟨⟨z0, z1, z2, z3, s, zs⟩, u5, c0, c1, c2, c3, c4, c5, hzs, ⟨wf64 h0, wf64 h1, wf64 h2, wf64 h3, by show s.length ≤ _; omega, by show zs.length ≤ _; omega, fun x hx => (wf64 (hzw x hx)).2⟩, hsum⟩
theorem sumA_le {H : Type} (l : List AC) (D : Nat → DataW H) (h : ∀ i x, l[i]? = some x → x.s.length + x.keep.length ≤ Rows.uptoBulk (D i)) (k : Nat) : sumA l k ≤ Rows.uptoBulkAll ((List.range l.length).map D) := by
  have h1 : sumA l k ≤ (l.map (fun x => x.s.length + x.keep.length)).sum := by
    unfold sumA
    conv => rhs; rw [← List.take_append_drop k l]
    rw [List.map_append, List.sum_append]; omega
  refine Nat.le_trans h1 ?_
  clear h1
  induction l generalizing D with
  | nil => simp
  | cons x r ih =>
    have h2 := h 0 x rfl
    have h3 := ih (fun i => D (i + 1)) (fun i y hy => h (i + 1) y (by simpa using hy))
    rw [List.length_cons, List.range_succ_eq_map]
    simp only [List.map_cons, List.sum_cons, List.map_map, Rows.uptoBulkAll]
    have e : (D ∘ Nat.succ) = fun i => D (i + 1) := rfl
    rw [e]; omega
theorem read_acts {H : Type} {enc : TypeId × Value → H} {W : World} {v : Value} {d : DataW H} {p : List MemPlace} (hok : ∃ a len cap, v = .slice a len cap) (h : DataW.Trod enc Try.prog W 0 (fun _ => true) true 35 v d p) (hlt : ∀ x ∈ p, x.block < W.heap.size) (hb : Rows.uptoBulk d ≤ 1048576) :
    ∃ l : List AC, ARow W.heap.size W v l ∧ (∀ a ∈ l, ActOk a) ∧ l.length ≤ 1048576 ∧ ∀ k, sumA l k ≤ 1048576 := by
  obtain ⟨a, len, cap, g, off, D, rfl, _, h1, h2, h3⟩ := read_structs Try.underlying35 Try.underlying39 (by kernel_rfl) (by kernel_rfl) (by decide) hok h hlt
  have hbD : ∀ i, i < len → Rows.uptoBulk (D i) ≤ Rows.uptoBulk d := fun i hi => by
    rcases h2 with ⟨_, h⟩ | ⟨sp, rfl⟩
    · omega
    · have h1 : Rows.uptoBulk (D i) ≤ Rows.uptoBulkAll ((List.range len).map D) := bulks.part_le (List.mem_map.2 ⟨i, List.mem_range.2 hi, rfl⟩)
      simp only [Rows.uptoBulk]; omega
  obtain ⟨l, hl, hq⟩ := list_choose (Q := fun i (x : AC) => (∃ vk, W.cell? ⟨g, off + i * 6, none⟩ = some (iv x.op) ∧ W.cell? ⟨g, off + i * 6 + 1, none⟩ = some (iv x.f) ∧ W.cell? ⟨g, off + i * 6 + 2, none⟩ = some (iv x.g) ∧
      W.cell? ⟨g, off + i * 6 + 3, none⟩ = some (iv x.n) ∧ W.cell? ⟨g, off + i * 6 + 4, none⟩ = some (sv x.s) ∧ W.cell? ⟨g, off + i * 6 + 5, none⟩ = some vk ∧ Row W.heap.size W 1 vk x.keep.length (x.keep.map iv)) ∧ ActOk x ∧ x.s.length + x.keep.length ≤ Rows.uptoBulk (D i)) len (fun i hi => by
    obtain ⟨ys, hyl, hD, hf⟩ := h3 i hi
    have hb2 := hbD i hi
    rw [hD] at hb2
    simp only [Rows.uptoBulk] at hb2
    obtain ⟨x, vk, c0, c1, c2, c3, c4, c5, hr, ho, hs⟩ := act_of Try.underlying39 (cell := fun j u => W.cell? ⟨g, off + i * 6 + j, none⟩ = some u) hyl hf (by omega)
    refine ⟨x, ⟨vk, c0, c1, c2, c3, c4, c5, hr⟩, ho, ?_⟩
    rw [hD]; simp only [Rows.uptoBulk]; omega)
  refine ⟨l, ⟨a, cap, g, off, by rw [hl], fun h0 => h1 (by omega), fun k x hk => (hq k x hk).1⟩, fun x hx => ?_, by have := bulk_len h2; omega, fun k => ?_⟩
  · obtain ⟨i, hi⟩ := List.mem_iff_getElem?.1 hx
    exact (hq i x hi).2.1
  · have h4 := sumA_le l D (fun i x hi => (hq i x hi).2.2) k
    rw [hl] at h4
    rcases h2 with ⟨_, h⟩ | ⟨sp, rfl⟩
    · subst h; simp at h4; simp [Rows.uptoBulkAll] at h4; omega
    · simp only [Rows.uptoBulk] at hb; omega
theorem read_actv {H : Type} {enc : TypeId × Value → H} {W : World} {r : Reach} {b0 : Nat} {v : Value} {d : DataW H} {p : List MemPlace} (hv : Value.okWide Try.prog W r b0 39 v) (h : DataW.Trod enc Try.prog W 0 (fun _ => true) true 39 v d p) (hlt : ∀ x ∈ p, x.block < W.heap.size) (hd : Rows.uptoBulk d ≤ 1048576) :
    ∃ (a : AC) (vk : Value), v = aga a vk ∧ Row W.heap.size W 1 vk a.keep.length (a.keep.map iv) ∧ ActOk a := by
  obtain ⟨cs, ys, rfl, hcl, hyl, rfl, hf⟩ := read_agg Try.underlying39 (by kernel_rfl) (by kernel_rfl) hv h hlt
  simp only [Rows.uptoBulk] at hd
  obtain ⟨a, vk, c0, c1, c2, c3, c4, c5, hr, ho, _⟩ := act_of Try.underlying39 (cell := fun j u => cs[j]? = some u) hyl hf (by omega)
  have hcs : cs = [iv a.op, iv a.f, iv a.g, iv a.n, sv a.s, vk] := by
    match cs, hcl with
    | [a0, a1, a2, a3, a4, a5], _ => simp at c0 c1 c2 c3 c4 c5; simp [c0, c1, c2, c3, c4, c5]
  exact ⟨a, vk, by rw [hcs], hr, ho⟩
end Go.Proofs.Ytdapjoapndemkaa
