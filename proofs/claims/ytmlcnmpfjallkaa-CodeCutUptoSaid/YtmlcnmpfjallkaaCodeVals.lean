/- Chapter 02 (code): a slice of the law's values, read as data. -/
import Derived.Test.YtmlcnmpfjallkaaStructs
import Derived.Test.YtmlcnmpfjallkaaCodeV4
set_option linter.unusedVariables false
namespace Go.Proofs.Ytmlcnmpfjallkaa
open Go.ChangeShapes Go.WideShapes Go.ChangeAt Go.RowKit Go.WideMaps Go.WideElems
theorem rowS_of {w : World} {v : Value} {cs : List Value} {n : Nat} (h : Row w.heap.size w 1 v n cs) (hn : cs.length = n) : RowS (fun k => w.heap.size ≤ k) w v cs := by
  obtain ⟨a, cap, b, off, h1, h2, h3, h4⟩ := h
  refine ⟨a, cap, b, off, by rw [hn]; exact h1, fun h0 => ?_, h4⟩
  have := h3 (by omega)
  exact ⟨this.1, this.2, by omega⟩
/-- what a value of the law is, and how large its parts are -/
structure ValOk (N : Nat) (t : CV) : Prop where
  kind : -9223372036854775808 ≤ t.kind ∧ t.kind ≤ 9223372036854775807
  n : -9223372036854775808 ≤ t.n ∧ t.n ≤ 9223372036854775807
  text : t.text.length ≤ N
  texts : t.texts.length ≤ N
  each : ∀ x ∈ t.texts, x.length ≤ N
  nums : t.nums.length ≤ N
/-- the five cells of a value -/
def ValAt (W : World) (g o : Nat) (t : CV) : Prop :=
  ∃ vt vn, W.cell? ⟨g, o, none⟩ = some (iv t.kind) ∧ W.cell? ⟨g, o + 1, none⟩ = some (iv t.n) ∧ W.cell? ⟨g, o + 2, none⟩ = some (sv t.text) ∧
      W.cell? ⟨g, o + 3, none⟩ = some vt ∧ W.cell? ⟨g, o + 4, none⟩ = some vn ∧ RowS (fun k => W.heap.size ≤ k) W vt (t.texts.map sv) ∧ RowS (fun k => W.heap.size ≤ k) W vn (t.nums.map iv)
theorem read_val {H : Type} {enc : TypeId × Value → H} {W : World} {g o N : Nat} {D : DataW H} {fs : Array Field} (he : Try.prog.underlying 47 = some (.struct fs)) (h : FieldsAt enc Try.prog W fs g o D) (hN : ∀ (ys : List (DataW H × List MemPlace)), D = .agg (ys.map (·.1)) → ∀ (j : Nat) (y : DataW H × List MemPlace), ys[j]? = some y → Rows.uptoBulk y.1 ≤ N) :
    ∃ t : CV, ValAt W g o t ∧ ValOk N t := by
  obtain rfl : fs = _ := by have := Try.underlying47.symm.trans he; simpa using this.symm
  obtain ⟨ys, hl, hD, hf⟩ := h
  obtain ⟨u0, y0, n0, c0, e0, t0, p0⟩ := hf 0 _ rfl
  obtain ⟨u1, y1, n1, c1, e1, t1, p1⟩ := hf 1 _ rfl
  obtain ⟨u2, y2, n2, c2, e2, t2, p2⟩ := hf 2 _ rfl
  obtain ⟨u3, y3, n3, c3, e3, t3, p3⟩ := hf 3 _ rfl
  obtain ⟨u4, y4, n4, c4, e4, t4, p4⟩ := hf 4 _ rfl
  obtain ⟨k, rfl, hk⟩ := read_int1 Try.underlying3 t0
  obtain ⟨n, rfl, hn⟩ := read_int1 Try.underlying3 t1
  obtain ⟨s, rfl, hs⟩ := read_str1 Try.underlying9 t2
  obtain ⟨ss, hss, hsb⟩ := read_strs1 Try.underlying22 Try.underlying9 (by kernel_rfl) t3 p3
  obtain ⟨zs, hzs, _, hzb⟩ := read_ints1 Try.underlying23 Try.underlying3 (by kernel_rfl) t4 p4
  have b2 := hN ys hD 2 y2 e2
  have b3 := hN ys hD 3 y3 e3
  have b4 := hN ys hD 4 y4 e4
  have q3 := bulks.strs_le hsb
  have q4 := bulks.ints_le hzb
  rw [hs] at b2
  simp only [Rows.uptoBulk] at b2
  exact ⟨⟨k, n, s, ss, zs⟩, ⟨u3, u4, c0, c1, c2, c3, c4, rowS_of hss (by simp), rowS_of hzs (by simp)⟩, ⟨wf64 hk, wf64 hn, by show s.length ≤ N; omega, by show ss.length ≤ N; omega, fun x hx => by have := q3.2 x hx; omega, by show zs.length ≤ N; omega⟩⟩
theorem read_vals {H : Type} {enc : TypeId × Value → H} {W : World} {v : Value} {d : DataW H} {p : List MemPlace} (hok : ∃ a len cap, v = .slice a len cap) (h : DataW.Trod enc Try.prog W 0 (fun _ => true) true 42 v d p) (hlt : ∀ x ∈ p, x.block < W.heap.size) :
    ∃ ts : List CV, VRow (fun k => W.heap.size ≤ k) W v ts ∧ (∀ t ∈ ts, ValOk (Rows.uptoBulk d) t) ∧ ts.length ≤ Rows.uptoBulk d := by
  obtain ⟨a, len, cap, g, off, D, rfl, _, h1, h2, h3⟩ := read_structs Try.underlying42 Try.underlying47 (by kernel_rfl) (by kernel_rfl) (by decide) hok h hlt
  obtain ⟨ts, hl, hq⟩ := list_choose (Q := fun i t => ValAt W g (off + i * 5) t ∧ ValOk (Rows.uptoBulk d) t) len (fun i hi => read_val Try.underlying47 (h3 i hi) (fun ys hD j y hy => bulk_field h2 hi hD hy))
  refine ⟨ts, ⟨a, cap, g, off, by rw [hl], fun h0 => ?_, fun k t hk => ?_⟩, fun t ht => ?_, by rw [hl]; exact bulk_len h2⟩
  · have := h1 (by omega)
    exact ⟨this.1, this.2, by omega⟩
  · exact (hq k t hk).1
  · obtain ⟨i, hi⟩ := List.mem_iff_getElem?.1 ht
    exact (hq i t hi).2
theorem enc_few (t : CV) (h : okCV t = true) (h2 : t.n ≤ 9223372036854775807) : (encCV t).length ≤ 40000 := by
  unfold okCV okHead at h
  simp only [Bool.and_eq_true, Bool.not_eq_true', Bool.and_eq_false_iff, decide_eq_true_eq, decide_eq_false_iff_not, Bool.not_eq_false', List.all_eq_true] at h
  obtain ⟨⟨⟨⟨⟨h1, h2⟩, h3⟩, h4⟩, h5⟩, h6⟩ := h
  unfold encCV nenc
  split
  · split
    · simp
    · have := (venc_bound t.n.toNat (by omega)).2; omega
  · split
    · have := ienc_bound t.n; omega
    · split
      · have := (venc_bound t.text.length (by omega)).2; simp only [tenc, List.length_append]; omega
      · split
        · obtain ⟨g1, g2, g3⟩ := few_all t.texts h3
          have g4 := tenc_flat t.texts (fun x hx => by have := g3 x hx; omega)
          have g5 := (venc_bound t.texts.length (by omega)).2
          simp only [lenc, List.length_append]; omega
        · have g4 := ienc_flat t.nums
          have g5 := (venc_bound t.nums.length (by omega)).2
          simp only [msenc, List.length_append]; omega
theorem flat_few : ∀ (ts : List CV), (∀ t ∈ ts, (encCV t).length ≤ 40000) → ((ts.map encCV).flatten).length ≤ ts.length * 40000
  | [], _ => by simp
  | t :: r, h => by
    have h1 := h t (by simp)
    have h2 := flat_few r (fun x hx => h x (List.mem_cons_of_mem _ hx))
    simp only [List.map_cons, List.flatten_cons, List.length_append, List.length_cons, Nat.add_mul, Nat.one_mul]
    omega
theorem encAll_few (ts : List CV) (h : validB ts = true) (hn : ∀ t ∈ ts, t.n ≤ 9223372036854775807) : (encAll ts ts.length).length ≤ 900000000 := by
  unfold validB at h
  simp only [Bool.and_eq_true, List.all_eq_true, decide_eq_true_eq] at h
  have h1 := flat_few ts (fun t ht => enc_few t (h.1 t ht) (hn t ht))
  unfold encAll
  rw [List.take_length]
  have h2 : ts.length * 40000 ≤ 20 * 40000 := Nat.mul_le_mul_right _ h.2
  omega
end Go.Proofs.Ytmlcnmpfjallkaa
