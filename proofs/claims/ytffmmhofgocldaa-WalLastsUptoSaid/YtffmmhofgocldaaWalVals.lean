/- WalVals: Bulk, Structs, Agg, XWalVals0.txt, in one text. -/
import Derived.Test.YtffmmhofgocldaaRows
import Derived.Test.YtffmmhofgocldaaFrame
import Derived.Test.YtffmmhofgocldaaLaid
import Derived.Deep.Slices
import Derived.Deep.Fields
import Derived.Lib.SmallJoins
import Derived.Test.YtffmmhofgocldaaWalLL
set_option linter.unusedVariables false
namespace Go.Proofs.Ytffmmhofgocldaa.bulks
theorem one_le {H : Type} (d : DataW H) : 1 ≤ Rows.uptoBulk d := by
  cases d with
  | lit l => cases l <;> simp [Rows.uptoBulk]
  | nil => simp [Rows.uptoBulk]
  | ptr d => simp [Rows.uptoBulk]
  | slice elems spare => simp [Rows.uptoBulk]
  | agg parts => simp [Rows.uptoBulk]
  | iface t d => simp [Rows.uptoBulk]
  | map entries => simp [Rows.uptoBulk]
  | held h => simp [Rows.uptoBulk]
theorem part_le {H : Type} {d : DataW H} {l : List (DataW H)} (h : d ∈ l) : Rows.uptoBulk d ≤ Rows.uptoBulkAll l := by
  induction l with
  | nil => cases h
  | cons x r ih =>
    simp only [Rows.uptoBulkAll]
    cases List.mem_cons.1 h with
    | inl e => subst e; omega
    | inr e => have := ih e; omega
theorem length_le {H : Type} (l : List (DataW H)) : l.length ≤ Rows.uptoBulkAll l := by
  induction l with
  | nil => simp [Rows.uptoBulkAll]
  | cons x r ih => have := one_le x; simp only [Rows.uptoBulkAll, List.length_cons]; omega
theorem bound {H : Type} {l : List (DataW H)} (hk : Rows.uptoSmall H l = true) : Rows.uptoBulkAll l ≤ 1048576 := of_decide_eq_true hk
theorem strs_le {H : Type} {d : DataW H} {ss : List (List UInt8)} (h : (d = .nil ∧ ss = []) ∨ ∃ sp, d = .slice (ss.map fun s => .lit (.string s)) sp) : ss.length ≤ Rows.uptoBulk d ∧ ∀ s ∈ ss, s.length ≤ Rows.uptoBulk d := by
  rcases h with ⟨rfl, rfl⟩ | ⟨sp, rfl⟩
  · simp
  · simp only [Rows.uptoBulk]
    have h1 := length_le (H := H) (ss.map fun s => DataW.lit (.string s))
    rw [List.length_map] at h1
    refine ⟨by omega, fun s hs => ?_⟩
    have h2 := part_le (H := H) (List.mem_map.2 ⟨s, hs, rfl⟩ : DataW.lit (.string s) ∈ ss.map fun s => DataW.lit (.string s))
    simp only [Rows.uptoBulk] at h2
    omega
theorem ints_le {H : Type} {d : DataW H} {k : IntKind} {zs : List Int} (h : (d = .nil ∧ zs = []) ∨ ∃ sp, d = .slice (zs.map fun z => .lit (.int k z)) sp) : zs.length ≤ Rows.uptoBulk d := by
  rcases h with ⟨rfl, rfl⟩ | ⟨sp, rfl⟩
  · simp
  · simp only [Rows.uptoBulk]
    have h1 := length_le (H := H) (zs.map fun z => DataW.lit (.int k z))
    rw [List.length_map] at h1
    omega
end Go.Proofs.Ytffmmhofgocldaa.bulks
namespace Go.Proofs.Ytffmmhofgocldaa
open Go.ChangeShapes Go.WideShapes Go.ChangeAt Go.RowKit Go.WideMaps Go.WideElems Go.Deep
/-- the struct D at block g, from offset o on: each field's cell and its reading -/
def FieldsAt {H : Type} (enc : TypeId × Value → H) (P : Program) (W : World) (fs : Array Field) (g o : Nat) (D : DataW H) : Prop :=
  ∃ ys : List (DataW H × List MemPlace), ys.length = fs.size ∧ D = .agg (ys.map (·.1)) ∧ ∀ j f, fs[j]? = some f → ∃ u y n, W.cell? ⟨g, o + j, none⟩ = some u ∧ ys[j]? = some y ∧ DataW.trod enc P W 0 (fun _ => true) true n f.type [u] = some y ∧ ∀ x ∈ y.2, x.block < W.heap.size
theorem read_structs {H : Type} {enc : TypeId × Value → H} {P : Program} {W : World} {t e : TypeId} {fs : Array Field} (ht : P.underlying t = some (.slice e)) (he : P.underlying e = some (.struct fs)) (hone : oneCellFields P fs = true) (hC : P.cellsOf e = fs.size) (h0 : 0 < fs.size) {v : Value} {d : DataW H} {p : List MemPlace}
    (hok : ∃ a len cap, v = .slice a len cap) (h : DataW.Trod enc P W 0 (fun _ => true) true t v d p) (hlt : ∀ x ∈ p, x.block < W.heap.size) :
    ∃ (a : Option Addr) (len cap g off : Nat) (D : Nat → DataW H), v = .slice a len cap ∧ len ≤ maxLen ∧ (0 < len → a = some ⟨g, off, none⟩ ∧ g < W.heap.size) ∧ ((d = .nil ∧ len = 0) ∨ ∃ sp, d = .slice ((List.range len).map D) sp) ∧
      ∀ i, i < len → FieldsAt enc P W fs g (off + i * fs.size) (D i) := by
  obtain ⟨a0, len0, cap0, rfl⟩ := hok
  obtain ⟨fuel, hf⟩ := h
  rcases open_slice ht hf with ⟨hcs, hx⟩ | ⟨a, len, cap, m, n, D, Pl, hcs, hb, hl, hm, hmm, hx, hi⟩
  · simp [Value.cells] at hcs
    obtain ⟨rfl, rfl, rfl⟩ := hcs
    simp only [Prod.mk.injEq] at hx
    exact ⟨none, 0, 0, 0, 0, fun _ => .nil, rfl, Nat.zero_le _, fun h => absurd h (by omega), Or.inl ⟨hx.1, rfl⟩, fun i hi => absurd hi (by omega)⟩
  · simp [Value.cells] at hcs
    obtain ⟨rfl, rfl, rfl⟩ := hcs
    simp only [if_true] at hmm
    subst hmm
    rw [hC] at hx
    simp only [Prod.mk.injEq] at hx
    obtain ⟨rfl, rfl⟩ := hx
    have hspot : 0 < len0 → a.spot = none ∧ a.block < W.heap.size := fun hpos => by
      obtain ⟨cs', hc, _⟩ := hi 0 (by omega)
      rw [hC] at hc
      obtain ⟨_, hcl, hat⟩ := World.cells?_some hc
      have hs := World.cell?_spot ((hat 0 h0).trans (List.getElem?_eq_getElem (by omega)))
      refine ⟨by simpa [Addr.add] using hs, ?_⟩
      refine hlt (.cell a.block (a.off + 0)) (List.mem_append_left _ (MemPlace.mem_row.2 ⟨0, ?_, by simp⟩))
      exact Nat.mul_pos (by omega) h0
    refine ⟨some a, _, _, a.block, a.off, D, rfl, Nat.le_trans hl hm, fun hpos => ?_, Or.inr ⟨_, rfl⟩, fun i hil => ?_⟩
    · obtain ⟨h1, h2⟩ := hspot hpos
      refine ⟨?_, h2⟩
      obtain ⟨b, o, s⟩ := a
      simp only at h1
      subst h1
      rfl
    · obtain ⟨h1, _⟩ := hspot (by omega)
      obtain ⟨cs', hc, ht'⟩ := hi i (by omega)
      rw [hC] at hc
      obtain ⟨ys, n', _, hy, hlen, hyl, hfd⟩ := DataW.trod_struct he ht'
      obtain ⟨_, hcl, hat⟩ := World.cells?_some hc
      simp only [Prod.mk.injEq] at hy
      refine ⟨ys, hyl, hy.1, fun j f hj => ?_⟩
      obtain ⟨ho, hk⟩ := hone_of hone j f hj
      have hjl : j < fs.size := (Array.getElem?_eq_some_iff.1 hj).1
      have hcell := hat j hjl
      have hjc : j < cs'.length := by omega
      have hv : cs'[j]? = some cs'[j] := List.getElem?_eq_getElem hjc
      have hjy : j < ys.length := by omega
      have hys : ys[j]? = some ys[j] := List.getElem?_eq_getElem hjy
      have h9 := hfd j f hj
      rw [ho, hk] at h9
      have hd : (cs'.drop j).take 1 = [cs'[j]] := by rw [List.drop_eq_getElem_cons hjc]; rfl
      rw [hd] at h9
      refine ⟨cs'[j], ys[j], n', ?_, hys, h9.trans hys, fun x hx => ?_⟩
      · have hcell2 := hcell.trans hv
        rw [Go.Deep.add_add, plain_add h1] at hcell2
        rw [Nat.add_assoc]
        exact hcell2
      · refine hlt x (List.mem_append_right _ (List.mem_flatMap.2 ⟨i, List.mem_range.2 (by omega), ?_⟩))
        rw [hy.2]
        exact List.mem_flatMap.2 ⟨ys[j], List.getElem_mem hjy, hx⟩

/-- a one-cell reading of a slice of strings -/
theorem read_strs1 {H : Type} {enc : TypeId × Value → H} {P : Program} {W : World} {t e : TypeId} (ht : P.underlying t = some (.slice e)) (he : P.underlying e = some .string) (hc : P.cellsOf e = 1) {v : Value} {y : DataW H × List MemPlace} {n : Nat}
    (h : DataW.trod enc P W 0 (fun _ => true) true n t [v] = some y) (hlt : ∀ x ∈ y.2, x.block < W.heap.size) :
    ∃ ss : List (List UInt8), Row W.heap.size W 1 v ss.length (ss.map fun s => Value.string ⟨s.toArray⟩) ∧ ((y.1 = .nil ∧ ss = []) ∨ ∃ sp, y.1 = .slice (ss.map fun s => .lit (.string s)) sp) := by
  have hv : ∃ a len cap, v = .slice a len cap := by
    rcases open_strings ht he hc h with ⟨hcs, _⟩ | ⟨a, len', cap', ss, hcs, _⟩
    · simp at hcs; exact ⟨_, _, _, hcs⟩
    · simp at hcs; exact ⟨_, _, _, hcs⟩
  obtain ⟨a, len, cap, rfl⟩ := hv
  obtain ⟨ss, h1, _, _, h4⟩ := read_strs (W := W) (d := y.1) (p := y.2) (base := 0) (o := 0) ht he hc ⟨_, _, _, rfl⟩ ⟨n, h⟩ hlt
  exact ⟨ss, h1, h4⟩
/-- a one-cell reading of a slice of integers -/
theorem read_ints1 {H : Type} {enc : TypeId × Value → H} {P : Program} {W : World} {t e : TypeId} {k : IntKind} (ht : P.underlying t = some (.slice e)) (he : P.underlying e = some (.int k)) (hc : P.cellsOf e = 1) {v : Value} {y : DataW H × List MemPlace} {n : Nat}
    (h : DataW.trod enc P W 0 (fun _ => true) true n t [v] = some y) (hlt : ∀ x ∈ y.2, x.block < W.heap.size) :
    ∃ zs : List Int, Row W.heap.size W 1 v zs.length (zs.map (Value.int k)) ∧ (∀ z ∈ zs, (Lit.int k z).wf = true) ∧ ((y.1 = .nil ∧ zs = []) ∨ ∃ sp, y.1 = .slice (zs.map fun z => .lit (.int k z)) sp) := by
  have hv : ∃ a len cap, v = .slice a len cap := by
    rcases open_ints ht he hc h with ⟨hcs, _⟩ | ⟨a, len', cap', ss, hcs, _⟩
    · simp at hcs; exact ⟨_, _, _, hcs⟩
    · simp at hcs; exact ⟨_, _, _, hcs⟩
  obtain ⟨a, len, cap, rfl⟩ := hv
  obtain ⟨zs, h1, h2, _, h4⟩ := read_ints (W := W) (d := y.1) (p := y.2) ht he hc ⟨_, _, _, rfl⟩ ⟨n, h⟩ hlt
  exact ⟨zs, h1, h2, h4⟩
theorem read_int1 {H : Type} {enc : TypeId × Value → H} {P : Program} {W : World} {t : TypeId} {k : IntKind} (ht : P.underlying t = some (.int k)) {v : Value} {y : DataW H × List MemPlace} {n : Nat} (h : DataW.trod enc P W 0 (fun _ => true) true n t [v] = some y) :
    ∃ z, v = .int k z ∧ (Lit.int k z).wf = true := by
  obtain ⟨z, e1, _, e3⟩ := DataW.trod_int ht h
  exact ⟨z, by simpa using e1, e3⟩
theorem read_str1 {H : Type} {enc : TypeId × Value → H} {P : Program} {W : World} {t : TypeId} (ht : P.underlying t = some .string) {v : Value} {y : DataW H × List MemPlace} {n : Nat} (h : DataW.trod enc P W 0 (fun _ => true) true n t [v] = some y) :
    ∃ s : List UInt8, v = .string ⟨s.toArray⟩ ∧ y.1 = .lit (.string s) := by
  obtain ⟨s, e1, e2, _⟩ := DataW.trod_string ht h
  exact ⟨s.data.toList, by simpa using e1, by rw [e2]⟩
/-- a list out of what is known at each index -/
theorem list_choose {α : Type} {Q : Nat → α → Prop} : ∀ (n : Nat), (∀ i, i < n → ∃ x, Q i x) → ∃ l : List α, l.length = n ∧ ∀ i x, l[i]? = some x → Q i x
  | 0, _ => ⟨[], rfl, fun i x h => by simp at h⟩
  | n + 1, h => by
    obtain ⟨l, hl, hq⟩ := list_choose n (fun i hi => h i (by omega))
    obtain ⟨x, hx⟩ := h n (by omega)
    refine ⟨l ++ [x], by simp [hl], fun i y hy => ?_⟩
    by_cases hi : i < n
    · rw [List.getElem?_append_left (by omega)] at hy
      exact hq i y hy
    · rw [List.getElem?_append_right (by omega)] at hy
      have : i = n := by
        have := (List.getElem?_eq_some_iff.1 hy).1
        simp at this; omega
      subst this
      rw [hl] at hy
      simp at hy
      subst hy
      exact hx
/-- the bulk of a struct's field is at most that of the slice -/
theorem bulk_field {H : Type} {d : DataW H} {D : Nat → DataW H} {len : Nat} (hd : (d = .nil ∧ len = 0) ∨ ∃ sp, d = .slice ((List.range len).map D) sp) {i : Nat} (hi : i < len) {ys : List (DataW H × List MemPlace)} (hD : D i = .agg (ys.map (·.1))) {j : Nat} {y : DataW H × List MemPlace} (hy : ys[j]? = some y) : Rows.uptoBulk y.1 ≤ Rows.uptoBulk d := by
  rcases hd with ⟨_, h⟩ | ⟨sp, rfl⟩
  · omega
  · have h1 : Rows.uptoBulk (D i) ≤ Rows.uptoBulkAll ((List.range len).map D) := bulks.part_le (List.mem_map.2 ⟨i, List.mem_range.2 hi, rfl⟩)
    have h2 : Rows.uptoBulk y.1 ≤ Rows.uptoBulkAll (ys.map (·.1)) := bulks.part_le (List.mem_map.2 ⟨y, List.mem_of_getElem? hy, rfl⟩)
    rw [hD] at h1
    simp only [Rows.uptoBulk] at h1 ⊢
    omega
theorem bulk_len {H : Type} {d : DataW H} {D : Nat → DataW H} {len : Nat} (hd : (d = .nil ∧ len = 0) ∨ ∃ sp, d = .slice ((List.range len).map D) sp) : len ≤ Rows.uptoBulk d := by
  rcases hd with ⟨_, h⟩ | ⟨sp, rfl⟩
  · omega
  · have h1 := bulks.length_le ((List.range len).map D)
    rw [List.length_map, List.length_range] at h1
    simp only [Rows.uptoBulk]
    omega
end Go.Proofs.Ytffmmhofgocldaa
namespace Go.Proofs.Ytffmmhofgocldaa
open Go.Joins Go.ChangeShapes Go.WideShapes Go.ChangeAt Go.RowKit Go.WideMaps Go.WideElems Go.Deep
/-- a struct of one-cell fields given by value: each field's cell and its reading -/
theorem read_agg {H : Type} {enc : TypeId × Value → H} {P : Program} {W : World} {r : Reach} {b0 : Nat} {t : TypeId} {fs : Array Field} (hs : P.underlying t = some (.struct fs)) (hone : oneCellFields P fs = true) (hC : P.cellsOf t = fs.size) {v : Value} {d : DataW H} {p : List MemPlace}
    (hv : Value.okWide P W r b0 t v) (h : DataW.Trod enc P W 0 (fun _ => true) true t v d p) (hlt : ∀ x ∈ p, x.block < W.heap.size) :
    ∃ (cs : List Value) (ys : List (DataW H × List MemPlace)), v = .agg cs.toArray ∧ cs.length = fs.size ∧ ys.length = fs.size ∧ d = .agg (ys.map (·.1)) ∧
      ∀ (j : Nat) (f : Field), fs[j]? = some f → ∃ u y n, cs[j]? = some u ∧ ys[j]? = some y ∧ DataW.trod enc P W 0 (fun _ => true) true n f.type [u] = some y ∧ ∀ x ∈ y.2, x.block < W.heap.size := by
  obtain ⟨⟨cs⟩, rfl, hsz⟩ := okWide_struct hs hv
  replace hsz : cs.length = fs.size := hsz.trans hC
  obtain ⟨fuel, hf⟩ := h
  obtain ⟨ys, n, _, hx, _, hyl, hfd⟩ := DataW.trod_struct hs hf
  simp only [Prod.mk.injEq] at hx
  refine ⟨cs, ys, rfl, hsz, hyl, hx.1, fun j f hj => ?_⟩
  obtain ⟨ho, hk⟩ := hone_of hone j f hj
  have hjl : j < fs.size := (Array.getElem?_eq_some_iff.1 hj).1
  have hjc : j < cs.length := by omega
  have hjy : j < ys.length := by omega
  have hys : ys[j]? = some ys[j] := List.getElem?_eq_getElem hjy
  have h9 := hfd j f hj
  rw [ho, hk] at h9
  have hd : (cs.drop j).take 1 = [cs[j]] := by rw [List.drop_eq_getElem_cons hjc]; rfl
  simp only [Value.cells] at h9
  rw [hd] at h9
  refine ⟨cs[j], ys[j], n, List.getElem?_eq_getElem hjc, hys, h9.trans hys, fun x hx' => hlt x ?_⟩
  rw [hx.2]
  exact List.mem_flatMap.2 ⟨ys[j], List.getElem_mem hjy, hx'⟩
theorem strs_sum {H : Type} {d : DataW H} {ss : List (List UInt8)} (h : (d = .nil ∧ ss = []) ∨ ∃ sp, d = .slice (ss.map fun s => .lit (.string s)) sp) : (ss.map List.length).sum + ss.length ≤ Rows.uptoBulk d := by
  rcases h with ⟨rfl, rfl⟩ | ⟨sp, rfl⟩
  · simp
  · simp only [Rows.uptoBulk]
    have : (ss.map List.length).sum + ss.length ≤ Rows.uptoBulkAll (ss.map fun s => (DataW.lit (.string s) : DataW H)) := by
      induction ss with
      | nil => simp
      | cons x r ih => simp only [List.map_cons, List.sum_cons, List.length_cons, Rows.uptoBulkAll, Rows.uptoBulk]; omega
    omega
end Go.Proofs.Ytffmmhofgocldaa
namespace Go.Proofs.Ytffmmhofgocldaa
open Go.ChangeShapes Go.WideShapes Go.ChangeAt Go.RowKit Go.WideMaps Go.WideElems
theorem act_of {H : Type} {enc : TypeId × Value → H} {W : World} {fs : Array Field} (he : Try.prog.underlying 50 = some (.struct fs)) {ys : List (DataW H × List MemPlace)} {cell : Nat → Value → Prop} (hl : ys.length = fs.size)
    (hf : ∀ (j : Nat) (f : Field), fs[j]? = some f → ∃ u y n, cell j u ∧ ys[j]? = some y ∧ DataW.trod enc Try.prog W 0 (fun _ => true) true n f.type [u] = some y ∧ ∀ x ∈ y.2, x.block < W.heap.size) :
    ∃ (a : AW) (vl vk : Value), cell 0 (iv a.op) ∧ cell 1 (sv a.s) ∧ cell 2 vl ∧ cell 3 (iv a.n) ∧ cell 4 vk ∧ Row W.heap.size W 1 vl a.l.length (a.l.map sv) ∧ Row W.heap.size W 1 vk a.keep.length (a.keep.map iv) ∧ (a.n ≤ 9223372036854775807 ∧ ∀ y ∈ a.keep, y ≤ 9223372036854775807) ∧ cntW a ≤ Rows.uptoBulkAll (ys.map (·.1)) := by
  obtain rfl : fs = _ := by have := Try.underlying50.symm.trans he; simpa using this.symm
  obtain ⟨u0, y0, n0, c0, e0, t0, p0⟩ := hf 0 _ rfl
  obtain ⟨u1, y1, n1, c1, e1, t1, p1⟩ := hf 1 _ rfl
  obtain ⟨u2, y2, n2, c2, e2, t2, p2⟩ := hf 2 _ rfl
  obtain ⟨u3, y3, n3, c3, e3, t3, p3⟩ := hf 3 _ rfl
  obtain ⟨u4, y4, n4, c4, e4, t4, p4⟩ := hf 4 _ rfl
  obtain ⟨z0, rfl, h0⟩ := read_int1 Try.underlying3 t0
  obtain ⟨s, rfl, hs⟩ := read_str1 Try.underlying9 t1
  obtain ⟨ls, hls, hlb⟩ := read_strs1 Try.underlying22 Try.underlying9 (by kernel_rfl) t2 p2
  obtain ⟨z3, rfl, h3⟩ := read_int1 Try.underlying3 t3
  obtain ⟨zs, hzs, hzw, hzb⟩ := read_ints1 Try.underlying47 Try.underlying3 (by kernel_rfl) t4 p4
  have q2 := strs_sum hlb
  have hys : ys = [y0, y1, y2, y3, y4] := by
    match ys, hl with
    | [x0, x1, x2, x3, x4], _ => simp at e0 e1 e2 e3 e4; simp [e0, e1, e2, e3, e4]
  have hsum : cntW ⟨z0, s, ls, z3, zs⟩ ≤ Rows.uptoBulkAll (ys.map (·.1)) := by
    rw [hys]
    simp only [List.map_cons, List.map_nil, Rows.uptoBulkAll]
    rw [hs]
    simp only [Rows.uptoBulk]
    have h1 : sumL (ls.take 4000) ≤ sumL ls := by
      have := sumL_app (ls.take 4000) (ls.drop 4000)
      rw [List.take_append_drop] at this; omega
    have h2 : sumL ls = (ls.map List.length).sum := rfl
    show s.length + ls.length + sumL (ls.take 4000) ≤ _
    omega
  exact ⟨⟨z0, s, ls, z3, zs⟩, u2, u4, c0, c1, c2, c3, c4, hls, hzs, ⟨(wf64 h3).2, fun y hy => (wf64 (hzw y hy)).2⟩, hsum⟩
theorem sumC_le {H : Type} (l : List AW) (D : Nat → DataW H) (h : ∀ i x, l[i]? = some x → cntW x ≤ Rows.uptoBulk (D i)) (k : Nat) : sumC l k ≤ Rows.uptoBulkAll ((List.range l.length).map D) := by
  have h1 : sumC l k ≤ (l.map cntW).sum := by
    unfold sumC
    conv => rhs; rw [← List.take_append_drop k l]
    rw [List.map_append, List.sum_append]; omega
  refine Nat.le_trans h1 ?_
  clear h1
  induction l generalizing D with
  | nil => simp
  | cons x r ih =>
    have h2 := h 0 x rfl
    have h3 := ih (fun i => D (i + 1)) (fun i y hy => h (i + 1) y (by simpa using hy))
    rw [List.length_cons, List.range_succ_eq_map]
    simp only [List.map_cons, List.sum_cons, List.map_map, Rows.uptoBulkAll]
    have e : (D ∘ Nat.succ) = fun i => D (i + 1) := rfl
    rw [e]; omega
theorem read_acts {H : Type} {enc : TypeId × Value → H} {W : World} {v : Value} {d : DataW H} {p : List MemPlace} (hok : ∃ a len cap, v = .slice a len cap) (h : DataW.Trod enc Try.prog W 0 (fun _ => true) true 46 v d p) (hlt : ∀ x ∈ p, x.block < W.heap.size) (hb : Rows.uptoBulk d ≤ 1048576) :
    ∃ l : List AW, ARowW W.heap.size W v l ∧ (∀ (k : Nat) (x : AW), l[k]? = some x → x.n ≤ 9223372036854775807 ∧ ∀ y ∈ x.keep, y ≤ 9223372036854775807) ∧ l.length ≤ 1048576 ∧ ∀ k, sumC l k ≤ 1048576 := by
  obtain ⟨a, len, cap, g, off, D, rfl, _, h1, h2, h3⟩ := read_structs Try.underlying46 Try.underlying50 (by kernel_rfl) (by kernel_rfl) (by decide) hok h hlt
  obtain ⟨l, hl, hq⟩ := list_choose (Q := fun i (x : AW) => (∃ vl vk, W.cell? ⟨g, off + i * 5, none⟩ = some (iv x.op) ∧ W.cell? ⟨g, off + i * 5 + 1, none⟩ = some (sv x.s) ∧ W.cell? ⟨g, off + i * 5 + 2, none⟩ = some vl ∧
      W.cell? ⟨g, off + i * 5 + 3, none⟩ = some (iv x.n) ∧ W.cell? ⟨g, off + i * 5 + 4, none⟩ = some vk ∧ Row W.heap.size W 1 vl x.l.length (x.l.map sv) ∧ Row W.heap.size W 1 vk x.keep.length (x.keep.map iv)) ∧ (x.n ≤ 9223372036854775807 ∧ ∀ y ∈ x.keep, y ≤ 9223372036854775807) ∧ cntW x ≤ Rows.uptoBulk (D i)) len (fun i hi => by
    obtain ⟨ys, hyl, hD, hf⟩ := h3 i hi
    obtain ⟨x, vl, vk, c0, c1, c2, c3, c4, hr, hr2, ho, hs⟩ := act_of Try.underlying50 (cell := fun j u => W.cell? ⟨g, off + i * 5 + j, none⟩ = some u) hyl hf
    refine ⟨x, ⟨vl, vk, c0, c1, c2, c3, c4, hr, hr2⟩, ho, ?_⟩
    rw [hD]; simp only [Rows.uptoBulk]; omega)
  refine ⟨l, ⟨a, cap, g, off, by rw [hl], fun h0 => h1 (by omega), fun k x hk => (hq k x hk).1⟩, fun k x hx => (hq k x hx).2.1, by have := bulk_len h2; omega, fun k => ?_⟩
  have h4 := sumC_le l D (fun i x hi => (hq i x hi).2.2) k
  rw [hl] at h4
  rcases h2 with ⟨_, h⟩ | ⟨sp, rfl⟩
  · subst h; simp at h4; simp [Rows.uptoBulkAll] at h4; omega
  · simp only [Rows.uptoBulk] at hb; omega
end Go.Proofs.Ytffmmhofgocldaa
