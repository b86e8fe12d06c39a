/- MatVV: Bulk, Structs, Agg, MatVals, in one text. -/
import Derived.Test.YtnbhpicmflagcaaDoorRows
import Derived.Test.YtnbhpicmflagcaaDoorFrame
import Derived.Test.YtnbhpicmflagcaaDoorLaid
import Derived.Deep.Slices
import Derived.Deep.Fields
import Derived.Lib.SmallJoins
import Derived.Test.YtnbhpicmflagcaaDoorMatA
set_option linter.unusedVariables false
namespace Go.Proofs.YtnbhpicmflagcaaDoor.bulks
theorem one_le {H : Type} (d : DataW H) : 1 ≤ Rows.uptoBulk d := by
  cases d with
  | lit l => cases l <;> simp [Rows.uptoBulk]
  | nil => simp [Rows.uptoBulk]
  | ptr d => simp [Rows.uptoBulk]
  | slice elems spare => simp [Rows.uptoBulk]
  | agg parts => simp [Rows.uptoBulk]
  | iface t d => simp [Rows.uptoBulk]
  | map entries => simp [Rows.uptoBulk]
  | held h => simp [Rows.uptoBulk]
theorem part_le {H : Type} {d : DataW H} {l : List (DataW H)} (h : d ∈ l) : Rows.uptoBulk d ≤ Rows.uptoBulkAll l := by
  induction l with
  | nil => cases h
  | cons x r ih =>
    simp only [Rows.uptoBulkAll]
    cases List.mem_cons.1 h with
    | inl e => subst e; omega
    | inr e => have := ih e; omega
theorem length_le {H : Type} (l : List (DataW H)) : l.length ≤ Rows.uptoBulkAll l := by
  induction l with
  | nil => simp [Rows.uptoBulkAll]
  | cons x r ih => have := one_le x; simp only [Rows.uptoBulkAll, List.length_cons]; omega
theorem bound {H : Type} {l : List (DataW H)} (hk : Rows.uptoSmall H l = true) : Rows.uptoBulkAll l ≤ 1048576 := of_decide_eq_true hk
theorem strs_le {H : Type} {d : DataW H} {ss : List (List UInt8)} (h : (d = .nil ∧ ss = []) ∨ ∃ sp, d = .slice (ss.map fun s => .lit (.string s)) sp) : ss.length ≤ Rows.uptoBulk d ∧ ∀ s ∈ ss, s.length ≤ Rows.uptoBulk d := by
  rcases h with ⟨rfl, rfl⟩ | ⟨sp, rfl⟩
  · simp
  · simp only [Rows.uptoBulk]
    have h1 := length_le (H := H) (ss.map fun s => DataW.lit (.string s))
    rw [List.length_map] at h1
    refine ⟨by omega, fun s hs => ?_⟩
    have h2 := part_le (H := H) (List.mem_map.2 ⟨s, hs, rfl⟩ : DataW.lit (.string s) ∈ ss.map fun s => DataW.lit (.string s))
    simp only [Rows.uptoBulk] at h2
    omega
theorem ints_le {H : Type} {d : DataW H} {k : IntKind} {zs : List Int} (h : (d = .nil ∧ zs = []) ∨ ∃ sp, d = .slice (zs.map fun z => .lit (.int k z)) sp) : zs.length ≤ Rows.uptoBulk d := by
  rcases h with ⟨rfl, rfl⟩ | ⟨sp, rfl⟩
  · simp
  · simp only [Rows.uptoBulk]
    have h1 := length_le (H := H) (zs.map fun z => DataW.lit (.int k z))
    rw [List.length_map] at h1
    omega
end Go.Proofs.YtnbhpicmflagcaaDoor.bulks
namespace Go.Proofs.YtnbhpicmflagcaaDoor
open Go.ChangeShapes Go.WideShapes Go.ChangeAt Go.RowKit Go.WideMaps Go.WideElems Go.Deep
/-- the struct D at block g, from offset o on: each field's cell and its reading -/
def FieldsAt {H : Type} (enc : TypeId × Value → H) (P : Program) (W : World) (fs : Array Field) (g o : Nat) (D : DataW H) : Prop :=
  ∃ ys : List (DataW H × List MemPlace), ys.length = fs.size ∧ D = .agg (ys.map (·.1)) ∧ ∀ j f, fs[j]? = some f → ∃ u y n, W.cell? ⟨g, o + j, none⟩ = some u ∧ ys[j]? = some y ∧ DataW.trod enc P W 0 (fun _ => true) true n f.type [u] = some y ∧ ∀ x ∈ y.2, x.block < W.heap.size
theorem read_structs {H : Type} {enc : TypeId × Value → H} {P : Program} {W : World} {t e : TypeId} {fs : Array Field} (ht : P.underlying t = some (.slice e)) (he : P.underlying e = some (.struct fs)) (hone : oneCellFields P fs = true) (hC : P.cellsOf e = fs.size) (h0 : 0 < fs.size) {v : Value} {d : DataW H} {p : List MemPlace}
    (hok : ∃ a len cap, v = .slice a len cap) (h : DataW.Trod enc P W 0 (fun _ => true) true t v d p) (hlt : ∀ x ∈ p, x.block < W.heap.size) :
    ∃ (a : Option Addr) (len cap g off : Nat) (D : Nat → DataW H), v = .slice a len cap ∧ len ≤ maxLen ∧ (0 < len → a = some ⟨g, off, none⟩ ∧ g < W.heap.size) ∧ ((d = .nil ∧ len = 0) ∨ ∃ sp, d = .slice ((List.range len).map D) sp) ∧
      ∀ i, i < len → FieldsAt enc P W fs g (off + i * fs.size) (D i) := by
  obtain ⟨a0, len0, cap0, rfl⟩ := hok
  obtain ⟨fuel, hf⟩ := h
  rcases open_slice ht hf with ⟨hcs, hx⟩ | ⟨a, len, cap, m, n, D, Pl, hcs, hb, hl, hm, hmm, hx, hi⟩
  · simp [Value.cells] at hcs
    obtain ⟨rfl, rfl, rfl⟩ := hcs
    simp only [Prod.mk.injEq] at hx
    exact ⟨none, 0, 0, 0, 0, fun _ => .nil, rfl, Nat.zero_le _, fun h => absurd h (by omega), Or.inl ⟨hx.1, rfl⟩, fun i hi => absurd hi (by omega)⟩
  · simp [Value.cells] at hcs
    obtain ⟨rfl, rfl, rfl⟩ := hcs
    simp only [if_true] at hmm
    subst hmm
    rw [hC] at hx
    simp only [Prod.mk.injEq] at hx
    obtain ⟨rfl, rfl⟩ := hx
    have hspot : 0 < len0 → a.spot = none ∧ a.block < W.heap.size := fun hpos => by
      obtain ⟨cs', hc, _⟩ := hi 0 (by omega)
      rw [hC] at hc
      obtain ⟨_, hcl, hat⟩ := World.cells?_some hc
      have hs := World.cell?_spot ((hat 0 h0).trans (List.getElem?_eq_getElem (by omega)))
      refine ⟨by simpa [Addr.add] using hs, ?_⟩
      refine hlt (.cell a.block (a.off + 0)) (List.mem_append_left _ (MemPlace.mem_row.2 ⟨0, ?_, by simp⟩))
      exact Nat.mul_pos (by omega) h0
    refine ⟨some a, _, _, a.block, a.off, D, rfl, Nat.le_trans hl hm, fun hpos => ?_, Or.inr ⟨_, rfl⟩, fun i hil => ?_⟩
    · obtain ⟨h1, h2⟩ := hspot hpos
      refine ⟨?_, h2⟩
      obtain ⟨b, o, s⟩ := a
      simp only at h1
      subst h1
      rfl
    · obtain ⟨h1, _⟩ := hspot (by omega)
      obtain ⟨cs', hc, ht'⟩ := hi i (by omega)
      rw [hC] at hc
      obtain ⟨ys, n', _, hy, hlen, hyl, hfd⟩ := DataW.trod_struct he ht'
      obtain ⟨_, hcl, hat⟩ := World.cells?_some hc
      simp only [Prod.mk.injEq] at hy
      refine ⟨ys, hyl, hy.1, fun j f hj => ?_⟩
      obtain ⟨ho, hk⟩ := hone_of hone j f hj
      have hjl : j < fs.size := (Array.getElem?_eq_some_iff.1 hj).1
      have hcell := hat j hjl
      have hjc : j < cs'.length := by omega
      have hv : cs'[j]? = some cs'[j] := List.getElem?_eq_getElem hjc
      have hjy : j < ys.length := by omega
      have hys : ys[j]? = some ys[j] := List.getElem?_eq_getElem hjy
      have h9 := hfd j f hj
      rw [ho, hk] at h9
      have hd : (cs'.drop j).take 1 = [cs'[j]] := by rw [List.drop_eq_getElem_cons hjc]; rfl
      rw [hd] at h9
      refine ⟨cs'[j], ys[j], n', ?_, hys, h9.trans hys, fun x hx => ?_⟩
      · have hcell2 := hcell.trans hv
        rw [Go.Deep.add_add, plain_add h1] at hcell2
        rw [Nat.add_assoc]
        exact hcell2
      · refine hlt x (List.mem_append_right _ (List.mem_flatMap.2 ⟨i, List.mem_range.2 (by omega), ?_⟩))
        rw [hy.2]
        exact List.mem_flatMap.2 ⟨ys[j], List.getElem_mem hjy, hx⟩

/-- a one-cell reading of a slice of strings -/
theorem read_strs1 {H : Type} {enc : TypeId × Value → H} {P : Program} {W : World} {t e : TypeId} (ht : P.underlying t = some (.slice e)) (he : P.underlying e = some .string) (hc : P.cellsOf e = 1) {v : Value} {y : DataW H × List MemPlace} {n : Nat}
    (h : DataW.trod enc P W 0 (fun _ => true) true n t [v] = some y) (hlt : ∀ x ∈ y.2, x.block < W.heap.size) :
    ∃ ss : List (List UInt8), Row W.heap.size W 1 v ss.length (ss.map fun s => Value.string ⟨s.toArray⟩) ∧ ((y.1 = .nil ∧ ss = []) ∨ ∃ sp, y.1 = .slice (ss.map fun s => .lit (.string s)) sp) := by
  have hv : ∃ a len cap, v = .slice a len cap := by
    rcases open_strings ht he hc h with ⟨hcs, _⟩ | ⟨a, len', cap', ss, hcs, _⟩
    · simp at hcs; exact ⟨_, _, _, hcs⟩
    · simp at hcs; exact ⟨_, _, _, hcs⟩
  obtain ⟨a, len, cap, rfl⟩ := hv
  obtain ⟨ss, h1, _, _, h4⟩ := read_strs (W := W) (d := y.1) (p := y.2) (base := 0) (o := 0) ht he hc ⟨_, _, _, rfl⟩ ⟨n, h⟩ hlt
  exact ⟨ss, h1, h4⟩
/-- a one-cell reading of a slice of integers -/
theorem read_ints1 {H : Type} {enc : TypeId × Value → H} {P : Program} {W : World} {t e : TypeId} {k : IntKind} (ht : P.underlying t = some (.slice e)) (he : P.underlying e = some (.int k)) (hc : P.cellsOf e = 1) {v : Value} {y : DataW H × List MemPlace} {n : Nat}
    (h : DataW.trod enc P W 0 (fun _ => true) true n t [v] = some y) (hlt : ∀ x ∈ y.2, x.block < W.heap.size) :
    ∃ zs : List Int, Row W.heap.size W 1 v zs.length (zs.map (Value.int k)) ∧ (∀ z ∈ zs, (Lit.int k z).wf = true) ∧ ((y.1 = .nil ∧ zs = []) ∨ ∃ sp, y.1 = .slice (zs.map fun z => .lit (.int k z)) sp) := by
  have hv : ∃ a len cap, v = .slice a len cap := by
    rcases open_ints ht he hc h with ⟨hcs, _⟩ | ⟨a, len', cap', ss, hcs, _⟩
    · simp at hcs; exact ⟨_, _, _, hcs⟩
    · simp at hcs; exact ⟨_, _, _, hcs⟩
  obtain ⟨a, len, cap, rfl⟩ := hv
  obtain ⟨zs, h1, h2, _, h4⟩ := read_ints (W := W) (d := y.1) (p := y.2) ht he hc ⟨_, _, _, rfl⟩ ⟨n, h⟩ hlt
  exact ⟨zs, h1, h2, h4⟩
theorem read_int1 {H : Type} {enc : TypeId × Value → H} {P : Program} {W : World} {t : TypeId} {k : IntKind} (ht : P.underlying t = some (.int k)) {v : Value} {y : DataW H × List MemPlace} {n : Nat} (h : DataW.trod enc P W 0 (fun _ => true) true n t [v] = some y) :
    ∃ z, v = .int k z ∧ (Lit.int k z).wf = true := by
  obtain ⟨z, e1, _, e3⟩ := DataW.trod_int ht h
  exact ⟨z, by simpa using e1, e3⟩
theorem read_str1 {H : Type} {enc : TypeId × Value → H} {P : Program} {W : World} {t : TypeId} (ht : P.underlying t = some .string) {v : Value} {y : DataW H × List MemPlace} {n : Nat} (h : DataW.trod enc P W 0 (fun _ => true) true n t [v] = some y) :
    ∃ s : List UInt8, v = .string ⟨s.toArray⟩ ∧ y.1 = .lit (.string s) := by
  obtain ⟨s, e1, e2, _⟩ := DataW.trod_string ht h
  exact ⟨s.data.toList, by simpa using e1, by rw [e2]⟩
/-- a list out of what is known at each index -/
theorem list_choose {α : Type} {Q : Nat → α → Prop} : ∀ (n : Nat), (∀ i, i < n → ∃ x, Q i x) → ∃ l : List α, l.length = n ∧ ∀ i x, l[i]? = some x → Q i x
  | 0, _ => ⟨[], rfl, fun i x h => by simp at h⟩
  | n + 1, h => by
    obtain ⟨l, hl, hq⟩ := list_choose n (fun i hi => h i (by omega))
    obtain ⟨x, hx⟩ := h n (by omega)
    refine ⟨l ++ [x], by simp [hl], fun i y hy => ?_⟩
    by_cases hi : i < n
    · rw [List.getElem?_append_left (by omega)] at hy
      exact hq i y hy
    · rw [List.getElem?_append_right (by omega)] at hy
      have : i = n := by
        have := (List.getElem?_eq_some_iff.1 hy).1
        simp at this; omega
      subst this
      rw [hl] at hy
      simp at hy
      subst hy
      exact hx
/-- the bulk of a struct's field is at most that of the slice -/
theorem bulk_field {H : Type} {d : DataW H} {D : Nat → DataW H} {len : Nat} (hd : (d = .nil ∧ len = 0) ∨ ∃ sp, d = .slice ((List.range len).map D) sp) {i : Nat} (hi : i < len) {ys : List (DataW H × List MemPlace)} (hD : D i = .agg (ys.map (·.1))) {j : Nat} {y : DataW H × List MemPlace} (hy : ys[j]? = some y) : Rows.uptoBulk y.1 ≤ Rows.uptoBulk d := by
  rcases hd with ⟨_, h⟩ | ⟨sp, rfl⟩
  · omega
  · have h1 : Rows.uptoBulk (D i) ≤ Rows.uptoBulkAll ((List.range len).map D) := bulks.part_le (List.mem_map.2 ⟨i, List.mem_range.2 hi, rfl⟩)
    have h2 : Rows.uptoBulk y.1 ≤ Rows.uptoBulkAll (ys.map (·.1)) := bulks.part_le (List.mem_map.2 ⟨y, List.mem_of_getElem? hy, rfl⟩)
    rw [hD] at h1
    simp only [Rows.uptoBulk] at h1 ⊢
    omega
theorem bulk_len {H : Type} {d : DataW H} {D : Nat → DataW H} {len : Nat} (hd : (d = .nil ∧ len = 0) ∨ ∃ sp, d = .slice ((List.range len).map D) sp) : len ≤ Rows.uptoBulk d := by
  rcases hd with ⟨_, h⟩ | ⟨sp, rfl⟩
  · omega
  · have h1 := bulks.length_le ((List.range len).map D)
    rw [List.length_map, List.length_range] at h1
    simp only [Rows.uptoBulk]
    omega
end Go.Proofs.YtnbhpicmflagcaaDoor
namespace Go.Proofs.YtnbhpicmflagcaaDoor
open Go.Joins Go.ChangeShapes Go.WideShapes Go.ChangeAt Go.RowKit Go.WideMaps Go.WideElems Go.Deep
/-- a struct of one-cell fields given by value: each field's cell and its reading -/
theorem read_agg {H : Type} {enc : TypeId × Value → H} {P : Program} {W : World} {r : Reach} {b0 : Nat} {t : TypeId} {fs : Array Field} (hs : P.underlying t = some (.struct fs)) (hone : oneCellFields P fs = true) (hC : P.cellsOf t = fs.size) {v : Value} {d : DataW H} {p : List MemPlace}
    (hv : Value.okWide P W r b0 t v) (h : DataW.Trod enc P W 0 (fun _ => true) true t v d p) (hlt : ∀ x ∈ p, x.block < W.heap.size) :
    ∃ (cs : List Value) (ys : List (DataW H × List MemPlace)), v = .agg cs.toArray ∧ cs.length = fs.size ∧ ys.length = fs.size ∧ d = .agg (ys.map (·.1)) ∧
      ∀ (j : Nat) (f : Field), fs[j]? = some f → ∃ u y n, cs[j]? = some u ∧ ys[j]? = some y ∧ DataW.trod enc P W 0 (fun _ => true) true n f.type [u] = some y ∧ ∀ x ∈ y.2, x.block < W.heap.size := by
  obtain ⟨⟨cs⟩, rfl, hsz⟩ := okWide_struct hs hv
  replace hsz : cs.length = fs.size := hsz.trans hC
  obtain ⟨fuel, hf⟩ := h
  obtain ⟨ys, n, _, hx, _, hyl, hfd⟩ := DataW.trod_struct hs hf
  simp only [Prod.mk.injEq] at hx
  refine ⟨cs, ys, rfl, hsz, hyl, hx.1, fun j f hj => ?_⟩
  obtain ⟨ho, hk⟩ := hone_of hone j f hj
  have hjl : j < fs.size := (Array.getElem?_eq_some_iff.1 hj).1
  have hjc : j < cs.length := by omega
  have hjy : j < ys.length := by omega
  have hys : ys[j]? = some ys[j] := List.getElem?_eq_getElem hjy
  have h9 := hfd j f hj
  rw [ho, hk] at h9
  have hd : (cs.drop j).take 1 = [cs[j]] := by rw [List.drop_eq_getElem_cons hjc]; rfl
  simp only [Value.cells] at h9
  rw [hd] at h9
  refine ⟨cs[j], ys[j], n, List.getElem?_eq_getElem hjc, hys, h9.trans hys, fun x hx' => hlt x ?_⟩
  rw [hx.2]
  exact List.mem_flatMap.2 ⟨ys[j], List.getElem_mem hjy, hx'⟩
theorem strs_sum {H : Type} {d : DataW H} {ss : List (List UInt8)} (h : (d = .nil ∧ ss = []) ∨ ∃ sp, d = .slice (ss.map fun s => .lit (.string s)) sp) : (ss.map List.length).sum + ss.length ≤ Rows.uptoBulk d := by
  rcases h with ⟨rfl, rfl⟩ | ⟨sp, rfl⟩
  · simp
  · simp only [Rows.uptoBulk]
    have : (ss.map List.length).sum + ss.length ≤ Rows.uptoBulkAll (ss.map fun s => (DataW.lit (.string s) : DataW H)) := by
      induction ss with
      | nil => simp
      | cons x r ih => simp only [List.map_cons, List.sum_cons, List.length_cons, Rows.uptoBulkAll, Rows.uptoBulk]; omega
    omega
end Go.Proofs.YtnbhpicmflagcaaDoor
namespace Go.Proofs.YtnbhpicmflagcaaDoor
open Go.Joins Go.ChangeShapes Go.WideShapes Go.ChangeAt Go.RowKit Go.WideMaps Go.WideElems Go.Deep
abbrev AllF : Foot := fun _ => True
/-- a slice whose elements can be read one by one -/
theorem read_row {H : Type} {enc : TypeId × Value → H} {P : Program} {W : World} {t e : TypeId} {sz : Nat} {α : Type} {R : Rel α} {Ok : α → Prop} {B : Nat} (ht : P.underlying t = some (.slice e)) (hC : P.cellsOf e = sz) (h0 : 0 < sz)
    (hel : ∀ n cs y, DataW.trod enc P W 0 (fun _ => true) true n e cs = some y → cs.length = sz → (∀ x ∈ y.2, x.block < W.heap.size) → Rows.uptoBulk y.1 < B → ∃ x : α, R AllF W x cs ∧ Ok x)
    {n : Nat} {v : Value} {y : DataW H × List MemPlace} (h : DataW.trod enc P W 0 (fun _ => true) true n t [v] = some y) (hlt : ∀ x ∈ y.2, x.block < W.heap.size) (hb : Rows.uptoBulk y.1 ≤ B) :
    ∃ l : List α, SlR sz R AllF W l v ∧ (∀ x ∈ l, Ok x) ∧ l.length ≤ B := by
  rcases open_slice ht h with ⟨hcs, hx⟩ | ⟨a, len, cap, m, n, D, Pl, hcs, _, hl, hm, hmm, hx, hi⟩
  · simp at hcs
    subst hcs
    exact ⟨[], SlR.nil _ _ _ _ _, by simp, by simp⟩
  · simp at hcs
    subst hcs
    simp only [if_true] at hmm
    subst hmm
    rw [hC] at hx hi
    subst hx
    have hspot : 0 < len → a.spot = none ∧ a.block < W.heap.size := fun hpos => by
      obtain ⟨cs', hc, _⟩ := hi 0 (by omega)
      obtain ⟨_, hcl, hat⟩ := World.cells?_some hc
      have hs := World.cell?_spot ((hat 0 h0).trans (List.getElem?_eq_getElem (by omega)))
      refine ⟨by simpa [Addr.add] using hs, ?_⟩
      refine hlt (.cell a.block (a.off + 0)) (List.mem_append_left _ (MemPlace.mem_row.2 ⟨0, ?_, by simp⟩))
      exact Nat.mul_pos (by omega) h0
    have hlen : len ≤ Rows.uptoBulk (DataW.slice ((List.range len).map D) ((List.range (m - len)).map fun j => D (len + j))) := bulk_len (Or.inr ⟨_, rfl⟩)
    obtain ⟨ps, hpl, hq⟩ := list_choose (Q := fun i (p : α × List Value) => (∀ j u, p.2[j]? = some u → W.cell? ⟨a.block, a.off + i * sz + j, none⟩ = some u) ∧ R AllF W p.1 p.2 ∧ Ok p.1) len (fun i hil => by
      obtain ⟨h1, _⟩ := hspot (by omega)
      obtain ⟨cs', hc, ht'⟩ := hi i (by omega)
      obtain ⟨_, hcl, hat⟩ := World.cells?_some hc
      have hbi : Rows.uptoBulk (D i) < B := by
        have h1 : Rows.uptoBulk (D i) ≤ Rows.uptoBulkAll ((List.range len).map D) := bulks.part_le (List.mem_map.2 ⟨i, List.mem_range.2 hil, rfl⟩)
        simp only [Rows.uptoBulk] at hb; omega
      obtain ⟨x, hx, ho⟩ := hel n cs' _ ht' hcl (fun x hx => hlt x (List.mem_append_right _ (List.mem_flatMap.2 ⟨i, List.mem_range.2 (by omega), hx⟩))) hbi
      refine ⟨(x, cs'), fun j u hu => ?_, hx, ho⟩
      have hj : j < sz := by have := (List.getElem?_eq_some_iff.1 hu).1; simp at this; omega
      have := (hat j hj).trans hu
      rw [Go.Deep.add_add, plain_add h1] at this
      rw [Nat.add_assoc]
      exact this)
    refine ⟨ps.map (·.1), ⟨some a, m, a.block, a.off, fun i => ((ps[i]?).map (·.2)).getD [], by simp [hpl], by simp [hpl]; exact hl, fun hp => ?_, fun i hil j u hu => ?_, fun i x hx => ?_⟩, fun x hx => ?_, by simp [hpl]; simp only [] at hb; omega⟩
    · obtain ⟨h1, h2⟩ := hspot (by simpa [hpl] using hp)
      refine ⟨?_, trivial, h2⟩
      obtain ⟨b, o, s⟩ := a
      simp only at h1
      subst h1
      rfl
    · have hil' : i < ps.length := by simpa using hil
      have e : ps[i]? = some ps[i] := List.getElem?_eq_getElem hil'
      simp only [e] at hu
      exact (hq i _ e).1 j u hu
    · rw [List.getElem?_map] at hx
      cases e : ps[i]? with
      | none => rw [e] at hx; simp at hx
      | some p =>
        rw [e] at hx
        simp at hx
        subst hx
        show R AllF W p.1 (((ps[i]?).map (·.2)).getD [])
        rw [e]
        exact (hq i p e).2.1
    · obtain ⟨p, hp, rfl⟩ := List.mem_map.1 hx
      obtain ⟨i, hi⟩ := List.mem_iff_getElem?.1 hp
      exact (hq i p hi).2.2
/-- a struct's fields -/
theorem read_fields {H : Type} {enc : TypeId × Value → H} {P : Program} {W : World} {e : TypeId} {fs : Array Field} (he : P.underlying e = some (.struct fs)) {n : Nat} {cs : List Value} {y : DataW H × List MemPlace}
    (h : DataW.trod enc P W 0 (fun _ => true) true n e cs = some y) (hlt : ∀ x ∈ y.2, x.block < W.heap.size) :
    cs.length = P.cellsOf e ∧ ∃ (ys : List (DataW H × List MemPlace)) (n' : Nat), y.1 = .agg (ys.map (·.1)) ∧ ys.length = fs.size ∧ ∀ (j : Nat) (f : Field), fs[j]? = some f → ∃ yj, ys[j]? = some yj ∧ DataW.trod enc P W 0 (fun _ => true) true n' f.type ((cs.drop f.offset).take (P.cellsOf f.type)) = some yj ∧ (∀ x ∈ yj.2, x.block < W.heap.size) ∧ Rows.uptoBulk yj.1 < Rows.uptoBulk y.1 := by
  obtain ⟨ys, n', _, rfl, hcl, hyl, hfd⟩ := DataW.trod_struct he h
  refine ⟨hcl, ys, n', rfl, hyl, fun j f hj => ?_⟩
  have hjl : j < fs.size := (Array.getElem?_eq_some_iff.1 hj).1
  have hjy : j < ys.length := by omega
  have hys : ys[j]? = some ys[j] := List.getElem?_eq_getElem hjy
  refine ⟨ys[j], hys, (hfd j f hj).trans hys, fun x hx => hlt x (List.mem_flatMap.2 ⟨ys[j], List.getElem_mem hjy, hx⟩), ?_⟩
  have := bulks.part_le (List.mem_map.2 ⟨ys[j], List.getElem_mem hjy, rfl⟩ : (ys[j]).1 ∈ ys.map (·.1))
  simp only [Rows.uptoBulk]
  omega
set_option maxRecDepth 100000 in
theorem read_val {H : Type} {enc : TypeId × Value → H} {W : World} (B : Nat) (hB : B ≤ 1048576) : ∀ n cs (y : DataW H × List MemPlace), DataW.trod enc Tryd.prog W 0 (fun _ => true) true n 44 cs = some y → (∀ x ∈ y.2, x.block < W.heap.size) → Rows.uptoBulk y.1 < B → ∃ x : Val, ValR AllF W x cs ∧ ValB x := by
  induction B with
  | zero => intro n cs y h hlt hb; omega
  | succ B ih =>
    intro n cs y h hlt hb
    obtain ⟨hcl, ys, n', hy, hyl, hf⟩ := read_fields Tryd.underlying44 h hlt
    replace hcl : cs.length = 6 := hcl.trans (by kernel_rfl)
    obtain ⟨y0, _, t0, p0, b0⟩ := hf 0 _ rfl
    obtain ⟨y1, _, t1, p1, b1⟩ := hf 1 _ rfl
    obtain ⟨y2, _, t2, p2, b2⟩ := hf 2 _ rfl
    obtain ⟨y3, _, t3, p3, b3⟩ := hf 3 _ rfl
    obtain ⟨y4, _, t4, p4, b4⟩ := hf 4 _ rfl
    obtain ⟨y5, _, t5, p5, b5⟩ := hf 5 _ rfl
    match cs, hcl with
    | [u0, u1, u2, u3, u4, u5], _ =>
    clear hf h hyl
    replace t0 : DataW.trod enc Tryd.prog W 0 (fun _ => true) true n' 3 [u0] = some y0 := by
      have h9 : DataW.trod enc Tryd.prog W 0 (fun _ => true) true n' 3 (([u0, u1, u2, u3, u4, u5].drop 0).take (Tryd.prog.cellsOf 3)) = some y0 := t0
      rw [show Tryd.prog.cellsOf 3 = 1 by kernel_rfl] at h9
      exact h9
    replace t1 : DataW.trod enc Tryd.prog W 0 (fun _ => true) true n' 9 [u1] = some y1 := by
      have h9 : DataW.trod enc Tryd.prog W 0 (fun _ => true) true n' 9 (([u0, u1, u2, u3, u4, u5].drop 1).take (Tryd.prog.cellsOf 9)) = some y1 := t1
      rw [show Tryd.prog.cellsOf 9 = 1 by kernel_rfl] at h9
      exact h9
    replace t2 : DataW.trod enc Tryd.prog W 0 (fun _ => true) true n' 3 [u2] = some y2 := by
      have h9 : DataW.trod enc Tryd.prog W 0 (fun _ => true) true n' 3 (([u0, u1, u2, u3, u4, u5].drop 2).take (Tryd.prog.cellsOf 3)) = some y2 := t2
      rw [show Tryd.prog.cellsOf 3 = 1 by kernel_rfl] at h9
      exact h9
    replace t3 : DataW.trod enc Tryd.prog W 0 (fun _ => true) true n' 3 [u3] = some y3 := by
      have h9 : DataW.trod enc Tryd.prog W 0 (fun _ => true) true n' 3 (([u0, u1, u2, u3, u4, u5].drop 3).take (Tryd.prog.cellsOf 3)) = some y3 := t3
      rw [show Tryd.prog.cellsOf 3 = 1 by kernel_rfl] at h9
      exact h9
    replace t4 : DataW.trod enc Tryd.prog W 0 (fun _ => true) true n' 9 [u4] = some y4 := by
      have h9 : DataW.trod enc Tryd.prog W 0 (fun _ => true) true n' 9 (([u0, u1, u2, u3, u4, u5].drop 4).take (Tryd.prog.cellsOf 9)) = some y4 := t4
      rw [show Tryd.prog.cellsOf 9 = 1 by kernel_rfl] at h9
      exact h9
    replace t5 : DataW.trod enc Tryd.prog W 0 (fun _ => true) true n' 23 [u5] = some y5 := by
      have h9 : DataW.trod enc Tryd.prog W 0 (fun _ => true) true n' 23 (([u0, u1, u2, u3, u4, u5].drop 5).take (Tryd.prog.cellsOf 23)) = some y5 := t5
      rw [show Tryd.prog.cellsOf 23 = 1 by kernel_rfl] at h9
      exact h9
    obtain ⟨z0, rfl, _⟩ := read_int1 Tryd.underlying3 t0
    obtain ⟨s1, rfl, e1⟩ := read_str1 Tryd.underlying9 t1
    obtain ⟨z2, rfl, _⟩ := read_int1 Tryd.underlying3 t2
    obtain ⟨z3, rfl, _⟩ := read_int1 Tryd.underlying3 t3
    obtain ⟨s4, rfl, e4⟩ := read_str1 Tryd.underlying9 t4
    obtain ⟨l, hl, ho, hlen⟩ := read_row (R := ValR) (Ok := ValB) (B := B) Tryd.underlying23 (show Tryd.prog.cellsOf 44 = 6 by kernel_rfl) (by decide) (fun n cs y h _ hlt hb => ih (by omega) n cs y h hlt hb) t5 p5 (by omega)
    rw [e1] at b1
    rw [e4] at b4
    simp only [Rows.uptoBulk] at b1 b4
    exact ⟨⟨z0, s1, z2, z3, s4, l⟩, valR_shut (x := ⟨z0, s1, z2, z3, s4, l⟩) hl, ValB.mk _ (by show l.length ≤ _; omega) (by show s1.length ≤ _; omega) (by show s4.length ≤ _; omega) ho⟩
set_option maxRecDepth 100000 in
theorem read_vals {H : Type} {enc : TypeId × Value → H} {W : World} {n : Nat} {v : Value} {y : DataW H × List MemPlace} (h : DataW.trod enc Tryd.prog W 0 (fun _ => true) true n 23 [v] = some y) (hlt : ∀ x ∈ y.2, x.block < W.heap.size) (hb : Rows.uptoBulk y.1 ≤ 1048576) :
    ∃ l : List Val, ValsR AllF W l v ∧ ValsB l := by
  obtain ⟨l, hl, ho, hlen⟩ := read_row (R := ValR) (Ok := ValB) Tryd.underlying23 (show Tryd.prog.cellsOf 44 = 6 by kernel_rfl) (by decide) (fun n cs y h _ hlt hb => read_val 1048576 (Nat.le_refl _) n cs y h hlt hb) h hlt hb
  exact ⟨l, hl, hlen, ho⟩
theorem read_bool1 {H : Type} {enc : TypeId × Value → H} {P : Program} {W : World} {t : TypeId} (ht : P.underlying t = some .bool) {v : Value} {y : DataW H × List MemPlace} {n : Nat} (h : DataW.trod enc P W 0 (fun _ => true) true n t [v] = some y) :
    ∃ b, v = .bool b := by
  obtain ⟨b, e1, _⟩ := DataW.trod_bool ht h
  exact ⟨b, by simpa using e1⟩
set_option maxRecDepth 100000 in
theorem read_req {H : Type} {enc : TypeId × Value → H} {W : World} {n : Nat} {cs : List Value} {y : DataW H × List MemPlace} (h : DataW.trod enc Tryd.prog W 0 (fun _ => true) true n 25 cs = some y) (hlt : ∀ x ∈ y.2, x.block < W.heap.size) (hb : Rows.uptoBulk y.1 ≤ 1048576) :
    ∃ r : Req, ReqR AllF W r cs ∧ ReqB r := by
  obtain ⟨hcl, ys, n', hy, hyl, hf⟩ := read_fields Tryd.underlying25 h hlt
  replace hcl : cs.length = 8 := hcl.trans (by kernel_rfl)
  obtain ⟨y0, _, t0, p0, b0⟩ := hf 0 _ rfl
  obtain ⟨y1, _, t1, p1, b1⟩ := hf 1 _ rfl
  obtain ⟨y2, _, t2, p2, b2⟩ := hf 2 _ rfl
  obtain ⟨y3, _, t3, p3, b3⟩ := hf 3 _ rfl
  obtain ⟨y4, _, t4, p4, b4⟩ := hf 4 _ rfl
  obtain ⟨y5, _, t5, p5, b5⟩ := hf 5 _ rfl
  obtain ⟨y6, _, t6, p6, b6⟩ := hf 6 _ rfl
  obtain ⟨y7, _, t7, p7, b7⟩ := hf 7 _ rfl
  match cs, hcl with
  | [u0, u1, u2, u3, u4, u5, u6, u7], _ =>
  clear hf h hyl
  replace t0 : DataW.trod enc Tryd.prog W 0 (fun _ => true) true n' 9 [u0] = some y0 := by
    have h9 : DataW.trod enc Tryd.prog W 0 (fun _ => true) true n' 9 (([u0, u1, u2, u3, u4, u5, u6, u7].drop 0).take (Tryd.prog.cellsOf 9)) = some y0 := t0
    rw [show Tryd.prog.cellsOf 9 = 1 by kernel_rfl] at h9
    exact h9
  replace t1 : DataW.trod enc Tryd.prog W 0 (fun _ => true) true n' 9 [u1] = some y1 := by
    have h9 : DataW.trod enc Tryd.prog W 0 (fun _ => true) true n' 9 (([u0, u1, u2, u3, u4, u5, u6, u7].drop 1).take (Tryd.prog.cellsOf 9)) = some y1 := t1
    rw [show Tryd.prog.cellsOf 9 = 1 by kernel_rfl] at h9
    exact h9
  replace t2 : DataW.trod enc Tryd.prog W 0 (fun _ => true) true n' 23 [u2] = some y2 := by
    have h9 : DataW.trod enc Tryd.prog W 0 (fun _ => true) true n' 23 (([u0, u1, u2, u3, u4, u5, u6, u7].drop 2).take (Tryd.prog.cellsOf 23)) = some y2 := t2
    rw [show Tryd.prog.cellsOf 23 = 1 by kernel_rfl] at h9
    exact h9
  replace t3 : DataW.trod enc Tryd.prog W 0 (fun _ => true) true n' 3 [u3] = some y3 := by
    have h9 : DataW.trod enc Tryd.prog W 0 (fun _ => true) true n' 3 (([u0, u1, u2, u3, u4, u5, u6, u7].drop 3).take (Tryd.prog.cellsOf 3)) = some y3 := t3
    rw [show Tryd.prog.cellsOf 3 = 1 by kernel_rfl] at h9
    exact h9
  replace t4 : DataW.trod enc Tryd.prog W 0 (fun _ => true) true n' 9 [u4] = some y4 := by
    have h9 : DataW.trod enc Tryd.prog W 0 (fun _ => true) true n' 9 (([u0, u1, u2, u3, u4, u5, u6, u7].drop 4).take (Tryd.prog.cellsOf 9)) = some y4 := t4
    rw [show Tryd.prog.cellsOf 9 = 1 by kernel_rfl] at h9
    exact h9
  replace t5 : DataW.trod enc Tryd.prog W 0 (fun _ => true) true n' 3 [u5] = some y5 := by
    have h9 : DataW.trod enc Tryd.prog W 0 (fun _ => true) true n' 3 (([u0, u1, u2, u3, u4, u5, u6, u7].drop 5).take (Tryd.prog.cellsOf 3)) = some y5 := t5
    rw [show Tryd.prog.cellsOf 3 = 1 by kernel_rfl] at h9
    exact h9
  replace t6 : DataW.trod enc Tryd.prog W 0 (fun _ => true) true n' 3 [u6] = some y6 := by
    have h9 : DataW.trod enc Tryd.prog W 0 (fun _ => true) true n' 3 (([u0, u1, u2, u3, u4, u5, u6, u7].drop 6).take (Tryd.prog.cellsOf 3)) = some y6 := t6
    rw [show Tryd.prog.cellsOf 3 = 1 by kernel_rfl] at h9
    exact h9
  replace t7 : DataW.trod enc Tryd.prog W 0 (fun _ => true) true n' 4 [u7] = some y7 := by
    have h9 : DataW.trod enc Tryd.prog W 0 (fun _ => true) true n' 4 (([u0, u1, u2, u3, u4, u5, u6, u7].drop 7).take (Tryd.prog.cellsOf 4)) = some y7 := t7
    rw [show Tryd.prog.cellsOf 4 = 1 by kernel_rfl] at h9
    exact h9
  obtain ⟨s0, rfl, e0⟩ := read_str1 Tryd.underlying9 t0
  rw [e0] at b0
  simp only [Rows.uptoBulk] at b0
  obtain ⟨s1, rfl, e1⟩ := read_str1 Tryd.underlying9 t1
  rw [e1] at b1
  simp only [Rows.uptoBulk] at b1
  obtain ⟨l2, hl2, ho2⟩ := read_vals t2 p2 (by omega)
  obtain ⟨z3, rfl, hz3⟩ := read_int1 Tryd.underlying3 t3
  obtain ⟨s4, rfl, e4⟩ := read_str1 Tryd.underlying9 t4
  rw [e4] at b4
  simp only [Rows.uptoBulk] at b4
  obtain ⟨z5, rfl, hz5⟩ := read_int1 Tryd.underlying3 t5
  obtain ⟨z6, rfl, hz6⟩ := read_int1 Tryd.underlying3 t6
  obtain ⟨z7, rfl⟩ := read_bool1 Tryd.underlying4 t7
  exact ⟨⟨s0, s1, l2, z3, s4, z5, z6, z7⟩, reqR_shut (o := ⟨s0, s1, l2, z3, s4, z5, z6, z7⟩) hl2, ⟨ho2, by show s0.length ≤ _; omega, by show s1.length ≤ _; omega, by show s4.length ≤ _; omega⟩⟩
set_option maxRecDepth 100000 in
theorem read_reqs {H : Type} {enc : TypeId × Value → H} {W : World} {v : Value} {d : DataW H} {p : List MemPlace} (hok : ∃ a len cap, v = .slice a len cap) (h : DataW.Trod enc Tryd.prog W 0 (fun _ => true) true 22 v d p) (hlt : ∀ x ∈ p, x.block < W.heap.size) (hb : Rows.uptoBulk d ≤ 1048576) :
    ∃ l : List Req, ReqsR AllF W l v ∧ ReqsB l := by
  obtain ⟨a, len, cap, rfl⟩ := hok
  obtain ⟨n, h⟩ := h
  obtain ⟨l, hl, ho, hlen⟩ := read_row (R := ReqR) (Ok := ReqB) (y := (d, p)) Tryd.underlying22 (show Tryd.prog.cellsOf 25 = 8 by kernel_rfl) (by decide) (fun n cs y h _ hlt hb => read_req h hlt (by omega)) h hlt hb
  exact ⟨l, hl, hlen, ho⟩
set_option maxRecDepth 100000 in
theorem read_reqv {H : Type} {enc : TypeId × Value → H} {W : World} {r : Reach} {b0 : Nat} {v : Value} {d : DataW H} {p : List MemPlace} (hv : Value.okWide Tryd.prog W r b0 25 v) (h : DataW.Trod enc Tryd.prog W 0 (fun _ => true) true 25 v d p) (hlt : ∀ x ∈ p, x.block < W.heap.size) (hb : Rows.uptoBulk d ≤ 1048576) :
    ∃ (x : Req) (cs : List Value), v = .agg cs.toArray ∧ ReqR AllF W x cs ∧ ReqB x := by
  obtain ⟨⟨cs⟩, rfl, hsz⟩ := okWide_struct Tryd.underlying25 hv
  obtain ⟨n, h⟩ := h
  obtain ⟨x, hx, hc⟩ := read_req (y := (d, p)) h hlt hb
  exact ⟨x, cs, rfl, hx, hc⟩
end Go.Proofs.YtnbhpicmflagcaaDoor
