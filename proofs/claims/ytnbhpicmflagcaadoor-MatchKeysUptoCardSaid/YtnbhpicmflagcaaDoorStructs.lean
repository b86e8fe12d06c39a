/- A slice of structs of one-cell fields, read as data. -/
import Derived.Test.YtnbhpicmflagcaaDoorLaid
import Derived.Test.YtnbhpicmflagcaaDoorBulk
import Derived.Deep.Slices
import Derived.Deep.Fields
set_option linter.unusedVariables false
namespace Go.Proofs.YtnbhpicmflagcaaDoor
open Go.ChangeShapes Go.WideShapes Go.ChangeAt Go.RowKit Go.WideMaps Go.WideElems Go.Deep
/-- the struct D at block g, from offset o on: each field's cell and its reading -/
def FieldsAt {H : Type} (enc : TypeId × Value → H) (P : Program) (W : World) (fs : Array Field) (g o : Nat) (D : DataW H) : Prop :=
  ∃ ys : List (DataW H × List MemPlace), ys.length = fs.size ∧ D = .agg (ys.map (·.1)) ∧ ∀ j f, fs[j]? = some f → ∃ u y n, W.cell? ⟨g, o + j, none⟩ = some u ∧ ys[j]? = some y ∧ DataW.trod enc P W 0 (fun _ => true) true n f.type [u] = some y ∧ ∀ x ∈ y.2, x.block < W.heap.size
theorem read_structs {H : Type} {enc : TypeId × Value → H} {P : Program} {W : World} {t e : TypeId} {fs : Array Field} (ht : P.underlying t = some (.slice e)) (he : P.underlying e = some (.struct fs)) (hone : oneCellFields P fs = true) (hC : P.cellsOf e = fs.size) (h0 : 0 < fs.size) {v : Value} {d : DataW H} {p : List MemPlace}
    (hok : ∃ a len cap, v = .slice a len cap) (h : DataW.Trod enc P W 0 (fun _ => true) true t v d p) (hlt : ∀ x ∈ p, x.block < W.heap.size) :
    ∃ (a : Option Addr) (len cap g off : Nat) (D : Nat → DataW H), v = .slice a len cap ∧ len ≤ maxLen ∧ (0 < len → a = some ⟨g, off, none⟩ ∧ g < W.heap.size) ∧ ((d = .nil ∧ len = 0) ∨ ∃ sp, d = .slice ((List.range len).map D) sp) ∧
      ∀ i, i < len → FieldsAt enc P W fs g (off + i * fs.size) (D i) := by
  obtain ⟨a0, len0, cap0, rfl⟩ := hok
  obtain ⟨fuel, hf⟩ := h
  rcases open_slice ht hf with ⟨hcs, hx⟩ | ⟨a, len, cap, m, n, D, Pl, hcs, hb, hl, hm, hmm, hx, hi⟩
  · simp [Value.cells] at hcs
    obtain ⟨rfl, rfl, rfl⟩ := hcs
    simp only [Prod.mk.injEq] at hx
    exact ⟨none, 0, 0, 0, 0, fun _ => .nil, rfl, Nat.zero_le _, fun h => absurd h (by omega), Or.inl ⟨hx.1, rfl⟩, fun i hi => absurd hi (by omega)⟩
  · simp [Value.cells] at hcs
    obtain ⟨rfl, rfl, rfl⟩ := hcs
    simp only [if_true] at hmm
    subst hmm
    rw [hC] at hx
    simp only [Prod.mk.injEq] at hx
    obtain ⟨rfl, rfl⟩ := hx
    have hspot : 0 < len0 → a.spot = none ∧ a.block < W.heap.size := fun hpos => by
      obtain ⟨cs', hc, _⟩ := hi 0 (by omega)
      rw [hC] at hc
      obtain ⟨_, hcl, hat⟩ := World.cells?_some hc
      have hs := World.cell?_spot ((hat 0 h0).trans (List.getElem?_eq_getElem (by omega)))
      refine ⟨by simpa [Addr.add] using hs, ?_⟩
      refine hlt (.cell a.block (a.off + 0)) (List.mem_append_left _ (MemPlace.mem_row.2 ⟨0, ?_, by simp⟩))
      exact Nat.mul_pos (by omega) h0
    refine ⟨some a, _, _, a.block, a.off, D, rfl, Nat.le_trans hl hm, fun hpos => ?_, Or.inr ⟨_, rfl⟩, fun i hil => ?_⟩
    · obtain ⟨h1, h2⟩ := hspot hpos
      refine ⟨?_, h2⟩
      obtain ⟨b, o, s⟩ := a
      simp only at h1
      subst h1
      rfl
    · obtain ⟨h1, _⟩ := hspot (by omega)
      obtain ⟨cs', hc, ht'⟩ := hi i (by omega)
      rw [hC] at hc
      obtain ⟨ys, n', _, hy, hlen, hyl, hfd⟩ := DataW.trod_struct he ht'
      obtain ⟨_, hcl, hat⟩ := World.cells?_some hc
      simp only [Prod.mk.injEq] at hy
      refine ⟨ys, hyl, hy.1, fun j f hj => ?_⟩
      obtain ⟨ho, hk⟩ := hone_of hone j f hj
      have hjl : j < fs.size := (Array.getElem?_eq_some_iff.1 hj).1
      have hcell := hat j hjl
      have hjc : j < cs'.length := by omega
      have hv : cs'[j]? = some cs'[j] := List.getElem?_eq_getElem hjc
      have hjy : j < ys.length := by omega
      have hys : ys[j]? = some ys[j] := List.getElem?_eq_getElem hjy
      have h9 := hfd j f hj
      rw [ho, hk] at h9
      have hd : (cs'.drop j).take 1 = [cs'[j]] := by rw [List.drop_eq_getElem_cons hjc]; rfl
      rw [hd] at h9
      refine ⟨cs'[j], ys[j], n', ?_, hys, h9.trans hys, fun x hx => ?_⟩
      · have hcell2 := hcell.trans hv
        rw [Go.Deep.add_add, plain_add h1] at hcell2
        rw [Nat.add_assoc]
        exact hcell2
      · refine hlt x (List.mem_append_right _ (List.mem_flatMap.2 ⟨i, List.mem_range.2 (by omega), ?_⟩))
        rw [hy.2]
        exact List.mem_flatMap.2 ⟨ys[j], List.getElem_mem hjy, hx⟩

/-- a one-cell reading of a slice of strings -/
theorem read_strs1 {H : Type} {enc : TypeId × Value → H} {P : Program} {W : World} {t e : TypeId} (ht : P.underlying t = some (.slice e)) (he : P.underlying e = some .string) (hc : P.cellsOf e = 1) {v : Value} {y : DataW H × List MemPlace} {n : Nat}
    (h : DataW.trod enc P W 0 (fun _ => true) true n t [v] = some y) (hlt : ∀ x ∈ y.2, x.block < W.heap.size) :
    ∃ ss : List (List UInt8), Row W.heap.size W 1 v ss.length (ss.map fun s => Value.string ⟨s.toArray⟩) ∧ ((y.1 = .nil ∧ ss = []) ∨ ∃ sp, y.1 = .slice (ss.map fun s => .lit (.string s)) sp) := by
  have hv : ∃ a len cap, v = .slice a len cap := by
    rcases open_strings ht he hc h with ⟨hcs, _⟩ | ⟨a, len', cap', ss, hcs, _⟩
    · simp at hcs; exact ⟨_, _, _, hcs⟩
    · simp at hcs; exact ⟨_, _, _, hcs⟩
  obtain ⟨a, len, cap, rfl⟩ := hv
  obtain ⟨ss, h1, _, _, h4⟩ := read_strs (W := W) (d := y.1) (p := y.2) (base := 0) (o := 0) ht he hc ⟨_, _, _, rfl⟩ ⟨n, h⟩ hlt
  exact ⟨ss, h1, h4⟩
/-- a one-cell reading of a slice of integers -/
theorem read_ints1 {H : Type} {enc : TypeId × Value → H} {P : Program} {W : World} {t e : TypeId} {k : IntKind} (ht : P.underlying t = some (.slice e)) (he : P.underlying e = some (.int k)) (hc : P.cellsOf e = 1) {v : Value} {y : DataW H × List MemPlace} {n : Nat}
    (h : DataW.trod enc P W 0 (fun _ => true) true n t [v] = some y) (hlt : ∀ x ∈ y.2, x.block < W.heap.size) :
    ∃ zs : List Int, Row W.heap.size W 1 v zs.length (zs.map (Value.int k)) ∧ (∀ z ∈ zs, (Lit.int k z).wf = true) ∧ ((y.1 = .nil ∧ zs = []) ∨ ∃ sp, y.1 = .slice (zs.map fun z => .lit (.int k z)) sp) := by
  have hv : ∃ a len cap, v = .slice a len cap := by
    rcases open_ints ht he hc h with ⟨hcs, _⟩ | ⟨a, len', cap', ss, hcs, _⟩
    · simp at hcs; exact ⟨_, _, _, hcs⟩
    · simp at hcs; exact ⟨_, _, _, hcs⟩
  obtain ⟨a, len, cap, rfl⟩ := hv
  obtain ⟨zs, h1, h2, _, h4⟩ := read_ints (W := W) (d := y.1) (p := y.2) ht he hc ⟨_, _, _, rfl⟩ ⟨n, h⟩ hlt
  exact ⟨zs, h1, h2, h4⟩
theorem read_int1 {H : Type} {enc : TypeId × Value → H} {P : Program} {W : World} {t : TypeId} {k : IntKind} (ht : P.underlying t = some (.int k)) {v : Value} {y : DataW H × List MemPlace} {n : Nat} (h : DataW.trod enc P W 0 (fun _ => true) true n t [v] = some y) :
    ∃ z, v = .int k z ∧ (Lit.int k z).wf = true := by
  obtain ⟨z, e1, _, e3⟩ := DataW.trod_int ht h
  exact ⟨z, by simpa using e1, e3⟩
theorem read_str1 {H : Type} {enc : TypeId × Value → H} {P : Program} {W : World} {t : TypeId} (ht : P.underlying t = some .string) {v : Value} {y : DataW H × List MemPlace} {n : Nat} (h : DataW.trod enc P W 0 (fun _ => true) true n t [v] = some y) :
    ∃ s : List UInt8, v = .string ⟨s.toArray⟩ ∧ y.1 = .lit (.string s) := by
  obtain ⟨s, e1, e2, _⟩ := DataW.trod_string ht h
  exact ⟨s.data.toList, by simpa using e1, by rw [e2]⟩
/-- a list out of what is known at each index -/
theorem list_choose {α : Type} {Q : Nat → α → Prop} : ∀ (n : Nat), (∀ i, i < n → ∃ x, Q i x) → ∃ l : List α, l.length = n ∧ ∀ i x, l[i]? = some x → Q i x
  | 0, _ => ⟨[], rfl, fun i x h => by simp at h⟩
  | n + 1, h => by
    obtain ⟨l, hl, hq⟩ := list_choose n (fun i hi => h i (by omega))
    obtain ⟨x, hx⟩ := h n (by omega)
    refine ⟨l ++ [x], by simp [hl], fun i y hy => ?_⟩
    by_cases hi : i < n
    · rw [List.getElem?_append_left (by omega)] at hy
      exact hq i y hy
    · rw [List.getElem?_append_right (by omega)] at hy
      have : i = n := by
        have := (List.getElem?_eq_some_iff.1 hy).1
        simp at this; omega
      subst this
      rw [hl] at hy
      simp at hy
      subst hy
      exact hx
/-- the bulk of a struct's field is at most that of the slice -/
theorem bulk_field {H : Type} {d : DataW H} {D : Nat → DataW H} {len : Nat} (hd : (d = .nil ∧ len = 0) ∨ ∃ sp, d = .slice ((List.range len).map D) sp) {i : Nat} (hi : i < len) {ys : List (DataW H × List MemPlace)} (hD : D i = .agg (ys.map (·.1))) {j : Nat} {y : DataW H × List MemPlace} (hy : ys[j]? = some y) : Rows.uptoBulk y.1 ≤ Rows.uptoBulk d := by
  rcases hd with ⟨_, h⟩ | ⟨sp, rfl⟩
  · omega
  · have h1 : Rows.uptoBulk (D i) ≤ Rows.uptoBulkAll ((List.range len).map D) := bulks.part_le (List.mem_map.2 ⟨i, List.mem_range.2 hi, rfl⟩)
    have h2 : Rows.uptoBulk y.1 ≤ Rows.uptoBulkAll (ys.map (·.1)) := bulks.part_le (List.mem_map.2 ⟨y, List.mem_of_getElem? hy, rfl⟩)
    rw [hD] at h1
    simp only [Rows.uptoBulk] at h1 ⊢
    omega
theorem bulk_len {H : Type} {d : DataW H} {D : Nat → DataW H} {len : Nat} (hd : (d = .nil ∧ len = 0) ∨ ∃ sp, d = .slice ((List.range len).map D) sp) : len ≤ Rows.uptoBulk d := by
  rcases hd with ⟨_, h⟩ | ⟨sp, rfl⟩
  · omega
  · have h1 := bulks.length_le ((List.range len).map D)
    rw [List.length_map, List.length_range] at h1
    simp only [Rows.uptoBulk]
    omega
end Go.Proofs.YtnbhpicmflagcaaDoor
