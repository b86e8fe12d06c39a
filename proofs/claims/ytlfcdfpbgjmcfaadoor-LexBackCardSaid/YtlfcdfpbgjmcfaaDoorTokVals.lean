/- lex: tokens read as data; the tables. -/
import Derived.Test.YtlfcdfpbgjmcfaaDoorAgg
import Derived.Test.YtlfcdfpbgjmcfaaDoorLexW6
import Derived.Test.YtlfcdfpbgjmcfaaDoorLexT
import Derived.Test.YtlfcdfpbgjmcfaaDoorLaid
import Derived.Test.YtlfcdfpbgjmcfaaDoorRows
set_option linter.unusedVariables false
namespace Go.Proofs.YtlfcdfpbgjmcfaaDoor
open Go.Joins Go.ChangeShapes Go.WideShapes Go.ChangeAt Go.RowKit Go.WideMaps Go.WideElems Go.Deep
abbrev AllF : Foot := fun _ => True
/-- a slice whose elements can be read one by one -/
theorem read_row {H : Type} {enc : TypeId × Value → H} {P : Program} {W : World} {t e : TypeId} {sz : Nat} {α : Type} {R : Rel α} {Ok : α → Prop} {B : Nat} (ht : P.underlying t = some (.slice e)) (hC : P.cellsOf e = sz) (h0 : 0 < sz)
    (hel : ∀ n cs y, DataW.trod enc P W 0 (fun _ => true) true n e cs = some y → cs.length = sz → (∀ x ∈ y.2, x.block < W.heap.size) → Rows.uptoBulk y.1 < B → ∃ x : α, R AllF W x cs ∧ Ok x)
    {n : Nat} {v : Value} {y : DataW H × List MemPlace} (h : DataW.trod enc P W 0 (fun _ => true) true n t [v] = some y) (hlt : ∀ x ∈ y.2, x.block < W.heap.size) (hb : Rows.uptoBulk y.1 ≤ B) :
    ∃ l : List α, SlR sz R AllF W l v ∧ (∀ x ∈ l, Ok x) ∧ l.length ≤ B := by
  rcases open_slice ht h with ⟨hcs, hx⟩ | ⟨a, len, cap, m, n, D, Pl, hcs, _, hl, hm, hmm, hx, hi⟩
  · simp at hcs
    subst hcs
    exact ⟨[], SlR.nil _ _ _ _ _, by simp, by simp⟩
  · simp at hcs
    subst hcs
    simp only [if_true] at hmm
    subst hmm
    rw [hC] at hx hi
    subst hx
    have hspot : 0 < len → a.spot = none ∧ a.block < W.heap.size := fun hpos => by
      obtain ⟨cs', hc, _⟩ := hi 0 (by omega)
      obtain ⟨_, hcl, hat⟩ := World.cells?_some hc
      have hs := World.cell?_spot ((hat 0 h0).trans (List.getElem?_eq_getElem (by omega)))
      refine ⟨by simpa [Addr.add] using hs, ?_⟩
      refine hlt (.cell a.block (a.off + 0)) (List.mem_append_left _ (MemPlace.mem_row.2 ⟨0, ?_, by simp⟩))
      exact Nat.mul_pos (by omega) h0
    have hlen : len ≤ Rows.uptoBulk (DataW.slice ((List.range len).map D) ((List.range (m - len)).map fun j => D (len + j))) := bulk_len (Or.inr ⟨_, rfl⟩)
    obtain ⟨ps, hpl, hq⟩ := list_choose (Q := fun i (p : α × List Value) => (∀ j u, p.2[j]? = some u → W.cell? ⟨a.block, a.off + i * sz + j, none⟩ = some u) ∧ R AllF W p.1 p.2 ∧ Ok p.1) len (fun i hil => by
      obtain ⟨h1, _⟩ := hspot (by omega)
      obtain ⟨cs', hc, ht'⟩ := hi i (by omega)
      obtain ⟨_, hcl, hat⟩ := World.cells?_some hc
      have hbi : Rows.uptoBulk (D i) < B := by
        have h1 : Rows.uptoBulk (D i) ≤ Rows.uptoBulkAll ((List.range len).map D) := bulks.part_le (List.mem_map.2 ⟨i, List.mem_range.2 hil, rfl⟩)
        simp only [Rows.uptoBulk] at hb; omega
      obtain ⟨x, hx, ho⟩ := hel n cs' _ ht' hcl (fun x hx => hlt x (List.mem_append_right _ (List.mem_flatMap.2 ⟨i, List.mem_range.2 (by omega), hx⟩))) hbi
      refine ⟨(x, cs'), fun j u hu => ?_, hx, ho⟩
      have hj : j < sz := by have := (List.getElem?_eq_some_iff.1 hu).1; simp at this; omega
      have := (hat j hj).trans hu
      rw [Go.Deep.add_add, plain_add h1] at this
      rw [Nat.add_assoc]
      exact this)
    refine ⟨ps.map (·.1), ⟨some a, m, a.block, a.off, fun i => ((ps[i]?).map (·.2)).getD [], by simp [hpl], by simp [hpl]; exact hl, fun hp => ?_, fun i hil j u hu => ?_, fun i x hx => ?_⟩, fun x hx => ?_, by simp [hpl]; simp only [] at hb; omega⟩
    · obtain ⟨h1, h2⟩ := hspot (by simpa [hpl] using hp)
      refine ⟨?_, trivial, h2⟩
      obtain ⟨b, o, s⟩ := a
      simp only at h1
      subst h1
      rfl
    · have hil' : i < ps.length := by simpa using hil
      have e : ps[i]? = some ps[i] := List.getElem?_eq_getElem hil'
      simp only [e] at hu
      exact (hq i _ e).1 j u hu
    · rw [List.getElem?_map] at hx
      cases e : ps[i]? with
      | none => rw [e] at hx; simp at hx
      | some p =>
        rw [e] at hx
        simp at hx
        subst hx
        show R AllF W p.1 (((ps[i]?).map (·.2)).getD [])
        rw [e]
        exact (hq i p e).2.1
    · obtain ⟨p, hp, rfl⟩ := List.mem_map.1 hx
      obtain ⟨i, hi⟩ := List.mem_iff_getElem?.1 hp
      exact (hq i p hi).2.2
/-- a struct's fields -/
theorem read_fields {H : Type} {enc : TypeId × Value → H} {P : Program} {W : World} {e : TypeId} {fs : Array Field} (he : P.underlying e = some (.struct fs)) {n : Nat} {cs : List Value} {y : DataW H × List MemPlace}
    (h : DataW.trod enc P W 0 (fun _ => true) true n e cs = some y) (hlt : ∀ x ∈ y.2, x.block < W.heap.size) :
    cs.length = P.cellsOf e ∧ ∃ (ys : List (DataW H × List MemPlace)) (n' : Nat), y.1 = .agg (ys.map (·.1)) ∧ ys.length = fs.size ∧ ∀ (j : Nat) (f : Field), fs[j]? = some f → ∃ yj, ys[j]? = some yj ∧ DataW.trod enc P W 0 (fun _ => true) true n' f.type ((cs.drop f.offset).take (P.cellsOf f.type)) = some yj ∧ (∀ x ∈ yj.2, x.block < W.heap.size) ∧ Rows.uptoBulk yj.1 < Rows.uptoBulk y.1 := by
  obtain ⟨ys, n', _, rfl, hcl, hyl, hfd⟩ := DataW.trod_struct he h
  refine ⟨hcl, ys, n', rfl, hyl, fun j f hj => ?_⟩
  have hjl : j < fs.size := (Array.getElem?_eq_some_iff.1 hj).1
  have hjy : j < ys.length := by omega
  have hys : ys[j]? = some ys[j] := List.getElem?_eq_getElem hjy
  refine ⟨ys[j], hys, (hfd j f hj).trans hys, fun x hx => hlt x (List.mem_flatMap.2 ⟨ys[j], List.getElem_mem hjy, hx⟩), ?_⟩
  have := bulks.part_le (List.mem_map.2 ⟨ys[j], List.getElem_mem hjy, rfl⟩ : (ys[j]).1 ∈ ys.map (·.1))
  simp only [Rows.uptoBulk]
  omega

theorem one_cell {H : Type} {enc : TypeId × Value → H} {W : World} {n : Nat} {t : TypeId} {cs : List Value} {q : Nat} {u : Value} {y : DataW H × List MemPlace} (hc : Tryd.prog.cellsOf t = 1) (hu : cs[q]? = some u)
    (h : DataW.trod enc Tryd.prog W 0 (fun _ => true) true n t ((cs.drop q).take (Tryd.prog.cellsOf t)) = some y) : DataW.trod enc Tryd.prog W 0 (fun _ => true) true n t [u] = some y := by
  rw [hc] at h
  have e : (cs.drop q).take 1 = [u] := by
    obtain ⟨hq, rfl⟩ := List.getElem?_eq_some_iff.1 hu
    rw [List.drop_eq_getElem_cons hq]; rfl
  rw [e] at h
  exact h
theorem read_tok {H : Type} {enc : TypeId × Value → H} {W : World} {n : Nat} {cs : List Value} {y : DataW H × List MemPlace} (h : DataW.trod enc Tryd.prog W 0 (fun _ => true) true n 32 cs = some y) (hlt : ∀ x ∈ y.2, x.block < W.heap.size) :
    ∃ t : Tk, TkR AllF W t cs ∧ -9223372036854775808 ≤ t.n ∧ t.n ≤ 9223372036854775807 := by
  obtain ⟨hcl, ys, n', hy, hyl, hf⟩ := read_fields Tryd.underlying32 h hlt
  replace hcl : cs.length = 4 := hcl.trans (by kernel_rfl)
  obtain ⟨y0, _, t0, p0, b0⟩ := hf 0 _ rfl
  obtain ⟨y1, _, t1, p1, b1⟩ := hf 1 _ rfl
  obtain ⟨y2, _, t2, p2, b2⟩ := hf 2 _ rfl
  obtain ⟨y3, _, t3, p3, b3⟩ := hf 3 _ rfl
  match cs, hcl with
  | [u0, u1, u2, u3], _ =>
  have q0 := one_cell (q := 0) (u := u0) (by kernel_rfl) rfl t0
  have q1 := one_cell (q := 1) (u := u1) (by kernel_rfl) rfl t1
  have q2 := one_cell (q := 2) (u := u2) (by kernel_rfl) rfl t2
  have q3 := one_cell (q := 3) (u := u3) (by kernel_rfl) rfl t3
  obtain ⟨z0, rfl, _⟩ := read_int1 Tryd.underlying3 q0
  obtain ⟨s1, rfl, e1⟩ := read_str1 Tryd.underlying9 q1
  obtain ⟨z2, rfl, h2⟩ := read_int1 Tryd.underlying3 q2
  obtain ⟨z3, rfl, _⟩ := read_int1 Tryd.underlying3 q3
  exact ⟨⟨z0, s1, z2, z3⟩, rfl, wf64 h2⟩
theorem read_toks {H : Type} {enc : TypeId × Value → H} {W : World} {v : Value} {d : DataW H} {p : List MemPlace} (hok : ∃ a len cap, v = .slice a len cap) (h : DataW.Trod enc Tryd.prog W 0 (fun _ => true) true 22 v d p) (hlt : ∀ x ∈ p, x.block < W.heap.size) :
    ∃ l : List Tk, SlR 4 TkR AllF W l v ∧ ∀ t ∈ l, -9223372036854775808 ≤ t.n ∧ t.n ≤ 9223372036854775807 := by
  obtain ⟨a, len, cap, rfl⟩ := hok
  obtain ⟨n, h⟩ := h
  obtain ⟨l, h1, h2, _⟩ := read_row (R := TkR) (Ok := fun t => -9223372036854775808 ≤ t.n ∧ t.n ≤ 9223372036854775807) (B := Rows.uptoBulk d) (y := (d, p)) Tryd.underlying22 (show Tryd.prog.cellsOf 32 = 4 by kernel_rfl) (by decide) (fun n cs y h hl hlt hb => read_tok h hlt) h hlt (Nat.le_refl _)
  exact ⟨l, h1, h2⟩
theorem tab_of_laid {W : World} (h : laidMetH Tryd.prog Rows.lexBackRow.laid W) : Tab W := by
  rw [MakeChecks.laidMetH_plain _ _ _ (by kernel_rfl)] at h
  have h2 := laidMet_tail (laidMet_tail h)
  exact Lib.tabIs_of_head (g := 0) (t := 73) (e := 66) (n := 20) (rest := []) (by kernel_rfl) (by kernel_rfl) (by kernel_rfl) (by kernel_rfl) (by kernel_rfl) (by kernel_rfl) h2
end Go.Proofs.YtlfcdfpbgjmcfaaDoor
