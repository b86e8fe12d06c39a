/- lex: walks: WriteByte onto a builder; text. -/
import Derived.Test.YtlfcdfpbgjmcfaaDoorLexW3
import Derived.Test.YtlfcdfpbgjmcfaaDoorBuilder
set_option linter.unusedVariables false
set_option linter.unusedSimpArgs false
namespace Go.Proofs.YtlfcdfpbgjmcfaaDoor
open Go.RowKit
open Go.Lib (hid byteCells)
theorem new1' (w : World) (v : Value) (t : TypeId) : ∀ j u, ([v] : List Value)[j]? = some u → (w.alloc (.cells #[v] t)).cell? ((⟨w.heap.size, 0, none⟩ : Addr).add j) = some u := by
  intro j u hj
  cases j with
  | zero =>
    simp at hj; subst hj
    have e : (⟨w.heap.size, 0, none⟩ : Addr).add 0 = ⟨w.heap.size, 0, none⟩ := by simp [Addr.add]
    rw [e, cell_of (heap_alloc_new' w _)]
    rfl
  | succ j => simp at hj
set_option maxHeartbeats 2000000 in
set_option maxRecDepth 100000 in
theorem writeByte (B b : Nat) (l : List UInt8) (c : UInt8) (w : World) (h : Lib.IsBuilder 38 5 B b (byteCells l) w) (hlen : l.length ≤ 140737488355327) (hBw : B ≤ w.heap.size) :
    Calls Tryd.prog 12 #[.pointer (some ⟨b, 0, none⟩), bv c] w fun e w' => e = .returned .nilIface ∧ (Lib.IsBuilder 38 5 B b (byteCells (l ++ [c])) w' ∧ Below B w w') := by
  obtain ⟨i0, hi, hz0, hz1, hz2⟩ := info_parts bldByte
  have hbl : (byteCells l).length = l.length := Lib.byteCells_length l
  go_enter Tryd.func12, Tryd.ntmps12
  go_wp2_with (go_at_call 26; refine (copyCheck B b _ _ h).mono ?_)
  rintro e w1 ⟨rfl, h1, hb1⟩
  obtain ⟨hB, v, hbk, hown, hne⟩ := h1
  have c0 : w1.cell? ⟨b, 0, none⟩ = some (.pointer (some ⟨b, 0, none⟩)) := by rw [Lib.cell_of_heap hbk]; rfl
  have c1 : w1.cell? ⟨b, 1, none⟩ = some v := by rw [Lib.cell_of_heap hbk]; rfl
  have hs1 := hb1.size
  have hltb : b < w1.heap.size := lt_of_heap hbk
  have hown0 : (w1.alloc (.cells #[bv c] 5)).ownsRow B 5 1 v l.length (byteCells l) := by rw [hbl] at hown; exact hown.alloc _
  go_wp2_with (at_builtin; refine wpList_append_own _ rfl (.tmp 11) (.tmp 13) 36 rfl B 5 i0 (.int .u8 0) 1 1 Tryd.underlying36 hi hz0 hz1 hz2 rfl (by decide) _ _ _ rfl hown0 ⟨w1.heap.size, 0, none⟩ 1 1 [bv c] rfl rfl (new1' _ _ _) (one1 rfl) (by unfold maxLen; omega) (by omega) (by simp; omega) ?_)
  intro v' w2 hown' hgrow _
  have hbk' : (w1.alloc (.cells #[bv c] 5)).heap[b]? = some (.cells #[.pointer (some ⟨b, 0, none⟩), v] 38 (0, 0)) := (Below.heap_alloc _ _ _ hltb).trans hbk
  have hlt : b < (w1.alloc (.cells #[bv c] 5)).heap.size := lt_of_heap hbk'
  have hb2 : w2.heap[b]? = some (.cells #[.pointer (some ⟨b, 0, none⟩), v] 38 (0, 0)) := by
    rw [hgrow.block b hlt (fun e => hne e.symm)]
    exact hbk'
  have d0 : w2.cell? ⟨b, 0, none⟩ = some (.pointer (some ⟨b, 0, none⟩)) := by rw [Lib.cell_of_heap hb2]; rfl
  have d1 : w2.cell? ⟨b, 1, none⟩ = some v := by rw [Lib.cell_of_heap hb2]; rfl
  have f1 : w2.frozen? ⟨b, 1, none⟩ = false := Lib.frozen_of_heap hb2 1
  obtain ⟨ao, cap, rfl⟩ : ∃ ao cap, v' = .slice ao (l.length + 1) cap := by
    rcases hown'.2 with ⟨hv, h0⟩ | ⟨g, cap, cur, hv, _⟩
    · exact ⟨none, 0, by rw [hv, h0]⟩
    · exact ⟨_, cap, hv⟩
  have hbc : byteCells (l ++ [c]) = byteCells l ++ [bv c] := by rw [Lib.byteCells_append]; rfl
  go_wp2
  go_ret
  refine ⟨rfl, ?_, ?_⟩
  · rw [hbc]
    exact Or.inr (Lib.BuilderAt.put (T := 38) (e := 5) hB hb2 (bs' := byteCells l ++ [bv c]) (by rw [List.length_append, hbl]; exact hown') (by decide))
  · exact ((hb1.alloc (by omega) _).grown hgrow (by simp; omega) (fun k hk => (hown0.lt k hk).1)).setCell (p := ⟨b, 1, none⟩) hB _
theorem isB_far {bb c i : Nat} {l : List UInt8} {w : World} (h : Lib.IsBuilder 38 5 bb bb (byteCells l) w) (hc : c < bb) {v : Value} : Lib.IsBuilder 38 5 bb bb (byteCells l) (w.setCell ⟨c, i, none⟩ v) := by
  have key : ∀ p, Lib.BuilderAt 38 5 bb bb p (byteCells l) w → Lib.BuilderAt 38 5 bb bb p (byteCells l) (w.setCell ⟨c, i, none⟩ v) := by
    rintro p ⟨hB, u, hbk, hown, hne⟩
    exact ⟨hB, u, (heap_setCell_other _ (by omega)).trans hbk, owns_move hown (fun k hk => heap_setCell_other _ (by have := (hown.lt k hk).1; omega)) (fun k hk => (hown.lt k hk).1), hne⟩
  rcases h with h | h
  · exact Or.inl (key _ h)
  · exact Or.inr (key _ h)
end Go.Proofs.YtlfcdfpbgjmcfaaDoor
