/- lex: walks: a builder with a frame: WriteByte; right, quote. -/
import Derived.Test.YtlfcdfpbgjmcfaaDoorLexW4
import Derived.Test.YtlfcdfpbgjmcfaaDoorBldF
import Derived.Test.YtlfcdfpbgjmcfaaDoorLexT
set_option linter.unusedVariables false
set_option linter.unusedSimpArgs false
namespace Go.Proofs.YtlfcdfpbgjmcfaaDoor
open Go.RowKit
open Go.Lib (hid byteCells itoa)
/-- G may hold a builder's buffer: all new blocks, none below B, and what lies from B on and is not in G are no bytes -/
structure GOk (G : Foot) (B : Nat) (w : World) : Prop where
  up : ∀ k, w.heap.size ≤ k → G k
  low : ∀ k, G k → B ≤ k
  ty : ∀ k, B ≤ k → k < w.heap.size → ¬ G k → ∀ cur, w.heap[k]? ≠ some (.cells cur 5 (0, 0))
  le : B ≤ w.heap.size
theorem GOk.fr {G S : Foot} {B : Nat} {w w' : World} (h : GOk G B w) (hf : Fr S w w') (ht : ∀ k, S k → ¬ G k → ∀ cur, w'.heap[k]? ≠ some (.cells cur 5 (0, 0))) : GOk G B w' := by
  have hs := hf.size
  refine ⟨fun k hk => h.up k (by omega), h.low, fun k h1 h2 h3 => ?_, by have := h.le; omega⟩
  rcases Classical.em (S k) with hS | hS
  · exact ht k hS h3
  · have hk : k < w.heap.size := by
      rcases Nat.lt_or_ge k w.heap.size with h4 | h4
      · exact h4
      · exact absurd (h.up k h4) h3
    rw [hf.block k hk hS]
    exact h.ty k h1 hk h3
theorem GOk.self {G : Foot} {B : Nat} {w w' : World} (h : GOk G B w) (hf : Fr G w w') : GOk G B w' := h.fr hf (fun k h1 h2 => absurd h1 h2)
theorem GOk.below {G : Foot} {B : Nat} {w w' : World} (h : GOk G B w) (hf : Below w.heap.size w w') : GOk G B w' := h.self (Fr.of_below hf G)
theorem wr_any (G : Foot) (B b : Nat) (l s : List UInt8) (w : World) (h : BldF G b l w) (hg : GOk G B w) (hlen : l.length + s.length ≤ 140737488355328) :
    Calls Tryd.prog 13 #[.pointer (some ⟨b, 0, none⟩), sv s] w fun e w' => e = .returned (.tuple #[.int .i64 s.length, .nilIface]) ∧ BldF G b (l ++ s) w' ∧ Fr G w w' :=
  bldF_write G B b l s w h hg.up hg.low hg.ty hg.le hlen
set_option maxHeartbeats 2000000 in
set_option maxRecDepth 100000 in
theorem wb_any (G : Foot) (B b : Nat) (l : List UInt8) (c : UInt8) (w : World) (h : BldF G b l w) (hg : GOk G B w) (hlen : l.length ≤ 140737488355327) :
    Calls Tryd.prog 12 #[.pointer (some ⟨b, 0, none⟩), bv c] w fun e w' => e = .returned .nilIface ∧ BldF G b (l ++ [c]) w' ∧ Fr G w w' := by
  obtain ⟨i0, hi, hz0, hz1, hz2⟩ := info_parts bldByte
  have hcall := hid (bldF_check G b l w h)
  replace hg := hid hg
  clear h
  go_enter Tryd.func12, Tryd.ntmps12
  go_wp2_with fail
  refine hcall.out.mono ?_
  rintro e w1 ⟨rfl, h1, hf1, v1, hv1⟩
  obtain ⟨g1, p, v, g2, g3, g4, g5, g6⟩ := id h1
  have hpv : p = .pointer (some ⟨b, 0, none⟩) ∧ v = v1 := by
    have := g3.symm.trans hv1
    simp at this; exact this
  obtain ⟨rfl, rfl⟩ := hpv
  replace g4 : w1.ownsRow B 5 1 v l.length (byteCells l) := owns_move g4 (fun _ _ => rfl) (fun k hk => hg.out.low k (g6 k hk))
  have c0 : w1.cell? ⟨b, 0, none⟩ = some (.pointer (some ⟨b, 0, none⟩)) := (cell_of g3).trans rfl
  have c1 : w1.cell? ⟨b, 1, none⟩ = some v := (cell_of g3).trans rfl
  have hs1 := hf1.size
  have hBw := hg.out.le
  have hlt0 := lt_of_heap g3
  have g4a : (w1.alloc (.cells #[bv c] 5)).ownsRow B 5 1 v l.length (byteCells l) := g4.alloc _
  have g3a : (w1.alloc (.cells #[bv c] 5)).heap[b]? = some (.cells #[.pointer (some ⟨b, 0, none⟩), v] 38 (0, 0)) := (Below.heap_alloc _ _ _ hlt0).trans g3
  have hfa : Fr G w (w1.alloc (.cells #[bv c] 5)) := hf1.alloc _
  clear hcall hv1
  replace h1 := hid h1
  replace hf1 := hid hf1
  go_wp2_with (at_builtin; refine wpList_append_own _ rfl (.tmp 11) (.tmp 13) 36 rfl B 5 i0 (.int .u8 0) 1 1 Tryd.underlying36 hi hz0 hz1 hz2 rfl (by decide) _ _ _ rfl g4a ⟨w1.heap.size, 0, none⟩ 1 1 [bv c] rfl rfl (new1' _ _ _) (one1 rfl) (by unfold maxLen; omega) (by omega) (by simp; omega) ?_)
  intro v' w2 hown' hgrow hnil
  have hlt := lt_of_heap g3a
  have hb2 : w2.heap[b]? = some (.cells #[.pointer (some ⟨b, 0, none⟩), v] 38 (0, 0)) := (hgrow.block b hlt (fun e => g5 e.symm)).trans g3a
  have d0 : w2.cell? ⟨b, 0, none⟩ = some (.pointer (some ⟨b, 0, none⟩)) := (cell_of hb2).trans rfl
  have d1 : w2.cell? ⟨b, 1, none⟩ = some v := (cell_of hb2).trans rfl
  have f1 : w2.frozen? ⟨b, 1, none⟩ = false := free_of hb2
  have hown2 : w2.ownsRow B 5 1 v' (l ++ [c]).length (byteCells (l ++ [c])) := by
    rw [List.length_append, Lib.byteCells_append]; exact hown'
  have hne : v'.ownBlock ≠ some b := Lib.ownBlock_ne hown2 hb2 (by decide)
  have hF2 : Fr G w w2 := hfa.grown hgrow (fun k hk => Or.inl (g6 k hk))
  have hv'G : ∀ k, v'.ownBlock = some k → G k := fun k hk => by
    rcases Classical.em (G k) with h | h
    · exact h
    · exfalso
      have hkB := (hown2.lt k hk).1
      have hkw : k < w.heap.size := Nat.lt_of_not_le fun h9 => h (hg.out.up k h9)
      have e1 : w2.heap[k]? = (w1.alloc (.cells #[bv c] 5)).heap[k]? := hgrow.block k (by simp; omega) (fun e => h (g6 k e.symm))
      have e2 : (w1.alloc (.cells #[bv c] 5)).heap[k]? = w.heap[k]? := hfa.block k hkw h
      rcases hown2.2 with ⟨rfl, _⟩ | ⟨g, cap, cur, rfl, _, hg2, _⟩
      · cases hk
      · simp [Value.ownBlock] at hk
        subst hk
        exact hg.out.ty _ hkB hkw h cur (by rw [← e2, ← e1]; exact hg2)
  obtain ⟨ao, cap, hv', -, -⟩ := owns_form hown2
  subst hv'
  have hset := heap_setCell_same (i := 1) hb2 (.slice ao (l ++ [c]).length cap)
  have hfin := hid (show BldF G b (l ++ [c]) (w2.setCell ⟨b, 1, none⟩ (.slice ao (l ++ [c]).length cap)) ∧ Fr G w (w2.setCell ⟨b, 1, none⟩ (.slice ao (l ++ [c]).length cap)) from
    ⟨⟨g1, _, _, Or.inr rfl, hset, owns_move hown2 (fun k hk => heap_setCell_other _ (fun e => hne (e ▸ hk))) (fun _ _ => Nat.zero_le _), hne, hv'G⟩, hF2.setCell (Or.inl g1) _⟩)
  simp only [List.length_append] at hfin
  clear hset hown2 hown' hgrow hF2 hv'G hne g4a g3a hfa
  go_wp2
  go_ret
  exact ⟨rfl, hfin.out.1, hfin.out.2⟩
def rightF (t : Tk) : Bool :=
  if t.kind = 1 then isNm t.text && decide (t.n = 0)
  else if t.kind = 2 then decide (t.text = []) && decide (0 ≤ t.n) && decide (t.n ≤ 9007199254740992)
  else if t.kind = 3 then decide (t.text.length ≤ 4096) && decide (t.n = 0)
  else if t.kind = 4 then isMk t.text && decide (t.n = 0)
  else false
set_option maxHeartbeats 2000000 in
set_option maxRecDepth 100000 in
theorem right_any (t : Tk) (w : World) (hl : t.text.length ≤ 140737488355328) : Calls Tryd.prog 11 #[.agg #[iv t.kind, sv t.text, iv t.n, iv t.pos]] w fun e w' => e = .returned (.bool (rightF t)) ∧ Below w.heap.size w w' := by
  obtain ⟨kd, tx, n, ps⟩ := t
  simp only at *
  obtain ⟨res, hres⟩ : ∃ r, r = rightF ⟨kd, tx, n, ps⟩ := ⟨_, rfl⟩
  rw [← hres]
  simp only [rightF] at hres
  have hnm := hid (fun W => isName_any tx W hl)
  have hmk := hid (fun W => isMark_any tx W)
  have hbe := hid ((Below.refl w.heap.size w).alloc (Nat.le_refl _) (.cells #[iv kd, sv tx, iv n, iv ps] 32))
  by_cases h1 : kd = 1
  · subst h1
    rw [if_pos rfl] at hres
    by_cases hn : n = 0
    · subst hn
      simp only [decide_true, Bool.and_true] at hres
      cases hx : isNm tx <;> rw [hx] at hres hnm <;> clear hx <;> subst hres
      all_goals
        go_enter Tryd.func11, Tryd.ntmps11
        go_wp2_with fail
        refine (hnm.out _).mono ?_
        rintro e w1 ⟨rfl, rfl⟩
        go_wp2_with fail
        go_ret
        exact ⟨rfl, hbe.out⟩
    · have q : (n == 0) = false := by rw [beq_eq_false_iff_ne]; exact hn
      rw [show decide (n = 0) = false from decide_eq_false hn, Bool.and_false] at hres
      subst hres
      cases hx : isNm tx <;> rw [hx] at hnm <;> clear hx
      all_goals
        go_enter Tryd.func11, Tryd.ntmps11
        go_wp2_with fail
        refine (hnm.out _).mono ?_
        rintro e w1 ⟨rfl, rfl⟩
        go_wp2_with fail
        go_ret
        exact ⟨rfl, hbe.out⟩
  · rw [if_neg h1] at hres
    have b1 : (kd == 1) = false := by rw [beq_eq_false_iff_ne]; exact h1
    by_cases h2 : kd = 2
    · subst h2
      rw [if_pos rfl] at hres
      rcases tx with _ | ⟨c, r⟩
      · by_cases hn1 : 0 ≤ n
        · by_cases hn2 : n ≤ 9007199254740992
          · have d1 : decide (0 ≤ n) = true := decide_eq_true hn1
            have d2 : decide (n ≤ 9007199254740992) = true := decide_eq_true hn2
            simp only [d1, d2, decide_true, Bool.and_true] at hres
            subst hres
            go_enter Tryd.func11, Tryd.ntmps11
            go_wp2_with fail
            go_ret
            exact ⟨rfl, hbe.out⟩
          · have d1 : decide (0 ≤ n) = true := decide_eq_true hn1
            have d2 : decide (n ≤ 9007199254740992) = false := decide_eq_false hn2
            simp only [d1, d2, Bool.and_false] at hres
            subst hres
            go_enter Tryd.func11, Tryd.ntmps11
            go_wp2_with fail
            go_ret
            exact ⟨rfl, hbe.out⟩
        · have d1 : decide (0 ≤ n) = false := decide_eq_false hn1
          simp only [d1, Bool.and_false, Bool.false_and] at hres
          subst hres
          go_enter Tryd.func11, Tryd.ntmps11
          go_wp2_with fail
          go_ret
          exact ⟨rfl, hbe.out⟩
      · have hs1 : ((c :: r) == ([] : List UInt8)) = false := rfl
        have hs2 : ¬ (c :: r) = ([] : List UInt8) := by simp
        rw [show decide ((c :: r) = ([] : List UInt8)) = false from decide_eq_false hs2, Bool.false_and, Bool.false_and] at hres
        subst hres
        go_enter Tryd.func11, Tryd.ntmps11
        go_wp2_with fail
        go_ret
        exact ⟨rfl, hbe.out⟩
    · rw [if_neg h2] at hres
      have b2 : (kd == 2) = false := by rw [beq_eq_false_iff_ne]; exact h2
      by_cases h3 : kd = 3
      · subst h3
        rw [if_pos rfl] at hres
        by_cases hl4 : tx.length ≤ 4096
        · have d1 : decide (tx.length ≤ 4096) = true := decide_eq_true hl4
          have d2 : decide ((tx.length : Int) ≤ 4096) = true := decide_eq_true (by omega)
          by_cases hn : n = 0
          · subst hn
            simp only [d1, decide_true, Bool.and_true] at hres
            subst hres
            go_enter Tryd.func11, Tryd.ntmps11
            go_wp2_with fail
            go_ret
            exact ⟨rfl, hbe.out⟩
          · have q : (n == 0) = false := by rw [beq_eq_false_iff_ne]; exact hn
            rw [show decide (n = 0) = false from decide_eq_false hn, Bool.and_false] at hres
            subst hres
            go_enter Tryd.func11, Tryd.ntmps11
            go_wp2_with fail
            go_ret
            exact ⟨rfl, hbe.out⟩
        · have d1 : decide (tx.length ≤ 4096) = false := decide_eq_false hl4
          have d2 : decide ((tx.length : Int) ≤ 4096) = false := decide_eq_false (by omega)
          have d3 : ¬ ((tx.length : Int) ≤ 4096) := by omega
          rw [d1, Bool.false_and] at hres
          subst hres
          go_enter Tryd.func11, Tryd.ntmps11
          go_wp2_with fail
          go_ret
          exact ⟨rfl, hbe.out⟩
      · rw [if_neg h3] at hres
        have b3 : (kd == 3) = false := by rw [beq_eq_false_iff_ne]; exact h3
        by_cases h4 : kd = 4
        · subst h4
          rw [if_pos rfl] at hres
          by_cases hn : n = 0
          · subst hn
            simp only [decide_true, Bool.and_true] at hres
            cases hx : isMk tx <;> rw [hx] at hres hmk <;> clear hx <;> subst hres
            all_goals
              go_enter Tryd.func11, Tryd.ntmps11
              go_wp2_with fail
              refine (hmk.out _).mono ?_
              rintro e w1 ⟨rfl, rfl⟩
              go_wp2_with fail
              go_ret
              exact ⟨rfl, hbe.out⟩
          · have q : (n == 0) = false := by rw [beq_eq_false_iff_ne]; exact hn
            rw [show decide (n = 0) = false from decide_eq_false hn, Bool.and_false] at hres
            subst hres
            cases hx : isMk tx <;> rw [hx] at hmk <;> clear hx
            all_goals
              go_enter Tryd.func11, Tryd.ntmps11
              go_wp2_with fail
              refine (hmk.out _).mono ?_
              rintro e w1 ⟨rfl, rfl⟩
              go_wp2_with fail
              go_ret
              exact ⟨rfl, hbe.out⟩
        · rw [if_neg h4] at hres
          have b4 : (kd == 4) = false := by rw [beq_eq_false_iff_ne]; exact h4
          subst hres
          go_enter Tryd.func11, Tryd.ntmps11
          go_wp2_with fail
          go_ret
          exact ⟨rfl, hbe.out⟩
end Go.Proofs.YtlfcdfpbgjmcfaaDoor
