/- The reference World's Send. -/
import Derived.Test.YthagdeadmoidnaaRefC
set_option linter.unusedVariables false
namespace Go.Proofs.Ythagdeadmoidnaa
open Go.RowKit
open Go.Lib (hid)
theorem sendF_bad {x : WS} {c : Cmd} {how : Int} (hk : isKnown x.log c.key = false) (h3 : how ≠ 3) (hb : how = 1 ∨ c.key = [] ∨ (stepF x.force c).1 ≠ 0) : sendF x c how = (if how = 2 then -1 else 0, x) := by
  have hk' : ¬ isKnown x.log c.key = true := by rw [hk]; decide
  unfold sendF
  rw [if_neg h3]
  by_cases h1 : how = 1
  · subst h1; rw [if_pos rfl, if_neg hk', if_neg (by decide)]
  · rw [if_neg h1]
    have ht : takeF x c = (0, x) := by
      unfold takeF
      rw [if_neg hk']
      rcases hb with h | h | h
      · exact absurd h h1
      · rw [if_pos h]
      · by_cases h0 : c.key = []
        · rw [if_pos h0]
        · rw [if_neg h0, if_pos h]
    rw [ht]
    by_cases h2 : how = 2
    · rw [if_pos h2, if_pos h2]
    · rw [if_neg h2, if_neg h2]
theorem sendF_good {x : WS} {c : Cmd} {how : Int} (hk : isKnown x.log c.key = false) (h3 : how ≠ 3) (h1 : how ≠ 1) (h0 : c.key ≠ []) (he : (stepF x.force c).1 = 0) : sendF x c how = (if how = 2 then -1 else 1, ⟨x.log ++ [c], (stepF x.force c).2⟩) := by
  have hk' : ¬ isKnown x.log c.key = true := by rw [hk]; decide
  unfold sendF
  rw [if_neg h3, if_neg h1]
  have ht : takeF x c = (1, ⟨x.log ++ [c], (stepF x.force c).2⟩) := by
    unfold takeF
    rw [if_neg hk', if_neg h0, if_neg (by rw [he]; decide)]
  rw [ht]
  by_cases h2 : how = 2
  · rw [if_pos h2, if_pos h2]
  · rw [if_neg h2, if_neg h2]
/-- one command more in the reference's row -/
theorem RWV.push {F T : Foot} {b : Nat} {log : List Cmd} {w : World} (h : RWV F T b log w) (hTF : ∀ k, T k → ¬ F k) (hF : ∀ k, w.heap.size ≤ k → F k) (c : Cmd) {cs : List Value} {q : Nat} (hq : w.heap[q]? = some (.cells cs.toArray 32)) (hqb : q ≠ b) (hx : CmdR T w c cs) (hl : log.length ≤ 100000) :
    ∃ v, w.heap[b]? = some (.cells #[v] 39 (0, 0)) ∧ (∃ a k, v = .slice a log.length k) ∧ ∃ v' w', AppRun Try.prog 36 36 36 v (.slice (some ⟨q, 0, none⟩) 1 1) v' w w' ∧ (∃ a k, v' = .slice a (log.length + 1) k) ∧ w'.heap[b]? = some (.cells #[v] 39 (0, 0)) ∧ Fr F w w' ∧
      RWV F T b (log ++ [c]) (w'.setCell ⟨b, 0, none⟩ v') ∧ Fr F w (w'.setCell ⟨b, 0, none⟩ v') := by
  obtain ⟨i0, hi, hz0, hz1, hz2⟩ := info_parts infoCmd
  obtain ⟨v, xs, h1, h2, h3, h4, h5⟩ := h
  have hlc := goodCmd.len hx
  have hrow : Row (q + 1) w 6 (.slice (some ⟨q, 0, none⟩) 1 1) 1 cs := ⟨_, _, q, 0, rfl, by rw [hlc], fun _ => ⟨rfl, Nat.lt_succ_self _⟩, fun j hj => by rw [Nat.zero_add, cell_of hq]; simp [hj]⟩
  obtain ⟨v', w', hrun, hown, hg, hv⟩ := append_row w 0 36 36 32 i0 _ 6 96 (by kernel_rfl) hi hz0 hz1 hz2 rfl (by decide) v log.length xs h3 (q + 1) _ 1 cs hrow (goodCmd.one hx) (by unfold maxLen; omega) (by omega) (Nat.zero_le _)
  have hvF : ∀ k, v.ownBlock = some k → F k := fun k hk => (h4 k hk).1
  have hf : Fr F w w' := ⟨hg.os, hg.tape, hg.output, hg.size, fun k hk hs => hg.block k hk (fun e => hs (hvF k e.symm))⟩
  have hb' : w'.heap[b]? = some (.cells #[v] 39 (0, 0)) := (hg.block b (lt_of_some h1) (fun e => (h4 b e.symm).2 rfl)).trans h1
  have hv'b : ∀ k, v'.ownBlock = some k → F k ∧ k ≠ b := fun k hk => by
    rcases hv with e | e
    · exact h4 k (e ▸ hk)
    · rw [e] at hk; injection hk with hk; subst hk
      exact ⟨hF _ (Nat.le_refl _), fun e => by have := lt_of_some h1; omega⟩
  have hset : (w'.setCell ⟨b, 0, none⟩ v').heap[b]? = some (.cells #[v'] 39 (0, 0)) := by
    have := heap_setCell_same (i := 0) hb' v'
    simpa using this
  have hother : ∀ k, k ≠ b → (w'.setCell ⟨b, 0, none⟩ v').heap[k]? = w'.heap[k]? := fun k hk => heap_setCell_other v' hk
  have hT' : ∀ k, k < w.heap.size → T k → T k ∧ (w'.setCell ⟨b, 0, none⟩ v').heap[k]? = w.heap[k]? := fun k hk hs => ⟨hs, (hother k (fun e => hTF k hs (e ▸ h2))).trans (hf.block k hk (hTF k hs))⟩
  refine ⟨v, h1, by obtain ⟨a, k, e, _⟩ := owns_form h3; exact ⟨a, k, e⟩, v', w', ⟨hrun⟩, ?_, hb', hf, ⟨v', xs ++ cs, hset, h2, owns_move (w := w') (by rw [List.length_append]; exact hown) (fun k hk => hother k (hv'b k hk).2) (fun _ _ => Nat.zero_le _), hv'b, fun i y hy => ?_⟩, hf.setCell (Or.inl h2) _⟩
  · obtain ⟨a, k, e, _⟩ := owns_form hown
    exact ⟨a, k, e⟩
  · by_cases hil : i < log.length
    · rw [List.getElem?_append_left hil] at hy
      obtain ⟨ds, h6, h7⟩ := h5 i y hy
      refine ⟨ds, fun j u hu => ?_, goodCmd.move h7 hT'⟩
      have := h6 j u hu
      rw [List.getElem?_append_left (List.getElem?_eq_some_iff.1 this).1]; exact this
    · obtain rfl : i = log.length := by have := (List.getElem?_eq_some_iff.1 hy).1; simp at this; omega
      rw [List.getElem?_append_right (Nat.le_refl _), Nat.sub_self] at hy
      simp at hy
      subst hy
      refine ⟨cs, fun j u hu => ?_, goodCmd.move hx hT'⟩
      rw [List.getElem?_append_right (by rw [h3.1]; omega), h3.1, show log.length * 6 + j - log.length * 6 = j by omega]; exact hu
set_option maxHeartbeats 8000000 in
set_option maxRecDepth 100000 in
theorem rsend_any (F T : Foot) (hTF : ∀ k, T k → ¬ F k) (b : Nat) (x : WS) (c : Cmd) (how : Int) (hcb : CmdB c) (hfold : foldF [] x.log = (0, x.force)) (hl : x.log.length + 1 ≤ 100000) (hfl : x.force.length + 1 ≤ 100000) (cs : List Value) (w : World) (hF : ∀ k, w.heap.size ≤ k → F k) (h : RWV F T b x.log w) (hrc : CmdR T w c cs) :
    Calls Try.prog 13 #[pt b, .agg cs.toArray, iv how] w fun e w' => e = .returned (iv (sendF x c how).1) ∧ RWV F T b (sendF x c how).2.log w' ∧ Fr F w w' := by
  obtain ⟨a1, k1, rfl, hvs⟩ := id hrc
  obtain ⟨key, kd, of, new, name, args⟩ := c
  have hbl : b < w.heap.size := by obtain ⟨v, xs, h1, _⟩ := h; exact lt_of_some h1
  generalize hW1 : w.alloc (.cells #[sv key, iv kd, sv of, sv new, sv name, .slice a1 args.length k1] 32) = W1 at *
  have hb1 : Below w.heap.size w W1 := hW1 ▸ (Below.refl _ w).alloc (Nat.le_refl _) _
  have hs1 : W1.heap.size = w.heap.size + 1 := by rw [← hW1]; simp
  have hbox1 : W1.heap[w.heap.size]? = some (.cells #[sv key, iv kd, sv of, sv new, sv name, .slice a1 args.length k1] 32) := hW1 ▸ heap_alloc_new' w _
  have h1 := h.below hb1
  have hrc1 := goodCmd.below hrc hb1
  have hb1d : Below W1.heap.size W1 W1.drew := (Below.refl _ _).drew
  have hnet := hid (rnet_any x.log (by omega) F T hTF b W1.drew (h1.below hb1d))
  rw [hfold] at hnet
  replace hfold := hid hfold
  replace hTF := hid hTF
  replace hF := hid hF
  replace h1 := hid h1
  replace hrc1 := hid hrc1
  replace hb1 := hid hb1
  replace hvs := hid hvs
  generalize hres : sendF x ⟨key, kd, of, new, name, args⟩ how = res
  replace hres := hid hres
  clear h hrc
  by_cases h3 : how = 3
  · have hy : sendF x ⟨key, kd, of, new, name, args⟩ how = (-1, x) := by unfold sendF; rw [if_pos h3]
    rw [hres.out] at hy
    replace hy := hid hy
    subst h3
    clear hnet
    go_enter Try.func13, Try.ntmps13
    go_wp2_with fail
    go_ret
    exact ⟨by rw [hy.out]; rfl, by rw [hy.out]; exact h1.out, Fr.of_below hb1.out _⟩
  · have q3b : (how == 3) = false := by simpa using h3
    go_enter Try.func13, Try.ntmps13
    go_wp2_with fail
    have e0 : W1.cell? ⟨w.heap.size, 0, none⟩ = some (sv key) := (cell_of hbox1).trans rfl
    have e1 : W1.cell? ⟨w.heap.size, 1, none⟩ = some (iv kd) := (cell_of hbox1).trans rfl
    have e2 : W1.cell? ⟨w.heap.size, 2, none⟩ = some (sv of) := (cell_of hbox1).trans rfl
    have e3 : W1.cell? ⟨w.heap.size, 3, none⟩ = some (sv new) := (cell_of hbox1).trans rfl
    have e4 : W1.cell? ⟨w.heap.size, 4, none⟩ = some (sv name) := (cell_of hbox1).trans rfl
    have e5 : W1.cell? ⟨w.heap.size, 5, none⟩ = some (.slice a1 args.length k1) := (cell_of hbox1).trans rfl
    have hlt1 : w.heap.size < W1.heap.size := by omega
    go_region_held3 (fun w' => w'.cell? ⟨w.heap.size, 0, none⟩ = some (sv key) ∧ w'.cell? ⟨w.heap.size, 1, none⟩ = some (iv kd) ∧ w'.cell? ⟨w.heap.size, 2, none⟩ = some (sv of) ∧ w'.cell? ⟨w.heap.size, 3, none⟩ = some (sv new) ∧ w'.cell? ⟨w.heap.size, 4, none⟩ = some (sv name) ∧ w'.cell? ⟨w.heap.size, 5, none⟩ = some (.slice a1 args.length k1)) (first | with_reducible exact q2 | with_reducible exact q4 | go_keep)
      (first | (go_at_call 27; refine happ.out.mono ?_; rintro e W4 ⟨v4, rfl, hO4, hb4⟩; have hb14 : Below W1.heap.size W1 W4 := hb13.trans (hb4.mono hb13.size); have hbox4 := below_keep hb14 hbox1 hlt1; have q4 : _ ∧ _ ∧ _ ∧ _ ∧ _ ∧ _ := ⟨(cell_of (i := 0) hbox4).trans rfl, (cell_of (i := 1) hbox4).trans rfl, (cell_of (i := 2) hbox4).trans rfl, (cell_of (i := 3) hbox4).trans rfl, (cell_of (i := 4) hbox4).trans rfl, (cell_of (i := 5) hbox4).trans rfl⟩; obtain ⟨a4, k4, rfl, -⟩ := hO4.slice) | (go_at_call 18; refine hnet.out.mono ?_; rintro e W3 ⟨v3, rfl, hN, hb3⟩; have hb13 : Below W1.heap.size W1 W3 := hb1d.trans hb3; have hbox3 := below_keep hb13 hbox1 hlt1; have q2 : _ ∧ _ ∧ _ ∧ _ ∧ _ ∧ _ := ⟨(cell_of (i := 0) hbox3).trans rfl, (cell_of (i := 1) hbox3).trans rfl, (cell_of (i := 2) hbox3).trans rfl, (cell_of (i := 3) hbox3).trans rfl, (cell_of (i := 4) hbox3).trans rfl, (cell_of (i := 5) hbox3).trans rfl⟩; have happ := hid (apply44_any ⟨key, kd, of, new, name, args⟩ x.force (by omega) (fun _ => True) v3 W3 hN _ (goodCmd.mono (goodCmd.below hrc1.out hb13) (fun _ _ _ => trivial)) (fun _ _ => trivial)); obtain ⟨a3, k3, rfl, -⟩ := hN.slice))
    clear e0 e1 e2 e3 e4 e5 q2 q4 happ hnet hb3 hb13 hbox3 hb4 hN hW1 hb1d
    have hst : Hid (stepF x.force ⟨key, kd, of, new, name, args⟩ = stepF x.force ⟨key, kd, of, new, name, args⟩) := hid rfl
    generalize hE : (stepF x.force ⟨key, kd, of, new, name, args⟩).1 = E at *
    replace hE := hid hE
    replace hb14 := hid hb14
    have hk4 := hid (rknown_any x.log key (by omega) F T hTF.out b W4 (h1.out.below hb14.out))
    have x0 : W4.cell? ⟨w.heap.size, 0, none⟩ = some (sv key) := (cell_of hbox4).trans rfl
    go_wp2_with fail
    refine hk4.out.mono ?_
    rintro e W5 ⟨rfl, hb5⟩
    have hbox5 := below_keep hb5 hbox4 (Nat.lt_of_lt_of_le hlt1 hb14.out.size)
    have hb15 := hb14.out.trans (hb5.mono hb14.out.size)
    have hb05 := hid (hb1.out.trans (hb15.mono hb1.out.size))
    have h5 := hid (h1.out.below hb15)
    have hrc5 := hid (goodCmd.below hrc1.out hb15)
    clear hb5 hb14 hbox4 hk4 x0 h1 hrc1 hb15 hst hO4
    have x0 : W5.cell? ⟨w.heap.size, 0, none⟩ = some (sv key) := (cell_of hbox5).trans rfl
    cases hkn : isKnown x.log key with
    | true =>
      by_cases hw : how = 2
      · have hy : sendF x ⟨key, kd, of, new, name, args⟩ how = (-1, x) := by rw [sendF_known hkn, if_pos (Or.inl hw)]
        rw [hres.out] at hy
        replace hy := hid hy
        have q2 : (how == 2) = true := by simpa using hw
        clear hkn h3
        go_wp2_with fail
        go_ret
        exact ⟨by rw [hy.out]; rfl, by rw [hy.out]; exact h5.out, Fr.of_below hb05.out _⟩
      · have hy : sendF x ⟨key, kd, of, new, name, args⟩ how = (1, x) := by rw [sendF_known hkn, if_neg (by omega)]
        rw [hres.out] at hy
        replace hy := hid hy
        have q2 : (how == 2) = false := by simpa using hw
        clear hkn h3
        go_wp2_with fail
        go_ret
        exact ⟨by rw [hy.out]; rfl, by rw [hy.out]; exact h5.out, Fr.of_below hb05.out _⟩
    | false =>
      have hbad : (how = 1 ∨ key = [] ∨ E ≠ 0) → sendF x ⟨key, kd, of, new, name, args⟩ how = (if how = 2 then -1 else 0, x) := fun hb => sendF_bad hkn h3 (hb.imp id (Or.imp id (fun h => by rw [hE.out]; exact h)))
      have hgood : how ≠ 1 → key ≠ [] → E = 0 → sendF x ⟨key, kd, of, new, name, args⟩ how = (if how = 2 then -1 else 1, ⟨x.log ++ [⟨key, kd, of, new, name, args⟩], (stepF x.force ⟨key, kd, of, new, name, args⟩).2⟩) := fun h1 h0 he => sendF_good hkn h3 h1 h0 (by rw [hE.out]; exact he)
      rw [hres.out] at hbad hgood
      replace hbad := hid hbad
      replace hgood := hid hgood
      clear hkn
      by_cases hw1 : how = 1
      · have hy := hid (hbad.out (Or.inl hw1))
        subst hw1
        clear hbad hgood
        go_wp2_with fail
        go_ret
        exact ⟨by rw [hy.out]; rfl, by rw [hy.out]; exact h5.out, Fr.of_below hb05.out _⟩
      have q1 : (how == 1) = false := by simpa using hw1
      have q1n : (how != 1) = true := by simpa using hw1
      rcases key with _ | ⟨kc, kr⟩
      · have hy := hbad.out (Or.inr (Or.inl rfl))
        clear hbad hgood
        by_cases hw : how = 2
        · rw [if_pos hw] at hy
          replace hy := hid hy
          have q2 : (how == 2) = true := by simpa using hw
          clear hw h3 hw1
          go_wp2_with fail
          go_ret
          exact ⟨by rw [hy.out]; rfl, by rw [hy.out]; exact h5.out, Fr.of_below hb05.out _⟩
        · rw [if_neg hw] at hy
          replace hy := hid hy
          have q2 : (how == 2) = false := by simpa using hw
          clear hw h3 hw1
          go_wp2_with fail
          go_ret
          exact ⟨by rw [hy.out]; rfl, by rw [hy.out]; exact h5.out, Fr.of_below hb05.out _⟩
      by_cases he : E = 0
      · have hy := hgood.out hw1 (by simp) he
        clear hbad hgood
        have x1 : W5.cell? ⟨w.heap.size, 1, none⟩ = some (iv kd) := (cell_of hbox5).trans rfl
        have x2 : W5.cell? ⟨w.heap.size, 2, none⟩ = some (sv of) := (cell_of hbox5).trans rfl
        have x3 : W5.cell? ⟨w.heap.size, 3, none⟩ = some (sv new) := (cell_of hbox5).trans rfl
        have x4 : W5.cell? ⟨w.heap.size, 4, none⟩ = some (sv name) := (cell_of hbox5).trans rfl
        have x5 : W5.cell? ⟨w.heap.size, 5, none⟩ = some (.slice a1 args.length k1) := (cell_of hbox5).trans rfl
        subst he
        have hbn : Below W5.heap.size W5 (W5.drew.alloc (.cells (cmdCs ⟨kc :: kr, kd, of, new, name, args⟩ (.slice a1 args.length k1)).toArray 32)) := (Below.refl _ _).drew.alloc (Nat.le_refl _) _
        have hw5 : w.heap.size ≤ W5.heap.size := hb05.out.size
        obtain ⟨v, hbv, ⟨a8, k8, rfl⟩, v', w', hap, ⟨a9, k9, rfl⟩, hb9, hf9, hR9, hfr9⟩ := RWV.push (h5.out.below hbn) hTF.out (fun k hk => hF.out k (Nat.le_trans (Nat.le_trans hw5 hbn.size) hk)) ⟨kc :: kr, kd, of, new, name, args⟩ (heap_alloc_new' W5.drew _) (by show W5.heap.size ≠ b; omega) (goodCmd.below hrc5.out hbn) (by omega)
        have hF9 := hid ((Fr.of_below hb05.out F).trans ((Fr.of_below hbn F).trans hfr9))
        replace hR9 := hid hR9
        have hbv5 : W5.heap[b]? = some (.cells #[.slice a8 x.log.length k8] 39 (0, 0)) := (hbn.block b (Nat.lt_of_lt_of_le hbl hw5)).symm.trans hbv
        have b0 : W5.cell? ⟨b, 0, none⟩ = some (.slice a8 x.log.length k8) := (cell_of hbv5).trans rfl
        replace hap : AppRun Try.prog 36 36 36 (.slice a8 x.log.length k8) (.slice (some ⟨W5.heap.size, 0, none⟩) 1 1) (.slice a9 (x.log.length + 1) k9) (W5.alloc (.cells #[sv (kc :: kr), iv kd, sv of, sv new, sv name, .slice a1 args.length k1] 32)).drew w' := hap
        have b1 : (W5.alloc (.cells #[sv (kc :: kr), iv kd, sv of, sv new, sv name, .slice a1 args.length k1] 32)).cell? ⟨b, 0, none⟩ = some (.slice a8 x.log.length k8) := (cell_of hbv).trans rfl
        have b2 : w'.cell? ⟨b, 0, none⟩ = some (.slice a8 x.log.length k8) := (cell_of hb9).trans rfl
        have b3 : w'.frozen? ⟨b, 0, none⟩ = false := free_of hb9
        clear hbn hbv hb9 hf9 hfr9 hbox5 h5 hE hbv5
        by_cases hw : how = 2
        · rw [if_pos hw] at hy
          replace hy := hid hy
          have q2 : (how == 2) = true := by simpa using hw
          clear hw h3 hw1
          go_wp2_with fail
          go_region_law (refine step_append_shut (by rfl) (.tmp 38) (.tmp 40) (by rfl) (by rfl) (by rfl) hap ?_)
          all_goals
            go_wp2_with fail
            go_ret
            exact ⟨by rw [hy.out]; rfl, by rw [hy.out]; exact hR9.out, hF9.out⟩
        · rw [if_neg hw] at hy
          replace hy := hid hy
          have q2 : (how == 2) = false := by simpa using hw
          clear hw h3 hw1
          go_wp2_with fail
          go_region_law (refine step_append_shut (by rfl) (.tmp 38) (.tmp 40) (by rfl) (by rfl) (by rfl) hap ?_)
          all_goals
            go_wp2_with fail
            go_ret
            exact ⟨by rw [hy.out]; rfl, by rw [hy.out]; exact hR9.out, hF9.out⟩
      · have hy := hbad.out (Or.inr (Or.inr he))
        have qe : (E == 0) = false := by simpa using he
        clear hbad hgood he
        by_cases hw : how = 2
        · rw [if_pos hw] at hy
          replace hy := hid hy
          have q2 : (how == 2) = true := by simpa using hw
          clear hw h3 hw1
          go_wp2_with fail
          go_ret
          exact ⟨by rw [hy.out]; rfl, by rw [hy.out]; exact h5.out, Fr.of_below hb05.out _⟩
        · rw [if_neg hw] at hy
          replace hy := hid hy
          have q2 : (how == 2) = false := by simpa using hw
          clear hw h3 hw1
          go_wp2_with fail
          go_ret
          exact ⟨by rw [hy.out]; rfl, by rw [hy.out]; exact h5.out, Fr.of_below hb05.out _⟩
end Go.Proofs.Ythagdeadmoidnaa
