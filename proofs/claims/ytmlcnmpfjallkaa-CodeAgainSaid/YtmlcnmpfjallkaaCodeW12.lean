/- Chapter 02 (code): walks: the reference Reader's List and Nums. -/
import Derived.Test.YtmlcnmpfjallkaaCodeW10
set_option linter.unusedVariables false
namespace Go.Proofs.Ytmlcnmpfjallkaa
open Go.RowKit
open Go.Lib (hid IsBuilder byteCells)

theorem stNum_good (st : St) (hg : st.2 = true → st.1 = []) : (stNum st).2.2 = true → (stNum st).1 = 0 := by
  intro h
  rcases hd : dnum 9 true st.1 with _ | ⟨n, r⟩
  · rw [stNum_none st hd]
  · rw [stNum_some st n r hd] at h
    rw [hg h, dnum_nil] at hd
    cases hd

set_option maxHeartbeats 2000000 in
set_option maxRecDepth 100000 in
theorem rreadList (b : Nat) (st : St) (w : World) (h : Rd 61 b st w) (hs : st.1.length ≤ 1000000000) (hg : st.2 = true → st.1 = []) :
    Calls Try.prog 31 #[.pointer (some ⟨b, 0, none⟩)] w (RdRow 61 9 b w ((stList st).1.map sv) (stList st).2) := by
  have hlt0 : b < w.heap.size := lt_of_heap h
  have hn : stNum st = ((stNum st).1, (stNum st).2) := rfl
  have hN := rreadNum b st w h (by omega)
  have hl := (stNum_lt st).2
  have hz := (stNum_lt st).1
  have hgood := stNum_good st hg
  unfold stList
  generalize (stNum st).1 = n at *
  generalize (stNum st).2 = st1 at *
  have info : (Try.prog.info? 9).map (fun i => (i.zero, i.size, i.bytes)) = some (some (.string ByteArray.empty), 1, 16) := by kernel_rfl
  obtain ⟨i0, hi, hz0, hz1, hz2⟩ := info_parts info
  clear info hg
  have HN := hid hN
  replace hn := hid hn
  clear hN
  obtain ⟨st2, h2⟩ : ∃ st2, (if st1.1.length < n then failed else st1) = st2 := ⟨_, rfl⟩
  have hgn : st1.1.length < n ∨ (n ≤ st1.1.length ∧ st2 = st1) := by
    by_cases hgt : st1.1.length < n
    · exact Or.inl hgt
    · rw [if_neg hgt] at h2; exact Or.inr ⟨by omega, h2.symm⟩
  have hbig : st1.1.length < n → st2 = failed := fun hgt => by rw [if_pos hgt] at h2; exact h2.symm
  replace h2 := hid h2
  rcases hgn with hgt | ⟨hgt, rfl⟩
  · have e2 := hbig hgt
    subst e2
    clear hbig hgood
    have hfin := stMany_bad stText st n st1 failed [] failed hn.out h2.out (iter_bad _ _ _ rfl) rfl
    replace hfin := hid hfin
    go_enter Try.func31, Try.ntmps31
    go_wp2_with (first | (go_at_call 24; refine HN.out.mono ?_; rintro e w1 ⟨rfl, h1, hf1⟩; have c0 := h1.c0; have c1 := h1.c1) | (go_at_call 49; refine (rfail_any b _ _ h1).mono ?_; rintro e w2 ⟨rfl, h3, hf2⟩))
    go_ret
    refine ⟨_, rfl, ?_, ?_, hf1.trans hf2⟩
    · rw [hfin.out]; exact World.ownsRow_nil _ _ _ _
    · rw [hfin.out]; exact h3
  · clear hbig
    have hdn : decide (st2.1.length < n) = false := by simp; omega
    have hgood2 : st2.2 = true → n = 0 := hgood
    clear hgood
    replace hgood2 := hid hgood2
    go_enter Try.func31, Try.ntmps31
    go_wp2_with (first | (go_at_call 24; refine HN.out.mono ?_; rintro e w1 ⟨rfl, h1, hf1⟩; have c0 := h1.c0; have c1 := h1.c1))
    have hf1s := hf1.size
    go_loopw [4, 5] (fun v i wr => ∃ (k : Nat) (xs : List (List UInt8)) (st' : St), i = .int .i64 k ∧ Rounds stText n st2 k xs st' ∧ wr.ownsRow w.heap.size 9 1 v xs.length (xs.map sv) ∧ Rd 61 b st' wr ∧ Fr (one b) w wr ∧ (st'.2 = true → n = 0)) (fun _ i _ => n - (intOf i).toNat)
    case atStart => exact ⟨0, [], st2, rfl, Rounds.start _ _ _, World.ownsRow_nil _ _ _ _, h1, hf1, hgood2.out⟩
    case round =>
      obtain ⟨k, xs, st', rfl, hR, hown, hrd, hfr, hgd⟩ := hrel
      clear c0 c1 h1 hf1 hf1s HN
      have hfs := hfr.size
      have c0 := hrd.c0; have c1 := hrd.c1
      have hkn := hR.2.1
      have hxk := hR.1
      have hsl := hR.2.2.2
      by_cases hk : k < n
      · have hb : st'.2 = false := by
          cases hb : st'.2 with
          | false => rfl
          | true => have := hgd hb; omega
        rw [hb] at c1
        have hS := hR.step hk hb (stText_len st')
        replace hR := hid hR
        replace hxk := hid hxk
        replace hgd := hid hgd
        have hxl : xs.length ≤ 1000000000 := by rw [hxk.out]; omega
        cases hbb : (stText st').2.2
        · replace hS := hid hS
          replace hbb := hid hbb
          go_wp2_with (first | (go_at_call 28; refine (rreadText b st' _ hrd (by omega)).mono ?_; rintro e w2 ⟨rfl, h3, hf2⟩; have ho2 := owns_fr hown hf2 hlt0; have hs2 := hf2.size) | (at_builtin; refine wpList_append_own _ rfl _ _ 22 rfl w.heap.size 9 i0 (.string ByteArray.empty) 1 16 Try.underlying22 hi hz0 hz1 hz2 rfl (by decide) _ _ _ rfl (ho2.alloc _) ⟨w2.heap.size, 0, none⟩ 1 1 [sv (stText st').1] rfl rfl (new1 _ _ _) (one1 rfl) (by unfold maxLen; omega) (by omega) (by simp; omega) ?_; intro v' w3 hown' hgrow3 hnil3; have h6 : Rd 61 b (stText st').2 w3 := (hgrow3.block b (lt_of_heap (heap_alloc_lt h3)) (fun e => by have := (ho2.lt b e.symm).1; omega)).trans (heap_alloc_lt h3); have d1 := h6.c1; rw [hbb.out] at d1))
          clear hnil3
          go_roundw
          case rel =>
            refine ⟨k + 1, xs ++ [(stText st').1], (stText st').2, by go_num, hS.out, by simpa using hown', h6, ((hfr.trans hf2).alloc _).grown hgrow3 (fun q hq => Or.inr (ho2.lt q hq).1), fun hx => by rw [hbb.out] at hx; cases hx⟩
          case measure => simp [intOf]; omega
        · have hfin := stMany_bad stText st n st2 st2 _ (stText st').2 hn.out h2.out (hS.fin (Or.inr hbb)) hbb
          replace hfin := hid hfin
          replace hbb := hid hbb
          clear hS
          go_wp2_with (first | (go_at_call 28; refine (rreadText b st' _ hrd (by omega)).mono ?_; rintro e w2 ⟨rfl, h3, hf2⟩; have ho2 := owns_fr hown hf2 hlt0; have hs2 := hf2.size) | (at_builtin; refine wpList_append_own _ rfl _ _ 22 rfl w.heap.size 9 i0 (.string ByteArray.empty) 1 16 Try.underlying22 hi hz0 hz1 hz2 rfl (by decide) _ _ _ rfl (ho2.alloc _) ⟨w2.heap.size, 0, none⟩ 1 1 [sv (stText st').1] rfl rfl (new1 _ _ _) (one1 rfl) (by unfold maxLen; omega) (by omega) (by simp; omega) ?_; intro v' w3 hown' hgrow3 hnil3; have h6 : Rd 61 b (stText st').2 w3 := (hgrow3.block b (lt_of_heap (heap_alloc_lt h3)) (fun e => by have := (ho2.lt b e.symm).1; omega)).trans (heap_alloc_lt h3); have d1 := h6.c1; rw [hbb.out] at d1))
          go_ret
          refine ⟨_, rfl, ?_, ?_, ((hfr.trans hf2).alloc _).grown hgrow3 (fun q hq => Or.inr (ho2.lt q hq).1)⟩
          · rw [hfin.out]; exact World.ownsRow_nil _ _ _ _
          · rw [hfin.out]; exact h6
      · have hkn2 : k = n := by omega
        have hiter := hR.fin (Or.inl hkn2)
        have hfin : stMany stText st = (xs, st') := by
          cases hb : st'.2
          · exact stMany_ok stText st n st2 st2 xs st' hn.out h2.out hiter hb
          · have h0 := hgd hb
            have hx0 : xs = [] := List.eq_nil_of_length_eq_zero (by omega)
            subst hx0
            exact stMany_bad stText st n st2 st2 [] st' hn.out h2.out hiter hb
        replace hfin := hid hfin
        replace hkn2 := hid hkn2
        clear hxk hR hgd hiter
        go_wp2
        go_ret
        refine ⟨_, rfl, ?_, ?_, hfr⟩
        · rw [hfin.out]; simpa using hown
        · rw [hfin.out]; exact hrd

set_option maxHeartbeats 2000000 in
set_option maxRecDepth 100000 in
theorem rreadNums (b : Nat) (st : St) (w : World) (h : Rd 61 b st w) (hs : st.1.length ≤ 1000000000) (hg : st.2 = true → st.1 = []) :
    Calls Try.prog 34 #[.pointer (some ⟨b, 0, none⟩)] w (RdRow 61 3 b w ((stNums st).1.map iv) (stNums st).2) := by
  have hlt0 : b < w.heap.size := lt_of_heap h
  have hn : stNum st = ((stNum st).1, (stNum st).2) := rfl
  have hN := rreadNum b st w h (by omega)
  have hl := (stNum_lt st).2
  have hz := (stNum_lt st).1
  have hgood := stNum_good st hg
  unfold stNums
  generalize (stNum st).1 = n at *
  generalize (stNum st).2 = st1 at *
  have info : (Try.prog.info? 3).map (fun i => (i.zero, i.size, i.bytes)) = some (some (.int .i64 0), 1, 8) := by kernel_rfl
  obtain ⟨i0, hi, hz0, hz1, hz2⟩ := info_parts info
  clear info hg
  have HN := hid hN
  replace hn := hid hn
  clear hN
  obtain ⟨st2, h2⟩ : ∃ st2, (if st1.1.length < n then failed else st1) = st2 := ⟨_, rfl⟩
  have hgn : st1.1.length < n ∨ (n ≤ st1.1.length ∧ st2 = st1) := by
    by_cases hgt : st1.1.length < n
    · exact Or.inl hgt
    · rw [if_neg hgt] at h2; exact Or.inr ⟨by omega, h2.symm⟩
  have hbig : st1.1.length < n → st2 = failed := fun hgt => by rw [if_pos hgt] at h2; exact h2.symm
  replace h2 := hid h2
  rcases hgn with hgt | ⟨hgt, rfl⟩
  · have e2 := hbig hgt
    subst e2
    clear hbig hgood
    have hfin := stMany_bad stInt st n st1 failed [] failed hn.out h2.out (iter_bad _ _ _ rfl) rfl
    replace hfin := hid hfin
    go_enter Try.func34, Try.ntmps34
    go_wp2_with (first | (go_at_call 24; refine HN.out.mono ?_; rintro e w1 ⟨rfl, h1, hf1⟩; have c0 := h1.c0; have c1 := h1.c1) | (go_at_call 49; refine (rfail_any b _ _ h1).mono ?_; rintro e w2 ⟨rfl, h3, hf2⟩))
    go_ret
    refine ⟨_, rfl, ?_, ?_, hf1.trans hf2⟩
    · rw [hfin.out]; exact World.ownsRow_nil _ _ _ _
    · rw [hfin.out]; exact h3
  · clear hbig
    have hdn : decide (st2.1.length < n) = false := by simp; omega
    have hgood2 : st2.2 = true → n = 0 := hgood
    clear hgood
    replace hgood2 := hid hgood2
    go_enter Try.func34, Try.ntmps34
    go_wp2_with (first | (go_at_call 24; refine HN.out.mono ?_; rintro e w1 ⟨rfl, h1, hf1⟩; have c0 := h1.c0; have c1 := h1.c1))
    have hf1s := hf1.size
    go_loopw [4, 5] (fun v i wr => ∃ (k : Nat) (xs : List Int) (st' : St), i = .int .i64 k ∧ Rounds stInt n st2 k xs st' ∧ wr.ownsRow w.heap.size 3 1 v xs.length (xs.map iv) ∧ Rd 61 b st' wr ∧ Fr (one b) w wr ∧ (st'.2 = true → n = 0)) (fun _ i _ => n - (intOf i).toNat)
    case atStart => exact ⟨0, [], st2, rfl, Rounds.start _ _ _, World.ownsRow_nil _ _ _ _, h1, hf1, hgood2.out⟩
    case round =>
      obtain ⟨k, xs, st', rfl, hR, hown, hrd, hfr, hgd⟩ := hrel
      clear c0 c1 h1 hf1 hf1s HN
      have hfs := hfr.size
      have c0 := hrd.c0; have c1 := hrd.c1
      have hkn := hR.2.1
      have hxk := hR.1
      have hsl := hR.2.2.2
      by_cases hk : k < n
      · have hb : st'.2 = false := by
          cases hb : st'.2 with
          | false => rfl
          | true => have := hgd hb; omega
        rw [hb] at c1
        have hS := hR.step hk hb (stInt_len st')
        replace hR := hid hR
        replace hxk := hid hxk
        replace hgd := hid hgd
        have hxl : xs.length ≤ 1000000000 := by rw [hxk.out]; omega
        cases hbb : (stInt st').2.2
        · replace hS := hid hS
          replace hbb := hid hbb
          go_wp2_with (first | (go_at_call 26; refine (rreadInt b st' _ hrd (by omega)).mono ?_; rintro e w2 ⟨rfl, h3, hf2⟩; have ho2 := owns_fr hown hf2 hlt0; have hs2 := hf2.size) | (at_builtin; refine wpList_append_own _ rfl _ _ 23 rfl w.heap.size 3 i0 (.int .i64 0) 1 8 Try.underlying23 hi hz0 hz1 hz2 rfl (by decide) _ _ _ rfl (ho2.alloc _) ⟨w2.heap.size, 0, none⟩ 1 1 [iv (stInt st').1] rfl rfl (new1 _ _ _) (one1 rfl) (by unfold maxLen; omega) (by omega) (by simp; omega) ?_; intro v' w3 hown' hgrow3 hnil3; have h6 : Rd 61 b (stInt st').2 w3 := (hgrow3.block b (lt_of_heap (heap_alloc_lt h3)) (fun e => by have := (ho2.lt b e.symm).1; omega)).trans (heap_alloc_lt h3); have d1 := h6.c1; rw [hbb.out] at d1))
          clear hnil3
          go_roundw
          case rel =>
            refine ⟨k + 1, xs ++ [(stInt st').1], (stInt st').2, by go_num, hS.out, by simpa using hown', h6, ((hfr.trans hf2).alloc _).grown hgrow3 (fun q hq => Or.inr (ho2.lt q hq).1), fun hx => by rw [hbb.out] at hx; cases hx⟩
          case measure => simp [intOf]; omega
        · have hfin := stMany_bad stInt st n st2 st2 _ (stInt st').2 hn.out h2.out (hS.fin (Or.inr hbb)) hbb
          replace hfin := hid hfin
          replace hbb := hid hbb
          clear hS
          go_wp2_with (first | (go_at_call 26; refine (rreadInt b st' _ hrd (by omega)).mono ?_; rintro e w2 ⟨rfl, h3, hf2⟩; have ho2 := owns_fr hown hf2 hlt0; have hs2 := hf2.size) | (at_builtin; refine wpList_append_own _ rfl _ _ 23 rfl w.heap.size 3 i0 (.int .i64 0) 1 8 Try.underlying23 hi hz0 hz1 hz2 rfl (by decide) _ _ _ rfl (ho2.alloc _) ⟨w2.heap.size, 0, none⟩ 1 1 [iv (stInt st').1] rfl rfl (new1 _ _ _) (one1 rfl) (by unfold maxLen; omega) (by omega) (by simp; omega) ?_; intro v' w3 hown' hgrow3 hnil3; have h6 : Rd 61 b (stInt st').2 w3 := (hgrow3.block b (lt_of_heap (heap_alloc_lt h3)) (fun e => by have := (ho2.lt b e.symm).1; omega)).trans (heap_alloc_lt h3); have d1 := h6.c1; rw [hbb.out] at d1))
          go_ret
          refine ⟨_, rfl, ?_, ?_, ((hfr.trans hf2).alloc _).grown hgrow3 (fun q hq => Or.inr (ho2.lt q hq).1)⟩
          · rw [hfin.out]; exact World.ownsRow_nil _ _ _ _
          · rw [hfin.out]; exact h6
      · have hkn2 : k = n := by omega
        have hiter := hR.fin (Or.inl hkn2)
        have hfin : stMany stInt st = (xs, st') := by
          cases hb : st'.2
          · exact stMany_ok stInt st n st2 st2 xs st' hn.out h2.out hiter hb
          · have h0 := hgd hb
            have hx0 : xs = [] := List.eq_nil_of_length_eq_zero (by omega)
            subst hx0
            exact stMany_bad stInt st n st2 st2 [] st' hn.out h2.out hiter hb
        replace hfin := hid hfin
        replace hkn2 := hid hkn2
        clear hxk hR hgd hiter
        go_wp2
        go_ret
        refine ⟨_, rfl, ?_, ?_, hfr⟩
        · rw [hfin.out]; simpa using hown
        · rw [hfin.out]; exact hrd

end Go.Proofs.Ytmlcnmpfjallkaa
