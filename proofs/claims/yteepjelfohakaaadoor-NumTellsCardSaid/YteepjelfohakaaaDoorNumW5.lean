/- Chapter 01 (num): walks: the reference's Mul and Parse. -/
import Derived.Test.YteepjelfohakaaaDoorNumW4
set_option linter.unusedVariables false
namespace Go.Proofs.YteepjelfohakaaaDoor
open Go.RowKit
open Go.Lib (hid itoa)
set_option maxRecDepth 100000 in
set_option maxHeartbeats 1000000 in
theorem rmul_any (a b : Int) (w : World) : Calls Tryd.prog 14 #[iv a, iv b] w fun e w' => e = .returned (two (mul1 a b) (mul2 a b)) ∧ w = w' := by
  cases h : rng a
  · have e : mul2 a b = false := by unfold mul2; rw [h]; rfl
    unfold mul1
    rw [e]
    clear e
    go_enter Tryd.func14, Tryd.ntmps14
    go_wp2_with (go_at_call 29; refine (rin_any a _).mono ?_; rintro e w' ⟨rfl, rfl⟩; rw [h])
    go_ret2
    exact ⟨rfl, rfl⟩
  · cases k : rng b
    · have e : mul2 a b = false := by unfold mul2; rw [h, k]; rfl
      unfold mul1
      rw [e]
      clear e
      go_enter Tryd.func14, Tryd.ntmps14
      go_wp2_with (go_at_call 29; refine (rin_any _ _).mono ?_; rintro e w' ⟨rfl, rfl⟩; first | rw [h] | rw [k])
      go_ret2
      exact ⟨rfl, rfl⟩
    · have hha := absI_rng h
      have hhb := absI_rng k
      have ha := (rng_iff a).1 h
      have hb := (rng_iff b).1 k
      obtain ⟨ha1, ha2⟩ := ha
      obtain ⟨hb1, hb2⟩ := hb
      by_cases h0 : a = 0
      · subst h0
        have hm := mul_zero' b k
        rw [hm.1, hm.2]
        clear hm
        go_enter Tryd.func14, Tryd.ntmps14
        go_wp2_with (go_at_call 29; refine (rin_any _ _).mono ?_; rintro e w' ⟨rfl, rfl⟩; first | rw [h] | rw [k])
        go_ret2
        exact ⟨by simp, rfl⟩
      · have ht := mul_test h k h0
        have hz : (a != 0) = true := by simpa using h0
        have h1 : 1 ≤ absI a := by unfold absI; split <;> omega
        have h2 : 0 < absI a := by omega
        rw [← max_abs a] at ht h1 h2 hha
        rw [← max_abs b] at ht hhb
        obtain ⟨hA, hA2⟩ := hha
        obtain ⟨hB, hB2⟩ := hhb
        cases hm : decide (9007199254740992 / max a (-a) < max b (-b))
        · rw [hm] at ht
          have hr := (rng_iff _).1 (mul_true ht).2.2.1
          obtain ⟨hr1, hr2⟩ := hr
          rw [ht, (mul_true ht).2.2.2]
          clear ht h0
          go_enter Tryd.func14, Tryd.ntmps14
          go_wp2_with (first | (go_at_call 29; refine (rin_any _ _).mono ?_; rintro e w' ⟨rfl, rfl⟩; first | rw [h] | rw [k]))
          go_ret2
          exact ⟨rfl, rfl⟩
        · rw [hm] at ht
          have e : mul1 a b = 0 := by unfold mul1; rw [ht]; rfl
          rw [ht, e]
          clear ht h0 e
          go_enter Tryd.func14, Tryd.ntmps14
          go_wp2_with (first | (go_at_call 29; refine (rin_any _ _).mono ?_; rintro e w' ⟨rfl, rfl⟩; first | rw [h] | rw [k]))
          go_ret2
          exact ⟨rfl, rfl⟩


/-- the end of the reference's Parse -/
def rfin (s : List UInt8) (neg : Bool) (m low high : Int) : Option Int :=
  if neg then (if itoa m = s then (if m < low ∨ high < m then none else some m) else none)
  else if m = -9223372036854775808 then none else if itoa (-m) = s then (if -m < low ∨ high < -m then none else some (-m)) else none
theorem rfin_eq (s : List UInt8) (m low high : Int) (h : pgo (pdig s) 0 = some m) : parse s low high = rfin s (pneg s) m low high := by
  have hle := pgo_ge _ 0 m h (by omega) (by omega)
  have hle2 : m ≤ 0 := by
    obtain ⟨hd, hv⟩ := pgo_some _ _ _ h
    rw [hv]; exact valI_le _ 0 hd (Int.le_refl _)
  cases hb : pbad s with
  | true =>
    have hp : parse s low high = none := by unfold parse; rw [hb]; rfl
    rw [hp]
    have hno : ∀ k : Int, -9223372036854775808 ≤ k → k ≤ 9223372036854775807 → itoa k ≠ s := by
      intro k h1 h2 e
      have := (itoa_parts k h1 h2).1
      rw [e, hb] at this; cases this
    unfold rfin
    split
    · rw [if_neg (hno m hle (by omega))]
    · split
      · rfl
      · rw [if_neg (hno (-m) (by omega) (by omega))]
  | false =>
    have hp := parse_good s low high hb
    rw [h] at hp
    have hp2 : parse s low high = pend (pneg s) m low high := hp
    have hwide : ∀ k, pend (pneg s) m (-9223372036854775808) 9223372036854775807 = some k → itoa k = s := by
      intro k hk
      have := parse_good s (-9223372036854775808) 9223372036854775807 hb
      rw [h] at this
      exact (parse_some (this.trans hk)).1
    rw [hp2]
    unfold pend at hwide ⊢
    unfold rfin
    cases hn : pneg s with
    | true =>
      rw [hn] at hwide
      simp only [if_true] at hwide ⊢
      rw [if_pos (hwide m (by rw [if_neg (by omega)]))]
    | false =>
      rw [hn] at hwide
      simp only [Bool.false_eq_true, if_false] at hwide ⊢
      by_cases hm : m = -9223372036854775808
      · rw [if_pos hm, if_pos hm]
      · rw [if_neg hm, if_neg hm, if_pos (hwide (-m) (by rw [if_neg hm, if_neg (by omega)]))]
theorem parse_pgo_none (s : List UInt8) (low high : Int) (h : pgo (pdig s) 0 = none) : parse s low high = none := by
  unfold parse; rw [h]; split <;> rfl

set_option maxRecDepth 100000 in
set_option maxHeartbeats 4000000 in
theorem rparse_any (s : List UInt8) (low high : Int) (w : World) (hs : s.length ≤ 140737488355328) : Calls Tryd.prog 22 #[sv s, iv low, iv high] w fun e w' => e = .returned (optv (parse s low high)) ∧ Below w.heap.size w w' := by
  have hfin := hid (fun m (h : pgo (pdig s) 0 = some m) => rfin_eq s m low high h)
  have hnone := hid (parse_pgo_none s low high)
  have hlen : (pdig s).length ≤ 140737488355328 := by
    unfold pdig; split
    · simp; omega
    · exact hs
  go_enter Tryd.func22, Tryd.ntmps22
  go_upto_region 2 with (fail)
  go_cut [9] (fun g w' => g = .bool (pneg s) ∧ w = w')
  case first =>
    rcases s with _ | ⟨c, r⟩
    · go_wp2
      go_meet
      case rel => exact ⟨rfl, rfl⟩
    · have hi := idx_str0 (P := Tryd.prog) 9 (by kernel_rfl) c r
      have e2 := hid (pneg_cons c r)
      by_cases hc : c = 45
      · subst hc
        go_wp2
        go_meet
        case rel => exact ⟨by rw [e2.out]; rfl, rfl⟩
      · have h45 : ((c.toNat : Int) == 45) = false := byte_ne hc
        have e3 := hid (show decide (c = 45) = false from decide_eq_false hc)
        clear hc
        go_wp2
        go_meet
        case rel => exact ⟨by rw [e2.out, e3.out], rfl⟩
  case rest =>
    obtain ⟨rfl, rfl⟩ := hcut
    cases hpn : pneg s with
    | true =>
      obtain ⟨r, rfl⟩ : ∃ r, s = 45 :: r := by
        cases s with
        | nil => exact absurd hpn (by decide)
        | cons x r =>
          rw [pneg_cons] at hpn
          exact ⟨r, by rw [of_decide_eq_true hpn]⟩
      have e1 : pdig ((45 : UInt8) :: r) = r := by unfold pdig; rw [hpn]; rfl
      rw [e1] at hfin hnone hlen
      rw [hpn] at hfin
      have hex := ext_tail 45 r
      replace hpn := hid hpn
      replace e1 := hid e1
      go_wp2_with fail
      go_loop [11, 12] (fun n i => ∃ (pos : Nat) (m : Int), i = .int .i64 pos ∧ n = .int .i64 m ∧ pos ≤ r.length ∧ -9223372036854775808 ≤ m ∧ m ≤ 0 ∧ pgo r 0 = pgo (r.drop pos) m) (fun _ i => r.length - (intOf i).toNat)
      case atStart => exact ⟨0, 0, rfl, rfl, Nat.zero_le _, by omega, by omega, rfl⟩
      case round =>
        obtain ⟨pos, m, rfl, rfl, hp, h0, h1, h2⟩ := hrel
        by_cases hlt : pos < r.length
        · obtain ⟨q, hq⟩ : ∃ q, r[pos]? = some q := ⟨_, List.getElem?_eq_getElem hlt⟩
          have hix := idx_str (P := Tryd.prog) 9 (by kernel_rfl) r pos q hq
          have hdrop : r.drop pos = q :: r.drop (pos + 1) := by
            obtain ⟨_, e⟩ := List.getElem?_eq_some_iff.1 hq
            rw [List.drop_eq_getElem_cons hlt, e]
          rw [hdrop, pgo_cons] at h2
          clear hdrop hq
          have hq256 : q.toNat < 256 := q.toNat_lt
          cases hdg : isDg q with
          | true =>
            have hdg2 := (isDg_iff q).1 hdg
            obtain ⟨hg1, hg2⟩ := hdg2
            rw [hdg, if_pos rfl] at h2
            have hst := pgo_step (c := q) (n := m) hdg h1
            by_cases hov : m < (-9223372036854775808 + ((q.toNat : Int) - 48)).tdiv 10
            · rw [if_pos hov] at h2
              have hr := hid (hnone.out h2)
              clear hst hdg h2
              go_wp2
              go_ret2
              exact ⟨by rw [hr.out]; rfl, Below.refl _ _⟩
            · rw [if_neg hov] at h2
              replace h2 := hid h2
              have hst2 := hst hov
              obtain ⟨hs1, hs2⟩ := hst2
              clear hst hdg
              go_wp2
              go_round
              case rel => exact ⟨pos + 1, _, by go_num, rfl, by omega, by omega, by omega, by rw [h2.out]; congr 1; omega⟩
              case measure => simp [intOf]; omega
          | false =>
            rw [hdg, if_neg (by simp)] at h2
            have hr := hid (hnone.out h2)
            have hnd : q.toNat < 48 ∨ 57 < q.toNat := by
              have := isDg_iff q
              rw [hdg] at this
              simp at this
              omega
            clear hdg h2
            rcases hnd with hnd | hnd
            all_goals
              go_wp2
              go_ret2
              exact ⟨by rw [hr.out]; rfl, Below.refl _ _⟩
        · have hpl : pos = r.length := by omega
          rw [hpl, List.drop_length] at h2
          have hres := hfin.out m h2
          clear h2
          subst hpl
          unfold rfin at hres
          rw [if_pos rfl] at hres
          by_cases hi : itoa m = 45 :: r
          · have hib : (itoa m == 45 :: r) = true := by simpa using hi
            rw [if_pos hi] at hres
            clear hi
            by_cases k1 : m < low
            · rw [if_pos (Or.inl k1)] at hres
              have hr := hid hres
              clear hres
              go_wp2_with (go_at_call 24; refine (rtext_any _ m _ (Nat.le_refl _) (by omega) (by omega)).mono ?_; rintro e w1 ⟨rfl, hb⟩)
              go_ret2
              exact ⟨by rw [hr.out]; rfl, hb⟩
            · by_cases k2 : high < m
              · rw [if_pos (Or.inr k2)] at hres
                have hr := hid hres
                clear hres
                go_wp2_with (go_at_call 24; refine (rtext_any _ m _ (Nat.le_refl _) (by omega) (by omega)).mono ?_; rintro e w1 ⟨rfl, hb⟩)
                go_ret2
                exact ⟨by rw [hr.out]; rfl, hb⟩
              · rw [if_neg (by omega)] at hres
                have hr := hid hres
                clear hres
                go_wp2_with (go_at_call 24; refine (rtext_any _ m _ (Nat.le_refl _) (by omega) (by omega)).mono ?_; rintro e w1 ⟨rfl, hb⟩)
                go_ret2
                exact ⟨by rw [hr.out]; rfl, hb⟩
          · have hib : (itoa m == 45 :: r) = false := by simpa using hi
            rw [if_neg hi] at hres
            have hr := hid hres
            clear hres hi
            go_wp2_with (go_at_call 24; refine (rtext_any _ m _ (Nat.le_refl _) (by omega) (by omega)).mono ?_; rintro e w1 ⟨rfl, hb⟩)
            go_ret2
            exact ⟨by rw [hr.out]; rfl, hb⟩
    | false =>
      have e1 : pdig s = s := by unfold pdig; rw [hpn]; rfl
      rw [e1] at hfin hnone hlen
      rw [hpn] at hfin
      replace hpn := hid hpn
      replace e1 := hid e1
      go_wp2_with fail
      go_loop [11, 12] (fun n i => ∃ (pos : Nat) (m : Int), i = .int .i64 pos ∧ n = .int .i64 m ∧ pos ≤ s.length ∧ -9223372036854775808 ≤ m ∧ m ≤ 0 ∧ pgo s 0 = pgo (s.drop pos) m) (fun _ i => s.length - (intOf i).toNat)
      case atStart => exact ⟨0, 0, rfl, rfl, Nat.zero_le _, by omega, by omega, rfl⟩
      case round =>
        obtain ⟨pos, m, rfl, rfl, hp, h0, h1, h2⟩ := hrel
        by_cases hlt : pos < s.length
        · obtain ⟨q, hq⟩ : ∃ q, s[pos]? = some q := ⟨_, List.getElem?_eq_getElem hlt⟩
          have hix := idx_str (P := Tryd.prog) 9 (by kernel_rfl) s pos q hq
          have hdrop : s.drop pos = q :: s.drop (pos + 1) := by
            obtain ⟨_, e⟩ := List.getElem?_eq_some_iff.1 hq
            rw [List.drop_eq_getElem_cons hlt, e]
          rw [hdrop, pgo_cons] at h2
          clear hdrop hq
          have hq256 : q.toNat < 256 := q.toNat_lt
          cases hdg : isDg q with
          | true =>
            have hdg2 := (isDg_iff q).1 hdg
            obtain ⟨hg1, hg2⟩ := hdg2
            rw [hdg, if_pos rfl] at h2
            have hst := pgo_step (c := q) (n := m) hdg h1
            by_cases hov : m < (-9223372036854775808 + ((q.toNat : Int) - 48)).tdiv 10
            · rw [if_pos hov] at h2
              have hr := hid (hnone.out h2)
              clear hst hdg h2
              go_wp2
              go_ret2
              exact ⟨by rw [hr.out]; rfl, Below.refl _ _⟩
            · rw [if_neg hov] at h2
              replace h2 := hid h2
              have hst2 := hst hov
              obtain ⟨hs1, hs2⟩ := hst2
              clear hst hdg
              go_wp2
              go_round
              case rel => exact ⟨pos + 1, _, by go_num, rfl, by omega, by omega, by omega, by rw [h2.out]; congr 1; omega⟩
              case measure => simp [intOf]; omega
          | false =>
            rw [hdg, if_neg (by simp)] at h2
            have hr := hid (hnone.out h2)
            have hnd : q.toNat < 48 ∨ 57 < q.toNat := by
              have := isDg_iff q
              rw [hdg] at this
              simp at this
              omega
            clear hdg h2
            rcases hnd with hnd | hnd
            all_goals
              go_wp2
              go_ret2
              exact ⟨by rw [hr.out]; rfl, Below.refl _ _⟩
        · have hpl : pos = s.length := by omega
          rw [hpl, List.drop_length] at h2
          have hres := hfin.out m h2
          clear h2
          subst hpl
          unfold rfin at hres
          rw [if_neg (by simp)] at hres
          by_cases k0 : m = -9223372036854775808
          · rw [if_pos k0] at hres
            have hr := hid hres
            clear hres
            subst k0
            go_wp2_with fail
            go_ret2
            exact ⟨by rw [hr.out]; rfl, Below.refl _ _⟩
          · have k0' : (m == -9223372036854775808) = false := by simpa using k0
            rw [if_neg k0] at hres
            have k3 : -9223372036854775808 < m := by omega
            clear k0
            by_cases hi : itoa (-m) = s
            · have hib : (itoa (-m) == s) = true := by simpa using hi
              rw [if_pos hi] at hres
              clear hi
              by_cases k1 : -m < low
              · rw [if_pos (Or.inl k1)] at hres
                have hr := hid hres
                clear hres
                go_wp2_with (go_at_call 24; refine (rtext_any _ (-m) _ (Nat.le_refl _) (by omega) (by omega)).mono ?_; rintro e w1 ⟨rfl, hb⟩)
                go_ret2
                exact ⟨by rw [hr.out]; rfl, hb⟩
              · by_cases k2 : high < -m
                · rw [if_pos (Or.inr k2)] at hres
                  have hr := hid hres
                  clear hres
                  go_wp2_with (go_at_call 24; refine (rtext_any _ (-m) _ (Nat.le_refl _) (by omega) (by omega)).mono ?_; rintro e w1 ⟨rfl, hb⟩)
                  go_ret2
                  exact ⟨by rw [hr.out]; rfl, hb⟩
                · rw [if_neg (by omega)] at hres
                  have hr := hid hres
                  clear hres
                  go_wp2_with (go_at_call 24; refine (rtext_any _ (-m) _ (Nat.le_refl _) (by omega) (by omega)).mono ?_; rintro e w1 ⟨rfl, hb⟩)
                  go_ret2
                  exact ⟨by rw [hr.out]; rfl, hb⟩
            · have hib : (itoa (-m) == s) = false := by simpa using hi
              rw [if_neg hi] at hres
              have hr := hid hres
              clear hres hi
              go_wp2_with (go_at_call 24; refine (rtext_any _ (-m) _ (Nat.le_refl _) (by omega) (by omega)).mono ?_; rintro e w1 ⟨rfl, hb⟩)
              go_ret2
              exact ⟨by rw [hr.out]; rfl, hb⟩
end Go.Proofs.YteepjelfohakaaaDoor
