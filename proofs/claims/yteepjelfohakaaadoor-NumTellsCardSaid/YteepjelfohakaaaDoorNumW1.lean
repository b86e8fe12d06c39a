/- Chapter 01 (num): walks: the arithmetic functions. -/
import Derived.Test.YteepjelfohakaaaDoorChecked
import Derived.Test.YteepjelfohakaaaDoorLib
import Derived.Test.YteepjelfohakaaaDoorNumN
set_option linter.unusedVariables false
namespace Go.Proofs.YteepjelfohakaaaDoor
open Go.RowKit
open Go.Lib (hid IsBuilder byteCells)
abbrev iv (n : Int) : Value := .int .i64 n
abbrev two (n : Int) (b : Bool) : Value := .tuple #[.int .i64 n, .bool b]

set_option maxRecDepth 100000 in
theorem inRange_any (n : Int) (w : World) : Calls Tryd.prog 27 #[iv n] w fun e w' => e = .returned (.bool (rng n)) ∧ w = w' := by
  by_cases h1 : -9007199254740992 ≤ n
  · by_cases h2 : n ≤ 9007199254740992
    · have hr := hid ((rng_iff n).2 ⟨h1, h2⟩)
      go_enter Tryd.func27, Tryd.ntmps27
      go_wp2
      go_ret
      exact ⟨ret_bool hr.out.symm, rfl⟩
    · have hr := hid ((rng_not n).2 (by omega))
      go_enter Tryd.func27, Tryd.ntmps27
      go_wp2
      go_ret
      exact ⟨ret_bool hr.out.symm, rfl⟩
  · have hr := hid ((rng_not n).2 (by omega))
    have hd : decide (-9007199254740992 ≤ n) = false := by simp; omega
    go_enter Tryd.func27, Tryd.ntmps27
    go_wp2
    go_ret
    exact ⟨ret_bool hr.out.symm, rfl⟩

set_option maxRecDepth 100000 in
theorem checked_any (n : Int) (w : World) : Calls Tryd.prog 28 #[iv n] w fun e w' => e = .returned (two (chk (rng n) n) (rng n)) ∧ w = w' := by
  cases h : rng n
  all_goals
    go_enter Tryd.func28, Tryd.ntmps28
    go_wp2_with (go_at_call 27; refine (inRange_any n _).mono ?_; rintro e w' ⟨rfl, rfl⟩; rw [h])
    go_ret2
    exact ⟨rfl, rfl⟩

set_option maxRecDepth 100000 in
theorem add_any (a b : Int) (w : World) : Calls Tryd.prog 8 #[iv a, iv b] w fun e w' => e = .returned (two (add1 a b) (add2 a b)) ∧ w = w' := by
  unfold add1 add2
  cases h : rng a
  · go_enter Tryd.func8, Tryd.ntmps8
    go_wp2_with (go_at_call 27; refine (inRange_any a _).mono ?_; rintro e w' ⟨rfl, rfl⟩; rw [h])
    go_ret2
    exact ⟨rfl, rfl⟩
  · cases k : rng b
    · go_enter Tryd.func8, Tryd.ntmps8
      go_wp2_with (go_at_call 27; refine (inRange_any _ _).mono ?_; rintro e w' ⟨rfl, rfl⟩; first | rw [h] | rw [k])
      go_ret2
      exact ⟨rfl, rfl⟩
    · have ha := (rng_iff a).1 h
      have hb := (rng_iff b).1 k
      obtain ⟨ha1, ha2⟩ := ha
      obtain ⟨hb1, hb2⟩ := hb
      simp only [Bool.true_and]
      go_enter Tryd.func8, Tryd.ntmps8
      go_wp2_with (first | (go_at_call 27; refine (inRange_any _ _).mono ?_; rintro e w' ⟨rfl, rfl⟩; first | rw [h] | rw [k]) | (go_at_call 28; refine (checked_any (a + b) _).mono ?_; rintro e w' ⟨rfl, rfl⟩))
      go_ret2
      exact ⟨rfl, rfl⟩

set_option maxRecDepth 100000 in
theorem sub_any (a b : Int) (w : World) : Calls Tryd.prog 11 #[iv a, iv b] w fun e w' => e = .returned (two (sub1 a b) (sub2 a b)) ∧ w = w' := by
  unfold sub1 sub2
  cases h : rng a
  · go_enter Tryd.func11, Tryd.ntmps11
    go_wp2_with (go_at_call 27; refine (inRange_any a _).mono ?_; rintro e w' ⟨rfl, rfl⟩; rw [h])
    go_ret2
    exact ⟨rfl, rfl⟩
  · cases k : rng b
    · go_enter Tryd.func11, Tryd.ntmps11
      go_wp2_with (go_at_call 27; refine (inRange_any _ _).mono ?_; rintro e w' ⟨rfl, rfl⟩; first | rw [h] | rw [k])
      go_ret2
      exact ⟨rfl, rfl⟩
    · have ha := (rng_iff a).1 h
      have hb := (rng_iff b).1 k
      obtain ⟨ha1, ha2⟩ := ha
      obtain ⟨hb1, hb2⟩ := hb
      simp only [Bool.true_and]
      go_enter Tryd.func11, Tryd.ntmps11
      go_wp2_with (first | (go_at_call 27; refine (inRange_any _ _).mono ?_; rintro e w' ⟨rfl, rfl⟩; first | rw [h] | rw [k]) | (go_at_call 28; refine (checked_any (a - b) _).mono ?_; rintro e w' ⟨rfl, rfl⟩))
      go_ret2
      exact ⟨rfl, rfl⟩

theorem abs_any (n : Int) (w : World) (h0 : -9007199254740992 ≤ n) (h1 : n ≤ 9007199254740992) : Calls Tryd.prog 31 #[iv n] w fun e w' => e = .returned (iv (absI n)) ∧ w = w' := by
  by_cases h : n < 0
  · have e : absI n = -n := if_pos h
    rw [e]
    go_enter Tryd.func31, Tryd.ntmps31
    go_wp2
    go_ret
    exact ⟨rfl, rfl⟩
  · have e : absI n = n := if_neg h
    rw [e]
    go_enter Tryd.func31, Tryd.ntmps31
    go_wp2
    go_ret
    exact ⟨rfl, rfl⟩

set_option maxRecDepth 100000 in
set_option maxHeartbeats 1000000 in
theorem mul_any (a b : Int) (w : World) : Calls Tryd.prog 13 #[iv a, iv b] w fun e w' => e = .returned (two (mul1 a b) (mul2 a b)) ∧ w = w' := by
  cases h : rng a
  · have e : mul2 a b = false := by unfold mul2; rw [h]; rfl
    unfold mul1
    rw [e]
    clear e
    go_enter Tryd.func13, Tryd.ntmps13
    go_wp2_with (go_at_call 27; refine (inRange_any a _).mono ?_; rintro e w' ⟨rfl, rfl⟩; rw [h])
    go_ret2
    exact ⟨rfl, rfl⟩
  · cases k : rng b
    · have e : mul2 a b = false := by unfold mul2; rw [h, k]; rfl
      unfold mul1
      rw [e]
      clear e
      go_enter Tryd.func13, Tryd.ntmps13
      go_wp2_with (go_at_call 27; refine (inRange_any _ _).mono ?_; rintro e w' ⟨rfl, rfl⟩; first | rw [h] | rw [k])
      go_ret2
      exact ⟨rfl, rfl⟩
    · have hha := absI_rng h
      have hhb := absI_rng k
      have ha := (rng_iff a).1 h
      have hb := (rng_iff b).1 k
      obtain ⟨ha1, ha2⟩ := ha
      obtain ⟨hb1, hb2⟩ := hb
      by_cases h0 : a = 0
      · subst h0
        have hm := mul_zero' b k
        rw [hm.1, hm.2]
        clear hm
        go_enter Tryd.func13, Tryd.ntmps13
        go_wp2_with (go_at_call 27; refine (inRange_any _ _).mono ?_; rintro e w' ⟨rfl, rfl⟩; first | rw [h] | rw [k])
        go_ret2
        exact ⟨by simp, rfl⟩
      · have ht := mul_test h k h0
        have hz : (a != 0) = true := by simpa using h0
        have h1 : 1 ≤ absI a := by unfold absI; split <;> omega
        obtain ⟨hA, hA2⟩ := hha
        obtain ⟨hB, hB2⟩ := hhb
        cases hm : decide (9007199254740992 / absI a < absI b)
        · rw [hm] at ht
          have hr := (rng_iff _).1 (mul_true ht).2.2.1
          obtain ⟨hr1, hr2⟩ := hr
          rw [ht, (mul_true ht).2.2.2]
          clear ht h0
          have Ha := hid (fun w => abs_any a w ha1 ha2)
          have Hb := hid (fun w => abs_any b w hb1 hb2)
          generalize absI a = A at *
          generalize absI b = B at *
          go_enter Tryd.func13, Tryd.ntmps13
          go_wp2_with (first | (go_at_call 27; refine (inRange_any _ _).mono ?_; rintro e w' ⟨rfl, rfl⟩; first | rw [h] | rw [k]) | (go_at_call 31; refine (Hb.out _).mono ?_; rintro e w' ⟨rfl, rfl⟩) | (go_at_call 31; refine (Ha.out _).mono ?_; rintro e w' ⟨rfl, rfl⟩))
          go_ret2
          exact ⟨rfl, rfl⟩
        · rw [hm] at ht
          have e : mul1 a b = 0 := by unfold mul1; rw [ht]; rfl
          rw [ht, e]
          clear ht h0 e
          have Ha := hid (fun w => abs_any a w ha1 ha2)
          have Hb := hid (fun w => abs_any b w hb1 hb2)
          generalize absI a = A at *
          generalize absI b = B at *
          go_enter Tryd.func13, Tryd.ntmps13
          go_wp2_with (first | (go_at_call 27; refine (inRange_any _ _).mono ?_; rintro e w' ⟨rfl, rfl⟩; first | rw [h] | rw [k]) | (go_at_call 31; refine (Hb.out _).mono ?_; rintro e w' ⟨rfl, rfl⟩) | (go_at_call 31; refine (Ha.out _).mono ?_; rintro e w' ⟨rfl, rfl⟩))
          go_ret2
          exact ⟨rfl, rfl⟩

set_option maxRecDepth 100000 in
theorem div_any (a b : Int) (w : World) : Calls Tryd.prog 15 #[iv a, iv b] w fun e w' => e = .returned (two (div1 a b) (div2 a b)) ∧ w = w' := by
  unfold div1 div2
  cases h : rng a
  · go_enter Tryd.func15, Tryd.ntmps15
    go_wp2_with (go_at_call 27; refine (inRange_any a _).mono ?_; rintro e w' ⟨rfl, rfl⟩; rw [h])
    go_ret2
    exact ⟨rfl, rfl⟩
  · cases k : rng b
    · go_enter Tryd.func15, Tryd.ntmps15
      go_wp2_with (go_at_call 27; refine (inRange_any _ _).mono ?_; rintro e w' ⟨rfl, rfl⟩; first | rw [h] | rw [k])
      go_ret2
      exact ⟨rfl, rfl⟩
    · have ht := tdiv_rng (b := b) h
      have ha := (rng_iff a).1 h
      have hb := (rng_iff b).1 k
      obtain ⟨ha1, ha2⟩ := ha
      obtain ⟨hb1, hb2⟩ := hb
      obtain ⟨ht1, ht2⟩ := ht
      by_cases h0 : b = 0
      · subst h0
        rw [show decide ((0 : Int) = 0) = true by decide]
        go_enter Tryd.func15, Tryd.ntmps15
        go_wp2_with (go_at_call 27; refine (inRange_any _ _).mono ?_; rintro e w' ⟨rfl, rfl⟩; first | rw [h] | rw [k])
        go_ret2
        exact ⟨rfl, rfl⟩
      · have hz : (b == 0) = false := by simpa using h0
        have hz2 : decide (b = 0) = false := by simpa using h0
        rw [hz2]
        clear hz2
        go_enter Tryd.func15, Tryd.ntmps15
        go_wp2_with (go_at_call 27; refine (inRange_any _ _).mono ?_; rintro e w' ⟨rfl, rfl⟩; first | rw [h] | rw [k])
        go_ret2
        exact ⟨rfl, rfl⟩

set_option maxRecDepth 100000 in
theorem mod_any (a b : Int) (w : World) : Calls Tryd.prog 17 #[iv a, iv b] w fun e w' => e = .returned (two (mod1 a b) (div2 a b)) ∧ w = w' := by
  unfold mod1 div2
  cases h : rng a
  · go_enter Tryd.func17, Tryd.ntmps17
    go_wp2_with (go_at_call 27; refine (inRange_any a _).mono ?_; rintro e w' ⟨rfl, rfl⟩; rw [h])
    go_ret2
    exact ⟨rfl, rfl⟩
  · cases k : rng b
    · go_enter Tryd.func17, Tryd.ntmps17
      go_wp2_with (go_at_call 27; refine (inRange_any _ _).mono ?_; rintro e w' ⟨rfl, rfl⟩; first | rw [h] | rw [k])
      go_ret2
      exact ⟨rfl, rfl⟩
    · have ht := tmod_rng (b := b) h
      have ha := (rng_iff a).1 h
      have hb := (rng_iff b).1 k
      obtain ⟨ha1, ha2⟩ := ha
      obtain ⟨hb1, hb2⟩ := hb
      obtain ⟨ht1, ht2⟩ := ht
      by_cases h0 : b = 0
      · subst h0
        rw [show decide ((0 : Int) = 0) = true by decide]
        go_enter Tryd.func17, Tryd.ntmps17
        go_wp2_with (go_at_call 27; refine (inRange_any _ _).mono ?_; rintro e w' ⟨rfl, rfl⟩; first | rw [h] | rw [k])
        go_ret2
        exact ⟨rfl, rfl⟩
      · have hz : (b == 0) = false := by simpa using h0
        have hz2 : decide (b = 0) = false := by simpa using h0
        rw [hz2]
        clear hz2
        go_enter Tryd.func17, Tryd.ntmps17
        go_wp2_with (go_at_call 27; refine (inRange_any _ _).mono ?_; rintro e w' ⟨rfl, rfl⟩; first | rw [h] | rw [k])
        go_ret2
        exact ⟨rfl, rfl⟩

set_option maxRecDepth 100000 in
theorem neg_any (a : Int) (w : World) : Calls Tryd.prog 19 #[iv a] w fun e w' => e = .returned (two (neg1 a) (rng a)) ∧ w = w' := by
  unfold neg1
  cases h : rng a
  · go_enter Tryd.func19, Tryd.ntmps19
    go_wp2_with (go_at_call 27; refine (inRange_any a _).mono ?_; rintro e w' ⟨rfl, rfl⟩; rw [h])
    go_ret2
    exact ⟨rfl, rfl⟩
  · have ha := (rng_iff a).1 h
    obtain ⟨ha1, ha2⟩ := ha
    go_enter Tryd.func19, Tryd.ntmps19
    go_wp2_with (go_at_call 27; refine (inRange_any a _).mono ?_; rintro e w' ⟨rfl, rfl⟩; rw [h])
    go_ret2
    exact ⟨rfl, rfl⟩
def clampI (n low high : Int) : Int := if n < low then low else if high < n then high else n
theorem clamp_any (n low high : Int) (w : World) : Calls Tryd.prog 25 #[iv n, iv low, iv high] w fun e w' => e = .returned (iv (clampI n low high)) ∧ w = w' := by
  unfold clampI
  by_cases h : n < low
  · rw [if_pos h]
    go_enter Tryd.func25, Tryd.ntmps25
    go_wp2
    go_ret
    exact ⟨rfl, rfl⟩
  · rw [if_neg h]
    by_cases h2 : high < n
    · rw [if_pos h2]
      go_enter Tryd.func25, Tryd.ntmps25
      go_wp2
      go_ret
      exact ⟨rfl, rfl⟩
    · rw [if_neg h2]
      go_enter Tryd.func25, Tryd.ntmps25
      go_wp2
      go_ret
      exact ⟨rfl, rfl⟩
theorem same_yes (a : Int) (b : Bool) (w : World) : Calls Tryd.prog 10 #[iv a, .bool b, iv a, .bool b] w fun e w' => e = .returned (.bool true) ∧ w = w' := by
  go_enter Tryd.func10, Tryd.ntmps10
  go_wp2
  go_ret
  exact ⟨ret_bool (by simp), rfl⟩
end Go.Proofs.YteepjelfohakaaaDoor
