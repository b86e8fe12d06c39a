/- Chapter 01 (num): walks: the reference's arithmetic. -/
import Derived.Test.YteepjelfohakaaaDoorNumW3
set_option linter.unusedVariables false
namespace Go.Proofs.YteepjelfohakaaaDoor
open Go.RowKit
open Go.Lib (hid itoa)
set_option maxRecDepth 100000 in
theorem rin_any (n : Int) (w : World) : Calls Tryd.prog 29 #[iv n] w fun e w' => e = .returned (.bool (rng n)) ∧ w = w' := by
  by_cases h1 : -9007199254740992 ≤ n
  · by_cases h2 : n ≤ 9007199254740992
    · have hr := hid ((rng_iff n).2 ⟨h1, h2⟩)
      go_enter Tryd.func29, Tryd.ntmps29
      go_wp2
      go_ret
      exact ⟨ret_bool hr.out.symm, rfl⟩
    · have hr := hid ((rng_not n).2 (by omega))
      go_enter Tryd.func29, Tryd.ntmps29
      go_wp2
      go_ret
      exact ⟨ret_bool hr.out.symm, rfl⟩
  · have hr := hid ((rng_not n).2 (by omega))
    have hd : decide (-9007199254740992 ≤ n) = false := by simp; omega
    go_enter Tryd.func29, Tryd.ntmps29
    go_wp2
    go_ret
    exact ⟨ret_bool hr.out.symm, rfl⟩


set_option maxRecDepth 100000 in
theorem rchecked_any (n : Int) (ok : Bool) (w : World) : Calls Tryd.prog 30 #[iv n, .bool ok] w fun e w' => e = .returned (two (chk (ok && rng n) n) (ok && rng n)) ∧ w = w' := by
  cases ok with
  | false =>
    go_enter Tryd.func30, Tryd.ntmps30
    go_wp2_with fail
    go_ret2
    exact ⟨rfl, rfl⟩
  | true =>
    rw [Bool.true_and]
    cases h : rng n
    all_goals
      go_enter Tryd.func30, Tryd.ntmps30
      go_wp2_with (go_at_call 29; refine (rin_any n _).mono ?_; rintro e w' ⟨rfl, rfl⟩; rw [h])
      go_ret2
      exact ⟨rfl, rfl⟩

set_option maxRecDepth 100000 in
theorem radd_any (a b : Int) (w : World) : Calls Tryd.prog 9 #[iv a, iv b] w fun e w' => e = .returned (two (add1 a b) (add2 a b)) ∧ w = w' := by
  unfold add1 add2
  cases h : rng a
  · go_enter Tryd.func9, Tryd.ntmps9
    go_wp2_with (go_at_call 29; refine (rin_any a _).mono ?_; rintro e w' ⟨rfl, rfl⟩; rw [h])
    go_ret2
    exact ⟨rfl, rfl⟩
  · cases k : rng b
    · go_enter Tryd.func9, Tryd.ntmps9
      go_wp2_with (go_at_call 29; refine (rin_any _ _).mono ?_; rintro e w' ⟨rfl, rfl⟩; first | rw [h] | rw [k])
      go_ret2
      exact ⟨rfl, rfl⟩
    · have ha := (rng_iff a).1 h
      have hb := (rng_iff b).1 k
      obtain ⟨ha1, ha2⟩ := ha
      obtain ⟨hb1, hb2⟩ := hb
      simp only [Bool.true_and]
      go_enter Tryd.func9, Tryd.ntmps9
      go_wp2_with (first | (go_at_call 29; refine (rin_any _ _).mono ?_; rintro e w' ⟨rfl, rfl⟩; first | rw [h] | rw [k]) | (go_at_call 30; refine (rchecked_any (a + b) true _).mono ?_; rintro e w' ⟨rfl, rfl⟩))
      go_ret2
      exact ⟨rfl, rfl⟩


set_option maxRecDepth 100000 in
theorem rsub_any (a b : Int) (w : World) : Calls Tryd.prog 12 #[iv a, iv b] w fun e w' => e = .returned (two (sub1 a b) (sub2 a b)) ∧ w = w' := by
  unfold sub1 sub2
  cases h : rng a
  · go_enter Tryd.func12, Tryd.ntmps12
    go_wp2_with (go_at_call 29; refine (rin_any a _).mono ?_; rintro e w' ⟨rfl, rfl⟩; rw [h])
    go_ret2
    exact ⟨rfl, rfl⟩
  · cases k : rng b
    · go_enter Tryd.func12, Tryd.ntmps12
      go_wp2_with (go_at_call 29; refine (rin_any _ _).mono ?_; rintro e w' ⟨rfl, rfl⟩; first | rw [h] | rw [k])
      go_ret2
      exact ⟨rfl, rfl⟩
    · have ha := (rng_iff a).1 h
      have hb := (rng_iff b).1 k
      obtain ⟨ha1, ha2⟩ := ha
      obtain ⟨hb1, hb2⟩ := hb
      simp only [Bool.true_and]
      go_enter Tryd.func12, Tryd.ntmps12
      go_wp2_with (first | (go_at_call 29; refine (rin_any _ _).mono ?_; rintro e w' ⟨rfl, rfl⟩; first | rw [h] | rw [k]) | (go_at_call 30; refine (rchecked_any (a - b) true _).mono ?_; rintro e w' ⟨rfl, rfl⟩))
      go_ret2
      exact ⟨rfl, rfl⟩


set_option maxRecDepth 100000 in
theorem rdiv_any (a b : Int) (w : World) : Calls Tryd.prog 16 #[iv a, iv b] w fun e w' => e = .returned (two (div1 a b) (div2 a b)) ∧ w = w' := by
  unfold div1 div2
  cases h : rng a
  · go_enter Tryd.func16, Tryd.ntmps16
    go_wp2_with (go_at_call 29; refine (rin_any a _).mono ?_; rintro e w' ⟨rfl, rfl⟩; rw [h])
    go_ret2
    exact ⟨rfl, rfl⟩
  · cases k : rng b
    · go_enter Tryd.func16, Tryd.ntmps16
      go_wp2_with (go_at_call 29; refine (rin_any _ _).mono ?_; rintro e w' ⟨rfl, rfl⟩; first | rw [h] | rw [k])
      go_ret2
      exact ⟨rfl, rfl⟩
    · have ht := tdiv_rng (b := b) h
      have ha := (rng_iff a).1 h
      have hb := (rng_iff b).1 k
      obtain ⟨ha1, ha2⟩ := ha
      obtain ⟨hb1, hb2⟩ := hb
      obtain ⟨ht1, ht2⟩ := ht
      by_cases h0 : b = 0
      · subst h0
        rw [show decide ((0 : Int) = 0) = true by decide]
        go_enter Tryd.func16, Tryd.ntmps16
        go_wp2_with (go_at_call 29; refine (rin_any _ _).mono ?_; rintro e w' ⟨rfl, rfl⟩; first | rw [h] | rw [k])
        go_ret2
        exact ⟨rfl, rfl⟩
      · have hz : (b == 0) = false := by simpa using h0
        have hz2 : decide (b = 0) = false := by simpa using h0
        rw [hz2]
        clear hz2
        go_enter Tryd.func16, Tryd.ntmps16
        go_wp2_with (go_at_call 29; refine (rin_any _ _).mono ?_; rintro e w' ⟨rfl, rfl⟩; first | rw [h] | rw [k])
        go_ret2
        exact ⟨rfl, rfl⟩


set_option maxRecDepth 100000 in
theorem rmod_any (a b : Int) (w : World) : Calls Tryd.prog 18 #[iv a, iv b] w fun e w' => e = .returned (two (mod1 a b) (div2 a b)) ∧ w = w' := by
  unfold mod1 div2
  cases h : rng a
  · go_enter Tryd.func18, Tryd.ntmps18
    go_wp2_with (go_at_call 29; refine (rin_any a _).mono ?_; rintro e w' ⟨rfl, rfl⟩; rw [h])
    go_ret2
    exact ⟨rfl, rfl⟩
  · cases k : rng b
    · go_enter Tryd.func18, Tryd.ntmps18
      go_wp2_with (go_at_call 29; refine (rin_any _ _).mono ?_; rintro e w' ⟨rfl, rfl⟩; first | rw [h] | rw [k])
      go_ret2
      exact ⟨rfl, rfl⟩
    · have ht := tmod_rng (b := b) h
      have ha := (rng_iff a).1 h
      have hb := (rng_iff b).1 k
      obtain ⟨ha1, ha2⟩ := ha
      obtain ⟨hb1, hb2⟩ := hb
      obtain ⟨ht1, ht2⟩ := ht
      by_cases h0 : b = 0
      · subst h0
        rw [show decide ((0 : Int) = 0) = true by decide]
        go_enter Tryd.func18, Tryd.ntmps18
        go_wp2_with (go_at_call 29; refine (rin_any _ _).mono ?_; rintro e w' ⟨rfl, rfl⟩; first | rw [h] | rw [k])
        go_ret2
        exact ⟨rfl, rfl⟩
      · have hz : (b == 0) = false := by simpa using h0
        have hz2 : decide (b = 0) = false := by simpa using h0
        rw [hz2]
        clear hz2
        go_enter Tryd.func18, Tryd.ntmps18
        go_wp2_with (go_at_call 29; refine (rin_any _ _).mono ?_; rintro e w' ⟨rfl, rfl⟩; first | rw [h] | rw [k])
        go_ret2
        exact ⟨rfl, rfl⟩


theorem rclamp_any (n low high : Int) (w : World) : Calls Tryd.prog 26 #[iv n, iv low, iv high] w fun e w' => e = .returned (iv (clampI n low high)) ∧ w = w' := by
  unfold clampI
  by_cases h : n < low
  · rw [if_pos h]
    go_enter Tryd.func26, Tryd.ntmps26
    go_wp2
    go_ret
    exact ⟨rfl, rfl⟩
  · rw [if_neg h]
    by_cases h2 : high < n
    · rw [if_pos h2]
      go_enter Tryd.func26, Tryd.ntmps26
      go_wp2
      go_ret
      exact ⟨rfl, rfl⟩
    · rw [if_neg h2]
      go_enter Tryd.func26, Tryd.ntmps26
      go_wp2
      go_ret
      exact ⟨rfl, rfl⟩

theorem rchecked_no (n : Int) (w : World) : Calls Tryd.prog 30 #[iv n, .bool false] w fun e w' => e = .returned (two 0 false) ∧ w = w' := by
  go_enter Tryd.func30, Tryd.ntmps30
  go_wp2_with fail
  go_ret2
  exact ⟨rfl, rfl⟩
theorem max_abs (a : Int) : max a (-a) = absI a := by unfold absI; split <;> omega
set_option maxRecDepth 100000 in
theorem rneg_any (a : Int) (w : World) : Calls Tryd.prog 20 #[iv a] w fun e w' => e = .returned (two (neg1 a) (rng a)) ∧ w = w' := by
  unfold neg1
  cases h : rng a
  · go_enter Tryd.func20, Tryd.ntmps20
    go_wp2_with (first | (go_at_call 29; refine (rin_any a _).mono ?_; rintro e w' ⟨rfl, rfl⟩; rw [h]) | (go_at_call 30; refine (rchecked_no _ _).mono ?_; rintro e w' ⟨rfl, rfl⟩))
    go_ret2
    exact ⟨rfl, rfl⟩
  · have hr : rng (-a) = true := by have := (rng_iff a).1 h; rw [rng_iff]; omega
    have ha := (rng_iff a).1 h
    obtain ⟨ha1, ha2⟩ := ha
    replace hr := hid hr
    go_enter Tryd.func20, Tryd.ntmps20
    go_wp2_with (first | (go_at_call 29; refine (rin_any a _).mono ?_; rintro e w' ⟨rfl, rfl⟩; rw [h]) | (go_at_call 30; refine (rchecked_any (-a) true _).mono ?_; rintro e w' ⟨rfl, rfl⟩; rw [hr.out]))
    go_ret2
    exact ⟨rfl, rfl⟩

end Go.Proofs.YteepjelfohakaaaDoor
