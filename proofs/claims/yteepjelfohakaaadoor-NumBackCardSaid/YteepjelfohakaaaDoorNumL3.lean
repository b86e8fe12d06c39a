/- Chapter 01 (num): the law NumBack. -/
import Derived.Test.YteepjelfohakaaaDoorNumL0
import Derived.Lib.ItoaLen
set_option linter.unusedVariables false
namespace Go.Proofs.YteepjelfohakaaaDoor
open Go.RowKit
open Go.Lib (hid itoa)
theorem clamp_cases (n low high : Int) : (high < low ∧ ∃ c, clampI n low high = c) ∨ (low ≤ high ∧ n < low ∧ clampI n low high = low) ∨ (low ≤ high ∧ low ≤ n ∧ high < n ∧ clampI n low high = high) ∨ (low ≤ high ∧ low ≤ n ∧ n ≤ high ∧ clampI n low high = n) := by
  unfold clampI
  by_cases h0 : high < low
  · exact Or.inl ⟨h0, _, rfl⟩
  · by_cases h1 : n < low
    · exact Or.inr (Or.inl ⟨by omega, h1, if_pos h1⟩)
    · by_cases h2 : high < n
      · exact Or.inr (Or.inr (Or.inl ⟨by omega, by omega, h2, by rw [if_neg h1, if_pos h2]⟩))
      · exact Or.inr (Or.inr (Or.inr ⟨by omega, by omega, by omega, by rw [if_neg h1, if_neg h2]⟩))
set_option maxRecDepth 100000 in
set_option maxHeartbeats 8000000 in
theorem NumBack_walk (n : Int) (s : List UInt8) (low high : Int) (w : World) (ht : Hid (Tab w)) (hn : -9223372036854775808 ≤ n ∧ n ≤ 9223372036854775807) (hs : s.length ≤ 140737488355328) (hh : high ≤ 9223372036854775807) (hl : -9223372036854775808 ≤ low) :
    Calls Tryd.prog 6 #[iv n, sv s, iv low, iv high] w fun e w' => e = .returned (.bool true) ∧ Below w.heap.size w w' := by
  obtain ⟨hn1, hn2⟩ := hn
  by_cases h200 : s.length ≤ 200
  · have hd : decide (200 < (s.length : Int)) = false := by simp; omega
    have hp := hid (parse_itoa n (-9223372036854775808) 9223372036854775807 hn1 hn2 hn1 hn2)
    have hil := Lib.itoa_length_le n hn1 hn2
    go_enter Tryd.func6, Tryd.ntmps6
    go_wp2_with fail
    refine (small_any w ht).mono ?_
    rintro e w1 ⟨rfl, hB⟩
    go_wp2_with fail
    refine (text_any n _ hn1 hn2 (hid (ht.out.below hB))).mono ?_
    rintro e w2 ⟨rfl, hb⟩
    replace hB := hB.trans (hb.mono hB.size); clear hb
    go_wp2_with fail
    refine (parse_any (itoa n) _ _ _ (by omega)).mono ?_
    rintro e w3 ⟨rfl, hb⟩
    rw [hp.out]
    replace hB := hB.trans (hb.mono hB.size); clear hb
    go_wp2_with fail
    refine (parse_any s low high _ hs).mono ?_
    rintro e w4 ⟨rfl, hb⟩
    replace hB := hB.trans (hb.mono hB.size); clear hb
    cases hps : parse s low high with
    | none =>
      go_wp2_with fail
      refine (clamp_any n low high _).mono ?_
      rintro e w5 ⟨rfl, rfl⟩
      rcases clamp_cases n low high with ⟨g1, c, g4⟩ | ⟨g1, g2, g4⟩ | ⟨g1, g2, g3, g4⟩ | ⟨g1, g2, g3, g4⟩
      all_goals
        rw [g4]
        clear g4
        go_wp2_with fail
        go_ret
        exact ⟨rfl, hB⟩
    | some k =>
      obtain ⟨p1, p2, p3, _, p4⟩ := parse_some hps
      replace p1 := hid p1
      go_wp2_with fail
      refine (clamp_any n low high _).mono ?_
      rintro e w5 ⟨rfl, rfl⟩
      rcases clamp_cases n low high with ⟨g1, c, g4⟩ | ⟨g1, g2, g4⟩ | ⟨g1, g2, g3, g4⟩ | ⟨g1, g2, g3, g4⟩
      · exact absurd g1 (by omega)
      all_goals
        rw [g4]
        clear g4
        go_wp2_with fail
        refine (text_any k _ (by omega) (by omega) (hid (ht.out.below hB))).mono ?_
        rintro e w6 ⟨rfl, hb⟩
        rw [p1.out]
        replace hB := hB.trans (hb.mono hB.size); clear hb
        go_wp2_with fail
        go_ret
        exact ⟨rfl, hB⟩
  · have hd : decide (200 < (s.length : Int)) = true := by simp; omega
    go_enter Tryd.func6, Tryd.ntmps6
    go_wp2_with fail
    refine (small_any w ht).mono ?_
    rintro e w1 ⟨rfl, hB⟩
    go_wp2_with fail
    go_ret
    exact ⟨rfl, hB⟩
end Go.Proofs.YteepjelfohakaaaDoor
