/- Chapter 01 (num): the law NumDivides. -/
import Derived.Test.YteepjelfohakaaaDoorNumL0
set_option linter.unusedVariables false
namespace Go.Proofs.YteepjelfohakaaaDoor
open Go.RowKit
open Go.Lib (hid itoa)
def inB (n : Int) : Bool := rng n
set_option maxRecDepth 100000 in
set_option maxHeartbeats 8000000 in
theorem NumDivides_walk (a b : Int) (w : World) (ht : Hid (Tab w)) : Calls Tryd.prog 5 #[iv a, iv b] w fun e w' => e = .returned (.bool true) ∧ Below w.heap.size w w' := by
  cases hv : div2 a b with
  | false =>
    have e1 : div1 a b = 0 := by unfold div1; rw [hv]; rfl
    have e2 : mod1 a b = 0 := by unfold mod1; rw [hv]; rfl
    have hw : a < -9007199254740992 ∨ (-9007199254740992 ≤ a ∧ 9007199254740992 < a) ∨ (-9007199254740992 ≤ a ∧ a ≤ 9007199254740992 ∧ b < -9007199254740992) ∨ (-9007199254740992 ≤ a ∧ a ≤ 9007199254740992 ∧ -9007199254740992 ≤ b ∧ 9007199254740992 < b) ∨ (-9007199254740992 ≤ a ∧ a ≤ 9007199254740992 ∧ b = 0) := by
      unfold div2 rng at hv
      simp only [Bool.and_eq_false_iff, Bool.not_eq_false', decide_eq_true_eq, decide_eq_false_iff_not] at hv
      omega
    replace hv := hid hv; replace e1 := hid e1; replace e2 := hid e2
    rcases hw with h | ⟨h, h2⟩ | ⟨h, h2, h3⟩ | ⟨h, h2, h3, h4⟩ | ⟨h, h2, rfl⟩
    all_goals
      go_enter Tryd.func5, Tryd.ntmps5
      go_wp2_with fail
      refine (small_any w ht).mono ?_
      rintro e w1 ⟨rfl, hB⟩
      clear ht
      go_wp2_with fail
      refine (div_any a _ _).mono ?_
      rintro e w2 ⟨rfl, rfl⟩
      rw [hv.out, e1.out]
      go_wp2_with fail
      refine (mod_any a _ _).mono ?_
      rintro e w2 ⟨rfl, rfl⟩
      rw [hv.out, e2.out]
      go_wp2_with fail
      go_ret
      exact ⟨rfl, hB⟩
  | true =>
    obtain ⟨d1, d2, d3, d4, d5, d6, d7, d8⟩ := div_laws hv
    have hin := hv
    unfold div2 at hin
    simp only [Bool.and_eq_true, Bool.not_eq_true', decide_eq_false_iff_not, rng_iff] at hin
    obtain ⟨⟨⟨a1, a2⟩, b1, b2⟩, hb0⟩ := hin
    have hr := tmod_rng (b := b) ((rng_iff a).2 ⟨a1, a2⟩)
    obtain ⟨r1, r2⟩ := hr
    have hne : (b != 0) = true := by simpa using hb0
    replace hv := hid hv; replace d1 := hid d1; replace d2 := hid d2; replace d3 := hid d3; replace d4 := hid d4; replace d5 := hid d5; replace d6 := hid d6
    have hmax : max (a.tmod b) (-(a.tmod b)) < max b (-b) := by unfold absI at d7; split at d7 <;> split at d7 <;> omega
    clear d7 hb0
    go_enter Tryd.func5, Tryd.ntmps5
    go_wp2_with fail
    refine (small_any w ht).mono ?_
    rintro e w1 ⟨rfl, hB⟩
    clear ht
    go_wp2_with fail
    refine (div_any a b _).mono ?_
    rintro e w2 ⟨rfl, rfl⟩
    rw [hv.out, d1.out]
    go_wp2_with fail
    refine (mod_any a b _).mono ?_
    rintro e w2 ⟨rfl, rfl⟩
    rw [hv.out, d2.out]
    go_wp2_with fail
    refine (mul_any b (a.tdiv b) _).mono ?_
    rintro e w2 ⟨rfl, rfl⟩
    rw [d3.out, d4.out]
    go_wp2_with fail
    refine (add_any (b * a.tdiv b) (a.tmod b) _).mono ?_
    rintro e w2 ⟨rfl, rfl⟩
    rw [d5.out, d6.out]
    generalize a.tmod b = r at *
    have hend : (r == 0 || decide (r < 0) == decide (a < 0)) = true := by
      rcases d8 with h | h
      · simp [h]
      · simp [h]
    replace hend := hid hend
    clear d8
    go_wp2_with fail
    all_goals
      go_ret
      first | exact ⟨rfl, hB⟩ | exact ⟨ret_bool hend.out, hB⟩
end Go.Proofs.YteepjelfohakaaaDoor
