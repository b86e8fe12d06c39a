/- Chapter 01 (num): the law NumTells. -/
import Derived.Test.YteepjelfohakaaaDoorNumW5
set_option linter.unusedVariables false
namespace Go.Proofs.YteepjelfohakaaaDoor
open Go.RowKit
open Go.Lib (hid itoa)
set_option maxRecDepth 100000 in
set_option maxHeartbeats 8000000 in
theorem NumTells_walk (a b low high : Int) (s : List UInt8) (w : World) (ht : Hid (Tab w)) (ha : -9223372036854775808 ≤ a ∧ a ≤ 9223372036854775807) (hs : s.length ≤ 140737488355328) :
    Calls Tryd.prog 3 #[iv a, iv b, iv low, iv high, sv s] w fun e w' => e = .returned (.bool true) ∧ Below w.heap.size w w' := by
  obtain ⟨ha1, ha2⟩ := ha
  by_cases h200 : s.length ≤ 200
  · have hd : decide (200 < (s.length : Int)) = false := by simp; omega
    go_enter Tryd.func3, Tryd.ntmps3
    go_wp2_with fail
    refine (small_any w ht).mono ?_
    rintro e w1 ⟨rfl, hB⟩
    go_wp2_with fail
    refine (add_any a b _).mono ?_
    rintro e w2 ⟨rfl, rfl⟩
    go_wp2_with fail
    refine (radd_any a b _).mono ?_
    rintro e w2 ⟨rfl, rfl⟩
    go_wp2_with fail
    refine (same_yes _ _ _).mono ?_
    rintro e w2 ⟨rfl, rfl⟩
    go_wp2_with fail
    refine (sub_any a b _).mono ?_
    rintro e w2 ⟨rfl, rfl⟩
    go_wp2_with fail
    refine (rsub_any a b _).mono ?_
    rintro e w2 ⟨rfl, rfl⟩
    go_wp2_with fail
    refine (same_yes _ _ _).mono ?_
    rintro e w2 ⟨rfl, rfl⟩
    go_wp2_with fail
    refine (mul_any a b _).mono ?_
    rintro e w2 ⟨rfl, rfl⟩
    go_wp2_with fail
    refine (rmul_any a b _).mono ?_
    rintro e w2 ⟨rfl, rfl⟩
    go_wp2_with fail
    refine (same_yes _ _ _).mono ?_
    rintro e w2 ⟨rfl, rfl⟩
    go_wp2_with fail
    refine (div_any a b _).mono ?_
    rintro e w2 ⟨rfl, rfl⟩
    go_wp2_with fail
    refine (rdiv_any a b _).mono ?_
    rintro e w2 ⟨rfl, rfl⟩
    go_wp2_with fail
    refine (same_yes _ _ _).mono ?_
    rintro e w2 ⟨rfl, rfl⟩
    go_wp2_with fail
    refine (mod_any a b _).mono ?_
    rintro e w2 ⟨rfl, rfl⟩
    go_wp2_with fail
    refine (rmod_any a b _).mono ?_
    rintro e w2 ⟨rfl, rfl⟩
    go_wp2_with fail
    refine (same_yes _ _ _).mono ?_
    rintro e w2 ⟨rfl, rfl⟩
    go_wp2_with fail
    refine (neg_any a _).mono ?_
    rintro e w2 ⟨rfl, rfl⟩
    go_wp2_with fail
    refine (rneg_any a _).mono ?_
    rintro e w2 ⟨rfl, rfl⟩
    go_wp2_with fail
    refine (same_yes _ _ _).mono ?_
    rintro e w2 ⟨rfl, rfl⟩
    go_wp2_with fail
    refine (parse_any s low high _ hs).mono ?_
    rintro e w2 ⟨rfl, hb⟩
    replace hB := hB.trans (hb.mono hB.size); clear hb
    go_wp2_with fail
    refine (rparse_any s low high _ hs).mono ?_
    rintro e w3 ⟨rfl, hb⟩
    replace hB := hB.trans (hb.mono hB.size); clear hb
    go_wp2_with fail
    refine (same_yes _ _ _).mono ?_
    rintro e w4 ⟨rfl, rfl⟩
    go_wp2_with fail
    refine (text_any a _ ha1 ha2 (hid (ht.out.below hB))).mono ?_
    rintro e w5 ⟨rfl, hb⟩
    replace hB := hB.trans (hb.mono hB.size); clear hb
    go_wp2_with fail
    refine (rtext_any _ a _ (Nat.le_refl _) ha1 ha2).mono ?_
    rintro e w6 ⟨rfl, hb⟩
    replace hB := hB.trans (hb.mono hB.size); clear hb
    go_wp2_with fail
    refine (clamp_any a low high _).mono ?_
    rintro e w7 ⟨rfl, rfl⟩
    go_wp2_with fail
    refine (rclamp_any a low high _).mono ?_
    rintro e w7 ⟨rfl, rfl⟩
    go_wp2_with fail
    go_ret
    exact ⟨rfl, hB⟩
  · have hd : decide (200 < (s.length : Int)) = true := by simp; omega
    go_enter Tryd.func3, Tryd.ntmps3
    go_wp2_with fail
    refine (small_any w ht).mono ?_
    rintro e w1 ⟨rfl, hB⟩
    go_wp2_with fail
    go_ret
    exact ⟨rfl, hB⟩
end Go.Proofs.YteepjelfohakaaaDoor
