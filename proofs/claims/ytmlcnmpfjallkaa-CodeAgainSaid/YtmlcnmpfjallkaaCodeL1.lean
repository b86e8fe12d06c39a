/- Chapter 02 (code): the law CodeOrder. -/
import Derived.Test.YtmlcnmpfjallkaaCodeL0
import Derived.Test.YtmlcnmpfjallkaaCodeN3
set_option linter.unusedVariables false
namespace Go.Proofs.Ytmlcnmpfjallkaa
open Go.RowKit
open Go.Lib (hid IsBuilder byteCells)
theorem wf_i64 {n : Int} (h : (Lit.int .i64 n).wf = true) : -9223372036854775808 ≤ n ∧ n ≤ 9223372036854775807 := by
  simpa [Lit.wf, IntKind.min, IntKind.max, IntKind.signed, IntKind.bits] using h
theorem in_any (n : Int) (w : World) : Calls Try.prog 45 #[.int .i64 n] w fun e w' => e = .returned (.bool (inR n)) ∧ w = w' := by
  by_cases h1 : -1152921504606846976 ≤ n
  · by_cases h2 : n ≤ 1152921504606846976
    · have hr : inR n = true := by rw [inR_iff]; exact ⟨h1, h2⟩
      replace hr := hid hr
      go_enter Try.func45, Try.ntmps45
      go_wp2
      go_ret
      exact ⟨ret_bool hr.out.symm, rfl⟩
    · have hr : inR n = false := by rw [← Bool.not_eq_true, inR_iff]; omega
      replace hr := hid hr
      go_enter Try.func45, Try.ntmps45
      go_wp2
      go_ret
      exact ⟨ret_bool hr.out.symm, rfl⟩
  · have hr : inR n = false := by rw [← Bool.not_eq_true, inR_iff]; omega
    replace hr := hid hr
    have hd : decide (-1152921504606846976 ≤ n) = false := by simp; omega
    go_enter Try.func45, Try.ntmps45
    go_wp2
    go_ret
    exact ⟨ret_bool hr.out.symm, rfl⟩

set_option maxHeartbeats 4000000 in
set_option maxRecDepth 100000 in
theorem CodeOrder_walk (a b : Int) (w : World) (ha : -9223372036854775808 ≤ a ∧ a ≤ 9223372036854775807) (hb : -9223372036854775808 ≤ b ∧ b ≤ 9223372036854775807) :
    Calls Try.prog 8 #[.int .i64 a, .int .i64 b] w fun e w' => e = .returned (.bool true) ∧ Below w.heap.size w w' := by
  obtain ⟨ha1, ha2⟩ := ha
  obtain ⟨hb1, hb2⟩ := hb
  by_cases hbad : a < 0 ∨ b < 0 ∨ b < a
  · by_cases h1 : a < 0
    · have hn : nenc a = [] := if_pos h1
      clear hbad
      go_enter Try.func8, Try.ntmps8
      go_wp2_with fail
      refine (small_any _).mono ?_
      rintro e w1 ⟨rfl, hB⟩
      go_wp2_with fail
      refine (num_any a _ ha2).mono ?_
      rintro e w2 ⟨rfl, hb⟩
      rw [hn]
      replace hB := hB.trans (hb.mono hB.size); clear hb
      go_wp2_with fail
      refine (num_any b _ hb2).mono ?_
      rintro e w3 ⟨rfl, hb⟩
      replace hB := hB.trans (hb.mono hB.size); clear hb
      go_wp2
      go_ret
      exact ⟨rfl, hB⟩
    · have hd : decide (0 ≤ a) = true := by simp; omega
      go_enter Try.func8, Try.ntmps8
      go_wp2_with fail
      refine (small_any _).mono ?_
      rintro e w1 ⟨rfl, hB⟩
      go_wp2_with fail
      refine (num_any a _ ha2).mono ?_
      rintro e w2 ⟨rfl, hb⟩
      replace hB := hB.trans (hb.mono hB.size); clear hb
      go_wp2_with fail
      refine (num_any b _ hb2).mono ?_
      rintro e w3 ⟨rfl, hb⟩
      replace hB := hB.trans (hb.mono hB.size); clear hb
      have h2 : b < 0 ∨ b < a := by omega
      rcases h2 with h2 | h2
      · clear hbad
        go_wp2
        go_ret
        exact ⟨rfl, hB⟩
      · clear hbad
        by_cases h3 : b < 0
        all_goals
          go_wp2
          go_ret
          exact ⟨rfl, hB⟩
  · have h0 : 0 ≤ a := by omega
    have h1 : 0 ≤ b := by omega
    have h2 : a ≤ b := by omega
    clear hbad
    have hX := venc_bound a.toNat (by omega)
    have hY := venc_bound b.toNat (by omega)
    have hXY := venc_len_mono a.toNat b.toNat (by omega)
    have hP := venc_prefix a.toNat b.toNat (by omega) (by omega)
    have hP2 : ((a == b) = true ∧ ((venc b.toNat).take (venc a.toNat).length == venc a.toNat) = true) ∨ ((a == b) = false ∧ ((venc b.toNat).take (venc a.toNat).length == venc a.toNat) = false) := by
      by_cases e : a = b
      · exact Or.inl ⟨by simp [e], by simpa using hP.2 (by omega)⟩
      · refine Or.inr ⟨by simp [e], ?_⟩
        rw [beq_eq_false_iff_ne]
        intro h; have := hP.1 h; omega
    have hI : inR b = true → (ienc (-a)).length ≤ (ienc (-b)).length ∧ ienc (-a) ≠ [] := fun h => ienc_neg_mono a b h0 h2 (by rw [inR_iff] at h; omega)
    have hex := ext_take (venc b.toNat) (venc a.toNat).length
    have hNa := fun w => num_pos a w h0 ha2
    have hNb := fun w => num_pos b w h1 hb2
    clear hP
    generalize venc a.toNat = X at *
    generalize venc b.toNat = Y at *
    have HNa := hid hNa
    have HNb := hid hNb
    clear hNa hNb
    cases hin : inR b with
    | false =>
      clear hI
      rcases hP2 with ⟨e1, e2⟩ | ⟨e1, e2⟩
      all_goals
        go_enter Try.func8, Try.ntmps8
        go_wp2_with fail
        refine (small_any _).mono ?_
        rintro e w1 ⟨rfl, hB⟩
        go_wp2_with fail
        refine (HNa.out _).mono ?_
        rintro e w2 ⟨rfl, hb⟩
        replace hB := hB.trans (hb.mono hB.size); clear hb
        go_wp2_with fail
        refine (HNb.out _).mono ?_
        rintro e w3 ⟨rfl, hb⟩
        replace hB := hB.trans (hb.mono hB.size); clear hb
        go_wp2_with fail
        refine (in_any b _).mono ?_
        rintro e w4 ⟨rfl, rfl⟩
        rw [hin]
        go_wp2
        go_ret
        exact ⟨rfl, hB⟩
    | true =>
      obtain ⟨hI1, hI2⟩ := hI hin
      have hI3 : (ienc (-a) == []) = false := by simpa using hI2
      have hI4 : (ienc (-a)).isEmpty = false := by simpa using hI2
      clear hI hI2
      have ib1 := ienc_bound (-a)
      have ib2 := ienc_bound (-b)
      have HIa := hid (int_any (-a))
      have HIb := hid (int_any (-b))
      generalize ienc (-a) = U at *
      generalize ienc (-b) = V at *
      rcases hP2 with ⟨e1, e2⟩ | ⟨e1, e2⟩
      all_goals
        go_enter Try.func8, Try.ntmps8
        go_wp2_with fail
        refine (small_any _).mono ?_
        rintro e w1 ⟨rfl, hB⟩
        go_wp2_with fail
        refine (HNa.out _).mono ?_
        rintro e w2 ⟨rfl, hb⟩
        replace hB := hB.trans (hb.mono hB.size); clear hb
        go_wp2_with fail
        refine (HNb.out _).mono ?_
        rintro e w3 ⟨rfl, hb⟩
        replace hB := hB.trans (hb.mono hB.size); clear hb
        go_wp2_with fail
        refine (in_any b _).mono ?_
        rintro e w4 ⟨rfl, rfl⟩
        rw [hin]
        go_wp2_with fail
        refine (HIa.out _).mono ?_
        rintro e w5 ⟨rfl, hb⟩
        replace hB := hB.trans (hb.mono hB.size); clear hb
        go_wp2_with fail
        refine (HIb.out _).mono ?_
        rintro e w6 ⟨rfl, hb⟩
        replace hB := hB.trans (hb.mono hB.size); clear hb
        go_wp2_with fail
        refine (HIa.out _).mono ?_
        rintro e w7 ⟨rfl, hb⟩
        replace hB := hB.trans (hb.mono hB.size); clear hb
        go_wp2
        go_ret
        exact ⟨rfl, hB⟩
end Go.Proofs.Ytmlcnmpfjallkaa
