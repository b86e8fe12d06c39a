/- Chapter 02 (code): walks: the Readers' Num. -/
import Derived.Test.YtmlcnmpfjallkaaCodeW6
import Derived.Test.YtmlcnmpfjallkaaCodeN
set_option linter.unusedVariables false
namespace Go.Proofs.Ytmlcnmpfjallkaa
open Go.RowKit
open Go.Lib (hid IsBuilder byteCells)

theorem u8and127 (c : UInt8) : bits BinOp.and IntKind.u8 (c.toNat : Int) 127 = ((c.toNat % 128 : Nat) : Int) := by
  have h := u8_and_nat c.toNat 127 (by have := c.toNat_lt; omega) (by decide)
  rw [show (127 : Nat) = 2 ^ 7 - 1 by decide, Nat.and_two_pow_sub_one_eq_mod] at h
  exact h

theorem idx_str {P : Program} (t : TypeId) (ht : P.underlying t = some .string) (s : List UInt8) (k : Nat) (c : UInt8) (hc : s[k]? = some c) : ∀ kd W, (Instr.index t (.string ⟨s.toArray⟩) (.int kd k)).run P W = .ok (.int .u8 c.toNat) W := by
  intro kd W
  obtain ⟨hk, e⟩ := List.getElem?_eq_some_iff.1 hc
  rw [run_index_string W t _ kd k ht]
  rw [dif_pos ⟨by omega, by rw [ByteArray.size_mk', List.size_toArray]; omega⟩]
  subst e
  rfl
theorem or_step (P k c : Nat) (hP : P < 128 ^ k) (hk : k < 9) : bits BinOp.or IntKind.i64 (P : Int) (wrap64 (wrap64 ((c % 128 : Nat) : Int) * 2 ^ (7 * k))) = ((P + 128 ^ k * (c % 128) : Nat) : Int) := by
  have hc : c % 128 ≤ 127 := by omega
  have e7 : (2 : Nat) ^ (7 * k) = 128 ^ k := by rw [Nat.pow_mul]
  have h2 : 128 ^ k * (c % 128) ≤ 128 ^ k * 127 := Nat.mul_le_mul_left _ hc
  have h3 : 128 ^ k ≤ 128 ^ 8 := Nat.pow_le_pow_right (by decide) (by omega)
  have h4 : (128 : Nat) ^ 8 = 72057594037927936 := by decide
  have e1 : wrap64 ((c % 128 : Nat) : Int) = ((c % 128 : Nat) : Int) := by simp only [wrap64]; omega
  have e2 : (((c % 128 : Nat) : Int) * 2 ^ (7 * k)) = ((128 ^ k * (c % 128) : Nat) : Int) := by
    rw [show 128 ^ k * (c % 128) = c % 128 * 2 ^ (7 * k) by rw [e7, Nat.mul_comm]]; simp
  have e3 : wrap64 ((128 ^ k * (c % 128) : Nat) : Int) = ((128 ^ k * (c % 128) : Nat) : Int) := by simp only [wrap64]; omega
  rw [e1, e2, e3, join_i64' (7 * k) _ _ (by omega) (by omega) (by omega) (by omega) ?_ (by rw [e7]; omega)]
  · omega
  · rw [e7]
    have : (128 ^ k * (c % 128)) % 128 ^ k = 0 := Nat.mul_mod_right _ _
    exact_mod_cast this

theorem or_step' (P k c : Nat) (hP : P < 128 ^ k) (hk : k < 9) : bits BinOp.or IntKind.i64 (P : Int) (wrap64 (((c % 128 : Nat) : Int) * 2 ^ (7 * k))) = ((P + 128 ^ k * (c % 128) : Nat) : Int) := by
  have h := or_step P k c hP hk
  rwa [show wrap64 ((c % 128 : Nat) : Int) = ((c % 128 : Nat) : Int) by unfold wrap64; omega] at h

set_option maxHeartbeats 1000000 in
set_option maxRecDepth 100000 in
theorem readNum (b : Nat) (st : St) (w : World) (h : Rd 59 b st w) : Calls Try.prog 23 #[.pointer (some ⟨b, 0, none⟩)] w (RdPost 59 b w (.int .i64 (stNum st).1) (stNum st).2) := by
  have c0 := h.c0; have c1 := h.c1; have f0 := h.f0 0; have f1 := h.f0 1
  go_enter Try.func23, Try.ntmps23
  go_wp2
  go_loop [3, 4] (fun n i => ∃ k P : Nat, k ≤ 9 ∧ k ≤ st.1.length ∧ Mid st.1 k P ∧ i = .int .i64 k ∧ n = .int .i64 P) (fun _ i => 9 - (intOf i).toNat)
  case atStart => exact ⟨0, 0, by omega, by omega, Mid.start _, rfl, rfl⟩
  case round =>
    obtain ⟨k, P, hk, hk2, hm, rfl, rfl⟩ := hrel
    by_cases hk9 : k < 9
    · by_cases hlt : k < st.1.length
      · obtain ⟨c, hc⟩ : ∃ c, st.1[k]? = some c := ⟨_, List.getElem?_eq_getElem hlt⟩
        have hidx := idx_str (P := Try.prog) 9 (by kernel_rfl) _ k c hc
        replace hc := hid hc
        by_cases hz : c.toNat = 0
        · rw [hz] at hidx
          have e1 : bits BinOp.and IntKind.u8 0 127 = 0 := by decide
          have e2 : wrap64 0 = 0 := by unfold wrap64; omega
          by_cases hk0 : 0 < k
          · have hfin := stNum_none st (hm.zero hk9 hc.out hz hk0)
            replace hfin := hid hfin
            clear hz
            go_wp2_with (go_at_call 48; refine (fail_any b _ _ h).mono ?_; rintro e w1 ⟨rfl, h1, h2⟩)
            go_ret
            unfold RdPost
            rw [hfin.out]
            exact ⟨rfl, h1, h2⟩
          · obtain rfl : k = 0 := by omega
            have hP : P = 0 := by have := hm.2; simpa using this
            subst hP
            have e3 : bits BinOp.or IntKind.i64 0 0 = 0 := by decide
            have hfin := stNum_some st _ _ (hm.last hk9 hc.out (by omega) (by omega))
            rw [hz] at hfin
            replace hfin := hid hfin
            clear hz
            have hidx0 : ∀ kd W, (Instr.index 9 (.string ⟨st.1.toArray⟩) (.int kd 0)).run Try.prog W = .ok (.int .u8 0) W := hidx
            clear hidx
            have hl1 : (1 : Int) ≤ (st.1.length : Int) := by omega
            go_wp2
            go_ret
            unfold RdPost
            rw [hfin.out]
            refine ⟨rfl, ?_, fr_set _ _ _ _⟩
            simpa [ext_drop] using h.set0 (st.1.drop 1)
        · have hz0 : ((c.toNat : Int) == 0) = false := by simp; omega
          have e0 := u8and127 c
          have hor := or_step P k c.toNat hm.2 hk9
          have hor' := or_step' P k c.toNat hm.2 hk9
          by_cases h128 : 128 ≤ c.toNat
          · have hmm := hm.more hk9 hc.out h128
            have hmod : c.toNat % 128 = c.toNat - 128 := by have := c.toNat_lt; omega
            rw [hmod] at hor hor' e0
            replace hmm := hid hmm
            clear hmod hm hz
            go_wp2
            exact ⟨⟨k + 1, _, by omega, by omega, hmm.out, by go_num, rfl⟩, by simp [intOf]; omega⟩
          · have hfin := stNum_some st _ _ (hm.last hk9 hc.out (by omega) (by omega))
            have hmod : c.toNat % 128 = c.toNat := by omega
            rw [hmod] at hor hor' e0
            replace hfin := hid hfin
            clear hmod hm hz
            go_wp2
            go_ret
            unfold RdPost
            rw [hfin.out]
            refine ⟨rfl, ?_, fr_set _ _ _ _⟩
            simpa [ext_drop] using h.set0 (st.1.drop (k + 1))
      · have hfin := stNum_none st (hm.out (Or.inr (by omega)))
        replace hfin := hid hfin
        go_wp2_with (go_at_call 48; refine (fail_any b _ _ h).mono ?_; rintro e w1 ⟨rfl, h1, h2⟩)
        go_ret
        unfold RdPost
        rw [hfin.out]
        exact ⟨rfl, h1, h2⟩
    · have hfin := stNum_none st (hm.out (Or.inl (by omega)))
      replace hfin := hid hfin
      obtain rfl : k = 9 := by omega
      have hd : decide ((9 : Int) < 9) = false := by decide
      by_cases hlt : 9 < st.1.length
      all_goals
        go_wp2_with (go_at_call 48; refine (fail_any b _ _ h).mono ?_; rintro e w1 ⟨rfl, h1, h2⟩)
        go_ret
        unfold RdPost
        rw [hfin.out]
        exact ⟨rfl, h1, h2⟩

theorem unzig_pos (z : Nat) (h : z % 2 = 0) : unzig z = ((z / 2 : Nat) : Int) := if_neg (by omega)
theorem unzig_neg (z : Nat) (h : z % 2 = 1) : unzig z = -((z / 2 : Nat) : Int) - 1 := if_pos h
theorem stInt_ok (st : St) (h : inR (unzig (stNum st).1) = true) : stInt st = (unzig (stNum st).1, (stNum st).2) := if_pos h
theorem stInt_bad (st : St) (h : inR (unzig (stNum st).1) = false) : stInt st = (0, failed) := if_neg (by simp [h])
end Go.Proofs.Ytmlcnmpfjallkaa
