/- Chapter 02 (code): walks: the reference Reader's Num. -/
import Derived.Test.YtmlcnmpfjallkaaCodeW7
import Derived.Test.YtmlcnmpfjallkaaCodeN2
set_option linter.unusedVariables false
namespace Go.Proofs.Ytmlcnmpfjallkaa
open Go.RowKit
open Go.Lib (hid IsBuilder byteCells)

set_option maxHeartbeats 1000000 in
set_option maxRecDepth 100000 in
theorem rreadNum (b : Nat) (st : St) (w : World) (h : Rd 61 b st w) (hs : st.1.length ≤ 140737488355328) : Calls Try.prog 24 #[.pointer (some ⟨b, 0, none⟩)] w (RdPost 61 b w (.int .i64 (stNum st).1) (stNum st).2) := by
  have c0 := h.c0; have c1 := h.c1; have f0 := h.f0 0; have f1 := h.f0 1
  go_enter Try.func24, Try.ntmps24
  go_wp2
  go_loop [3] (fun i => ∃ k : Nat, k ≤ st.1.length ∧ AllHi st.1 k ∧ i = .int .i64 k) (fun i => st.1.length - (intOf i).toNat)
  case atStart => exact ⟨0, by omega, AllHi.zero _, rfl⟩
  case round =>
    obtain ⟨k, hk2, hm, rfl⟩ := hrel
    by_cases hlt : k < st.1.length
    · obtain ⟨c, hc⟩ : ∃ c, st.1[k]? = some c := ⟨_, List.getElem?_eq_getElem hlt⟩
      have hidx := idx_str (P := Try.prog) 9 (by kernel_rfl) _ k c hc
      replace hc := hid hc
      by_cases h128 : 128 ≤ c.toNat
      · replace hm := hm.succ hc.out h128
        go_wp2
        exact ⟨⟨k + 1, by omega, hm, by go_num⟩, by simp [intOf]; omega⟩
      · by_cases hk8 : 8 < k
        · have hfin := stNum_none st (dnum_none_of k 9 true _ hm (Or.inl (by omega)))
          replace hfin := hid hfin
          go_wp2_with (go_at_call 49; refine (rfail_any b _ _ h).mono ?_; rintro e w1 ⟨rfl, h1, h2⟩)
          go_ret
          unfold RdPost
          rw [hfin.out]
          exact ⟨rfl, h1, h2⟩
        · by_cases hz : c.toNat = 0 ∧ 0 < k
          · have hfin := stNum_none st (dnum_none_of k 9 true _ hm (Or.inr (Or.inr ⟨hz.2, c, hc.out, hz.1⟩)))
            replace hfin := hid hfin
            obtain ⟨hz1, hz2⟩ := hz
            have hz3 : ((c.toNat : Int) == 0) = true := by simp [hz1]
            clear hz1
            go_wp2_with (go_at_call 49; refine (rfail_any b _ _ h).mono ?_; rintro e w1 ⟨rfl, h1, h2⟩)
            go_ret
            unfold RdPost
            rw [hfin.out]
            exact ⟨rfl, h1, h2⟩
          · have hfin := stNum_some st _ _ (dnum_hiv k 9 true _ c hm hc.out (by omega) (by omega) (by simp; omega))
            rw [← hiFrom_all] at hfin
            replace hfin := hid hfin
            have hk8' : k ≤ 8 := by omega
            have hgoal : ∀ (hz' : (0 < k ∧ ((c.toNat : Int) == 0) = false) ∨ ¬ 0 < k), True := fun _ => trivial
            clear hgoal
            by_cases hk0 : 0 < k
            all_goals
              have hz3 : 0 < k → ((c.toNat : Int) == 0) = false := fun hk => by simp; omega
              try replace hz3 := hz3 hk0
              clear hz
              go_wp2
              go_loop [4, 5] (fun n i => ∃ (j : Nat) (z : Int), j ≤ k + 1 ∧ z = (j : Int) - 1 ∧ i = .int .i64 z ∧ n = .int .i64 (hiFrom st.1 k j)) (fun _ i => (intOf i + 1).toNat)
              case atStart => exact ⟨k + 1, k, by omega, by omega, rfl, by rw [hiFrom_end]; rfl⟩
              case round =>
                obtain ⟨j, z, hj, hjz, rfl, rfl⟩ := hrel
                rcases Nat.eq_zero_or_pos j with hj0 | hj0
                · subst hj0
                  obtain rfl : z = -1 := by omega
                  clear hjz
                  go_wp2
                  go_ret
                  unfold RdPost
                  rw [hfin.out]
                  refine ⟨rfl, ?_, fr_set _ _ _ _⟩
                  simpa [ext_drop] using h.set0 (st.1.drop (k + 1))
                · obtain ⟨m, rfl⟩ : ∃ m, j = m + 1 := ⟨j - 1, by omega⟩
                  obtain rfl : z = m := by omega
                  clear hjz hidx
                  obtain ⟨d, hd⟩ : ∃ d, st.1[m]? = some d := ⟨_, List.getElem?_eq_getElem (by omega)⟩
                  have hidx := idx_str (P := Try.prog) 9 (by kernel_rfl) _ m d hd
                  have hstep := hiFrom_step st.1 k m (by omega) d hd
                  have hsm := hiFrom_lt st.1 k (m + 1) hk8' (by omega)
                  have e0 := u8and127 d
                  have hdm : d.toNat % 128 < 128 := Nat.mod_lt _ (by decide)
                  replace hstep := hid hstep
                  clear hd
                  go_wp2
                  refine ⟨⟨m, (m : Int) - 1, by omega, rfl, rfl, ?_⟩, by simp [intOf]⟩
                  rw [hstep.out]; go_num
    · have hfin := stNum_none st (dnum_none_of k 9 true _ hm (Or.inr (Or.inl (by omega))))
      replace hfin := hid hfin
      go_wp2_with (go_at_call 49; refine (rfail_any b _ _ h).mono ?_; rintro e w1 ⟨rfl, h1, h2⟩)
      go_ret
      unfold RdPost
      rw [hfin.out]
      exact ⟨rfl, h1, h2⟩
end Go.Proofs.Ytmlcnmpfjallkaa
