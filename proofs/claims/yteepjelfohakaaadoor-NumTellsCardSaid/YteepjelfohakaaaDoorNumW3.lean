/- Chapter 01 (num): walks: the reference's functions. -/
import Derived.Test.YteepjelfohakaaaDoorNumL0
import Derived.Deep.RegionWith
import Derived.Lib.ItoaLen
set_option linter.unusedVariables false
namespace Go.Proofs.YteepjelfohakaaaDoor
open Go.RowKit
open Go.Lib (hid itoa decDigits itoa_nonneg itoa_neg)

theorem conv1z (w : World) (B : Nat) (z : Int) (c : UInt8) (hz : z = c.toNat) (hB : w.heap[B]? = some (.cells #[.int .u8 z] 5 (0, 0))) : (convert 37 9 (.slice (some ⟨B, 0, none⟩) 1 1)).run Tryd.prog w = .ok (sv [c]) w := by
  subst hz
  refine run_convert_bytes_back (P := Tryd.prog) _ 37 9 5 _ 1 [c] (by kernel_rfl) (by kernel_rfl) (by kernel_rfl) ?_
  intro j hj
  obtain rfl : j = 0 := by simpa using hj
  rw [show (⟨B, 0, none⟩ : Addr).add 0 = ⟨B, 0, none⟩ from rfl, cell_of hB]
  rfl
theorem conv1w (z : Int) (c : UInt8) (hz : z = c.toNat) (w : World) : (convert 37 9 (.slice (some ⟨w.heap.size, 0, none⟩) 1 1)).run Tryd.prog (w.alloc (.cells #[.int .u8 z] 5)) = .ok (sv [c]) (w.alloc (.cells #[.int .u8 z] 5)) :=
  conv1z _ _ z c hz (heap_alloc_new' _ _)
theorem conv1d (z : Int) (c : UInt8) (hz : z = c.toNat) (w : World) : (convert 37 9 (.slice (some ⟨w.heap.size, 0, none⟩) 1 1)).run Tryd.prog (w.alloc (.cells #[.int .u8 z] 5)).drew = .ok (sv [c]) (w.alloc (.cells #[.int .u8 z] 5)).drew :=
  conv1z _ _ z c hz (heap_alloc_new' _ _)
theorem dig_z (n : Int) (h0 : 0 ≤ n) (h : n < 10) : 48 + n = ((UInt8.ofNat (48 + n.toNat)).toNat : Int) := by simp; omega

theorem itoa_pos1 (n : Int) (h0 : 0 ≤ n) (h : n < 10) : itoa n = [UInt8.ofNat (48 + n.toNat)] := by
  obtain ⟨u, rfl⟩ : ∃ u : Nat, n = (u : Int) := ⟨n.toNat, by omega⟩
  rw [itoa_nonneg, decDigits, dif_pos (by omega)]; rfl
theorem itoa_pos2 (n : Int) (h0 : 0 ≤ n) (h : ¬ n < 10) : itoa n = itoa (n / 10) ++ [UInt8.ofNat (48 + (n % 10).toNat)] := by
  obtain ⟨u, rfl⟩ : ∃ u : Nat, n = (u : Int) := ⟨n.toNat, by omega⟩
  rw [itoa_nonneg, decDigits, dif_neg (by omega)]
  have e : (u : Int) / 10 = ((u / 10 : Nat) : Int) := by omega
  rw [e, itoa_nonneg]
  have e2 : ((u : Int) % 10).toNat = u % 10 := by omega
  rw [e2]
theorem itoa_neg1 (n : Int) (h0 : n < 0) (h : -10 < n) : itoa n = [45, UInt8.ofNat (48 + (-n).toNat)] := by
  obtain ⟨u, rfl⟩ : ∃ u : Nat, n = -(u : Int) := ⟨n.natAbs, by omega⟩
  rw [itoa_neg u (by omega), decDigits, dif_pos (by omega)]
  have e2 : (-(-(u : Int))).toNat = u := by omega
  rw [e2]
theorem itoa_neg2 (n : Int) (h : ¬ -10 < n) : itoa n = itoa (n.tdiv 10) ++ [UInt8.ofNat (48 + (-(n.tmod 10)).toNat)] := by
  obtain ⟨u, rfl⟩ : ∃ u : Nat, n = -(u : Int) := ⟨n.natAbs, by omega⟩
  have e : (-(u : Int)).tdiv 10 = -((u / 10 : Nat) : Int) := by rw [Int.neg_tdiv, Int.tdiv_eq_ediv_of_nonneg (by omega)]; omega
  have e3 : (-(-(u : Int)).tmod 10).toNat = u % 10 := by rw [Int.neg_tmod, Int.tmod_eq_emod_of_nonneg (by omega)]; omega
  rw [e, e3, itoa_neg u (by omega), itoa_neg (u / 10) (by omega), decDigits, dif_neg (by omega)]
  rfl

set_option maxRecDepth 100000 in
set_option maxHeartbeats 2000000 in
theorem rtext_any (k : Nat) : ∀ (n : Int) (w : World), n.natAbs ≤ k → -9223372036854775808 ≤ n → n ≤ 9223372036854775807 →
    Calls Tryd.prog 24 #[iv n] w fun e w' => e = .returned (sv (itoa n)) ∧ Below w.heap.size w w' := by
  have base : ∀ (n : Int) (w : World), -10 < n → n < 10 → Calls Tryd.prog 24 #[iv n] w fun e w' => e = .returned (sv (itoa n)) ∧ Below w.heap.size w w' := by
    intro n w hn1 hn2
    by_cases h0 : n < 0
    · have hcv := conv1w (48 - n) (UInt8.ofNat (48 + (-n).toNat)) (by have := dig_z (-n) (by omega) (by omega); omega)
      have he := hid (itoa_neg1 n h0 hn1)
      generalize UInt8.ofNat (48 + (-n).toNat) = c at *
      go_enter Tryd.func24, Tryd.ntmps24
      go_wp2_with fail
      go_ret
      exact ⟨by rw [he.out]; exact ret_str rfl, (Below.refl _ _).alloc (Nat.le_refl _) _⟩
    · have hcv := conv1w (48 + n) (UInt8.ofNat (48 + n.toNat)) (dig_z n (by omega) (by omega))
      have he := hid (itoa_pos1 n (by omega) hn2)
      generalize UInt8.ofNat (48 + n.toNat) = c at *
      go_enter Tryd.func24, Tryd.ntmps24
      go_wp2_with fail
      go_ret
      exact ⟨by rw [he.out]; exact ret_str rfl, (Below.refl _ _).alloc (Nat.le_refl _) _⟩
  induction k with
  | zero =>
    intro n w hk hlo hhi
    exact base n w (by omega) (by omega)
  | succ k ih =>
    intro n w hk hlo hhi
    by_cases h0 : n < 0
    · by_cases h10 : -10 < n
      · exact base n w h10 (by omega)
      · obtain ⟨q, r, hq, hr, hr0, hr9, hnq⟩ : ∃ q r : Int, q = n.tdiv 10 ∧ r = n.tmod 10 ∧ -9 ≤ r ∧ r ≤ 0 ∧ n = 10 * q + r := by
          refine ⟨_, _, rfl, rfl, ?_⟩
          have h1 := Int.mul_tdiv_add_tmod n 10
          have h2 : n.tmod 10 = -((-n).tmod 10) := by rw [Int.neg_tmod]; omega
          have h3 := Int.tmod_nonneg 10 (show 0 ≤ -n by omega)
          have h4 := Int.tmod_lt_of_pos (-n) (show (0 : Int) < 10 by decide)
          omega
        have he := hid (itoa_neg2 n h10)
        rw [← hq, ← hr] at he
        have hcv := conv1w (48 - r) (UInt8.ofNat (48 + (-r).toNat)) (by have := dig_z (-r) (by omega) (by omega); omega)
        have hcd := conv1d (48 - r) (UInt8.ofNat (48 + (-r).toNat)) (by have := dig_z (-r) (by omega) (by omega); omega)
        have hcz := hid (fun w B => conv1z w B (48 - r) (UInt8.ofNat (48 + (-r).toNat)) (by have := dig_z (-r) (by omega) (by omega); omega))
        have hih := hid (ih q)
        have b1 : q.natAbs ≤ k := by omega
        have b2 : -9223372036854775808 ≤ q := by omega
        have b3 : q ≤ 9223372036854775807 := by omega
        clear ih hk hnq
        replace hq := hq.symm
        replace hr := hr.symm
        go_enter Tryd.func24, Tryd.ntmps24
        go_wp2_with fail
        generalize UInt8.ofNat (48 + (-r).toNat) = c at *
        have hil := Lib.itoa_length_le q b2 b3
        have hcat : ∀ W, (Op.stringOp .add ⟨(itoa q).toArray⟩ ⟨[c].toArray⟩).run Tryd.prog W = .ok (.string ⟨(itoa q ++ [c]).toArray⟩) W := fun W => run_string_add_lists W _ _ (by omega) (by simp)
        clear hil
        have hw1 : IntKind.i64.wrap q = q := by rw [IntKind.wrap_i64]; omega
        have hw2 : IntKind.i64.wrap (48 - r) = 48 - r := by rw [IntKind.wrap_i64]; omega
        have hw3 : IntKind.u8.wrap (48 - r) = 48 - r := by rw [IntKind.wrap_u8]; omega
        go_region_with (go_at_call 24; refine (hih.out _ b1 b2 b3).mono ?_; rintro e w1 ⟨rfl, hb⟩; try (have hcv1 := hcz.out w1 _ (below_keep hb (heap_alloc_new' _ _) (by simp))))
        all_goals
          clear hw1 hw2 hw3
          go_wp2_with fail
          go_ret
          first
          | exact ⟨by rw [he.out]; exact ret_str rfl, ((Below.refl _ w).drew.trans hb).alloc hb.size _⟩
          | exact ⟨by rw [he.out]; exact ret_str rfl, (((Below.refl _ w).alloc (Nat.le_refl _) _).drew).trans (hb.mono (by simp))⟩
    · by_cases h10 : n < 10
      · exact base n w (by omega) h10
      · obtain ⟨q, r, hq, hr, hr0, hr9, hnq⟩ : ∃ q r : Int, q = n / 10 ∧ r = n % 10 ∧ 0 ≤ r ∧ r ≤ 9 ∧ n = 10 * q + r := ⟨_, _, rfl, rfl, by omega⟩
        have he := hid (itoa_pos2 n (by omega) h10)
        rw [← hq, ← hr] at he
        have hcv := conv1w (48 + r) (UInt8.ofNat (48 + r.toNat)) (dig_z r (by omega) (by omega))
        have hcd := conv1d (48 + r) (UInt8.ofNat (48 + r.toNat)) (dig_z r (by omega) (by omega))
        have hcz := hid (fun w B => conv1z w B (48 + r) (UInt8.ofNat (48 + r.toNat)) (dig_z r (by omega) (by omega)))
        have hih := hid (ih q)
        have b1 : q.natAbs ≤ k := by omega
        have b2 : -9223372036854775808 ≤ q := by omega
        have b3 : q ≤ 9223372036854775807 := by omega
        have hq2 : n.tdiv 10 = q := by rw [Int.tdiv_eq_ediv_of_nonneg (by omega)]; exact hq.symm
        have hr2 : n.tmod 10 = r := by rw [Int.tmod_eq_emod_of_nonneg (by omega)]; exact hr.symm
        clear ih hk hnq
        replace hq := hq.symm
        replace hr := hr.symm
        go_enter Tryd.func24, Tryd.ntmps24
        go_wp2_with fail
        generalize UInt8.ofNat (48 + r.toNat) = c at *
        have hil := Lib.itoa_length_le q b2 b3
        have hcat : ∀ W, (Op.stringOp .add ⟨(itoa q).toArray⟩ ⟨[c].toArray⟩).run Tryd.prog W = .ok (.string ⟨(itoa q ++ [c]).toArray⟩) W := fun W => run_string_add_lists W _ _ (by omega) (by simp)
        clear hil
        have hw1 : IntKind.i64.wrap q = q := by rw [IntKind.wrap_i64]; omega
        have hw2 : IntKind.i64.wrap (48 + r) = 48 + r := by rw [IntKind.wrap_i64]; omega
        have hw3 : IntKind.u8.wrap (48 + r) = 48 + r := by rw [IntKind.wrap_u8]; omega
        go_region_with (go_at_call 24; refine (hih.out _ b1 b2 b3).mono ?_; rintro e w1 ⟨rfl, hb⟩; try (have hcv1 := hcz.out w1 _ (below_keep hb (heap_alloc_new' _ _) (by simp))))
        all_goals
          clear hw1 hw2 hw3
          go_wp2_with fail
          go_ret
          first
          | exact ⟨by rw [he.out]; exact ret_str rfl, ((Below.refl _ w).drew.trans hb).alloc hb.size _⟩
          | exact ⟨by rw [he.out]; exact ret_str rfl, (((Below.refl _ w).alloc (Nat.le_refl _) _).drew).trans (hb.mono (by simp))⟩
end Go.Proofs.YteepjelfohakaaaDoor
