/- RVA: RNum, RVa, RVb, in one text. -/
import Derived.Test.YtnbhpicmflagcaaDoorLexP
import Derived.Deep.RegionWith
import Derived.Lib.ItoaLen
import Derived.Test.YtnbhpicmflagcaaDoorMatE
set_option linter.unusedVariables false
namespace Go.Proofs.YtnbhpicmflagcaaDoor
open Go.RowKit
open Go.Lib (hid itoa decDigits itoa_nonneg itoa_neg)

theorem conv1z (w : World) (B : Nat) (z : Int) (c : UInt8) (hz : z = c.toNat) (hB : w.heap[B]? = some (.cells #[.int .u8 z] 5 (0, 0))) : (convert 53 9 (.slice (some ⟨B, 0, none⟩) 1 1)).run Tryd.prog w = .ok (sv [c]) w := by
  subst hz
  refine run_convert_bytes_back (P := Tryd.prog) _ 53 9 5 _ 1 [c] (by kernel_rfl) (by kernel_rfl) (by kernel_rfl) ?_
  intro j hj
  obtain rfl : j = 0 := by simpa using hj
  rw [show (⟨B, 0, none⟩ : Addr).add 0 = ⟨B, 0, none⟩ from rfl, cell_of hB]
  rfl
theorem conv1w (z : Int) (c : UInt8) (hz : z = c.toNat) (w : World) : (convert 53 9 (.slice (some ⟨w.heap.size, 0, none⟩) 1 1)).run Tryd.prog (w.alloc (.cells #[.int .u8 z] 5)) = .ok (sv [c]) (w.alloc (.cells #[.int .u8 z] 5)) :=
  conv1z _ _ z c hz (heap_alloc_new' _ _)
theorem conv1d (z : Int) (c : UInt8) (hz : z = c.toNat) (w : World) : (convert 53 9 (.slice (some ⟨w.heap.size, 0, none⟩) 1 1)).run Tryd.prog (w.alloc (.cells #[.int .u8 z] 5)).drew = .ok (sv [c]) (w.alloc (.cells #[.int .u8 z] 5)).drew :=
  conv1z _ _ z c hz (heap_alloc_new' _ _)
theorem dig_z (n : Int) (h0 : 0 ≤ n) (h : n < 10) : 48 + n = ((UInt8.ofNat (48 + n.toNat)).toNat : Int) := by simp; omega

theorem itoa_pos1 (n : Int) (h0 : 0 ≤ n) (h : n < 10) : itoa n = [UInt8.ofNat (48 + n.toNat)] := by
  obtain ⟨u, rfl⟩ : ∃ u : Nat, n = (u : Int) := ⟨n.toNat, by omega⟩
  rw [itoa_nonneg, decDigits, dif_pos (by omega)]; rfl
theorem itoa_pos2 (n : Int) (h0 : 0 ≤ n) (h : ¬ n < 10) : itoa n = itoa (n / 10) ++ [UInt8.ofNat (48 + (n % 10).toNat)] := by
  obtain ⟨u, rfl⟩ : ∃ u : Nat, n = (u : Int) := ⟨n.toNat, by omega⟩
  rw [itoa_nonneg, decDigits, dif_neg (by omega)]
  have e : (u : Int) / 10 = ((u / 10 : Nat) : Int) := by omega
  rw [e, itoa_nonneg]
  have e2 : ((u : Int) % 10).toNat = u % 10 := by omega
  rw [e2]
theorem itoa_neg1 (n : Int) (h0 : n < 0) (h : -10 < n) : itoa n = [45, UInt8.ofNat (48 + (-n).toNat)] := by
  obtain ⟨u, rfl⟩ : ∃ u : Nat, n = -(u : Int) := ⟨n.natAbs, by omega⟩
  rw [itoa_neg u (by omega), decDigits, dif_pos (by omega)]
  have e2 : (-(-(u : Int))).toNat = u := by omega
  rw [e2]
theorem itoa_neg2 (n : Int) (h : ¬ -10 < n) : itoa n = itoa (n.tdiv 10) ++ [UInt8.ofNat (48 + (-(n.tmod 10)).toNat)] := by
  obtain ⟨u, rfl⟩ : ∃ u : Nat, n = -(u : Int) := ⟨n.natAbs, by omega⟩
  have e : (-(u : Int)).tdiv 10 = -((u / 10 : Nat) : Int) := by rw [Int.neg_tdiv, Int.tdiv_eq_ediv_of_nonneg (by omega)]; omega
  have e3 : (-(-(u : Int)).tmod 10).toNat = u % 10 := by rw [Int.neg_tmod, Int.tmod_eq_emod_of_nonneg (by omega)]; omega
  rw [e, e3, itoa_neg u (by omega), itoa_neg (u / 10) (by omega), decDigits, dif_neg (by omega)]
  rfl

set_option maxRecDepth 100000 in
set_option maxHeartbeats 2000000 in
theorem rnumtext_any (k : Nat) : ∀ (n : Int) (w : World), n.natAbs ≤ k → -9223372036854775808 ≤ n → n ≤ 9223372036854775807 →
    Calls Tryd.prog 86 #[iv n] w fun e w' => e = .returned (sv (itoa n)) ∧ Below w.heap.size w w' := by
  have base : ∀ (n : Int) (w : World), -10 < n → n < 10 → Calls Tryd.prog 86 #[iv n] w fun e w' => e = .returned (sv (itoa n)) ∧ Below w.heap.size w w' := by
    intro n w hn1 hn2
    by_cases h0 : n < 0
    · have hcv := conv1w (48 - n) (UInt8.ofNat (48 + (-n).toNat)) (by have := dig_z (-n) (by omega) (by omega); omega)
      have he := hid (itoa_neg1 n h0 hn1)
      generalize UInt8.ofNat (48 + (-n).toNat) = c at *
      go_enter Tryd.func86, Tryd.ntmps86
      go_wp2_with fail
      go_ret
      exact ⟨by rw [he.out]; exact ret_str rfl, (Below.refl _ _).alloc (Nat.le_refl _) _⟩
    · have hcv := conv1w (48 + n) (UInt8.ofNat (48 + n.toNat)) (dig_z n (by omega) (by omega))
      have he := hid (itoa_pos1 n (by omega) hn2)
      generalize UInt8.ofNat (48 + n.toNat) = c at *
      go_enter Tryd.func86, Tryd.ntmps86
      go_wp2_with fail
      go_ret
      exact ⟨by rw [he.out]; exact ret_str rfl, (Below.refl _ _).alloc (Nat.le_refl _) _⟩
  induction k with
  | zero =>
    intro n w hk hlo hhi
    exact base n w (by omega) (by omega)
  | succ k ih =>
    intro n w hk hlo hhi
    by_cases h0 : n < 0
    · by_cases h10 : -10 < n
      · exact base n w h10 (by omega)
      · obtain ⟨q, r, hq, hr, hr0, hr9, hnq⟩ : ∃ q r : Int, q = n.tdiv 10 ∧ r = n.tmod 10 ∧ -9 ≤ r ∧ r ≤ 0 ∧ n = 10 * q + r := by
          refine ⟨_, _, rfl, rfl, ?_⟩
          have h1 := Int.mul_tdiv_add_tmod n 10
          have h2 : n.tmod 10 = -((-n).tmod 10) := by rw [Int.neg_tmod]; omega
          have h3 := Int.tmod_nonneg 10 (show 0 ≤ -n by omega)
          have h4 := Int.tmod_lt_of_pos (-n) (show (0 : Int) < 10 by decide)
          omega
        have he := hid (itoa_neg2 n h10)
        rw [← hq, ← hr] at he
        have hcv := conv1w (48 - r) (UInt8.ofNat (48 + (-r).toNat)) (by have := dig_z (-r) (by omega) (by omega); omega)
        have hcd := conv1d (48 - r) (UInt8.ofNat (48 + (-r).toNat)) (by have := dig_z (-r) (by omega) (by omega); omega)
        have hcz := hid (fun w B => conv1z w B (48 - r) (UInt8.ofNat (48 + (-r).toNat)) (by have := dig_z (-r) (by omega) (by omega); omega))
        have hih := hid (ih q)
        have b1 : q.natAbs ≤ k := by omega
        have b2 : -9223372036854775808 ≤ q := by omega
        have b3 : q ≤ 9223372036854775807 := by omega
        clear ih hk hnq
        replace hq := hq.symm
        replace hr := hr.symm
        go_enter Tryd.func86, Tryd.ntmps86
        go_wp2_with fail
        generalize UInt8.ofNat (48 + (-r).toNat) = c at *
        have hil := Lib.itoa_length_le q b2 b3
        have hcat : ∀ W, (Op.stringOp .add ⟨(itoa q).toArray⟩ ⟨[c].toArray⟩).run Tryd.prog W = .ok (.string ⟨(itoa q ++ [c]).toArray⟩) W := fun W => run_string_add_lists W _ _ (by omega) (by simp)
        clear hil
        have hw1 : IntKind.i64.wrap q = q := by rw [IntKind.wrap_i64]; omega
        have hw2 : IntKind.i64.wrap (48 - r) = 48 - r := by rw [IntKind.wrap_i64]; omega
        have hw3 : IntKind.u8.wrap (48 - r) = 48 - r := by rw [IntKind.wrap_u8]; omega
        go_region_with (go_at_call 86; refine (hih.out _ b1 b2 b3).mono ?_; rintro e w1 ⟨rfl, hb⟩; try (have hcv1 := hcz.out w1 _ (below_keep hb (heap_alloc_new' _ _) (by simp))))
        all_goals
          clear hw1 hw2 hw3
          go_wp2_with fail
          go_ret
          first
          | exact ⟨by rw [he.out]; exact ret_str rfl, ((Below.refl _ w).drew.trans hb).alloc hb.size _⟩
          | exact ⟨by rw [he.out]; exact ret_str rfl, (((Below.refl _ w).alloc (Nat.le_refl _) _).drew).trans (hb.mono (by simp))⟩
    · by_cases h10 : n < 10
      · exact base n w (by omega) h10
      · obtain ⟨q, r, hq, hr, hr0, hr9, hnq⟩ : ∃ q r : Int, q = n / 10 ∧ r = n % 10 ∧ 0 ≤ r ∧ r ≤ 9 ∧ n = 10 * q + r := ⟨_, _, rfl, rfl, by omega⟩
        have he := hid (itoa_pos2 n (by omega) h10)
        rw [← hq, ← hr] at he
        have hcv := conv1w (48 + r) (UInt8.ofNat (48 + r.toNat)) (dig_z r (by omega) (by omega))
        have hcd := conv1d (48 + r) (UInt8.ofNat (48 + r.toNat)) (dig_z r (by omega) (by omega))
        have hcz := hid (fun w B => conv1z w B (48 + r) (UInt8.ofNat (48 + r.toNat)) (dig_z r (by omega) (by omega)))
        have hih := hid (ih q)
        have b1 : q.natAbs ≤ k := by omega
        have b2 : -9223372036854775808 ≤ q := by omega
        have b3 : q ≤ 9223372036854775807 := by omega
        have hq2 : n.tdiv 10 = q := by rw [Int.tdiv_eq_ediv_of_nonneg (by omega)]; exact hq.symm
        have hr2 : n.tmod 10 = r := by rw [Int.tmod_eq_emod_of_nonneg (by omega)]; exact hr.symm
        clear ih hk hnq
        replace hq := hq.symm
        replace hr := hr.symm
        go_enter Tryd.func86, Tryd.ntmps86
        go_wp2_with fail
        generalize UInt8.ofNat (48 + r.toNat) = c at *
        have hil := Lib.itoa_length_le q b2 b3
        have hcat : ∀ W, (Op.stringOp .add ⟨(itoa q).toArray⟩ ⟨[c].toArray⟩).run Tryd.prog W = .ok (.string ⟨(itoa q ++ [c]).toArray⟩) W := fun W => run_string_add_lists W _ _ (by omega) (by simp)
        clear hil
        have hw1 : IntKind.i64.wrap q = q := by rw [IntKind.wrap_i64]; omega
        have hw2 : IntKind.i64.wrap (48 + r) = 48 + r := by rw [IntKind.wrap_i64]; omega
        have hw3 : IntKind.u8.wrap (48 + r) = 48 + r := by rw [IntKind.wrap_u8]; omega
        go_region_with (go_at_call 86; refine (hih.out _ b1 b2 b3).mono ?_; rintro e w1 ⟨rfl, hb⟩; try (have hcv1 := hcz.out w1 _ (below_keep hb (heap_alloc_new' _ _) (by simp))))
        all_goals
          clear hw1 hw2 hw3
          go_wp2_with fail
          go_ret
          first
          | exact ⟨by rw [he.out]; exact ret_str rfl, ((Below.refl _ w).drew.trans hb).alloc hb.size _⟩
          | exact ⟨by rw [he.out]; exact ret_str rfl, (((Below.refl _ w).alloc (Nat.le_refl _) _).drew).trans (hb.mono (by simp))⟩
def rfin (s : List UInt8) (neg : Bool) (m low high : Int) : Option Int :=
  if neg then (if itoa m = s then (if m < low ∨ high < m then none else some m) else none)
  else if m = -9223372036854775808 then none else if itoa (-m) = s then (if -m < low ∨ high < -m then none else some (-m)) else none
theorem rfin_eq (s : List UInt8) (m low high : Int) (h : pgo (pdig s) 0 = some m) : parse s low high = rfin s (pneg s) m low high := by
  have hle := pgo_ge _ 0 m h (by omega) (by omega)
  have hle2 : m ≤ 0 := by
    obtain ⟨hd, hv⟩ := pgo_some _ _ _ h
    rw [hv]; exact valI_le _ 0 hd (Int.le_refl _)
  cases hb : pbad s with
  | true =>
    have hp : parse s low high = none := by unfold parse; rw [hb]; rfl
    rw [hp]
    have hno : ∀ k : Int, -9223372036854775808 ≤ k → k ≤ 9223372036854775807 → itoa k ≠ s := by
      intro k h1 h2 e
      have := (itoa_parts k h1 h2).1
      rw [e, hb] at this; cases this
    unfold rfin
    split
    · rw [if_neg (hno m hle (by omega))]
    · split
      · rfl
      · rw [if_neg (hno (-m) (by omega) (by omega))]
  | false =>
    have hp := parse_good s low high hb
    rw [h] at hp
    have hp2 : parse s low high = pend (pneg s) m low high := hp
    have hwide : ∀ k, pend (pneg s) m (-9223372036854775808) 9223372036854775807 = some k → itoa k = s := by
      intro k hk
      have := parse_good s (-9223372036854775808) 9223372036854775807 hb
      rw [h] at this
      exact (parse_some (this.trans hk)).1
    rw [hp2]
    unfold pend at hwide ⊢
    unfold rfin
    cases hn : pneg s with
    | true =>
      rw [hn] at hwide
      simp only [if_true] at hwide ⊢
      rw [if_pos (hwide m (by rw [if_neg (by omega)]))]
    | false =>
      rw [hn] at hwide
      simp only [Bool.false_eq_true, if_false] at hwide ⊢
      by_cases hm : m = -9223372036854775808
      · rw [if_pos hm, if_pos hm]
      · rw [if_neg hm, if_neg hm, if_pos (hwide (-m) (by rw [if_neg hm, if_neg (by omega)]))]
theorem parse_pgo_none (s : List UInt8) (low high : Int) (h : pgo (pdig s) 0 = none) : parse s low high = none := by
  unfold parse; rw [h]; split <;> rfl

set_option maxRecDepth 100000 in
set_option maxHeartbeats 4000000 in
theorem rparse_any (s : List UInt8) (low high : Int) (w : World) (hs : s.length ≤ 140737488355328) : Calls Tryd.prog 81 #[sv s, iv low, iv high] w fun e w' => e = .returned (optv (parse s low high)) ∧ Below w.heap.size w w' := by
  have hfin := hid (fun m (h : pgo (pdig s) 0 = some m) => rfin_eq s m low high h)
  have hnone := hid (parse_pgo_none s low high)
  have hlen : (pdig s).length ≤ 140737488355328 := by
    unfold pdig; split
    · simp; omega
    · exact hs
  go_enter Tryd.func81, Tryd.ntmps81
  go_upto_region 2 with (fail)
  go_cut [9] (fun g w' => g = .bool (pneg s) ∧ w = w')
  case first =>
    rcases s with _ | ⟨c, r⟩
    · go_wp2
      go_meet
      case rel => exact ⟨rfl, rfl⟩
    · have hi := idx_str0 (P := Tryd.prog) 9 (by kernel_rfl) c r
      have e2 := hid (pneg_cons c r)
      by_cases hc : c = 45
      · subst hc
        go_wp2
        go_meet
        case rel => exact ⟨by rw [e2.out]; rfl, rfl⟩
      · have h45 : ((c.toNat : Int) == 45) = false := byte_ne hc
        have e3 := hid (show decide (c = 45) = false from decide_eq_false hc)
        clear hc
        go_wp2
        go_meet
        case rel => exact ⟨by rw [e2.out, e3.out], rfl⟩
  case rest =>
    obtain ⟨rfl, rfl⟩ := hcut
    cases hpn : pneg s with
    | true =>
      obtain ⟨r, rfl⟩ : ∃ r, s = 45 :: r := by
        cases s with
        | nil => exact absurd hpn (by decide)
        | cons x r =>
          rw [pneg_cons] at hpn
          exact ⟨r, by rw [of_decide_eq_true hpn]⟩
      have e1 : pdig ((45 : UInt8) :: r) = r := by unfold pdig; rw [hpn]; rfl
      rw [e1] at hfin hnone hlen
      rw [hpn] at hfin
      have hex := ext_tail 45 r
      replace hpn := hid hpn
      replace e1 := hid e1
      go_wp2_with fail
      go_loop [11, 12] (fun n i => ∃ (pos : Nat) (m : Int), i = .int .i64 pos ∧ n = .int .i64 m ∧ pos ≤ r.length ∧ -9223372036854775808 ≤ m ∧ m ≤ 0 ∧ pgo r 0 = pgo (r.drop pos) m) (fun _ i => r.length - (intOf i).toNat)
      case atStart => exact ⟨0, 0, rfl, rfl, Nat.zero_le _, by omega, by omega, rfl⟩
      case round =>
        obtain ⟨pos, m, rfl, rfl, hp, h0, h1, h2⟩ := hrel
        by_cases hlt : pos < r.length
        · obtain ⟨q, hq⟩ : ∃ q, r[pos]? = some q := ⟨_, List.getElem?_eq_getElem hlt⟩
          have hix := idx_str (P := Tryd.prog) 9 (by kernel_rfl) r pos q hq
          have hdrop : r.drop pos = q :: r.drop (pos + 1) := by
            obtain ⟨_, e⟩ := List.getElem?_eq_some_iff.1 hq
            rw [List.drop_eq_getElem_cons hlt, e]
          rw [hdrop, pgo_cons] at h2
          clear hdrop hq
          have hq256 : q.toNat < 256 := q.toNat_lt
          cases hdg : isDg q with
          | true =>
            have hdg2 := (isDg_iff q).1 hdg
            obtain ⟨hg1, hg2⟩ := hdg2
            rw [hdg, if_pos rfl] at h2
            have hst := pgo_step (c := q) (n := m) hdg h1
            by_cases hov : m < (-9223372036854775808 + ((q.toNat : Int) - 48)).tdiv 10
            · rw [if_pos hov] at h2
              have hr := hid (hnone.out h2)
              clear hst hdg h2
              go_wp2
              go_ret2
              exact ⟨by rw [hr.out]; rfl, Below.refl _ _⟩
            · rw [if_neg hov] at h2
              replace h2 := hid h2
              have hst2 := hst hov
              obtain ⟨hs1, hs2⟩ := hst2
              clear hst hdg
              go_wp2
              go_round
              case rel => exact ⟨pos + 1, _, by go_num, rfl, by omega, by omega, by omega, by rw [h2.out]; congr 1; omega⟩
              case measure => simp [intOf]; omega
          | false =>
            rw [hdg, if_neg (by simp)] at h2
            have hr := hid (hnone.out h2)
            have hnd : q.toNat < 48 ∨ 57 < q.toNat := by
              have := isDg_iff q
              rw [hdg] at this
              simp at this
              omega
            clear hdg h2
            rcases hnd with hnd | hnd
            all_goals
              go_wp2
              go_ret2
              exact ⟨by rw [hr.out]; rfl, Below.refl _ _⟩
        · have hpl : pos = r.length := by omega
          rw [hpl, List.drop_length] at h2
          have hres := hfin.out m h2
          clear h2
          subst hpl
          unfold rfin at hres
          rw [if_pos rfl] at hres
          by_cases hi : itoa m = 45 :: r
          · have hib : (itoa m == 45 :: r) = true := by simpa using hi
            rw [if_pos hi] at hres
            clear hi
            by_cases k1 : m < low
            · rw [if_pos (Or.inl k1)] at hres
              have hr := hid hres
              clear hres
              go_wp2_with (go_at_call 86; refine (rnumtext_any _ m _ (Nat.le_refl _) (by omega) (by omega)).mono ?_; rintro e w1 ⟨rfl, hb⟩)
              go_ret2
              exact ⟨by rw [hr.out]; rfl, hb⟩
            · by_cases k2 : high < m
              · rw [if_pos (Or.inr k2)] at hres
                have hr := hid hres
                clear hres
                go_wp2_with (go_at_call 86; refine (rnumtext_any _ m _ (Nat.le_refl _) (by omega) (by omega)).mono ?_; rintro e w1 ⟨rfl, hb⟩)
                go_ret2
                exact ⟨by rw [hr.out]; rfl, hb⟩
              · rw [if_neg (by omega)] at hres
                have hr := hid hres
                clear hres
                go_wp2_with (go_at_call 86; refine (rnumtext_any _ m _ (Nat.le_refl _) (by omega) (by omega)).mono ?_; rintro e w1 ⟨rfl, hb⟩)
                go_ret2
                exact ⟨by rw [hr.out]; rfl, hb⟩
          · have hib : (itoa m == 45 :: r) = false := by simpa using hi
            rw [if_neg hi] at hres
            have hr := hid hres
            clear hres hi
            go_wp2_with (go_at_call 86; refine (rnumtext_any _ m _ (Nat.le_refl _) (by omega) (by omega)).mono ?_; rintro e w1 ⟨rfl, hb⟩)
            go_ret2
            exact ⟨by rw [hr.out]; rfl, hb⟩
    | false =>
      have e1 : pdig s = s := by unfold pdig; rw [hpn]; rfl
      rw [e1] at hfin hnone hlen
      rw [hpn] at hfin
      replace hpn := hid hpn
      replace e1 := hid e1
      go_wp2_with fail
      go_loop [11, 12] (fun n i => ∃ (pos : Nat) (m : Int), i = .int .i64 pos ∧ n = .int .i64 m ∧ pos ≤ s.length ∧ -9223372036854775808 ≤ m ∧ m ≤ 0 ∧ pgo s 0 = pgo (s.drop pos) m) (fun _ i => s.length - (intOf i).toNat)
      case atStart => exact ⟨0, 0, rfl, rfl, Nat.zero_le _, by omega, by omega, rfl⟩
      case round =>
        obtain ⟨pos, m, rfl, rfl, hp, h0, h1, h2⟩ := hrel
        by_cases hlt : pos < s.length
        · obtain ⟨q, hq⟩ : ∃ q, s[pos]? = some q := ⟨_, List.getElem?_eq_getElem hlt⟩
          have hix := idx_str (P := Tryd.prog) 9 (by kernel_rfl) s pos q hq
          have hdrop : s.drop pos = q :: s.drop (pos + 1) := by
            obtain ⟨_, e⟩ := List.getElem?_eq_some_iff.1 hq
            rw [List.drop_eq_getElem_cons hlt, e]
          rw [hdrop, pgo_cons] at h2
          clear hdrop hq
          have hq256 : q.toNat < 256 := q.toNat_lt
          cases hdg : isDg q with
          | true =>
            have hdg2 := (isDg_iff q).1 hdg
            obtain ⟨hg1, hg2⟩ := hdg2
            rw [hdg, if_pos rfl] at h2
            have hst := pgo_step (c := q) (n := m) hdg h1
            by_cases hov : m < (-9223372036854775808 + ((q.toNat : Int) - 48)).tdiv 10
            · rw [if_pos hov] at h2
              have hr := hid (hnone.out h2)
              clear hst hdg h2
              go_wp2
              go_ret2
              exact ⟨by rw [hr.out]; rfl, Below.refl _ _⟩
            · rw [if_neg hov] at h2
              replace h2 := hid h2
              have hst2 := hst hov
              obtain ⟨hs1, hs2⟩ := hst2
              clear hst hdg
              go_wp2
              go_round
              case rel => exact ⟨pos + 1, _, by go_num, rfl, by omega, by omega, by omega, by rw [h2.out]; congr 1; omega⟩
              case measure => simp [intOf]; omega
          | false =>
            rw [hdg, if_neg (by simp)] at h2
            have hr := hid (hnone.out h2)
            have hnd : q.toNat < 48 ∨ 57 < q.toNat := by
              have := isDg_iff q
              rw [hdg] at this
              simp at this
              omega
            clear hdg h2
            rcases hnd with hnd | hnd
            all_goals
              go_wp2
              go_ret2
              exact ⟨by rw [hr.out]; rfl, Below.refl _ _⟩
        · have hpl : pos = s.length := by omega
          rw [hpl, List.drop_length] at h2
          have hres := hfin.out m h2
          clear h2
          subst hpl
          unfold rfin at hres
          rw [if_neg (by simp)] at hres
          by_cases k0 : m = -9223372036854775808
          · rw [if_pos k0] at hres
            have hr := hid hres
            clear hres
            subst k0
            go_wp2_with fail
            go_ret2
            exact ⟨by rw [hr.out]; rfl, Below.refl _ _⟩
          · have k0' : (m == -9223372036854775808) = false := by simpa using k0
            rw [if_neg k0] at hres
            have k3 : -9223372036854775808 < m := by omega
            clear k0
            by_cases hi : itoa (-m) = s
            · have hib : (itoa (-m) == s) = true := by simpa using hi
              rw [if_pos hi] at hres
              clear hi
              by_cases k1 : -m < low
              · rw [if_pos (Or.inl k1)] at hres
                have hr := hid hres
                clear hres
                go_wp2_with (go_at_call 86; refine (rnumtext_any _ (-m) _ (Nat.le_refl _) (by omega) (by omega)).mono ?_; rintro e w1 ⟨rfl, hb⟩)
                go_ret2
                exact ⟨by rw [hr.out]; rfl, hb⟩
              · by_cases k2 : high < -m
                · rw [if_pos (Or.inr k2)] at hres
                  have hr := hid hres
                  clear hres
                  go_wp2_with (go_at_call 86; refine (rnumtext_any _ (-m) _ (Nat.le_refl _) (by omega) (by omega)).mono ?_; rintro e w1 ⟨rfl, hb⟩)
                  go_ret2
                  exact ⟨by rw [hr.out]; rfl, hb⟩
                · rw [if_neg (by omega)] at hres
                  have hr := hid hres
                  clear hres
                  go_wp2_with (go_at_call 86; refine (rnumtext_any _ (-m) _ (Nat.le_refl _) (by omega) (by omega)).mono ?_; rintro e w1 ⟨rfl, hb⟩)
                  go_ret2
                  exact ⟨by rw [hr.out]; rfl, hb⟩
            · have hib : (itoa (-m) == s) = false := by simpa using hi
              rw [if_neg hi] at hres
              have hr := hid hres
              clear hres hi
              go_wp2_with (go_at_call 86; refine (rnumtext_any _ (-m) _ (Nat.le_refl _) (by omega) (by omega)).mono ?_; rintro e w1 ⟨rfl, hb⟩)
              go_ret2
              exact ⟨by rw [hr.out]; rfl, hb⟩
end Go.Proofs.YtnbhpicmflagcaaDoor
namespace Go.Proofs.YtnbhpicmflagcaaDoor
open Go.RowKit
open Go.Lib (hid)
def ltB (c : UInt8) : Bool := decide (65 ≤ c.toNat) && decide (c.toNat ≤ 90) || decide (97 ≤ c.toNat) && decide (c.toNat ≤ 122)
def okC (i : Nat) (c : UInt8) : Bool := if i = 0 then ltB c else tyB c
theorem okC_ty {i : Nat} {c : UInt8} (h : okC i c = true) : tyB c = true := by
  unfold okC ltB at h
  unfold tyB
  split at h
  · simp at h ⊢; omega
  · exact h
theorem typ_no {s : List UInt8} {k : Nat} {y : UInt8} (hk : s[k]? = some y) (h : okC k y = false) : typeF s = false := by
  cases s with
  | nil => simp at hk
  | cons c r =>
    show (upB c && (c :: r).all tyB) = false
    cases k with
    | zero =>
      simp at hk; subst hk
      have : upB c = false := by
        unfold okC ltB at h
        unfold upB
        simp at h ⊢; omega
      rw [this]; rfl
    | succ k =>
      have h2 : tyB y = false := by unfold okC at h; simpa using h
      have h3 : (c :: r).all tyB = false := by
        rw [List.all_eq_false]
        exact ⟨y, List.mem_of_getElem? hk, by simp [h2]⟩
      rw [h3, Bool.and_false]
theorem typ_yes {c : UInt8} {r : List UInt8} (h : ∀ i y, i < (c :: r).length → (c :: r)[i]? = some y → okC i y = true) : typeF (c :: r) = decide (c.toNat ≤ 90) := by
  show (upB c && (c :: r).all tyB) = _
  have h1 : (c :: r).all tyB = true := by
    rw [List.all_eq_true]
    intro y hy
    obtain ⟨i, hi⟩ := List.getElem?_of_mem hy
    exact okC_ty (h i y (List.getElem?_eq_some_iff.1 hi).1 hi)
  have h2 := h 0 c (by simp) (by simp)
  rw [h1, Bool.and_true]
  unfold okC ltB at h2
  unfold upB
  simp at h2
  by_cases e : c.toNat ≤ 90
  · have : 65 ≤ c.toNat := by omega
    simp [e]; omega
  · simp [e]; omega
theorem hit_nextK {α : Type} {p : Nat → α → Bool} {l : List α} {k : Nat} {x : α} (hx : l[k]? = some x) (hp : p k x = true) (hn : ∀ i y, i < k → l[i]? = some y → p i y = true) : ∀ i y, i < k + 1 → l[i]? = some y → p i y = true := fun i y hi hy => by
  by_cases e : i = k
  · subst e; rw [hx] at hy; injection hy with hy; rw [← hy]; exact hp
  · exact hn i y (by omega) hy
set_option maxHeartbeats 2000000 in
set_option maxRecDepth 100000 in
theorem r9upper_any (s : List UInt8) (w : World) (hs : s.length ≤ 1048576) : Calls Tryd.prog 85 #[sv s] w fun e w' => e = .returned (.bool (typeF s)) ∧ Below w.heap.size w w' := by
  obtain ⟨res, hres⟩ : ∃ res, typeF s = res := ⟨_, rfl⟩
  rw [hres]
  replace hres := hid hres
  go_enter Tryd.func85, Tryd.ntmps85
  go_wp2_with fail
  go_loopw [3] (fun i wr => ∃ k : Nat, i = .int .i64 k ∧ k ≤ s.length ∧ Hid (∀ i y, i < k → s[i]? = some y → okC i y = true) ∧ Hid (Below w.heap.size w wr)) (fun i _ => s.length - (intOf i).toNat)
  case atStart => exact ⟨0, rfl, Nat.zero_le _, hid (fun i y h => absurd h (by omega)), hid (Below.refl _ _)⟩
  case round =>
    obtain ⟨k, rfl, hk, hn, hB⟩ := hrel
    by_cases hlt : k < s.length
    · obtain ⟨c, hc⟩ : ∃ c, s[k]? = some c := ⟨_, List.getElem?_eq_getElem hlt⟩
      have hix := idx_str (P := Tryd.prog) 9 (by kernel_rfl) s k c hc
      have hcl := c.toNat_lt
      have hno := hid (fun h : okC k c = false => (hres.out.symm.trans (typ_no hc h) : res = false))
      have hnx := hid (fun h : okC k c = true => hit_nextK hc h hn.out)
      have q1 : decide ((k : Int) < (s.length : Int)) = true := decide_eq_true (by omega)
      clear hn hc
      rcases (by omega : (0 ≤ c.toNat ∧ c.toNat ≤ 47) ∨ (48 ≤ c.toNat ∧ c.toNat ≤ 57) ∨ (58 ≤ c.toNat ∧ c.toNat ≤ 64) ∨ (65 ≤ c.toNat ∧ c.toNat ≤ 90) ∨ (91 ≤ c.toNat ∧ c.toNat ≤ 94) ∨ (95 ≤ c.toNat ∧ c.toNat ≤ 95) ∨ (96 ≤ c.toNat ∧ c.toNat ≤ 96) ∨ (97 ≤ c.toNat ∧ c.toNat ≤ 122) ∨ (123 ≤ c.toNat ∧ c.toNat ≤ 255)) with hcc | hcc | hcc | hcc | hcc | hcc | hcc | hcc | hcc
      · -- 0 .. 47
        have d0 : decide ((65 : Int) ≤ (c.toNat : Int)) = false := decide_eq_false (by omega)
        have d1 : decide ((c.toNat : Int) ≤ 90) = true := decide_eq_true (by omega)
        have d2 : decide ((97 : Int) ≤ (c.toNat : Int)) = false := decide_eq_false (by omega)
        have d3 : decide ((c.toNat : Int) ≤ 122) = true := decide_eq_true (by omega)
        have d4 : decide ((c.toNat : Int) < 48) = true := decide_eq_true (by omega)
        have d5 : decide ((57 : Int) < (c.toNat : Int)) = false := decide_eq_false (by omega)
        have d7 : ((c.toNat : Int) != 95) = true := bne_iff_ne.2 (by omega)
        have hfin := hid (hno.out (by unfold okC ltB tyB; split <;> simp <;> omega))
        clear hnx hno
        by_cases h0 : k = 0
        · have g0 : ((k : Int) == 0) = true := by rw [h0]; rfl
          replace h0 := hid h0
          clear hcc hcl
          go_wp2_with fail
          go_ret
          exact ⟨by rw [hfin.out]; rfl, hB.out⟩
        · have g0 : ((k : Int) == 0) = false := beq_eq_false_iff_ne.2 (by omega)
          clear hcc hcl
          go_wp2_with fail
          go_ret
          exact ⟨by rw [hfin.out]; rfl, hB.out⟩
      · -- 48 .. 57
        have d0 : decide ((65 : Int) ≤ (c.toNat : Int)) = false := decide_eq_false (by omega)
        have d1 : decide ((c.toNat : Int) ≤ 90) = true := decide_eq_true (by omega)
        have d2 : decide ((97 : Int) ≤ (c.toNat : Int)) = false := decide_eq_false (by omega)
        have d3 : decide ((c.toNat : Int) ≤ 122) = true := decide_eq_true (by omega)
        have d4 : decide ((c.toNat : Int) < 48) = false := decide_eq_false (by omega)
        have d5 : decide ((57 : Int) < (c.toNat : Int)) = false := decide_eq_false (by omega)
        have d7 : ((c.toNat : Int) != 95) = true := bne_iff_ne.2 (by omega)
        by_cases h0 : k = 0
        · have g0 : ((k : Int) == 0) = true := by rw [h0]; rfl
          have hfin := hid (hno.out (by unfold okC ltB; rw [if_pos h0]; simp; omega))
          replace h0 := hid h0
          clear hnx hno
          clear hcc hcl
          go_wp2_with fail
          go_ret
          exact ⟨by rw [hfin.out]; rfl, hB.out⟩
        · have g0 : ((k : Int) == 0) = false := beq_eq_false_iff_ne.2 (by omega)
          have hnx2 := hid (hnx.out (by unfold okC tyB; rw [if_neg h0]; simp; omega))
          clear hnx hno
          clear hcc hcl
          go_wp2_with fail
          exact ⟨⟨k + 1, by go_num, by omega, hnx2, hB⟩, by simp [intOf]; omega⟩
      · -- 58 .. 64
        have d0 : decide ((65 : Int) ≤ (c.toNat : Int)) = false := decide_eq_false (by omega)
        have d1 : decide ((c.toNat : Int) ≤ 90) = true := decide_eq_true (by omega)
        have d2 : decide ((97 : Int) ≤ (c.toNat : Int)) = false := decide_eq_false (by omega)
        have d3 : decide ((c.toNat : Int) ≤ 122) = true := decide_eq_true (by omega)
        have d4 : decide ((c.toNat : Int) < 48) = false := decide_eq_false (by omega)
        have d5 : decide ((57 : Int) < (c.toNat : Int)) = true := decide_eq_true (by omega)
        have d7 : ((c.toNat : Int) != 95) = true := bne_iff_ne.2 (by omega)
        have hfin := hid (hno.out (by unfold okC ltB tyB; split <;> simp <;> omega))
        clear hnx hno
        by_cases h0 : k = 0
        · have g0 : ((k : Int) == 0) = true := by rw [h0]; rfl
          replace h0 := hid h0
          clear hcc hcl
          go_wp2_with fail
          go_ret
          exact ⟨by rw [hfin.out]; rfl, hB.out⟩
        · have g0 : ((k : Int) == 0) = false := beq_eq_false_iff_ne.2 (by omega)
          clear hcc hcl
          go_wp2_with fail
          go_ret
          exact ⟨by rw [hfin.out]; rfl, hB.out⟩
      · -- 65 .. 90
        have d0 : decide ((65 : Int) ≤ (c.toNat : Int)) = true := decide_eq_true (by omega)
        have d1 : decide ((c.toNat : Int) ≤ 90) = true := decide_eq_true (by omega)
        have d2 : decide ((97 : Int) ≤ (c.toNat : Int)) = false := decide_eq_false (by omega)
        have d3 : decide ((c.toNat : Int) ≤ 122) = true := decide_eq_true (by omega)
        have d4 : decide ((c.toNat : Int) < 48) = false := decide_eq_false (by omega)
        have d5 : decide ((57 : Int) < (c.toNat : Int)) = true := decide_eq_true (by omega)
        have d7 : ((c.toNat : Int) != 95) = true := bne_iff_ne.2 (by omega)
        have hnx2 := hid (hnx.out (by unfold okC ltB tyB; split <;> simp <;> omega))
        clear hnx hno
        clear hcc hcl
        go_wp2_with fail
        exact ⟨⟨k + 1, by go_num, by omega, hnx2, hB⟩, by simp [intOf]; omega⟩
      · -- 91 .. 94
        have d0 : decide ((65 : Int) ≤ (c.toNat : Int)) = true := decide_eq_true (by omega)
        have d1 : decide ((c.toNat : Int) ≤ 90) = false := decide_eq_false (by omega)
        have d2 : decide ((97 : Int) ≤ (c.toNat : Int)) = false := decide_eq_false (by omega)
        have d3 : decide ((c.toNat : Int) ≤ 122) = true := decide_eq_true (by omega)
        have d4 : decide ((c.toNat : Int) < 48) = false := decide_eq_false (by omega)
        have d5 : decide ((57 : Int) < (c.toNat : Int)) = true := decide_eq_true (by omega)
        have d7 : ((c.toNat : Int) != 95) = true := bne_iff_ne.2 (by omega)
        have hfin := hid (hno.out (by unfold okC ltB tyB; split <;> simp <;> omega))
        clear hnx hno
        by_cases h0 : k = 0
        · have g0 : ((k : Int) == 0) = true := by rw [h0]; rfl
          replace h0 := hid h0
          clear hcc hcl
          go_wp2_with fail
          go_ret
          exact ⟨by rw [hfin.out]; rfl, hB.out⟩
        · have g0 : ((k : Int) == 0) = false := beq_eq_false_iff_ne.2 (by omega)
          clear hcc hcl
          go_wp2_with fail
          go_ret
          exact ⟨by rw [hfin.out]; rfl, hB.out⟩
      · -- 95 .. 95
        have d0 : decide ((65 : Int) ≤ (c.toNat : Int)) = true := decide_eq_true (by omega)
        have d1 : decide ((c.toNat : Int) ≤ 90) = false := decide_eq_false (by omega)
        have d2 : decide ((97 : Int) ≤ (c.toNat : Int)) = false := decide_eq_false (by omega)
        have d3 : decide ((c.toNat : Int) ≤ 122) = true := decide_eq_true (by omega)
        have d4 : decide ((c.toNat : Int) < 48) = false := decide_eq_false (by omega)
        have d5 : decide ((57 : Int) < (c.toNat : Int)) = true := decide_eq_true (by omega)
        have d7 : ((c.toNat : Int) != 95) = false := by rw [show (c.toNat : Int) = 95 by omega]; rfl
        by_cases h0 : k = 0
        · have g0 : ((k : Int) == 0) = true := by rw [h0]; rfl
          have hfin := hid (hno.out (by unfold okC ltB; rw [if_pos h0]; simp; omega))
          replace h0 := hid h0
          clear hnx hno
          clear hcc hcl
          go_wp2_with fail
          go_ret
          exact ⟨by rw [hfin.out]; rfl, hB.out⟩
        · have g0 : ((k : Int) == 0) = false := beq_eq_false_iff_ne.2 (by omega)
          have hnx2 := hid (hnx.out (by unfold okC tyB; rw [if_neg h0]; simp; omega))
          clear hnx hno
          clear hcc hcl
          go_wp2_with fail
          exact ⟨⟨k + 1, by go_num, by omega, hnx2, hB⟩, by simp [intOf]; omega⟩
      · -- 96 .. 96
        have d0 : decide ((65 : Int) ≤ (c.toNat : Int)) = true := decide_eq_true (by omega)
        have d1 : decide ((c.toNat : Int) ≤ 90) = false := decide_eq_false (by omega)
        have d2 : decide ((97 : Int) ≤ (c.toNat : Int)) = false := decide_eq_false (by omega)
        have d3 : decide ((c.toNat : Int) ≤ 122) = true := decide_eq_true (by omega)
        have d4 : decide ((c.toNat : Int) < 48) = false := decide_eq_false (by omega)
        have d5 : decide ((57 : Int) < (c.toNat : Int)) = true := decide_eq_true (by omega)
        have d7 : ((c.toNat : Int) != 95) = true := bne_iff_ne.2 (by omega)
        have hfin := hid (hno.out (by unfold okC ltB tyB; split <;> simp <;> omega))
        clear hnx hno
        by_cases h0 : k = 0
        · have g0 : ((k : Int) == 0) = true := by rw [h0]; rfl
          replace h0 := hid h0
          clear hcc hcl
          go_wp2_with fail
          go_ret
          exact ⟨by rw [hfin.out]; rfl, hB.out⟩
        · have g0 : ((k : Int) == 0) = false := beq_eq_false_iff_ne.2 (by omega)
          clear hcc hcl
          go_wp2_with fail
          go_ret
          exact ⟨by rw [hfin.out]; rfl, hB.out⟩
      · -- 97 .. 122
        have d0 : decide ((65 : Int) ≤ (c.toNat : Int)) = true := decide_eq_true (by omega)
        have d1 : decide ((c.toNat : Int) ≤ 90) = false := decide_eq_false (by omega)
        have d2 : decide ((97 : Int) ≤ (c.toNat : Int)) = true := decide_eq_true (by omega)
        have d3 : decide ((c.toNat : Int) ≤ 122) = true := decide_eq_true (by omega)
        have d4 : decide ((c.toNat : Int) < 48) = false := decide_eq_false (by omega)
        have d5 : decide ((57 : Int) < (c.toNat : Int)) = true := decide_eq_true (by omega)
        have d7 : ((c.toNat : Int) != 95) = true := bne_iff_ne.2 (by omega)
        have hnx2 := hid (hnx.out (by unfold okC ltB tyB; split <;> simp <;> omega))
        clear hnx hno
        clear hcc hcl
        go_wp2_with fail
        exact ⟨⟨k + 1, by go_num, by omega, hnx2, hB⟩, by simp [intOf]; omega⟩
      · -- 123 .. 255
        have d0 : decide ((65 : Int) ≤ (c.toNat : Int)) = true := decide_eq_true (by omega)
        have d1 : decide ((c.toNat : Int) ≤ 90) = false := decide_eq_false (by omega)
        have d2 : decide ((97 : Int) ≤ (c.toNat : Int)) = true := decide_eq_true (by omega)
        have d3 : decide ((c.toNat : Int) ≤ 122) = false := decide_eq_false (by omega)
        have d4 : decide ((c.toNat : Int) < 48) = false := decide_eq_false (by omega)
        have d5 : decide ((57 : Int) < (c.toNat : Int)) = true := decide_eq_true (by omega)
        have d7 : ((c.toNat : Int) != 95) = true := bne_iff_ne.2 (by omega)
        have hfin := hid (hno.out (by unfold okC ltB tyB; split <;> simp <;> omega))
        clear hnx hno
        by_cases h0 : k = 0
        · have g0 : ((k : Int) == 0) = true := by rw [h0]; rfl
          replace h0 := hid h0
          clear hcc hcl
          go_wp2_with fail
          go_ret
          exact ⟨by rw [hfin.out]; rfl, hB.out⟩
        · have g0 : ((k : Int) == 0) = false := beq_eq_false_iff_ne.2 (by omega)
          clear hcc hcl
          go_wp2_with fail
          go_ret
          exact ⟨by rw [hfin.out]; rfl, hB.out⟩
    · have hkl : k = s.length := by omega
      subst hkl
      have q1 : decide ((s.length : Int) < (s.length : Int)) = false := decide_eq_false (by omega)
      rcases s with _ | ⟨c, r⟩
      · have hfin : res = false := hres.out.symm
        subst hfin
        clear hn hres
        go_wp2_with fail
        go_ret
        exact ⟨rfl, hB.out⟩
      · have hfin : res = decide (c.toNat ≤ 90) := hres.out.symm.trans (typ_yes hn.out)
        have hx0 := idx_str0 (P := Tryd.prog) 9 (by kernel_rfl) c r
        have hne : ((c :: r) == []) = false := rfl
        have d1 : decide ((c.toNat : Int) ≤ 90) = res := by rw [hfin]; exact decide_eq_decide.2 (by omega)
        clear hn hres hfin
        go_wp2_with fail
        go_ret
        exact ⟨rfl, hB.out⟩
set_option maxHeartbeats 1000000 in
set_option maxRecDepth 100000 in
theorem r9formed_any (s : List UInt8) (w : World) (hs : s.length ≤ 1048576) : Calls Tryd.prog 80 #[.agg #[iv 6, sv s, .slice none 0 0]] w fun e w' => e = .returned (.bool (typeF s)) ∧ Below w.heap.size w w' := by
  have hcall := hid (fun w => r9upper_any s w hs)
  go_enter Tryd.func80, Tryd.ntmps80
  go_wp2_with fail
  go_loopw [3] (fun i wr => i = .int .i64 0 ∧ wr = w.alloc (.cells #[iv 6, sv s, .slice none 0 0] 108)) (fun i _ => 0)
  case atStart => exact ⟨rfl, rfl⟩
  case round =>
    obtain ⟨rfl, rfl⟩ := hrel
    go_wp2_with fail
    refine (hcall.out _).mono ?_
    rintro e w1 ⟨rfl, hb⟩
    have hx := hid (below_keep hb (heap_alloc_new' w (.cells #[iv 6, sv s, .slice none 0 0] 108)) (by simp))
    have c2 : w1.cell? ⟨w.heap.size, 2, none⟩ = some (.slice none 0 0) := (cell_of hx.out).trans rfl
    obtain ⟨b, hb2⟩ : ∃ b, typeF s = b := ⟨_, rfl⟩
    rw [hb2]
    replace hb2 := hid hb2
    cases b
    all_goals go_wp2_with fail
    all_goals
      go_ret
      exact ⟨by rw [hb2.out]; rfl, (((Below.refl w.heap.size w).alloc (Nat.le_refl _) _).trans (hb.mono (by simp)))⟩
theorem r12upper_any (s : List UInt8) (w : World) (hs : s.length ≤ 1048576) : Calls Tryd.prog 77 #[sv s] w fun e w' => e = .returned (.bool (typeF s)) ∧ Below w.heap.size w w' := by
  go_enter Tryd.func77, Tryd.ntmps77
  go_wp2_with fail
  refine (r9formed_any s w hs).mono ?_
  rintro e w1 ⟨rfl, hb⟩
  go_wp2_with fail
  go_ret
  exact ⟨rfl, hb⟩
theorem r12in_any (n : Int) (w : World) : Calls Tryd.prog 76 #[iv n] w fun e w' => e = .returned (.bool (rangeB n)) ∧ Below w.heap.size w w' := by
  have hr : rangeB n = (decide (-9007199254740992 ≤ n) && decide (n ≤ 9007199254740992)) := rfl
  rw [hr]
  generalize h1 : decide (-9007199254740992 ≤ n) = a
  generalize h2 : decide (n ≤ 9007199254740992) = b
  cases a <;> cases b
  all_goals
    go_enter Tryd.func76, Tryd.ntmps76
    go_wp2_with fail
    go_ret
    exact ⟨rfl, Below.refl _ _⟩
end Go.Proofs.YtnbhpicmflagcaaDoor
namespace Go.Proofs.YtnbhpicmflagcaaDoor
open Go.RowKit
open Go.Lib (hid)
theorem dot_at {t : List UInt8} {j : Nat} (hn : ∀ i, i < j → t[i]? ≠ some 46) (hj : t[j]? = some 46) : dotI t = j := by
  have hge := dotI_ge t
  rcases Int.lt_or_le (dotI t) 0 with h | h
  · exact absurd hj (Lib.indexByte_none (show Lib.indexByte t 46 = -1 by unfold dotI at h hge; omega) j)
  · obtain ⟨o, ho⟩ : ∃ o : Nat, dotI t = o := ⟨(dotI t).toNat, by omega⟩
    obtain ⟨h1, h2⟩ := Lib.indexByte_some (show Lib.indexByte t 46 = o from ho)
    have e : o = j := by
      rcases Nat.lt_trichotomy o j with h3 | h3 | h3
      · exact absurd h1 (hn o h3)
      · exact h3
      · exact absurd hj (h2 j h3)
    rw [ho, e]
theorem cut_at {t : List UInt8} {j : Nat} (hn : ∀ i, i < j → t[i]? ≠ some 46) (hj : t[j]? = some 46) : cutF t = (t.take j, t.drop (j + 1), true) := by
  have h := dot_at hn hj
  unfold cutF
  rw [if_neg (by omega), h]
  simp
theorem cut_none {t : List UInt8} (hn : ∀ i : Nat, t[i]? ≠ some 46) : cutF t = (t, [], false) := by
  have hge := dotI_ge t
  have : dotI t < 0 := by
    rcases Int.lt_or_le (dotI t) 0 with h | h
    · exact h
    · obtain ⟨o, ho⟩ : ∃ o : Nat, dotI t = o := ⟨(dotI t).toNat, by omega⟩
      exact absurd (Lib.indexByte_some (show Lib.indexByte t 46 = o from ho)).1 (hn o)
  unfold cutF
  rw [if_pos this]
def dot1 (s : List UInt8) : Bool := decide (s[1]? = some 46)
theorem path_no0 {c : UInt8} {r : List UInt8} (h : c ≠ 48) : pathF (c :: r) = false := by
  unfold pathF
  have : decide ((cutF (c :: r)).1 = [48]) = false := by
    apply decide_eq_false
    intro e
    unfold cutF at e
    split at e
    · simp at e; exact h e.1
    · rcases hk : (dotI (c :: r)).toNat with _ | k
      · rw [hk] at e; simp at e
      · rw [hk] at e; simp at e; exact h e.1
  rw [this]; simp
theorem path_one : pathF [48] = true := by
  unfold pathF
  rw [cut_none (t := [48]) (by intro i; match i with | 0 => decide | i + 1 => simp)]
  rfl
theorem path_two {s : List UInt8} (h0 : s[0]? = some 48) (hl : 2 ≤ s.length) (hs : s.length ≤ 200) : pathF s = (dot1 s && pathG s.length (s.drop 2) true) := by
  unfold pathF dot1
  rw [decide_eq_true hs, Bool.true_and]
  by_cases h1 : s[1]? = some 46
  · rw [cut_at (j := 1) (fun i hi => by rw [show i = 0 by omega, h0]; decide) h1]
    rw [decide_eq_true h1]
    match s, h0, hl with
    | c :: d :: r, h0, _ =>
      simp at h0; subst h0; simp
  · rw [decide_eq_false h1]
    have : decide ((cutF s).1 = [48]) = false := by
      apply decide_eq_false
      intro e
      unfold cutF at e
      split at e
      · simp only at e
        rw [e] at hl; simp at hl
      · rename_i hd
        obtain ⟨o, ho⟩ : ∃ o : Nat, dotI s = o := ⟨(dotI s).toNat, by omega⟩
        have h2 := (Lib.indexByte_some (show Lib.indexByte s 46 = o from ho)).1
        have h3 := dotI_lt s o ho
        simp only [ho, Int.toNat_natCast] at e
        have h4 : (s.take o).length = 1 := by rw [e]; rfl
        rw [List.length_take] at h4
        rw [show o = 1 by omega] at h2
        exact h1 h2
    rw [this]; simp
/-- one piece, a dot behind it -/
theorem piece_dot {s : List UInt8} {from_ i g : Nat} (hfi : from_ ≤ i) (hn : ∀ j, from_ ≤ j → j < i → s[j]? ≠ some 46) (hi : s[i]? = some 46) : pathG (g + 1) (s.drop from_) true = ((parse ((s.drop from_).take (i - from_)) 0 9007199254740992).isSome && pathG g (s.drop (i + 1)) true) := by
  rw [pathG_step, cut_at (t := s.drop from_) (j := i - from_) (fun j hj => by rw [List.getElem?_drop]; exact hn _ (by omega) (by omega)) (by rw [List.getElem?_drop, show from_ + (i - from_) = i by omega]; exact hi)]
  rw [List.drop_drop, show from_ + (i - from_ + 1) = i + 1 by omega]
theorem piece_last {s : List UInt8} {from_ g : Nat} (hfi : from_ ≤ s.length) (hn : ∀ j, from_ ≤ j → j < s.length → s[j]? ≠ some 46) : pathG (g + 1) (s.drop from_) true = (parse ((s.drop from_).take (s.length - from_)) 0 9007199254740992).isSome := by
  rw [pathG_step, cut_none (t := s.drop from_) (fun j => by
    rw [List.getElem?_drop]
    by_cases h : from_ + j < s.length
    · exact hn _ (by omega) h
    · rw [List.getElem?_eq_none (by omega)]; simp)]
  rw [List.take_of_length_le (by rw [List.length_drop]; omega)]
  cases g <;> simp [pathG]
theorem ext_mid (s : List UInt8) (a b : Nat) : (ByteArray.mk s.toArray).extract a b = ⟨((s.drop a).take (b - a)).toArray⟩ := by
  rw [ByteArray.extract_mk]; try simp
inductive PSt (s : List UInt8) (res : Bool) : Nat → Nat → Prop
  | start : PSt s res 2 1
  | go (f a i : Nat) (h2 : 2 ≤ a) (hai : a ≤ i) (hi : i ≤ s.length) (hf : s.length + 2 ≤ f + a) (hn : ∀ j, a ≤ j → j < i → s[j]? ≠ some 46) (hr : (dot1 s && pathG f (s.drop a) true) = res) : PSt s res a i
  | stop (a : Nat) (hr : (decide (s.length = 1) || dot1 s) = res) : PSt s res a (s.length + 1)
section
variable {s : List UInt8} {res : Bool} {a i : Nat}
theorem PSt.skip (h : PSt s res a i) (h2o : 2 ≤ s.length → res = (dot1 s && pathG s.length (s.drop 2) true)) (hl : i < s.length) (hd : s[i]? ≠ some 46) : PSt s res a (i + 1) := by
  cases h with
  | start =>
    have h2 := h2o hl
    exact .go s.length 2 2 (Nat.le_refl _) (Nat.le_refl _) hl (by omega) (fun j hj hj2 => absurd hj2 (by omega)) h2.symm
  | go f _ _ h2 hai hi hf hn hr =>
    refine .go f a (i + 1) h2 (Nat.le_succ_of_le hai) hl hf (fun j hj hj2 => ?_) hr
    by_cases e : j = i
    · rw [e]; exact hd
    · exact hn j hj (by omega)
  | stop a hr => omega
theorem PSt.first (h : PSt s res a i) (he : i = 1) (h2o : 2 ≤ s.length → res = (dot1 s && pathG s.length (s.drop 2) true)) (h1o : s.length = 1 → res = true) (hl : 1 ≤ s.length) : PSt s res a 2 := by
  cases h with
  | start =>
    by_cases h1 : s.length = 1
    · have := PSt.stop (s := s) (res := res) 2 (by rw [h1o h1, h1]; rfl)
      rw [h1] at this; exact this
    · exact .go s.length 2 2 (Nat.le_refl _) (Nat.le_refl _) (by omega) (by omega) (fun j hj hj2 => absurd hj2 (by omega)) (h2o (by omega)).symm
  | go f _ _ h2 hai hi hf hn hr => omega
  | stop a hr => omega
theorem PSt.sep (h : PSt s res a i) (hi : i ≤ s.length) (h1 : 1 < i) (hs : i = s.length ∨ s[i]? = some 46) : a ≤ i ∧ ((parse ((s.drop a).take (i - a)) 0 9007199254740992).isSome = false → res = false) ∧ ((parse ((s.drop a).take (i - a)) 0 9007199254740992).isSome = true → PSt s res (i + 1) (i + 1)) := by
  cases h with
  | start => omega
  | go f _ _ h2 hai hi hf hn hr =>
    obtain ⟨g, rfl⟩ : ∃ g, f = g + 1 := ⟨f - 1, by omega⟩
    refine ⟨hai, ?_⟩
    by_cases he : i = s.length
    · subst he
      rw [piece_last hai hn] at hr
      refine ⟨fun h => ?_, fun h => .stop _ ?_⟩
      · rw [h, Bool.and_false] at hr; exact hr.symm
      · rw [h, Bool.and_true] at hr
        have : decide (s.length = 1) = false := decide_eq_false (by omega)
        rw [this, Bool.false_or]; exact hr
    · have hd := hs.resolve_left he
      rw [piece_dot hai hn hd] at hr
      refine ⟨fun h => ?_, fun h => .go g _ _ (by omega) (Nat.le_refl _) (by omega) (by omega) (fun j hj hj2 => absurd hj2 (by omega)) ?_⟩
      · rw [h, Bool.false_and, Bool.and_false] at hr; exact hr.symm
      · rw [h, Bool.true_and] at hr; exact hr
  | stop a hr => omega
theorem PSt.done (h : PSt s res a (s.length + 1)) (hl : 1 ≤ s.length) : (decide (s.length = 1) || dot1 s) = res := by
  generalize hn : s.length + 1 = n at h
  cases h with
  | start => omega
  | go f _ _ h2 hai hi hf hn hr => omega
  | stop a hr => exact hr
end
set_option maxHeartbeats 1000000 in
set_option maxRecDepth 100000 in
theorem rpath_core (s : List UInt8) (w : World) (h1 : s.length ≤ 200) (hl0 : 1 ≤ s.length) (hs0 : s[0]? = some 48) (res : Bool) (h2o : 2 ≤ s.length → res = (dot1 s && pathG s.length (s.drop 2) true)) (h1o : s.length = 1 → res = true) : Calls Tryd.prog 78 #[sv s] w fun e w' => e = .returned (.bool res) ∧ Below w.heap.size w w' := by
  have hx0 : ∀ kd W, (Instr.index 9 (.string ⟨s.toArray⟩) (.int kd 0)).run Tryd.prog W = .ok (.int .u8 48) W := idx_str (P := Tryd.prog) 9 (by kernel_rfl) s 0 48 hs0
  have q1 : decide ((200 : Int) < (s.length : Int)) = false := decide_eq_false (by omega)
  have q2 : ((s.length : Int) == 0) = false := beq_eq_false_iff_ne.2 (by omega)
  clear hs0
  replace h2o := hid h2o
  replace h1o := hid h1o
  go_enter Tryd.func78, Tryd.ntmps78
  go_wp2_with fail
  go_loopw [3, 4] (fun a i wr => ∃ ka ki : Nat, a = .int .i64 ka ∧ i = .int .i64 ki ∧ ki ≤ s.length + 1 ∧ Hid (PSt s res ka ki) ∧ Hid (Below w.heap.size w wr)) (fun _ i _ => s.length + 1 - (intOf i).toNat)
  case atStart => exact ⟨2, 1, rfl, rfl, by omega, hid .start, hid (Below.refl _ _)⟩
  case round =>
    clear hx0 q1 q2
    obtain ⟨ka, ki, rfl, rfl, hki, hP, hB⟩ := hrel
    by_cases hlt : ki ≤ s.length
    · have q1 : decide ((ki : Int) ≤ (s.length : Int)) = true := decide_eq_true (by omega)
      have key : ∀ (nx : PSt s res ka (ki + 1)) , True := fun _ => trivial
      by_cases hdot : ki < s.length ∧ s[ki]? ≠ some 46
      · obtain ⟨hl, hd⟩ := hdot
        obtain ⟨c, hc⟩ : ∃ c, s[ki]? = some c := ⟨_, List.getElem?_eq_getElem hl⟩
        have hix := idx_str (P := Tryd.prog) 9 (by kernel_rfl) s ki c hc
        have q2 : decide ((ki : Int) < (s.length : Int)) = true := decide_eq_true (by omega)
        have q3 : ((c.toNat : Int) != 46) = true := bne_iff_ne.2 (fun e => hd (by
          rw [hc]; congr 1
          have : c.toNat = 46 := by omega
          exact UInt8.toNat_inj.1 this))
        have hnx : Hid (PSt s res ka (ki + 1)) := hid (hP.out.skip h2o.out hl hd)
        clear hP hd hc key
        go_wp2_with fail
        exact ⟨⟨ka, ki + 1, rfl, by go_num, by omega, hnx, hB⟩, by simp [intOf]; omega⟩
      · have hsp : ki = s.length ∨ s[ki]? = some 46 := by
          by_cases e : ki < s.length
          · right
            by_cases e2 : s[ki]? = some 46
            · exact e2
            · exact absurd ⟨e, e2⟩ hdot
          · left; omega
        have hsep : ki < s.length → ∀ kd W, (Instr.index 9 (.string ⟨s.toArray⟩) (.int kd (ki : Int))).run Tryd.prog W = .ok (.int .u8 46) W := fun h => idx_str (P := Tryd.prog) 9 (by kernel_rfl) s ki 46 (hsp.resolve_left (by omega))
        have hgo : ∀ (W : World), Below w.heap.size w W → True := fun _ _ => trivial
        by_cases hk1 : ki = 1
        · subst hk1
          have hnx : Hid (PSt s res ka 2) := hid (hP.out.first rfl h2o.out h1o.out hl0)
          by_cases hl : 1 < s.length
          · have q2 : decide (((1 : Nat) : Int) < (s.length : Int)) = true := decide_eq_true (by omega)
            have q2' : decide ((1 : Int) < (s.length : Int)) = true := decide_eq_true (by omega)
            have hix : ∀ kd W, (Instr.index 9 (.string ⟨s.toArray⟩) (.int kd 1)).run Tryd.prog W = .ok (.int .u8 46) W := hsep hl
            clear hP hsep hsp hdot hgo key
            go_wp2_with fail
            exact ⟨⟨ka, 2, rfl, by go_num, by omega, hnx, hB⟩, by simp [intOf]; omega⟩
          · have q2 : decide (((1 : Nat) : Int) < (s.length : Int)) = false := decide_eq_false (by omega)
            have q2' : decide ((1 : Int) < (s.length : Int)) = false := decide_eq_false (by omega)
            clear hP hsep hsp hdot hgo key
            go_wp2_with fail
            exact ⟨⟨ka, 2, rfl, by go_num, by omega, hnx, hB⟩, by simp [intOf]; omega⟩
        · have hki0 : ki ≠ 0 := by
            intro e
            subst e
            generalize hz : (0 : Nat) = z at hP
            cases hP.out with
            | start => omega
            | go f _ _ h2 hai hi hf hn hr => omega
            | stop a hr => omega
          have p1 : decide ((ki : Int) > 1) = true := decide_eq_true (by omega)
          have p1' : decide ((1 : Int) < (ki : Int)) = true := decide_eq_true (by omega)
          obtain ⟨hak, hno, hyes⟩ := hP.out.sep hlt (by omega) hsp
          have hex := ext_mid s ka ki
          have l1 : (ka : Int) ≤ (ki : Int) := by omega
          have l2 : (ki : Int) ≤ (s.length : Int) := by omega
          generalize hpc : (s.drop ka).take (ki - ka) = pc at *
          have hpl : pc.length ≤ 140737488355328 := by rw [← hpc, List.length_take, List.length_drop]; omega
          have hcall := hid (fun W => rparse_any pc 0 9007199254740992 W hpl)
          obtain ⟨pv, hpv⟩ : ∃ pv, pv = parse pc 0 9007199254740992 := ⟨_, rfl⟩
          rw [← hpv] at hno hyes hcall
          replace hpc := hid hpc
          replace hpv := hid hpv
          replace hno := hid hno
          replace hyes := hid hyes
          by_cases hl : ki < s.length
          · have q2 : decide ((ki : Int) < (s.length : Int)) = true := decide_eq_true (by omega)
            have hix := hsep hl
            clear hP hsep hsp hdot hgo key
            go_wp2_with fail
            refine (hcall.out _).mono ?_
            rintro e w2 ⟨rfl, hb2⟩
            have hB2 := hid (hB.out.trans (hb2.mono hB.out.size))
            cases hv : pv with
            | none =>
              have hfin := hid (hno.out (by rw [hv]; rfl))
              clear hb2 hcall hno hyes hpc
              go_wp2_with fail
              go_ret
              exact ⟨by rw [hfin.out]; rfl, hB2.out⟩
            | some z =>
              have hnx := hid (hyes.out (by rw [hv]; rfl))
              clear hb2 hcall hno hyes hpc
              go_wp2_with fail
              refine ⟨?_, by simp [intOf]; omega⟩
              repeat (first | exact ⟨⟨ki + 1, ki + 1, rfl, rfl, by omega, hnx, hB2⟩, rfl⟩ | exact ⟨ki + 1, ki + 1, rfl, rfl, by omega, hnx, hB2⟩ | exact ⟨ki + 1, ki + 1, by go_num, by go_num, by omega, hnx, hB2⟩ | apply Exists.intro)
          · have q2 : decide ((ki : Int) < (s.length : Int)) = false := decide_eq_false (by omega)
            clear hP hsep hsp hdot hgo key
            go_wp2_with fail
            refine (hcall.out _).mono ?_
            rintro e w2 ⟨rfl, hb2⟩
            have hB2 := hid (hB.out.trans (hb2.mono hB.out.size))
            cases hv : pv with
            | none =>
              have hfin := hid (hno.out (by rw [hv]; rfl))
              clear hb2 hcall hno hyes hpc
              go_wp2_with fail
              go_ret
              exact ⟨by rw [hfin.out]; rfl, hB2.out⟩
            | some z =>
              have hnx := hid (hyes.out (by rw [hv]; rfl))
              clear hb2 hcall hno hyes hpc
              go_wp2_with fail
              refine ⟨?_, by simp [intOf]; omega⟩
              repeat (first | exact ⟨⟨ki + 1, ki + 1, rfl, rfl, by omega, hnx, hB2⟩, rfl⟩ | exact ⟨ki + 1, ki + 1, rfl, rfl, by omega, hnx, hB2⟩ | exact ⟨ki + 1, ki + 1, by go_num, by go_num, by omega, hnx, hB2⟩ | apply Exists.intro)
    · have hke : ki = s.length + 1 := by omega
      subst hke
      have hfin := hP.out.done hl0
      have q1 : decide (((s.length + 1 : Nat) : Int) ≤ (s.length : Int)) = false := decide_eq_false (by omega)
      have q1' : decide ((s.length : Int) + 1 ≤ (s.length : Int)) = false := decide_eq_false (by omega)
      have q1n : decide (s.length + 1 ≤ s.length) = false := decide_eq_false (by omega)
      by_cases he : s.length = 1
      · have q2 : ((s.length : Int) == 1) = true := by rw [he]; rfl
        rw [decide_eq_true he, Bool.true_or] at hfin
        replace hfin := hid hfin
        replace he := hid he
        clear hP h2o h1o
        go_wp2_with fail
        go_ret
        exact ⟨by rw [← hfin.out]; rfl, hB.out⟩
      · have q2 : ((s.length : Int) == 1) = false := beq_eq_false_iff_ne.2 (by omega)
        rw [decide_eq_false he, Bool.false_or] at hfin
        obtain ⟨c, hc⟩ : ∃ c, s[1]? = some c := ⟨_, List.getElem?_eq_getElem (by omega)⟩
        have hix : ∀ kd W, (Instr.index 9 (.string ⟨s.toArray⟩) (.int kd 1)).run Tryd.prog W = .ok (.int .u8 c.toNat) W := idx_str (P := Tryd.prog) 9 (by kernel_rfl) s 1 c hc
        have hd : ((c.toNat : Int) == 46) = res := by
          rw [← hfin]
          unfold dot1
          rw [hc]
          by_cases e : c = 46
          · subst e; rfl
          · have h1 : ((c.toNat : Int) == 46) = false := beq_eq_false_iff_ne.2 (fun h => e (UInt8.toNat_inj.1 (by show c.toNat = 46; omega)))
            rw [h1]; symm; apply decide_eq_false; intro h; injection h with h; exact e h
        clear hP h2o h1o hfin hc
        replace he := hid he
        go_wp2_with fail
        go_ret
        exact ⟨rfl, hB.out⟩
set_option maxRecDepth 100000 in
theorem rpath_any (s : List UInt8) (w : World) (hs : s.length ≤ 1048576) : Calls Tryd.prog 78 #[sv s] w fun e w' => e = .returned (.bool (pathF s)) ∧ Below w.heap.size w w' := by
  by_cases h1 : s.length ≤ 200
  · rcases s with _ | ⟨c, r⟩
    · have q1 : decide ((200 : Int) < 0) = false := rfl
      show Calls Tryd.prog 78 #[sv []] w fun e w' => e = .returned (.bool false) ∧ Below w.heap.size w w'
      go_enter Tryd.func78, Tryd.ntmps78
      go_wp2_with fail
      go_ret
      exact ⟨rfl, Below.refl _ _⟩
    · by_cases h48 : c = 48
      · subst h48
        refine rpath_core (48 :: r) w h1 (by simp) rfl (pathF (48 :: r)) (fun h => path_two rfl h h1) (fun h => ?_)
        have : r = [] := by simpa using h
        rw [this]; exact path_one
      · rw [path_no0 h48]
        have q1 : decide ((200 : Int) < (((c :: r).length : Nat) : Int)) = false := decide_eq_false (by omega)
        have q2 : ((((c :: r).length : Nat) : Int) == 0) = false := beq_eq_false_iff_ne.2 (by simp; omega)
        have hx0 := idx_str0 (P := Tryd.prog) 9 (by kernel_rfl) c r
        have q3 : ((c.toNat : Int) != 48) = true := bne_iff_ne.2 (fun e => h48 (UInt8.toNat_inj.1 (by show c.toNat = 48; omega)))
        generalize hn : (c :: r).length = n at *
        replace hn := hid hn
        clear h1 hs h48
        go_enter Tryd.func78, Tryd.ntmps78
        go_wp2_with fail
        all_goals
          go_ret
          exact ⟨rfl, Below.refl _ _⟩
  · have hp : pathF s = false := by unfold pathF; rw [decide_eq_false h1]; rfl
    rw [hp]
    have q1 : decide ((200 : Int) < (s.length : Int)) = true := decide_eq_true (by omega)
    go_enter Tryd.func78, Tryd.ntmps78
    go_wp2_with fail
    go_ret
    exact ⟨rfl, Below.refl _ _⟩
end Go.Proofs.YtnbhpicmflagcaaDoor
