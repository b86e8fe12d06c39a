/- Chapter 02 (code): walks: the Readers' Int, Text. -/
import Derived.Test.YtmlcnmpfjallkaaCodeW8
set_option linter.unusedVariables false
namespace Go.Proofs.Ytmlcnmpfjallkaa
open Go.RowKit
open Go.Lib (hid IsBuilder byteCells)

theorem Rd.after {T : TypeId} {b : Nat} {w : World} {v : Value} {st : St} {e : Ending} {w' : World} (h : RdPost T b w v st e w') : e = .returned v ∧ Rd T b st w' ∧ Fr (one b) w w' := h

theorem rtake_any (b : Nat) (st : St) (n : Int) (w : World) (h : Rd 61 b st w) (hs : st.1.length ≤ 140737488355328) : Calls Try.prog 36 #[.pointer (some ⟨b, 0, none⟩), .int .i64 n] w (RdPost 61 b w (sv (stTake n st).1) (stTake n st).2) := by
  obtain ⟨s, f⟩ := st
  have c0 := h.c0; have c1 := h.c1; have f0 := h.f0 0; have f1 := h.f0 1
  by_cases hb : f = true ∨ n < 0 ∨ (s.length : Int) < n
  · rw [take_bad n (s, f) hb]
    rcases hb with hb | hb | hb
    · subst hb
      go_enter Try.func36, Try.ntmps36
      go_wp2_with (go_at_call 49; refine (rfail_any b _ _ h).mono ?_; rintro e w1 ⟨rfl, h1, h2⟩)
      go_ret
      exact ⟨rfl, h1, h2⟩
    · cases f
      all_goals
        go_enter Try.func36, Try.ntmps36
        go_wp2_with (go_at_call 49; refine (rfail_any b _ _ h).mono ?_; rintro e w1 ⟨rfl, h1, h2⟩)
        go_ret
        exact ⟨rfl, h1, h2⟩
    · have hn : decide (n < 0) = false := by simp; omega
      cases f
      all_goals
        go_enter Try.func36, Try.ntmps36
        go_wp2_with (go_at_call 49; refine (rfail_any b _ _ h).mono ?_; rintro e w1 ⟨rfl, h1, h2⟩)
        go_ret
        exact ⟨rfl, h1, h2⟩
  · rw [take_ok n (s, f) hb]
    have hf : f = false := by cases f <;> simp_all
    subst hf
    obtain ⟨k, rfl⟩ := Int.eq_ofNat_of_zero_le (show 0 ≤ n by omega)
    have hk : k ≤ s.length := by omega
    clear hb
    go_enter Try.func36, Try.ntmps36
    go_wp2
    go_ret
    refine ⟨?_, ?_, fr_set _ _ _ _⟩
    · simp [ext_take]
    · simpa [ext_drop] using h.set0 (s.drop k)

set_option maxHeartbeats 1000000 in
set_option maxRecDepth 100000 in
theorem readInt (b : Nat) (st : St) (w : World) (h : Rd 59 b st w) (hs : st.1.length ≤ 140737488355328) : Calls Try.prog 25 #[.pointer (some ⟨b, 0, none⟩)] w (RdPost 59 b w (.int .i64 (stInt st).1) (stInt st).2) := by
  have hz := (stNum_lt st).1
  have hN := readNum b st w h
  have hu := unzig_cases (stNum st).1
  have hI : stInt st = if inR (unzig (stNum st).1) then (unzig (stNum st).1, (stNum st).2) else (0, failed) := rfl
  generalize stInt st = res at *
  generalize (stNum st).1 = z at *
  generalize (stNum st).2 = st1 at *
  generalize unzig z = u at *
  clear hs h
  have HN := hid hN
  clear hN
  have hR : (inR u = true ∧ -1152921504606846976 ≤ u ∧ u ≤ 1152921504606846976) ∨ (inR u = false ∧ (u < -1152921504606846976 ∨ 1152921504606846976 < u)) := by
    unfold inR
    by_cases h1 : -1152921504606846976 ≤ u <;> by_cases h2 : u ≤ 1152921504606846976 <;> simp [h1, h2] <;> omega
  rcases hR with ⟨hr, hr1, hr2⟩ | ⟨hr, hr1⟩
  · rw [hr] at hI
    replace hI := hid hI
    clear hr
    rcases hu with ⟨hp, hu⟩ | ⟨hp, hu⟩
    · have hp2 : ((z : Int) % 2 == 1) = false := by simp; omega
      have hb1 : (z : Int) / 2 ≤ 1152921504606846976 := by omega
      replace hu := hid hu
      clear hp
      go_enter Try.func25, Try.ntmps25
      go_wp2_with (go_at_call 23; refine HN.out.mono ?_; rintro e w1 ⟨rfl, h1, h2⟩)
      go_ret
      unfold RdPost
      rw [hI.out]
      exact ⟨ret_int (by rw [if_pos trivial, hu.out]; simp), h1, h2⟩
    · have hp2 : ((z : Int) % 2 == 1) = true := by simp; omega
      have hb1 : -((z : Int) / 2) - 1 ≤ 1152921504606846976 := by omega
      have hb2 : -1152921504606846976 ≤ -((z : Int) / 2) - 1 := by omega
      replace hu := hid hu
      clear hp
      go_enter Try.func25, Try.ntmps25
      go_wp2_with (go_at_call 23; refine HN.out.mono ?_; rintro e w1 ⟨rfl, h1, h2⟩)
      go_ret
      unfold RdPost
      rw [hI.out]
      exact ⟨ret_int (by rw [if_pos trivial, hu.out]; simp), h1, h2⟩
  · rw [hr] at hI
    replace hI := hid hI
    clear hr
    rcases hu with ⟨hp, hu⟩ | ⟨hp, hu⟩
    · have hp2 : ((z : Int) % 2 == 1) = false := by simp; omega
      have hb1 : 1152921504606846976 < (z : Int) / 2 := by omega
      replace hu := hid hu
      clear hp hr1
      go_enter Try.func25, Try.ntmps25
      go_wp2_with (first | (go_at_call 23; refine HN.out.mono ?_; rintro e w1 ⟨rfl, h1, h2⟩) | (go_at_call 48; refine (fail_any b _ _ h1).mono ?_; rintro e w2 ⟨rfl, h3, h4⟩))
      go_ret
      unfold RdPost
      rw [hI.out]
      exact ⟨rfl, h3, h2.trans' h4 (fun _ x => x) (fun _ _ x => x)⟩
    · have hp2 : ((z : Int) % 2 == 1) = true := by simp; omega
      have hb1 : -((z : Int) / 2) - 1 < -1152921504606846976 := by omega
      replace hu := hid hu
      clear hp hr1
      go_enter Try.func25, Try.ntmps25
      go_wp2_with (first | (go_at_call 23; refine HN.out.mono ?_; rintro e w1 ⟨rfl, h1, h2⟩) | (go_at_call 48; refine (fail_any b _ _ h1).mono ?_; rintro e w2 ⟨rfl, h3, h4⟩))
      go_ret
      unfold RdPost
      rw [hI.out]
      exact ⟨rfl, h3, h2.trans' h4 (fun _ x => x) (fun _ _ x => x)⟩

set_option maxHeartbeats 1000000 in
set_option maxRecDepth 100000 in
theorem readText (b : Nat) (st : St) (w : World) (h : Rd 59 b st w) (hs : st.1.length ≤ 140737488355328) : Calls Try.prog 27 #[.pointer (some ⟨b, 0, none⟩)] w (RdPost 59 b w (sv (stText st).1) (stText st).2) := by
  have hN := readNum b st w h
  have hl := (stNum_lt st).2
  unfold stText
  generalize (stNum st).1 = z at *
  generalize (stNum st).2 = st1 at *
  have HN := hid hN
  clear hN
  go_enter Try.func27, Try.ntmps27
  go_wp2_with (first | (go_at_call 23; refine HN.out.mono ?_; rintro e w1 ⟨rfl, h1, h2⟩) | (go_at_call 35; refine (take_any b _ _ _ h1 (by omega)).mono ?_; rintro e w2 ⟨rfl, h3, h4⟩))
  go_ret
  exact ⟨rfl, h3, h2.trans' h4 (fun _ x => x) (fun _ _ x => x)⟩

set_option maxHeartbeats 1000000 in
set_option maxRecDepth 100000 in
theorem rreadInt (b : Nat) (st : St) (w : World) (h : Rd 61 b st w) (hs : st.1.length ≤ 140737488355328) : Calls Try.prog 26 #[.pointer (some ⟨b, 0, none⟩)] w (RdPost 61 b w (.int .i64 (stInt st).1) (stInt st).2) := by
  have hz := (stNum_lt st).1
  have hN := rreadNum b st w h hs
  have hu := unzig_cases (stNum st).1
  have hI : stInt st = if inR (unzig (stNum st).1) then (unzig (stNum st).1, (stNum st).2) else (0, failed) := rfl
  generalize stInt st = res at *
  generalize (stNum st).1 = z at *
  generalize (stNum st).2 = st1 at *
  generalize unzig z = u at *
  clear hs h
  have HN := hid hN
  clear hN
  have hR : (inR u = true ∧ -1152921504606846976 ≤ u ∧ u ≤ 1152921504606846976) ∨ (inR u = false ∧ (u < -1152921504606846976 ∨ 1152921504606846976 < u)) := by
    unfold inR
    by_cases h1 : -1152921504606846976 ≤ u <;> by_cases h2 : u ≤ 1152921504606846976 <;> simp [h1, h2] <;> omega
  rcases hR with ⟨hr, hr1, hr2⟩ | ⟨hr, hr1⟩
  · rw [hr] at hI
    replace hI := hid hI
    clear hr
    rcases hu with ⟨hp, hu⟩ | ⟨hp, hu⟩
    · have hp2 : ((z : Int) % 2 == 1) = false := by simp; omega
      have hb1 : (z : Int) / 2 ≤ 1152921504606846976 := by omega
      replace hu := hid hu
      clear hp
      go_enter Try.func26, Try.ntmps26
      go_wp2_with (go_at_call 24; refine HN.out.mono ?_; rintro e w1 ⟨rfl, h1, h2⟩)
      go_ret
      unfold RdPost
      rw [hI.out]
      exact ⟨ret_int (by rw [if_pos trivial, hu.out]; simp), h1, h2⟩
    · have hp2 : ((z : Int) % 2 == 1) = true := by simp; omega
      have hb1 : -((z : Int) / 2) - 1 ≤ 1152921504606846976 := by omega
      have hb2 : -1152921504606846976 ≤ -((z : Int) / 2) - 1 := by omega
      replace hu := hid hu
      clear hp
      go_enter Try.func26, Try.ntmps26
      go_wp2_with (go_at_call 24; refine HN.out.mono ?_; rintro e w1 ⟨rfl, h1, h2⟩)
      go_ret
      unfold RdPost
      rw [hI.out]
      exact ⟨ret_int (by rw [if_pos trivial, hu.out]; simp), h1, h2⟩
  · rw [hr] at hI
    replace hI := hid hI
    clear hr
    rcases hu with ⟨hp, hu⟩ | ⟨hp, hu⟩
    · have hp2 : ((z : Int) % 2 == 1) = false := by simp; omega
      have hb1 : 1152921504606846976 < (z : Int) / 2 := by omega
      replace hu := hid hu
      clear hp hr1
      go_enter Try.func26, Try.ntmps26
      go_wp2_with (first | (go_at_call 24; refine HN.out.mono ?_; rintro e w1 ⟨rfl, h1, h2⟩) | (go_at_call 49; refine (rfail_any b _ _ h1).mono ?_; rintro e w2 ⟨rfl, h3, h4⟩))
      go_ret
      unfold RdPost
      rw [hI.out]
      exact ⟨rfl, h3, h2.trans' h4 (fun _ x => x) (fun _ _ x => x)⟩
    · have hp2 : ((z : Int) % 2 == 1) = true := by simp; omega
      have hb1 : -((z : Int) / 2) - 1 < -1152921504606846976 := by omega
      replace hu := hid hu
      clear hp hr1
      go_enter Try.func26, Try.ntmps26
      go_wp2_with (first | (go_at_call 24; refine HN.out.mono ?_; rintro e w1 ⟨rfl, h1, h2⟩) | (go_at_call 49; refine (rfail_any b _ _ h1).mono ?_; rintro e w2 ⟨rfl, h3, h4⟩))
      go_ret
      unfold RdPost
      rw [hI.out]
      exact ⟨rfl, h3, h2.trans' h4 (fun _ x => x) (fun _ _ x => x)⟩

set_option maxHeartbeats 1000000 in
set_option maxRecDepth 100000 in
theorem rreadText (b : Nat) (st : St) (w : World) (h : Rd 61 b st w) (hs : st.1.length ≤ 140737488355328) : Calls Try.prog 28 #[.pointer (some ⟨b, 0, none⟩)] w (RdPost 61 b w (sv (stText st).1) (stText st).2) := by
  have hN := rreadNum b st w h hs
  have hl := (stNum_lt st).2
  unfold stText
  generalize (stNum st).1 = z at *
  generalize (stNum st).2 = st1 at *
  have HN := hid hN
  clear hN
  go_enter Try.func28, Try.ntmps28
  go_wp2_with (first | (go_at_call 24; refine HN.out.mono ?_; rintro e w1 ⟨rfl, h1, h2⟩) | (go_at_call 36; refine (rtake_any b _ _ _ h1 (by omega)).mono ?_; rintro e w2 ⟨rfl, h3, h4⟩))
  go_ret
  exact ⟨rfl, h3, h2.trans' h4 (fun _ x => x) (fun _ _ x => x)⟩

end Go.Proofs.Ytmlcnmpfjallkaa
