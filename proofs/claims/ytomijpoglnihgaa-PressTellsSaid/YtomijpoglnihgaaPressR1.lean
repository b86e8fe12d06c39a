/- press: the reference's longest. -/
import Derived.Test.YtomijpoglnihgaaPressW4
set_option linter.unusedVariables false
namespace Go.Proofs.Ytomijpoglnihgaa
open Go.RowKit
open Go.Lib (hid byteCells)
set_option maxHeartbeats 2000000 in
set_option maxRecDepth 100000 in
theorem rlongest_any (s : List UInt8) (hs : s.length ≤ 16777216) (i : Nat) (w : World) (hi : i < s.length) :
    Calls Try.prog 28 #[sv s, iv i] w fun e w' => e = .returned (.tuple #[iv (longF s i).1, iv (longF s i).2]) ∧ Below w.heap.size w w' := by
  have hres : longF s i = scan s i (min i 4096) := rfl
  generalize longF s i = res at *
  replace hres := hid hres
  have w1 : ∀ n d : Nat, i + n < s.length → d ≤ i → IntKind.i64.wrap ((i : Int) + (n : Int)) = (i : Int) + (n : Int) ∧ IntKind.i64.wrap ((i : Int) + (n : Int) - (d : Int)) = (i : Int) + (n : Int) - (d : Int) := fun n d h1 h2 => ⟨i64_wrap_id _ (by omega) (by omega), i64_wrap_id _ (by omega) (by omega)⟩
  replace w1 := hid w1
  go_enter Try.func28, Try.ntmps28
  go_wp2_with fail
  go_loopw [6, 7, 8] (fun lv dv cv wr => ∃ (c : Nat), lv = .int .i64 (scan s i c).1 ∧ dv = .int .i64 (scan s i c).2 ∧ cv = .int .i64 ((c + 1 : Nat) : Int) ∧ c ≤ i ∧ c ≤ 4096 ∧ Hid (Below w.heap.size w wr)) (fun _ _ cv _ => i + 1 - (intOf cv).toNat)
  case atStart => exact ⟨0, rfl, rfl, rfl, Nat.zero_le _, Nat.zero_le _, hid (Below.refl _ _)⟩
  case round =>
    obtain ⟨c, rfl, rfl, rfl, hci, hc4, hB⟩ := hrel
    have hsc : scan s i (c + 1) = if (scan s i c).1 < mlen s i (c + 1) then (mlen s i (c + 1), c + 1) else scan s i c := rfl
    have hlast : (i ≤ c ∨ 4096 ≤ c) → scan s i c = scan s i (min i 4096) := fun h => by congr 1; omega
    have hml := mlen_le s i (c + 1)
    generalize hd : c + 1 = d at *
    by_cases h1 : d ≤ i
    · have q1 : decide ((d : Int) ≤ (i : Int)) = true := decide_eq_true (by omega)
      by_cases h2 : d ≤ 4096
      · have q2 : decide ((d : Int) ≤ 4096) = true := decide_eq_true (by omega)
        clear hlast
        replace hsc := hid hsc
        generalize scan s i c = sc at *
        obtain ⟨L, D⟩ := sc
        go_wp2_with fail
        go_loopw [9] (fun nv wr => ∃ n : Nat, nv = .int .i64 n ∧ n ≤ mlen s i d ∧ Hid (Below w.heap.size w wr)) (fun nv _ => s.length - (intOf nv).toNat)
        case atStart => exact ⟨0, rfl, Nat.zero_le _, hB⟩
        case round =>
          clear hB
          obtain ⟨n, rfl, hn, hB⟩ := hrel
          by_cases hnl : i + n < s.length
          · obtain ⟨e1, e2⟩ := w1.out n d hnl h1
            have t1 : decide ((i : Int) + (n : Int) < (s.length : Int)) = true := decide_eq_true (by omega)
            obtain ⟨y1, hy1⟩ : ∃ y1, s[i + n]? = some y1 := ⟨_, List.getElem?_eq_getElem hnl⟩
            obtain ⟨y2, hy2⟩ : ∃ y2, s[i + n - d]? = some y2 := ⟨_, List.getElem?_eq_getElem (by omega)⟩
            have he1 := idx_str (P := Try.prog) 9 (by kernel_rfl) s (i + n) y1 hy1
            have he2 := idx_str (P := Try.prog) 9 (by kernel_rfl) s (i + n - d) y2 hy2
            rw [show ((i + n : Nat) : Int) = (i : Int) + (n : Int) by omega] at he1
            rw [show ((i + n - d : Nat) : Int) = (i : Int) + (n : Int) - (d : Int) by omega] at he2
            by_cases hye : y1 = y2
            · have tq : ((y1.toNat : Int) == (y2.toNat : Int)) = true := by rw [hye]; simp
              have hn1 : n + 1 ≤ mlen s i d := by
                rcases Nat.lt_or_ge n (mlen s i d) with h9 | h9
                · omega
                · exfalso
                  have h8 : mlen s i d = n := by omega
                  unfold mlen at h8
                  have := cp_end (s.drop i) (s.drop (i - d)) (by rw [h8, List.length_drop]; omega) (by rw [h8, List.length_drop]; omega)
                  rw [h8, List.getElem?_drop, List.getElem?_drop, hy1, show i - d + n = i + n - d by omega, hy2, hye] at this
                  exact this rfl
              subst hye
              clear hy1 hy2
              go_wp2_with fail
              go_quiet (fail)
              go_wp2_with fail
              exact ⟨⟨n + 1, by go_num, hn1, hid (below_drewM hB.out nq)⟩, by simp [intOf]; omega⟩
            · have tq : ((y1.toNat : Int) == (y2.toNat : Int)) = false := by
                simp; intro h; exact hye (UInt8.toNat_inj.1 (by omega))
              have hnm : mlen s i d = n := by
                refine Nat.le_antisymm (Nat.le_of_not_lt fun h9 => hye ?_) hn
                have := mlen_at h9
                rw [hy1, show i - d + n = i + n - d by omega, hy2] at this
                injection this
              clear hye hy1 hy2
              go_wp2_with fail
              go_quiet (fail)
              have hBq := hid (below_drewM hB.out nq)
              generalize wr.drewN nq = wq at *
              have hh := hsc.out
              rw [hnm] at hh
              clear hsc hB
              by_cases hLn : L < n
              · have t3 : decide ((L : Int) < (n : Int)) = true := decide_eq_true (by omega)
                have t3' : decide (L < n) = true := decide_eq_true hLn
                rw [if_pos hLn] at hh
                clear hLn
                replace hh := hid hh
                go_wp2_with fail
                exact ⟨⟨d, by rw [hh.out], by rw [hh.out], by go_num, h1, h2, hBq⟩, by simp only [intOf]; omega⟩
              · have t3 : decide ((L : Int) < (n : Int)) = false := decide_eq_false (by omega)
                have t3' : decide (L < n) = false := decide_eq_false hLn
                rw [if_neg hLn] at hh
                clear hLn
                replace hh := hid hh
                go_wp2_with fail
                exact ⟨⟨d, by rw [hh.out], by rw [hh.out], by go_num, h1, h2, hBq⟩, by simp only [intOf]; omega⟩
          · have t1 : decide ((i : Int) + (n : Int) < (s.length : Int)) = false := decide_eq_false (by omega)
            have e1 : IntKind.i64.wrap ((i : Int) + (n : Int)) = (i : Int) + (n : Int) := i64_wrap_id _ (by omega) (by omega)
            have hnm : mlen s i d = n := by omega
            go_wp2_with fail
            refine wp_region_held_drew (S := (fun _ => True)) (by kernel_rfl) ?_ (fun hHeld => ?_)
            · exact trivial
            refine wpAnyH_take (i := 0) (oi := ⟨_, _, _, _, _, _⟩) (v := ?_) rfl (by kernel_rfl) (by kernel_rfl) (by kernel_rfl) (fun _ _ _ h => h) (Or.inl ⟨by rfl, ?hy⟩) (by assumption) ?_
            case hy =>
              intro w hSw
              (try dsimp only at hSw)
              go_simp
              all_goals with_reducible rfl
            try simp only [Act.put, List.setIfInBounds_toArray, List.set_cons_zero, List.set_cons_succ]
            refine wpAnyH_take (i := 1) (oi := ⟨_, _, _, _, _, _⟩) (v := ?_) rfl (by kernel_rfl) (by kernel_rfl) (by kernel_rfl) (fun _ _ _ h => h) (Or.inl ⟨by rfl, ?hy⟩) (by assumption) ?_
            case hy =>
              intro w hSw
              (try dsimp only at hSw)
              go_simp
              all_goals with_reducible rfl
            try simp only [Act.put, List.setIfInBounds_toArray, List.set_cons_zero, List.set_cons_succ]
            refine wpAnyH_take (i := 2) (oi := ⟨_, _, _, _, _, _⟩) (v := ?_) rfl (by kernel_rfl) (by kernel_rfl) (by kernel_rfl) (fun _ _ _ h => h) (Or.inl ⟨by rfl, ?hy⟩) (by assumption) ?_
            case hy =>
              intro w hSw
              (try dsimp only at hSw)
              go_simp
              all_goals with_reducible rfl
            try simp only [Act.put, List.setIfInBounds_toArray, List.set_cons_zero, List.set_cons_succ]
            refine wpAnyH_take (i := 3) (oi := ⟨_, _, _, _, _, _⟩) (v := ?_) rfl (by kernel_rfl) (by kernel_rfl) (by kernel_rfl) (fun _ _ _ h => h) (Or.inl ⟨by rfl, ?hy⟩) (by assumption) ?_
            case hy =>
              intro w hSw
              (try dsimp only at hSw)
              go_simp
              all_goals with_reducible rfl
            try simp only [Act.put, List.setIfInBounds_toArray, List.set_cons_zero, List.set_cons_succ]
            refine wpAnyH_take (i := 4) (oi := ⟨_, _, _, _, _, _⟩) (v := ?_) rfl (by kernel_rfl) (by kernel_rfl) (by kernel_rfl) (fun _ _ _ h => h) (Or.inl ⟨by rfl, ?hy⟩) (by assumption) ?_
            case hy =>
              intro w hSw
              (try dsimp only at hSw)
              go_simp
              all_goals with_reducible rfl
            try simp only [Act.put, List.setIfInBounds_toArray, List.set_cons_zero, List.set_cons_succ]
            refine wpAnyH_take (i := 5) (oi := ⟨_, _, _, _, _, _⟩) (v := ?_) rfl (by kernel_rfl) (by kernel_rfl) (by kernel_rfl) (fun _ _ _ h => h) (Or.inl ⟨by rfl, ?hy⟩) (by assumption) ?_
            case hy =>
              intro w hSw
              (try dsimp only at hSw)
              go_simp
              all_goals with_reducible rfl
            try simp only [Act.put, List.setIfInBounds_toArray, List.set_cons_zero, List.set_cons_succ]
            refine wpAnyH_take (i := 6) (oi := ⟨_, _, _, _, _, _⟩) (v := ?_) rfl (by kernel_rfl) (by kernel_rfl) (by kernel_rfl) (fun _ _ _ h => h) (Or.inl ⟨by rfl, ?hy⟩) (by assumption) ?_
            case hy =>
              intro w hSw
              (try dsimp only at hSw)
              go_simp
              all_goals with_reducible rfl
            try simp only [Act.put, List.setIfInBounds_toArray, List.set_cons_zero, List.set_cons_succ]
            refine wpAnyH_take (i := 7) (oi := ⟨_, _, _, _, _, _⟩) (v := undef) rfl (by kernel_rfl) (by kernel_rfl) (by kernel_rfl) (fun _ _ _ h => h) (Or.inr ⟨by rfl, rfl⟩) (by assumption) ?_
            try simp only [Act.put, List.setIfInBounds_toArray, List.set_cons_zero, List.set_cons_succ]
            refine wpAnyH_take (i := 8) (oi := ⟨_, _, _, _, _, _⟩) (v := undef) rfl (by kernel_rfl) (by kernel_rfl) (by kernel_rfl) (fun _ _ _ h => h) (Or.inr ⟨by rfl, rfl⟩) (by assumption) ?_
            try simp only [Act.put, List.setIfInBounds_toArray, List.set_cons_zero, List.set_cons_succ]
            refine wpAnyH_take (i := 9) (oi := ⟨_, _, _, _, _, _⟩) (v := undef) rfl (by kernel_rfl) (by kernel_rfl) (by kernel_rfl) (fun _ _ _ h => h) (Or.inr ⟨by rfl, rfl⟩) (by assumption) ?_
            try simp only [Act.put, List.setIfInBounds_toArray, List.set_cons_zero, List.set_cons_succ]
            refine wpAnyH_take (i := 10) (oi := ⟨_, _, _, _, _, _⟩) (v := undef) rfl (by kernel_rfl) (by kernel_rfl) (by kernel_rfl) (fun _ _ _ h => h) (Or.inr ⟨by rfl, rfl⟩) (by assumption) ?_
            try simp only [Act.put, List.setIfInBounds_toArray, List.set_cons_zero, List.set_cons_succ]
            refine wpAnyH_take (i := 11) (oi := ⟨_, _, _, _, _, _⟩) (v := undef) rfl (by kernel_rfl) (by kernel_rfl) (by kernel_rfl) (fun _ _ _ h => h) (Or.inr ⟨by rfl, rfl⟩) (by assumption) ?_
            try simp only [Act.put, List.setIfInBounds_toArray, List.set_cons_zero, List.set_cons_succ]
            refine wpAnyH_take (i := 12) (oi := ⟨_, _, _, _, _, _⟩) (v := undef) rfl (by kernel_rfl) (by kernel_rfl) (by kernel_rfl) (fun _ _ _ h => h) (Or.inr ⟨by rfl, rfl⟩) (by assumption) ?_
            try simp only [Act.put, List.setIfInBounds_toArray, List.set_cons_zero, List.set_cons_succ]
            refine wpAnyH_take (i := 13) (oi := ⟨_, _, _, _, _, _⟩) (v := undef) rfl (by kernel_rfl) (by kernel_rfl) (by kernel_rfl) (fun _ _ _ h => h) (Or.inr ⟨by rfl, rfl⟩) (by assumption) ?_
            try simp only [Act.put, List.setIfInBounds_toArray, List.set_cons_zero, List.set_cons_succ]
            refine wpAnyH_take (i := 14) (oi := ⟨_, _, _, _, _, _⟩) (v := undef) rfl (by kernel_rfl) (by kernel_rfl) (by kernel_rfl) (fun _ _ _ h => h) (Or.inr ⟨by rfl, rfl⟩) (by assumption) ?_
            try simp only [Act.put, List.setIfInBounds_toArray, List.set_cons_zero, List.set_cons_succ]
            refine wpAnyH_take (i := 15) (oi := ⟨_, _, _, _, _, _⟩) (v := undef) rfl (by kernel_rfl) (by kernel_rfl) (by kernel_rfl) (fun _ _ _ h => h) (Or.inr ⟨by rfl, rfl⟩) (by assumption) ?_
            try simp only [Act.put, List.setIfInBounds_toArray, List.set_cons_zero, List.set_cons_succ]
            refine wpAnyH_take (i := 16) (oi := ⟨_, _, _, _, _, _⟩) (v := undef) rfl (by kernel_rfl) (by kernel_rfl) (by kernel_rfl) (fun _ _ _ h => h) (Or.inr ⟨by rfl, rfl⟩) (by assumption) ?_
            try simp only [Act.put, List.setIfInBounds_toArray, List.set_cons_zero, List.set_cons_succ]
            refine wpAnyH_take (i := 17) (oi := ⟨_, _, _, _, _, _⟩) (v := undef) rfl (by kernel_rfl) (by kernel_rfl) (by kernel_rfl) (fun _ _ _ h => h) (Or.inr ⟨by rfl, rfl⟩) (by assumption) ?_
            try simp only [Act.put, List.setIfInBounds_toArray, List.set_cons_zero, List.set_cons_succ]
            refine wpAnyH_take (i := 18) (oi := ⟨_, _, _, _, _, _⟩) (v := undef) rfl (by kernel_rfl) (by kernel_rfl) (by kernel_rfl) (fun _ _ _ h => h) (Or.inr ⟨by rfl, rfl⟩) (by assumption) ?_
            try simp only [Act.put, List.setIfInBounds_toArray, List.set_cons_zero, List.set_cons_succ]
            refine wpAnyH_take (i := 19) (oi := ⟨_, _, _, _, _, _⟩) (v := undef) rfl (by kernel_rfl) (by kernel_rfl) (by kernel_rfl) (fun _ _ _ h => h) (Or.inr ⟨by rfl, rfl⟩) (by assumption) ?_
            try simp only [Act.put, List.setIfInBounds_toArray, List.set_cons_zero, List.set_cons_succ]
            refine wpAnyH_take (i := 20) (oi := ⟨_, _, _, _, _, _⟩) (v := ?_) rfl (by kernel_rfl) (by kernel_rfl) (by kernel_rfl) (fun _ _ _ h => h) (Or.inl ⟨by rfl, ?hy⟩) (by assumption) ?_
            case hy =>
              intro w hSw
              (try dsimp only at hSw)
              go_simp
              all_goals with_reducible rfl
            try simp only [Act.put, List.setIfInBounds_toArray, List.set_cons_zero, List.set_cons_succ]
            refine wpAnyH_done (by kernel_rfl) ?_ _
            have hBq := hid hB.out.drew
            generalize wr.drew = wq at *
            have hh := hsc.out
            rw [hnm] at hh
            clear hsc hB
            by_cases hLn : L < n
            · have t3 : decide ((L : Int) < (n : Int)) = true := decide_eq_true (by omega)
              have t3' : decide (L < n) = true := decide_eq_true hLn
              rw [if_pos hLn] at hh
              clear hLn
              replace hh := hid hh
              go_wp2_with fail
              exact ⟨⟨d, by rw [hh.out], by rw [hh.out], by go_num, h1, h2, hBq⟩, by simp only [intOf]; omega⟩
            · have t3 : decide ((L : Int) < (n : Int)) = false := decide_eq_false (by omega)
              have t3' : decide (L < n) = false := decide_eq_false hLn
              rw [if_neg hLn] at hh
              clear hLn
              replace hh := hid hh
              go_wp2_with fail
              exact ⟨⟨d, by rw [hh.out], by rw [hh.out], by go_num, h1, h2, hBq⟩, by simp only [intOf]; omega⟩
      · have q2 : decide ((d : Int) ≤ 4096) = false := decide_eq_false (by omega)
        have hl := hlast (Or.inr (by omega))
        rw [← hres.out] at hl
        clear hlast hsc
        replace hl := hid hl
        go_wp2_with fail
        go_ret2
        exact ⟨by rw [hl.out]; rfl, hB.out⟩
    · have q1 : decide ((d : Int) ≤ (i : Int)) = false := decide_eq_false (by omega)
      have hl := hlast (Or.inl (by omega))
      rw [← hres.out] at hl
      clear hlast hsc
      replace hl := hid hl
      go_wp2_with fail
      go_ret2
      exact ⟨by rw [hl.out]; rfl, hB.out⟩
end Go.Proofs.Ytomijpoglnihgaa
