/- lex: LexBack. -/
import Derived.Test.YtlfcdfpbgjmcfaaDoorLexQ2
import Derived.Test.YtlfcdfpbgjmcfaaDoorLexS
import Derived.Deep.DeepCutAuto
set_option linter.unusedVariables false
set_option linter.unusedSimpArgs false
namespace Go.Proofs.YtlfcdfpbgjmcfaaDoor
open Go.RowKit
open Go.Lib (hid byteCells itoa)
theorem litF_len : ∀ (n : Nat) (r acc t r' : List UInt8), r.length ≤ n → litF r acc = some (t, r') → t.length ≤ acc.length + r.length
  | 0, r, acc, t, r', hn, h => by
    have : r = [] := List.length_eq_zero_iff.1 (by omega)
    subst this; simp [litF] at h
  | n + 1, [], acc, t, r', hn, h => by simp [litF] at h
  | n + 1, c :: r, acc, t, r', hn, h => by
    by_cases h10 : c = 10
    · subst h10; rw [lit_10] at h; cases h
    · by_cases h34 : c = 34
      · subst h34; rw [lit_34] at h
        simp only [Option.some.injEq, Prod.mk.injEq] at h
        obtain ⟨rfl, _⟩ := h; omega
      · by_cases h92 : c = 92
        · subst h92
          cases r with
          | nil => rw [lit_92] at h; cases h
          | cons e r =>
            rw [lit_esc] at h
            cases hu : unesc e with
            | none => rw [hu] at h; cases h
            | some x =>
              rw [hu] at h
              have := litF_len n r _ t r' (by simp at hn; omega) h
              simp at this ⊢; omega
        · rw [lit_one c _ _ h10 h34 h92] at h
          have := litF_len n r _ t r' (by simp at hn; omega) h
          simp at this ⊢; omega
theorem tok_textlen {D r2 : List UInt8} {t : Tk} (h : tokF D = .ok (t, r2)) : t.text.length ≤ D.length := by
  cases D with
  | nil => simp [tokF] at h
  | cons c r =>
    simp only [tokF] at h
    split at h
    · simp only [nameF, Except.ok.injEq, Prod.mk.injEq] at h
      obtain ⟨rfl, _⟩ := h
      exact (List.takeWhile_prefix isWd (l := c :: r)).length_le
    · split at h
      · unfold integerF at h
        split at h
        · simp only [Except.ok.injEq, Prod.mk.injEq] at h
          obtain ⟨rfl, _⟩ := h; simp
        · cases h
      · split at h
        · unfold textF at h
          split at h
          · rename_i tt r3 hl
            split at h
            · cases h
            · simp only [Except.ok.injEq, Prod.mk.injEq] at h
              obtain ⟨rfl, _⟩ := h
              have := litF_len _ _ _ _ _ (Nat.le_refl _) hl
              simp at this ⊢; omega
          · cases h
        · unfold markF at h
          split at h
          · simp only [Except.ok.injEq, Prod.mk.injEq] at h
            obtain ⟨rfl, _⟩ := h
            simp only [List.length_take]; omega
          · cases h
theorem right_n {t : Tk} (h : rightF t = true) : 0 ≤ t.n ∧ t.n ≤ 9007199254740992 := by
  unfold rightF at h
  split at h
  · simp only [Bool.and_eq_true, decide_eq_true_eq] at h; omega
  · split at h
    · simp only [Bool.and_eq_true, decide_eq_true_eq] at h; omega
    · split at h
      · simp only [Bool.and_eq_true, decide_eq_true_eq] at h; omega
      · split at h
        · simp only [Bool.and_eq_true, decide_eq_true_eq] at h; omega
        · cases h
theorem Scans.bound {r : List UInt8} {l : List Tk} (h : Scans r l) : l.length ≤ r.length ∧ ∀ t ∈ l, t.text.length ≤ r.length := by
  induction h with
  | nil h => exact ⟨Nat.zero_le _, fun t ht => by cases ht⟩
  | cons h hk hs ih =>
    rename_i r r2 t t' l
    have h1 := tok_len h
    have h2 := skip_len false r
    have h3 := tok_textlen h
    refine ⟨by simp only [List.length_cons]; omega, fun x hx => ?_⟩
    rcases List.mem_cons.1 hx with rfl | hx
    · have : x.text = t.text := by simp only [tkey, Prod.mk.injEq] at hk; exact hk.2.1
      rw [this]; omega
    · have := ih.2 x hx; omega
theorem Scans.tkB {r : List UInt8} {l : List Tk} (h : Scans r l) (hr : r.length ≤ 40000) : ∀ t ∈ l, TkB t := by
  have hb := h.bound
  have ha := h.right
  rw [List.all_eq_true] at ha
  intro t ht
  have := right_n (ha t ht)
  exact ⟨by have := hb.2 t ht; omega, by omega, by omega⟩
theorem tkB_key {a b : List Tk} (h : a.map tkey = b.map tkey) (hb : ∀ t ∈ b, TkB t) : ∀ t ∈ a, TkB t := by
  intro t ht
  obtain ⟨i, hi⟩ := List.mem_iff_getElem?.1 ht
  have h1 : (a.map tkey)[i]? = some (tkey t) := by rw [List.getElem?_map, hi]; rfl
  rw [h, List.getElem?_map] at h1
  cases hq : b[i]? with
  | none => rw [hq] at h1; cases h1
  | some x =>
    rw [hq] at h1
    simp only [Option.map_some, Option.some.injEq] at h1
    have := hb x (List.mem_of_getElem? hq)
    simp only [tkey, Prod.mk.injEq] at h1
    exact ⟨by rw [← h1.2.1]; exact this.1, by rw [← h1.2.2]; exact this.2.1, by rw [← h1.2.2]; exact this.2.2⟩
theorem len_key {a b : List Tk} (h : a.map tkey = b.map tkey) : a.length = b.length := by have := congrArg List.length h; simpa using this
set_option maxHeartbeats 4000000 in
set_option maxRecDepth 100000 in
theorem LexBack_walk (s : List UInt8) (l : List Tk) (v : Value) (w : World) (hn : ∀ t ∈ l, -9223372036854775808 ≤ t.n ∧ t.n ≤ 9223372036854775807) (hr : SlR 4 TkR (fun _ => True) w l v) (ht : Hid (Tab w)) :
    Calls Tryd.prog 3 #[.string ⟨s.toArray⟩, v] w fun e w' => e = .returned (.bool true) ∧ Below w.heap.size w w' := by
  replace hr := hid hr
  replace hn := hid hn
  by_cases hs : 2000 < s.length
  · have q1 : decide ((s.length : Int) > 2000) = true := decide_eq_true (by omega)
    have q1i : (2000 : Int) < (s.length : Int) := by omega
    go_enter Tryd.func3, Tryd.ntmps3
    go_wp2_with fail
    refine (small_any _ ht).mono ?_
    rintro e w1 ⟨rfl, hB⟩
    go_wp2_with fail
    go_ret
    exact ⟨rfl, hB⟩
  · have q1 : decide ((s.length : Int) > 2000) = false := decide_eq_false (by omega)
    have q1i : ¬ (2000 : Int) < (s.length : Int) := by omega
    go_enter Tryd.func3, Tryd.ntmps3
    go_wp2_with fail
    refine (small_any _ ht).mono ?_
    rintro e w1 ⟨rfl, hB1⟩
    have hr1 := hr.out.below goodTk hB1
    replace hB1 := hid hB1
    go_wp2_with fail
    refine (few_any l v _ w1 hr1).mono ?_
    rintro e w2 ⟨b, rfl, hfew, rfl⟩
    cases b with
    | false =>
      go_wp2_with fail
      go_ret
      exact ⟨rfl, hB1.out⟩
    | true =>
      obtain ⟨hl, htx⟩ := hfew rfl
      have hbt : ∀ t ∈ l, TkB t := fun t h => ⟨by have := htx t h; omega, (hn.out t h).1, (hn.out t h).2⟩
      have hw := hid (write_any l v _ _ (by omega) hbt hr1 (hid (ht.out.below hB1.out)))
      replace hbt := hid hbt
      clear hfew hn
      go_wp2_with fail
      refine hw.out.mono ?_
      rintro e w3 ⟨rfl, hb3⟩
      have hB3 := hid (hB1.out.trans (hb3.mono hB1.out.size))
      have hr3 := hid (hr1.below goodTk hb3)
      have hback := back_scan (l := l)
      generalize hW : writeF l = W at *
      replace hW := hid hW
      clear hb3 hB1 hw hr1
      have hback2 := hid hback
      clear hback
      obtain ⟨c, hc⟩ : ∃ c : Bool, c = (!decide (W = []) && decide (W.length ≤ 32768)) := ⟨_, rfl⟩
      obtain ⟨w3', hw3'⟩ : ∃ x, x = w3 := ⟨_, rfl⟩
      replace hc := hid hc
      go_upto_region 5 with (fail)
      go_cut [35] (fun x wx => x = .bool c ∧ wx = w3)
      case first =>
        rcases W with _ | ⟨x, r⟩
        · have hcv := hid (show c = false by rw [hc.out]; rfl)
          go_wp2_with fail
          go_meet
          case rel => exact ⟨by rw [hcv.out], rfl⟩
        · have hs1 : ((x :: r) == ([] : List UInt8)) = false := rfl
          have hs2 : ¬ (x :: r) = ([] : List UInt8) := by simp
          have hs3 : ((x :: r) != ([] : List UInt8)) = true := rfl
          by_cases hl3 : (x :: r).length ≤ 32768
          · have p1 : decide (((x :: r).length : Int) ≤ 32768) = true := decide_eq_true (by omega)
            have p1i : ((x :: r).length : Int) ≤ 32768 := by omega
            have hcv := hid (show c = true by rw [hc.out]; simp at hl3 ⊢; omega)
            generalize x :: r = W at *
            go_wp2_with fail
            go_meet
            case rel => exact ⟨by rw [hcv.out], rfl⟩
          · have p1 : decide (((x :: r).length : Int) ≤ 32768) = false := decide_eq_false (by omega)
            have p1i : ¬ ((x :: r).length : Int) ≤ 32768 := by omega
            have hcv := hid (show c = false by rw [hc.out]; simp at hl3 ⊢; omega)
            generalize x :: r = W at *
            go_wp2_with fail
            go_meet
            case rel => exact ⟨by rw [hcv.out], rfl⟩
      case rest =>
        obtain ⟨rfl, rfl⟩ := hcut
        go_upto_if 35 with (fail)
        go_cut [5] (fun h wx => h = .bool true ∧ Hid (Below w.heap.size w wx))
        case first =>
          cases c with
          | false =>
            go_wp2_with fail
            go_meet
            case rel => exact ⟨rfl, hB3⟩
          | true =>
            have hcc := hc.out.symm
            simp only [Bool.and_eq_true, Bool.not_eq_true', decide_eq_false_iff_not, decide_eq_true_eq] at hcc
            obtain ⟨hW1, hW2⟩ := hcc
            obtain ⟨l', hsc, hky⟩ := hback2.out hW1 hW2
            have hbt' := tkB_key hky hbt.out
            have hln := len_key hky
            have hsm : sameF l' l = true := decide_eq_true hky
            have hwk : writeF l' = W := (writeF_key hky).trans hW.out
            have hW3 : W.length ≤ 1000000 := by omega
            have hWb : (W != W) = false := by simp
            replace hky := hid hky
            replace hsm := hid hsm
            replace hwk := hid hwk
            replace hW1 := hid hW1
            replace hbt' := hid hbt'
            clear hback2 hc
            go_wp2_with fail
            refine (scan_ok hW3 hsc).mono ?_
            rintro e w4 ⟨v4, rfl, hO4, hb4⟩
            have hB4 := hid (hB3.out.trans (hb4.mono hB3.out.size))
            have hsl4 := hO4.sl goodTk
            have hr4 := hr3.out.below goodTk hb4
            clear hO4 hb4
            go_wp2_with fail
            refine (same_any l' l v4 v _ _ w4 hsl4 hr4 (by omega)).mono ?_
            rintro e w5 ⟨rfl, hb5⟩
            rw [hsm.out]
            have hB5 := hid (hB4.out.trans (hb5.mono hB4.out.size))
            have hsl5 := hsl4.below goodTk hb5
            clear hb5 hsl4 hr4
            go_wp2_with fail
            refine (write_any l' v4 _ w5 (by omega) hbt'.out hsl5 (hid (ht.out.below hB5.out))).mono ?_
            rintro e w6 ⟨rfl, hb6⟩
            rw [hwk.out]
            have hB6 := hid (hB5.out.trans (hb6.mono hB5.out.size))
            clear hb6 hsl5
            go_wp2_with fail
            go_meet
            case rel => exact ⟨rfl, hB6⟩
        case rest =>
          obtain ⟨rfl, hBc⟩ := hcut
          clear hback2 hc hB3 hr3 hW
          cases hsc : scanF s with
          | error x =>
            obtain ⟨e1, e2, e3⟩ := err_law hsc
            have p1 : (x.1 != 0) = true := by simp [e1]
            have p2 : (x.1 == 0) = false := by simp [e1]
            have p3 : decide (x.2 ≥ 0) = true := decide_eq_true e2
            have p4 : decide (x.2 < max (s.length : Int) 1) = true := decide_eq_true e3
            go_wp2_with fail
            refine (scan_err (by omega) hsc).mono ?_
            rintro e w4 ⟨rfl, hb4⟩
            have hB4 := hid (hBc.out.trans (hb4.mono hBc.out.size))
            go_wp2_with fail
            go_ret
            exact ⟨rfl, hB4.out⟩
          | ok la =>
            obtain ⟨_, hE, hS⟩ := scanF_scans hsc
            have hra := hS.right
            have hab := hS.tkB (by omega)
            have hal := hS.bound.1
            have hs6 : s.length ≤ 1000000 := by omega
            have hla : la.length ≤ 2000 := by omega
            have hVe : writeF la = wrF false la := by unfold writeF; rw [if_pos hra]
            have hVn : la ≠ [] → writeF la ≠ [] := fun h => by rw [hVe]; exact wr_ne hra h
            have hV0 : la = [] → writeF la = [] := fun h => by rw [h]; rfl
            have hbk := back_scan (l := la)
            replace hab := hid hab
            replace hbk := hid hbk
            replace hVn := hid hVn
            replace hV0 := hid hV0
            clear hS hE hra hVe hal
            go_wp2_with fail
            refine (scan_ok hs6 hsc).mono ?_
            rintro e w4 ⟨v4, rfl, hO4, hb4⟩
            have hB4 := hid (hBc.out.trans (hb4.mono hBc.out.size))
            have hsl4 := hO4.sl goodTk
            clear hO4 hb4
            obtain ⟨a4, k4, rfl, -⟩ := hsl4.slice
            replace hsl4 := hid hsl4
            go_wp2_with fail
            refine (write_any la _ _ w4 (by omega) hab.out hsl4.out (hid (ht.out.below hB4.out))).mono ?_
            rintro e w5 ⟨rfl, hb5⟩
            have hB5 := hid (hB4.out.trans (hb5.mono hB4.out.size))
            have hsl5 := hid (hsl4.out.below goodTk hb5)
            clear hb5 hsl4
            cases hlc : la with
            | nil =>
              have hV := hV0.out hlc
              rw [← hlc, hV]
              have hll0 : la.length = 0 := by rw [hlc]; rfl
              have p0 : ((la.length : Int) == 0) = true := by rw [hll0]; rfl
              clear hlc
              go_wp2_with fail
              go_ret
              exact ⟨rfl, hB5.out⟩
            | cons y la' =>
              have hV := hVn.out (by rw [hlc]; simp)
              have hll0 : ¬ la.length = 0 := by rw [hlc]; simp
              have p0 : ((la.length : Int) == 0) = false := by rw [beq_eq_false_iff_ne]; omega
              have p0i : ¬ (la.length : Int) = 0 := by omega
              rw [← hlc]
              clear hlc hV0 hVn
              have hbk2 := hbk.out hV
              clear hbk
              generalize writeF la = V at *
              obtain ⟨z, V', rfl⟩ := all_pos hV
              have hs1 : ((z :: V') == ([] : List UInt8)) = false := rfl
              have hs2 : ¬ (z :: V') = ([] : List UInt8) := by simp
              have hs3 : ((z :: V') != ([] : List UInt8)) = true := rfl
              by_cases hl3 : (z :: V').length ≤ 32768
              · have q2 : decide (((z :: V').length : Int) > 32768) = false := decide_eq_false (by omega)
                have q2i : ¬ (32768 : Int) < ((z :: V').length : Int) := by omega
                obtain ⟨lb, hsb, hkb⟩ := hbk2 hl3
                have hln := len_key hkb
                have hsm : sameF la lb = true := decide_eq_true hkb.symm
                have hV6 : (z :: V').length ≤ 1000000 := by omega
                replace hsm := hid hsm
                replace hkb := hid hkb
                clear hbk2 hl3 hV
                generalize z :: V' = V at *
                go_wp2_with fail
                refine (scan_ok hV6 hsb).mono ?_
                rintro e w6 ⟨v6, rfl, hO6, hb6⟩
                have hB6 := hid (hB5.out.trans (hb6.mono hB5.out.size))
                have hsl6 := hO6.sl goodTk
                have hsl5b := hsl5.out.below goodTk hb6
                clear hO6 hb6
                go_wp2_with fail
                refine (same_any la lb _ v6 _ _ w6 hsl5b hsl6 (by omega)).mono ?_
                rintro e w7 ⟨rfl, hb7⟩
                rw [hsm.out]
                have hB7 := hid (hB6.out.trans (hb7.mono hB6.out.size))
                go_wp2_with fail
                go_ret
                exact ⟨rfl, hB7.out⟩
              · have q2 : decide (((z :: V').length : Int) > 32768) = true := decide_eq_true (by omega)
                have q2i : (32768 : Int) < ((z :: V').length : Int) := by omega
                clear hbk2 hl3 hV
                generalize z :: V' = V at *
                go_wp2_with fail
                go_ret
                exact ⟨rfl, hB5.out⟩
end Go.Proofs.YtlfcdfpbgjmcfaaDoor
