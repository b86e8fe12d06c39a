/- lex: LexSpaces. -/
import Derived.Test.YtlfcdfpbgjmcfaaDoorLexL2
set_option linter.unusedVariables false
set_option linter.unusedSimpArgs false
namespace Go.Proofs.YtlfcdfpbgjmcfaaDoor
open Go.RowKit
open Go.Lib (hid byteCells itoa)
theorem wr_len : ∀ (l1 l2 : List Tk) (b : Bool), (wrF b l1).length + (wrF false l2).length ≤ (wrF b (l1 ++ l2)).length
  | [], l2, b => by
    show 0 + (wrF false l2).length ≤ (wrF b l2).length
    cases l2 with
    | nil => simp [wrF]
    | cons t l => simp [wrF]
  | t :: l1, l2, b => by
    have := wr_len l1 l2 true
    simp only [wrF, List.cons_append, List.length_append] at this ⊢
    omega
set_option maxHeartbeats 4000000 in
set_option maxRecDepth 100000 in
theorem LexSpaces_walk (l : List Tk) (note : List UInt8) (k : Int) (v : Value) (w : World) (hk : k ≤ 9223372036854775807) (hn : ∀ t ∈ l, -9223372036854775808 ≤ t.n ∧ t.n ≤ 9223372036854775807) (hr : SlR 4 TkR (fun _ => True) w l v) (ht : Hid (Tab w)) :
    Calls Tryd.prog 5 #[v, .string ⟨note.toArray⟩, iv k] w fun e w' => e = .returned (.bool true) ∧ Below w.heap.size w w' := by
  obtain ⟨a, cap, rfl, hcap⟩ := hr.slice
  replace hr := hid hr
  replace hn := hid hn
  go_enter Tryd.func5, Tryd.ntmps5
  go_wp2_with fail
  refine (small_any _ ht).mono ?_
  rintro e w1 ⟨rfl, hB1⟩
  have hr1 := hr.out.below goodTk hB1
  replace hB1 := hid hB1
  go_wp2_with fail
  refine (few_any l _ _ w1 hr1).mono ?_
  rintro e w2 ⟨b, rfl, hfew, rfl⟩
  cases b with
  | false =>
    go_wp2_with fail
    go_ret
    exact ⟨rfl, hB1.out⟩
  | true =>
    obtain ⟨hl, htx⟩ := hfew rfl
    have hbt : ∀ t ∈ l, TkB t := fun t h => ⟨by have := htx t h; omega, (hn.out t h).1, (hn.out t h).2⟩
    replace hbt := hid hbt
    replace hr1 := hid hr1
    clear hfew hn
    by_cases h50 : 50 < note.length
    · have q1 : decide ((note.length : Int) > 50) = true := decide_eq_true (by omega)
      have q1i : (50 : Int) < (note.length : Int) := by omega
      go_wp2_with fail
      go_ret
      exact ⟨rfl, hB1.out⟩
    · have q1 : decide ((note.length : Int) > 50) = false := decide_eq_false (by omega)
      have q1i : ¬ (50 : Int) < (note.length : Int) := by omega
      go_wp2_with fail
      go_loop [8] (fun z => ∃ i : Nat, z = .int .i64 i ∧ i ≤ note.length ∧ Hid (∀ j c, j < i → note[j]? = some c → c ≠ 10)) (fun z => note.length - (intOf z).toNat)
      case atStart => exact ⟨0, rfl, Nat.zero_le _, hid (fun j c h => absurd h (by omega))⟩
      case round =>
        obtain ⟨i, rfl, hi, hno⟩ := hrel
        by_cases hil : i < note.length
        · have p1 : decide ((i : Int) < (note.length : Int)) = true := decide_eq_true (by omega)
          have p1i : (i : Int) < (note.length : Int) := by omega
          obtain ⟨c, hc⟩ : ∃ c, note[i]? = some c := ⟨_, List.getElem?_eq_getElem hil⟩
          have hix := idx_str (P := Tryd.prog) 9 (by kernel_rfl) note i c hc
          have f9 : IntKind.i64.wrap ((i : Int) + 1) = (i : Int) + 1 := i64_wrap_id _ (by omega) (by omega)
          by_cases h10 : c = 10
          · subst h10
            replace hc := hid hc
            go_wp2_with fail
            go_ret
            exact ⟨rfl, hB1.out⟩
          · obtain ⟨b1, b1', b1''⟩ : ((c.toNat : Int) == 10) = false ∧ ¬ ((c.toNat : Int) = 10) ∧ ¬ c.toNat = 10 := bn c 10 10 rfl h10
            have hno2 := hid (show ∀ j d, j < i + 1 → note[j]? = some d → d ≠ 10 from fun j d hj hd => by
              by_cases e : j = i
              · subst e; rw [hc] at hd; cases hd; exact h10
              · exact hno.out j d (by omega) hd)
            replace hc := hid hc
            clear hno
            go_wp2_with fail
            refine ⟨?_, by simp [intOf]; omega⟩
            repeat (first | exact ⟨⟨i + 1, rfl, by omega, hno2⟩, rfl⟩ | exact ⟨i + 1, rfl, by omega, hno2⟩ | apply Exists.intro)
        · have his : i = note.length := by omega
          have p1 : decide ((i : Int) < (note.length : Int)) = false := decide_eq_false (by omega)
          have p1i : ¬ (i : Int) < (note.length : Int) := by omega
          have hnn := hid (show ∀ c ∈ note, c ≠ 10 from fun c hc => by
            obtain ⟨j, hj⟩ := List.mem_iff_getElem?.1 hc
            exact hno.out j c (by have := (List.getElem?_eq_some_iff.1 hj).1; omega) hj)
          replace his := hid his
          clear hno
          have hw := hid (write_any l _ _ _ (by omega) hbt.out hr1.out (hid (ht.out.below hB1.out)))
          go_wp2_with fail
          refine hw.out.mono ?_
          rintro e w3 ⟨rfl, hb3⟩
          have hB3 := hid (hB1.out.trans (hb3.mono hB1.out.size))
          have hr3 := hid (hr1.out.below goodTk hb3)
          clear hb3 hw
          cases hlc : l with
          | nil =>
            have hW0 : writeF l = [] := by rw [hlc]; rfl
            rw [← hlc, hW0]
            clear hlc
            go_wp2_with fail
            go_ret
            exact ⟨rfl, hB3.out⟩
          | cons y l' =>
            have hl0 : l ≠ [] := by rw [hlc]; simp
            have hlp : 0 < l.length := List.length_pos_iff.2 hl0
            rw [← hlc]
            clear hlc
            have p0 : ((l.length : Int) == 0) = false := by rw [beq_eq_false_iff_ne]; omega
            have p0i : ¬ (l.length : Int) = 0 := by omega
            by_cases hWe : writeF l = []
            · rw [hWe]
              go_wp2_with fail
              go_ret
              exact ⟨rfl, hB3.out⟩
            · obtain ⟨hra, hWf⟩ := writeF_of hWe
              obtain ⟨z, V', hzV⟩ := all_pos hWe
              have hs1 : ((z :: V') == ([] : List UInt8)) = false := rfl
              have hs2 : ¬ (z :: V') = ([] : List UInt8) := by simp
              rw [hzV]
              by_cases hl3 : (z :: V').length ≤ 6000
              · have q2 : decide (((z :: V').length : Int) > 6000) = false := decide_eq_false (by omega)
                have q2i : ¬ (6000 : Int) < ((z :: V').length : Int) := by omega
                have hsum := fun n => wr_len (l.take n) (l.drop n) false
                simp only [List.take_append_drop] at hsum
                rw [← hWf, hzV] at hsum
                replace hsum := hid hsum
                replace hra := hid hra
                clear hWf hzV hWe
                generalize z :: V' = V at *
                replace hl3 := hid hl3
                go_upto_if 53 with (fail)
                go_cut [10] (fun z wx => ∃ n : Nat, z = .int .i64 n ∧ n < l.length ∧ wx = w3)
                case first =>
                  by_cases hk0 : 0 < k
                  · obtain ⟨kn, rfl⟩ : ∃ kn : Nat, k = (kn : Int) := ⟨k.toNat, by omega⟩
                    have r1 : decide ((kn : Int) > 0) = true := decide_eq_true hk0
                    have hm : (kn : Int).tmod (l.length : Int) = ((kn % l.length : Nat) : Int) := (Int.ofNat_tmod _ _).symm
                    have hml : kn % l.length < l.length := Nat.mod_lt _ hlp
                    generalize kn % l.length = n at *
                    go_wp2_with fail
                    go_meet
                    case rel => exact ⟨n, rfl, hml, rfl⟩
                  · have r1 : decide (k > 0) = false := decide_eq_false hk0
                    go_wp2_with fail
                    go_meet
                    case rel => exact ⟨0, rfl, hlp, rfl⟩
                case rest =>
                  obtain ⟨n, rfl, hnl, rfl⟩ := hcut
                  have hbt1 := hid (show ∀ t ∈ l.take n, TkB t from fun t ht => hbt.out t (List.mem_of_mem_take ht))
                  have hbt2 := hid (show ∀ t ∈ l.drop n, TkB t from fun t ht => hbt.out t (List.mem_of_mem_drop ht))
                  have hra1 : (l.take n).all rightF = true := by
                    have := hra.out
                    rw [List.all_eq_true] at this ⊢
                    exact fun x hx => this x (List.mem_of_mem_take hx)
                  have hra2 : (l.drop n).all rightF = true := by
                    have := hra.out
                    rw [List.all_eq_true] at this ⊢
                    exact fun x hx => this x (List.mem_of_mem_drop hx)
                  have hA : writeF (l.take n) = wrF false (l.take n) := by unfold writeF; rw [if_pos hra1]
                  have hB : writeF (l.drop n) = wrF false (l.drop n) := by unfold writeF; rw [if_pos hra2]
                  have hsm := hsum.out n
                  have hsp := sp_law (l := l) (n := n) hra.out hnn.out
                  obtain ⟨a', cap', b0, off0, cs0, hv0, hle0, ha0, -, -⟩ := hr3.out
                  simp only [Value.slice.injEq] at hv0
                  obtain ⟨rfl, -, rfl⟩ := hv0
                  obtain ⟨rfl, -, -⟩ := ha0 hlp
                  have htk := hid (hr3.out.take (k := n) (by omega))
                  have hdr := hid (hr3.out.drop (k := n) (a2 := ⟨b0, off0 + n * 4, none⟩) (by omega) (fun _ => rfl))
                  have hl1 : (l.take n).length ≤ 40000 := by rw [List.length_take]; omega
                  have hl2 : (l.drop n).length ≤ 40000 := by rw [List.length_drop]; omega
                  generalize hAe : wrF false (l.take n) = A at *
                  generalize hBe : wrF false (l.drop n) = B at *
                  have k1 : (n : Int) ≤ (cap : Int) := by omega
                  have k3 : (0 : Int) ≤ (n : Int) := by omega
                  have k5 : (n : Int) ≤ (l.length : Int) := by omega
                  have k7 : ¬ (cap = n) := by omega
                  replace hAe := hid hAe
                  replace hBe := hid hBe
                  replace hsp := hid hsp
                  replace hA := hid hA
                  replace hB := hid hB
                  clear ha0
                  have hl3' := hl3.out
                  go_wp2_with fail
                  refine (write_any (l.take n) _ _ wc hl1 hbt1.out htk.out (hid (ht.out.below hB3.out))).mono ?_
                  rintro e4 w4 ⟨rfl, hb4⟩
                  rw [hA.out]
                  have hB4 := hid (hB3.out.trans (hb4.mono hB3.out.size))
                  have hdr4 := hid (hdr.out.below goodTk hb4)
                  have hr4 := hid (hr3.out.below goodTk hb4)
                  clear hb4 hdr htk hr3
                  go_wp2_with fail
                  refine (write_any (l.drop n) _ _ w4 hl2 hbt2.out hdr4.out (hid (ht.out.below hB4.out))).mono ?_
                  rintro e5 w5 ⟨rfl, hb5⟩
                  rw [hB.out]
                  have hB5 := hid (hB4.out.trans (hb5.mono hB4.out.size))
                  have hr5 := hid (hr4.out.below goodTk hb5)
                  clear hb5 hdr4 hr4
                  go_wp2_with fail
                  have hlen : (spS note A B).length ≤ 32768 := by
                    unfold spS; simp; omega
                  have hcall := scan_ok' (w := w5) (by omega) (scanF_of hlen hsp.out)
                  have e : sv (spS note A B) = Value.string (⟨#[32, 47, 47]⟩ ++ ⟨note.toArray⟩ ++ ⟨#[10, 9]⟩ ++ ⟨A.toArray⟩ ++ ⟨#[13, 10, 32, 47, 47]⟩ ++ ⟨note.toArray⟩ ++ ⟨#[10]⟩ ++ ⟨B.toArray⟩ ++ ⟨#[32, 47, 47]⟩ ++ ⟨note.toArray⟩) := by
                    unfold spS; simp [ByteArray.mk_append_mk]
                  rw [e] at hcall
                  refine hcall.mono ?_
                  rintro e6 w6 ⟨v6, lc, rfl, hs6, hk6, hn6, hb6⟩
                  have hB6 := hid (hB5.out.trans (hb6.mono hB5.out.size))
                  have hr6 := hid (hr5.out.below goodTk hb6)
                  clear hb6 hr5 e hcall
                  replace hs6 := hid hs6
                  replace hk6 := hid hk6
                  go_wp2_with fail
                  refine (same_any lc l v6 _ _ _ w6 hs6.out hr6.out (by rw [hn6]; omega)).mono ?_
                  rintro e7 w7 ⟨rfl, hb7⟩
                  rw [hk6.out]
                  have hB7 := hid (hB6.out.trans (hb7.mono hB6.out.size))
                  clear hb7
                  go_wp2_with fail
                  go_ret
                  exact ⟨rfl, hB7.out⟩
              · have q2 : decide (((z :: V').length : Int) > 6000) = true := decide_eq_true (by omega)
                have q2i : (6000 : Int) < ((z :: V').length : Int) := by omega
                generalize z :: V' = V at *
                go_wp2_with fail
                go_ret
                exact ⟨rfl, hB3.out⟩
end Go.Proofs.YtlfcdfpbgjmcfaaDoor
