/- Chapter 06 (wal): WalTorn. -/
import Derived.Test.YtffmmhofgocldaaWalL2
set_option linter.unusedVariables false
namespace Go.Proofs.Ytffmmhofgocldaa
open Go.RowKit
open Go.Lib (hid byteCells)
theorem ext_pre (s : List UInt8) (m : Nat) : (ByteArray.mk s.toArray).extract 0 m = ⟨(s.take m).toArray⟩ := by rw [ByteArray.extract_mk]; simp
theorem begins_yes (la lb : List (List UInt8)) (va vb : Value) (w : World) (h : lb <+: la) (ha : StrsR w va la) (hb : StrsR w vb lb) (hla : la.length ≤ 1000000) (hcap : ∀ a n c, va = .slice a n c → n ≤ c) :
    Calls Try.prog 11 #[va, vb] w fun e w' => e = .returned (.bool true) ∧ Below w.heap.size w w' := by
  have := begins_any la lb va vb w ha hb hla hcap
  rwa [decide_eq_true h] at this
set_option maxHeartbeats 1000000 in
set_option maxRecDepth 100000 in
theorem WalTorn_walk (l : List (List UInt8)) (c : Int) (v : Value) (w : World) (hv : StrsR w v l) (hcap : ∀ a n c, v = .slice a n c → n ≤ c) (hl : l.length ≤ 140737488351232) (hs : ∀ x ∈ l, x.length ≤ 140737488351232) (hc : -9223372036854775808 ≤ c ∧ c ≤ 9223372036854775807) :
    Calls Try.prog 3 #[v, iv c] w fun e w' => e = .returned (.bool true) ∧ Below w.heap.size w w' := by
  have hsm := hid (small_any w)
  have hsum := hid (sumL_le l _ hs)
  obtain ⟨a, cp, rfl⟩ := hv.slice
  replace hv := hid hv
  replace hcap := hid hcap
  replace hs := hid hs
  go_enter Try.func3, Try.ntmps3
  go_wp2_with fail
  refine hsm.out.mono ?_
  rintro e w1 ⟨rfl, hb⟩
  have hv1 := hid (hv.out.below hb)
  have hB := hid hb
  have hsz := hb.size
  clear hsm hb hv
  go_wp2_with fail
  go_loop [6, 7] (fun n i => ∃ k : Nat, n = .int .i64 (sumL (l.take k) : Nat) ∧ i = .int .i64 k ∧ k ≤ l.length ∧ k ≤ 30) (fun _ i => l.length - (intOf i).toNat)
  case atStart => exact ⟨0, rfl, rfl, Nat.zero_le _, Nat.zero_le _⟩
  case round =>
    obtain ⟨k, rfl, rfl, hk, hk30⟩ := hrel
    by_cases hlt : k < l.length
    · have q1 : decide ((k : Int) < (l.length : Int)) = true := decide_eq_true (by omega)
      have q1' : decide (k < l.length) = true := decide_eq_true hlt
      by_cases h30 : k < 30
      · have q2 : decide ((k : Int) < 30) = true := decide_eq_true (by omega)
        have q2' : decide (k < 30) = true := decide_eq_true h30
        obtain ⟨x, hx⟩ : ∃ x, l[k]? = some x := ⟨_, List.getElem?_eq_getElem hlt⟩
        obtain ⟨g, o, hidx, hcell⟩ := strs_at hv1.out hx
        have hnx := sumL_take hx
        have hxs := hs.out x (List.mem_of_getElem? hx)
        have hsk := hsum.out k
        have hsk2 : sumL (l.take k) ≤ 30 * 140737488351232 := Nat.le_trans hsk (Nat.mul_le_mul_right _ hk30)
        clear hx hsk
        generalize sumL (l.take k) = N at *
        replace hnx := hid hnx
        go_wp2_with fail
        exact ⟨⟨k + 1, by rw [hnx.out]; go_num, by go_num, by omega, by omega⟩, by simp [intOf]; omega⟩
      · have q2 : decide ((k : Int) < 30) = false := decide_eq_false (by omega)
        have q2' : decide (k < 30) = false := decide_eq_false h30
        have q3 : decide (20 < (l.length : Int)) = true := decide_eq_true (by omega)
        have q3' : decide (20 < l.length) = true := decide_eq_true (by omega)
        go_wp2_with fail
        go_ret
        exact ⟨rfl, hB.out⟩
    · have hkl : k = l.length := by omega
      subst hkl
      rw [List.take_length]
      have q1 : decide ((l.length : Int) < (l.length : Int)) = false := decide_eq_false (by omega)
      by_cases h20 : 20 < l.length
      · have q3 : decide (20 < (l.length : Int)) = true := decide_eq_true (by omega)
        have q3' : decide (20 < l.length) = true := decide_eq_true h20
        go_wp2_with fail
        go_ret
        exact ⟨rfl, hB.out⟩
      · have q3 : decide (20 < (l.length : Int)) = false := decide_eq_false (by omega)
        have q3' : decide (20 < l.length) = false := decide_eq_false h20
        by_cases h2k : 2000 < sumL l
        · have q4 : decide (2000 < ((sumL l : Nat) : Int)) = true := decide_eq_true (by omega)
          have q4' : decide (2000 < sumL l) = true := decide_eq_true h2k
          go_wp2_with fail
          go_ret
          exact ⟨rfl, hB.out⟩
        · have q4 : decide (2000 < ((sumL l : Nat) : Int)) = false := decide_eq_false (by omega)
          have q4' : decide (2000 < sumL l) = false := decide_eq_false h2k
          by_cases hc0 : c < 0
          · have q5 : decide (c < 0) = true := decide_eq_true hc0
            go_wp2_with fail
            go_ret
            exact ⟨rfl, hB.out⟩
          · have q5 : decide (c < 0) = false := decide_eq_false hc0
            obtain ⟨m, rfl⟩ : ∃ m : Nat, c = (m : Int) := ⟨c.toNat, by omega⟩
            have hpay := pay_small (l := l) (N := 2000) (by omega) (by decide)
            have hrs := recs_small l (by omega)
            have hfile := hid (file_any l _ w1 hv1.out hpay (by omega) (by omega))
            have hR := rows_recs l hpay
            have hpre1 : ∀ k, rowsOf ((recs l).take k) <+: l := fun k => rows_take l _ ((recs l).drop k) hpay (List.take_append_drop _ _)
            have hpre2 : ∀ k j, k ≤ j → rowsOf ((recs l).take k) <+: rowsOf ((recs l).take j) := fun k j h => rows_mono _ _ (by
              have := List.take_prefix k ((recs l).take j)
              rwa [List.take_take, Nat.min_eq_left h] at this)
            have hRl : 5000 > (recs l).length := by omega
            have hlen20 : l.length ≤ 20 := by omega
            clear hrs h20 h2k hc0 hpay hk hlt hk30
            generalize recs l = P at *
            replace hR := hid hR
            replace hpre1 := hid hpre1
            replace hpre2 := hid hpre2
            go_wp2_with fail
            refine hfile.out.mono ?_
            rintro e w2 ⟨rfl, hb2⟩
            have hv2 := hid (hv1.out.below hb2)
            replace hB := hid (hB.out.trans (hb2.mono hsz))
            have hsz2 : w.heap.size ≤ w2.heap.size := Nat.le_trans hsz hb2.size
            clear hfile hb2 hv1
            by_cases hmP : P.length < m
            · have q6 : decide ((P.length : Int) < (m : Int)) = true := decide_eq_true (by omega)
              have q6' : decide (P.length < m) = true := decide_eq_true hmP
              go_wp2_with fail
              go_ret
              exact ⟨rfl, hB.out⟩
            · have q6 : decide ((P.length : Int) < (m : Int)) = false := decide_eq_false (by omega)
              have q6' : decide (P.length < m) = false := decide_eq_false hmP
              have i1 : (m : Int) ≤ (P.length : Int) := by omega
              have i1' : m ≤ P.length := by omega
              have hall := hid (rows_any P w2 (by omega))
              rw [hR.out] at hall
              have hx1 := ext_pre P m
              have hs1 := hid (fun w => rows_any (P.take m) w (by rw [List.length_take]; omega))
              obtain ⟨M, hM⟩ : ∃ M : Nat, M = min (m + 1) P.length := ⟨_, rfl⟩
              have hx2 := ext_pre P M
              have hs2 := hid (fun w => rows_any (P.take M) w (by rw [List.length_take]; omega))
              have hp1 := hpre1.out m
              have hp2 := hpre2.out m M (by omega)
              have hSl : P.length ≤ m → (rowsOf (P.take m)).length = l.length := fun h => by rw [List.take_of_length_le h, hR.out]
              have hml := (hpre1.out M).length_le
              have hsl := hp1.length_le
              generalize rowsOf (P.take m) = SO at *
              generalize rowsOf (P.take M) = MO at *
              have hmin : min ((m : Int) + 1) (P.length : Int) = (M : Int) := by omega
              have hmin0 : (0 : Int) ≤ (M : Int) := by omega
              have i2 : (M : Int) ≤ (P.length : Int) := by omega
              have i2' : M ≤ P.length := by omega
              clear hM hpre1 hpre2 hmP
              replace hp1 := hid hp1
              replace hp2 := hid hp2
              replace hSl := hid hSl
              go_wp2_with fail
              refine hall.out.mono ?_
              rintro e w3 ⟨va, rfl, ha, hb3⟩
              obtain ⟨aa, ca, rfl, -, -⟩ := owns_form ha
              have ha3 := hid (own_strs ha)
              have hv3 := hid (hv2.out.below hb3)
              replace hB := hid (hB.out.trans (hb3.mono hsz2))
              have hsz3 : w.heap.size ≤ w3.heap.size := Nat.le_trans hsz2 hb3.size
              clear hall ha hb3 hv2
              go_wp2_with fail
              refine (hs1.out w3).mono ?_
              rintro e w4 ⟨vs, rfl, hso, hb4⟩
              obtain ⟨ao, co, rfl, -, -⟩ := owns_form hso
              have hs4 := hid (own_strs hso)
              have ha4 := hid (ha3.out.below hb4)
              have hv4 := hid (hv3.out.below hb4)
              replace hB := hid (hB.out.trans (hb4.mono hsz3))
              have hsz4 : w.heap.size ≤ w4.heap.size := Nat.le_trans hsz3 hb4.size
              clear hs1 hso hb4 ha3 hv3
              go_wp2_with fail
              refine (hs2.out w4).mono ?_
              rintro e w5 ⟨vm, rfl, hmo, hb5⟩
              obtain ⟨am, cm, rfl, -, -⟩ := owns_form hmo
              have hm5 := hid (own_strs hmo)
              have hmc := own_cap hmo
              have ha5 := hid (ha4.out.below hb5)
              have hs5 := hid (hs4.out.below hb5)
              have hv5 := hid (hv4.out.below hb5)
              replace hB := hid (hB.out.trans (hb5.mono hsz4))
              have hsz5 : w.heap.size ≤ w5.heap.size := Nat.le_trans hsz4 hb5.size
              have hcall := hid (same_yes l _ _ w5 ha5.out hv5.out (by omega))
              replace hmc := hid hmc
              clear hs2 hmo hb5 ha4 hs4 hv4
              go_wp2_with fail
              refine hcall.out.mono ?_
              rintro e w6 ⟨rfl, hb6⟩
              have hm6 := hid (hm5.out.below hb6)
              have hs6 := hid (hs5.out.below hb6)
              have hv6 := hid (hv5.out.below hb6)
              replace hB := hid (hB.out.trans (hb6.mono hsz5))
              have hsz6 : w.heap.size ≤ w6.heap.size := Nat.le_trans hsz5 hb6.size
              have hcall2 := hid (begins_yes l SO _ _ w6 hp1.out hv6.out hs6.out (by omega) hcap.out)
              clear hcall hb6 ha5 hm5 hs5 hv5
              go_wp2_with fail
              refine hcall2.out.mono ?_
              rintro e w7 ⟨rfl, hb7⟩
              have hm7 := hid (hm6.out.below hb7)
              have hs7 := hid (hs6.out.below hb7)
              replace hB := hid (hB.out.trans (hb7.mono hsz6))
              have hsz7 : w.heap.size ≤ w7.heap.size := Nat.le_trans hsz6 hb7.size
              have hcall := hid (begins_yes MO SO _ _ w7 hp2.out hm7.out hs7.out (by omega) hmc.out)
              clear hcall2 hb7 hm6 hs6 hv6
              go_wp2_with fail
              refine hcall.out.mono ?_
              rintro e w8 ⟨rfl, hb8⟩
              replace hB := hid (hB.out.trans (hb8.mono hsz7))
              clear hcall hb8 hm7 hs7
              by_cases hlast : m < P.length
              · have q8 : decide ((m : Int) < (P.length : Int)) = true := decide_eq_true (by omega)
                have q8' : decide (m < P.length) = true := decide_eq_true hlast
                go_wp2_with fail
                go_ret
                exact ⟨rfl, hB.out⟩
              · have q8 : decide ((m : Int) < (P.length : Int)) = false := decide_eq_false (by omega)
                have q8' : decide (m < P.length) = false := decide_eq_false hlast
                have q9 : ((SO.length : Int) == (l.length : Int)) = true := by have := hSl.out (by omega); simp; omega
                go_wp2_with fail
                go_ret
                exact ⟨rfl, hB.out⟩
end Go.Proofs.Ytffmmhofgocldaa
