/- Chapter 06 (wal): WalAlone. -/
import Derived.Test.YtffmmhofgocldaaWalL4
set_option linter.unusedVariables false
namespace Go.Proofs.Ytffmmhofgocldaa
open Go.RowKit
open Go.Lib (hid byteCells)
set_option maxHeartbeats 4000000 in
set_option maxRecDepth 100000 in
theorem WalAlone_walk (l m : List (List UInt8)) (again : Bool) (v0 v1 : Value) (w : World)
    (hv0 : StrsR w v0 l) (hv1 : StrsR w v1 m) (hl : l.length ≤ 140737488351232) (hm : m.length ≤ 140737488351232) (hsl : ∀ x ∈ l, x.length ≤ 140737488351232) (hsm : ∀ x ∈ m, x.length ≤ 140737488351232) :
    Calls Try.prog 5 #[v0, v1, .bool again] w fun e w' => e = .returned (.bool true) ∧ Below w.heap.size w w' := by
  have hsma := hid (small_any w)
  have hsuml := hid (sumL_le l _ hsl)
  have hsumm := hid (sumL_le m _ hsm)
  have hpre : Hid ((0 : Nat) ≤ 10 * 140737488351232) := hid (by decide)
  obtain ⟨a0, cp0, rfl⟩ := hv0.slice
  obtain ⟨a1, cp1, rfl⟩ := hv1.slice
  replace hv0 := hid hv0
  have hv0k := hv0
  replace hv1 := hid hv1
  replace hsl := hid hsl
  replace hsm := hid hsm
  by_cases hbad : 20 < l.length
  · go_enter Try.func5, Try.ntmps5
    go_wp2_with fail
    refine hsma.out.mono ?_
    rintro e w1 ⟨rfl, hb⟩
    have hvl := hid (hv0.out.below hb)
    have hvm := hid (hv1.out.below hb)
    have hB := hid hb
    have hsz := hb.size
    clear hsma hb hv0
    go_wp2_with fail
    go_loop [8, 9] (fun n i => ∃ k : Nat, n = .int .i64 ((0 + sumL (l.take k) : Nat) : Int) ∧ i = .int .i64 k ∧ k ≤ l.length ∧ k ≤ 30) (fun _ i => l.length - (intOf i).toNat)
    case atStart => exact ⟨0, by simp [sumL], rfl, Nat.zero_le _, Nat.zero_le _⟩
    case round =>
      obtain ⟨k, rfl, rfl, hk, hk30⟩ := hrel
      by_cases hlt : k < l.length
      · have q1 : decide ((k : Int) < (l.length : Int)) = true := decide_eq_true (by omega)
        have q1' : decide (k < l.length) = true := decide_eq_true hlt
        by_cases h30 : k < 30
        · have q2 : decide ((k : Int) < 30) = true := decide_eq_true (by omega)
          have q2' : decide (k < 30) = true := decide_eq_true h30
          obtain ⟨x, hx⟩ : ∃ x, l[k]? = some x := ⟨_, List.getElem?_eq_getElem hlt⟩
          obtain ⟨g, o, hidx, hcell⟩ := strs_at hvl.out hx
          have hnx := sumL_take hx
          have hxs := hsl.out x (List.mem_of_getElem? hx)
          have hsk := hsuml.out k
          have hsk2 : sumL (l.take k) ≤ 30 * 140737488351232 := Nat.le_trans hsk (Nat.mul_le_mul_right _ hk30)
          have hbd := hpre.out
          clear hx hsk
          have hnx2 : 0 + sumL (l.take (k + 1)) = 0 + sumL (l.take k) + x.length := by omega
          have hN1 : 0 + sumL (l.take k) ≤ 100 * 140737488351232 := by omega
          clear hnx hsk2 hbd
          generalize 0 + sumL (l.take k) = N at *
          replace hnx2 := hid hnx2
          go_wp2_with fail
          exact ⟨⟨k + 1, by rw [hnx2.out]; go_num, by go_num, by omega, by omega⟩, by simp [intOf]; omega⟩
        · have q2 : decide ((k : Int) < 30) = false := decide_eq_false (by omega)
          have q2' : decide (k < 30) = false := decide_eq_false h30
          have hkl : k = 30 := by omega
          have hb1 := hid (show 0 + sumL (l.take k) ≤ 40 * 140737488351232 by have h1 := hsuml.out k; have h2 : sumL (l.take k) ≤ 30 * 140737488351232 := Nat.le_trans h1 (Nat.mul_le_mul_right _ hk30); have := hpre.out; omega)
          have hN1 : Hid (k = l.length → 0 + sumL (l.take k) = 0 + sumL l) := hid (fun e => by rw [e, List.take_length])
          generalize 0 + sumL (l.take k) = N1 at *
          go_wp2_with fail
          go_loop [8, 10] (fun n i => ∃ k : Nat, n = .int .i64 ((N1 + sumL (m.take k) : Nat) : Int) ∧ i = .int .i64 k ∧ k ≤ m.length ∧ k ≤ 30) (fun _ i => m.length - (intOf i).toNat)
          case atStart => exact ⟨0, by simp [sumL], rfl, Nat.zero_le _, Nat.zero_le _⟩
          case round =>
            obtain ⟨k, rfl, rfl, hk, hk30⟩ := hrel
            by_cases hlt : k < m.length
            · have q1 : decide ((k : Int) < (m.length : Int)) = true := decide_eq_true (by omega)
              have q1' : decide (k < m.length) = true := decide_eq_true hlt
              by_cases h30 : k < 30
              · have q2 : decide ((k : Int) < 30) = true := decide_eq_true (by omega)
                have q2' : decide (k < 30) = true := decide_eq_true h30
                obtain ⟨x, hx⟩ : ∃ x, m[k]? = some x := ⟨_, List.getElem?_eq_getElem hlt⟩
                obtain ⟨g, o, hidx, hcell⟩ := strs_at hvm.out hx
                have hnx := sumL_take hx
                have hxs := hsm.out x (List.mem_of_getElem? hx)
                have hsk := hsumm.out k
                have hsk2 : sumL (m.take k) ≤ 30 * 140737488351232 := Nat.le_trans hsk (Nat.mul_le_mul_right _ hk30)
                have hbd := hb1.out
                clear hx hsk
                have hnx2 : N1 + sumL (m.take (k + 1)) = N1 + sumL (m.take k) + x.length := by omega
                have hN1 : N1 + sumL (m.take k) ≤ 100 * 140737488351232 := by omega
                clear hnx hsk2 hbd
                generalize N1 + sumL (m.take k) = N at *
                replace hnx2 := hid hnx2
                go_wp2_with fail
                exact ⟨⟨k + 1, by rw [hnx2.out]; go_num, by go_num, by omega, by omega⟩, by simp [intOf]; omega⟩
              · have q2 : decide ((k : Int) < 30) = false := decide_eq_false (by omega)
                have q2' : decide (k < 30) = false := decide_eq_false h30
                have hkl : k = 30 := by omega
                have q3 : decide (20 < (l.length : Int)) = true := decide_eq_true (by omega)
                have q3' : decide (20 < l.length) = true := decide_eq_true hbad
                go_wp2_with fail
                go_ret
                exact ⟨rfl, hB.out⟩
            · have hkl : k = m.length := by omega
              have q1 : decide ((k : Int) < (m.length : Int)) = false := decide_eq_false (by omega)
              have q1' : decide (k < m.length) = false := decide_eq_false hlt
              have q3 : decide (20 < (l.length : Int)) = true := decide_eq_true (by omega)
              have q3' : decide (20 < l.length) = true := decide_eq_true hbad
              go_wp2_with fail
              go_ret
              exact ⟨rfl, hB.out⟩
      · have hkl : k = l.length := by omega
        have q1 : decide ((k : Int) < (l.length : Int)) = false := decide_eq_false (by omega)
        have q1' : decide (k < l.length) = false := decide_eq_false hlt
        have hb1 := hid (show 0 + sumL (l.take k) ≤ 40 * 140737488351232 by have h1 := hsuml.out k; have h2 : sumL (l.take k) ≤ 30 * 140737488351232 := Nat.le_trans h1 (Nat.mul_le_mul_right _ hk30); have := hpre.out; omega)
        have hN1 : Hid (k = l.length → 0 + sumL (l.take k) = 0 + sumL l) := hid (fun e => by rw [e, List.take_length])
        generalize 0 + sumL (l.take k) = N1 at *
        go_wp2_with fail
        go_loop [8, 10] (fun n i => ∃ k : Nat, n = .int .i64 ((N1 + sumL (m.take k) : Nat) : Int) ∧ i = .int .i64 k ∧ k ≤ m.length ∧ k ≤ 30) (fun _ i => m.length - (intOf i).toNat)
        case atStart => exact ⟨0, by simp [sumL], rfl, Nat.zero_le _, Nat.zero_le _⟩
        case round =>
          obtain ⟨k, rfl, rfl, hk, hk30⟩ := hrel
          by_cases hlt : k < m.length
          · have q1 : decide ((k : Int) < (m.length : Int)) = true := decide_eq_true (by omega)
            have q1' : decide (k < m.length) = true := decide_eq_true hlt
            by_cases h30 : k < 30
            · have q2 : decide ((k : Int) < 30) = true := decide_eq_true (by omega)
              have q2' : decide (k < 30) = true := decide_eq_true h30
              obtain ⟨x, hx⟩ : ∃ x, m[k]? = some x := ⟨_, List.getElem?_eq_getElem hlt⟩
              obtain ⟨g, o, hidx, hcell⟩ := strs_at hvm.out hx
              have hnx := sumL_take hx
              have hxs := hsm.out x (List.mem_of_getElem? hx)
              have hsk := hsumm.out k
              have hsk2 : sumL (m.take k) ≤ 30 * 140737488351232 := Nat.le_trans hsk (Nat.mul_le_mul_right _ hk30)
              have hbd := hb1.out
              clear hx hsk
              have hnx2 : N1 + sumL (m.take (k + 1)) = N1 + sumL (m.take k) + x.length := by omega
              have hN1 : N1 + sumL (m.take k) ≤ 100 * 140737488351232 := by omega
              clear hnx hsk2 hbd
              generalize N1 + sumL (m.take k) = N at *
              replace hnx2 := hid hnx2
              go_wp2_with fail
              exact ⟨⟨k + 1, by rw [hnx2.out]; go_num, by go_num, by omega, by omega⟩, by simp [intOf]; omega⟩
            · have q2 : decide ((k : Int) < 30) = false := decide_eq_false (by omega)
              have q2' : decide (k < 30) = false := decide_eq_false h30
              have hkl : k = 30 := by omega
              have q3 : decide (20 < (l.length : Int)) = true := decide_eq_true (by omega)
              have q3' : decide (20 < l.length) = true := decide_eq_true hbad
              go_wp2_with fail
              go_ret
              exact ⟨rfl, hB.out⟩
          · have hkl : k = m.length := by omega
            have q1 : decide ((k : Int) < (m.length : Int)) = false := decide_eq_false (by omega)
            have q1' : decide (k < m.length) = false := decide_eq_false hlt
            have q3 : decide (20 < (l.length : Int)) = true := decide_eq_true (by omega)
            have q3' : decide (20 < l.length) = true := decide_eq_true hbad
            go_wp2_with fail
            go_ret
            exact ⟨rfl, hB.out⟩
  · by_cases hbad2 : 20 < m.length
    · go_enter Try.func5, Try.ntmps5
      go_wp2_with fail
      refine hsma.out.mono ?_
      rintro e w1 ⟨rfl, hb⟩
      have hvl := hid (hv0.out.below hb)
      have hvm := hid (hv1.out.below hb)
      have hB := hid hb
      have hsz := hb.size
      clear hsma hb hv0
      go_wp2_with fail
      go_loop [8, 9] (fun n i => ∃ k : Nat, n = .int .i64 ((0 + sumL (l.take k) : Nat) : Int) ∧ i = .int .i64 k ∧ k ≤ l.length ∧ k ≤ 30) (fun _ i => l.length - (intOf i).toNat)
      case atStart => exact ⟨0, by simp [sumL], rfl, Nat.zero_le _, Nat.zero_le _⟩
      case round =>
        obtain ⟨k, rfl, rfl, hk, hk30⟩ := hrel
        by_cases hlt : k < l.length
        · have q1 : decide ((k : Int) < (l.length : Int)) = true := decide_eq_true (by omega)
          have q1' : decide (k < l.length) = true := decide_eq_true hlt
          by_cases h30 : k < 30
          · have q2 : decide ((k : Int) < 30) = true := decide_eq_true (by omega)
            have q2' : decide (k < 30) = true := decide_eq_true h30
            obtain ⟨x, hx⟩ : ∃ x, l[k]? = some x := ⟨_, List.getElem?_eq_getElem hlt⟩
            obtain ⟨g, o, hidx, hcell⟩ := strs_at hvl.out hx
            have hnx := sumL_take hx
            have hxs := hsl.out x (List.mem_of_getElem? hx)
            have hsk := hsuml.out k
            have hsk2 : sumL (l.take k) ≤ 30 * 140737488351232 := Nat.le_trans hsk (Nat.mul_le_mul_right _ hk30)
            have hbd := hpre.out
            clear hx hsk
            have hnx2 : 0 + sumL (l.take (k + 1)) = 0 + sumL (l.take k) + x.length := by omega
            have hN1 : 0 + sumL (l.take k) ≤ 100 * 140737488351232 := by omega
            clear hnx hsk2 hbd
            generalize 0 + sumL (l.take k) = N at *
            replace hnx2 := hid hnx2
            go_wp2_with fail
            exact ⟨⟨k + 1, by rw [hnx2.out]; go_num, by go_num, by omega, by omega⟩, by simp [intOf]; omega⟩
          · exact absurd h30 (by omega)
        · have hkl : k = l.length := by omega
          have q1 : decide ((k : Int) < (l.length : Int)) = false := decide_eq_false (by omega)
          have q1' : decide (k < l.length) = false := decide_eq_false hlt
          have hb1 := hid (show 0 + sumL (l.take k) ≤ 40 * 140737488351232 by have h1 := hsuml.out k; have h2 : sumL (l.take k) ≤ 30 * 140737488351232 := Nat.le_trans h1 (Nat.mul_le_mul_right _ hk30); have := hpre.out; omega)
          have hN1 : Hid (k = l.length → 0 + sumL (l.take k) = 0 + sumL l) := hid (fun e => by rw [e, List.take_length])
          generalize 0 + sumL (l.take k) = N1 at *
          go_wp2_with fail
          go_loop [8, 10] (fun n i => ∃ k : Nat, n = .int .i64 ((N1 + sumL (m.take k) : Nat) : Int) ∧ i = .int .i64 k ∧ k ≤ m.length ∧ k ≤ 30) (fun _ i => m.length - (intOf i).toNat)
          case atStart => exact ⟨0, by simp [sumL], rfl, Nat.zero_le _, Nat.zero_le _⟩
          case round =>
            obtain ⟨k, rfl, rfl, hk, hk30⟩ := hrel
            by_cases hlt : k < m.length
            · have q1 : decide ((k : Int) < (m.length : Int)) = true := decide_eq_true (by omega)
              have q1' : decide (k < m.length) = true := decide_eq_true hlt
              by_cases h30 : k < 30
              · have q2 : decide ((k : Int) < 30) = true := decide_eq_true (by omega)
                have q2' : decide (k < 30) = true := decide_eq_true h30
                obtain ⟨x, hx⟩ : ∃ x, m[k]? = some x := ⟨_, List.getElem?_eq_getElem hlt⟩
                obtain ⟨g, o, hidx, hcell⟩ := strs_at hvm.out hx
                have hnx := sumL_take hx
                have hxs := hsm.out x (List.mem_of_getElem? hx)
                have hsk := hsumm.out k
                have hsk2 : sumL (m.take k) ≤ 30 * 140737488351232 := Nat.le_trans hsk (Nat.mul_le_mul_right _ hk30)
                have hbd := hb1.out
                clear hx hsk
                have hnx2 : N1 + sumL (m.take (k + 1)) = N1 + sumL (m.take k) + x.length := by omega
                have hN1 : N1 + sumL (m.take k) ≤ 100 * 140737488351232 := by omega
                clear hnx hsk2 hbd
                generalize N1 + sumL (m.take k) = N at *
                replace hnx2 := hid hnx2
                go_wp2_with fail
                exact ⟨⟨k + 1, by rw [hnx2.out]; go_num, by go_num, by omega, by omega⟩, by simp [intOf]; omega⟩
              · have q2 : decide ((k : Int) < 30) = false := decide_eq_false (by omega)
                have q2' : decide (k < 30) = false := decide_eq_false h30
                have hkl : k = 30 := by omega
                have q3 : decide (20 < (l.length : Int)) = false := decide_eq_false (by omega)
                have q3' : decide (20 < l.length) = false := decide_eq_false (by omega)
                have q4 : decide (20 < (m.length : Int)) = true := decide_eq_true (by omega)
                have q4' : decide (20 < m.length) = true := decide_eq_true hbad2
                go_wp2_with fail
                go_ret
                exact ⟨rfl, hB.out⟩
            · have hkl : k = m.length := by omega
              have q1 : decide ((k : Int) < (m.length : Int)) = false := decide_eq_false (by omega)
              have q1' : decide (k < m.length) = false := decide_eq_false hlt
              have q3 : decide (20 < (l.length : Int)) = false := decide_eq_false (by omega)
              have q3' : decide (20 < l.length) = false := decide_eq_false (by omega)
              have q4 : decide (20 < (m.length : Int)) = true := decide_eq_true (by omega)
              have q4' : decide (20 < m.length) = true := decide_eq_true hbad2
              go_wp2_with fail
              go_ret
              exact ⟨rfl, hB.out⟩
    · go_enter Try.func5, Try.ntmps5
      go_wp2_with fail
      refine hsma.out.mono ?_
      rintro e w1 ⟨rfl, hb⟩
      have hvl := hid (hv0.out.below hb)
      have hvm := hid (hv1.out.below hb)
      have hB := hid hb
      have hsz := hb.size
      clear hsma hb hv0
      go_wp2_with fail
      go_loop [8, 9] (fun n i => ∃ k : Nat, n = .int .i64 ((0 + sumL (l.take k) : Nat) : Int) ∧ i = .int .i64 k ∧ k ≤ l.length ∧ k ≤ 30) (fun _ i => l.length - (intOf i).toNat)
      case atStart => exact ⟨0, by simp [sumL], rfl, Nat.zero_le _, Nat.zero_le _⟩
      case round =>
        obtain ⟨k, rfl, rfl, hk, hk30⟩ := hrel
        by_cases hlt : k < l.length
        · have q1 : decide ((k : Int) < (l.length : Int)) = true := decide_eq_true (by omega)
          have q1' : decide (k < l.length) = true := decide_eq_true hlt
          by_cases h30 : k < 30
          · have q2 : decide ((k : Int) < 30) = true := decide_eq_true (by omega)
            have q2' : decide (k < 30) = true := decide_eq_true h30
            obtain ⟨x, hx⟩ : ∃ x, l[k]? = some x := ⟨_, List.getElem?_eq_getElem hlt⟩
            obtain ⟨g, o, hidx, hcell⟩ := strs_at hvl.out hx
            have hnx := sumL_take hx
            have hxs := hsl.out x (List.mem_of_getElem? hx)
            have hsk := hsuml.out k
            have hsk2 : sumL (l.take k) ≤ 30 * 140737488351232 := Nat.le_trans hsk (Nat.mul_le_mul_right _ hk30)
            have hbd := hpre.out
            clear hx hsk
            have hnx2 : 0 + sumL (l.take (k + 1)) = 0 + sumL (l.take k) + x.length := by omega
            have hN1 : 0 + sumL (l.take k) ≤ 100 * 140737488351232 := by omega
            clear hnx hsk2 hbd
            generalize 0 + sumL (l.take k) = N at *
            replace hnx2 := hid hnx2
            go_wp2_with fail
            exact ⟨⟨k + 1, by rw [hnx2.out]; go_num, by go_num, by omega, by omega⟩, by simp [intOf]; omega⟩
          · exact absurd h30 (by omega)
        · have hkl : k = l.length := by omega
          have q1 : decide ((k : Int) < (l.length : Int)) = false := decide_eq_false (by omega)
          have q1' : decide (k < l.length) = false := decide_eq_false hlt
          have hb1 := hid (show 0 + sumL (l.take k) ≤ 40 * 140737488351232 by have h1 := hsuml.out k; have h2 : sumL (l.take k) ≤ 30 * 140737488351232 := Nat.le_trans h1 (Nat.mul_le_mul_right _ hk30); have := hpre.out; omega)
          have hN1 : Hid (k = l.length → 0 + sumL (l.take k) = 0 + sumL l) := hid (fun e => by rw [e, List.take_length])
          generalize 0 + sumL (l.take k) = N1 at *
          go_wp2_with fail
          go_loop [8, 10] (fun n i => ∃ k : Nat, n = .int .i64 ((N1 + sumL (m.take k) : Nat) : Int) ∧ i = .int .i64 k ∧ k ≤ m.length ∧ k ≤ 30) (fun _ i => m.length - (intOf i).toNat)
          case atStart => exact ⟨0, by simp [sumL], rfl, Nat.zero_le _, Nat.zero_le _⟩
          case round =>
            obtain ⟨k, rfl, rfl, hk, hk30⟩ := hrel
            by_cases hlt : k < m.length
            · have q1 : decide ((k : Int) < (m.length : Int)) = true := decide_eq_true (by omega)
              have q1' : decide (k < m.length) = true := decide_eq_true hlt
              by_cases h30 : k < 30
              · have q2 : decide ((k : Int) < 30) = true := decide_eq_true (by omega)
                have q2' : decide (k < 30) = true := decide_eq_true h30
                obtain ⟨x, hx⟩ : ∃ x, m[k]? = some x := ⟨_, List.getElem?_eq_getElem hlt⟩
                obtain ⟨g, o, hidx, hcell⟩ := strs_at hvm.out hx
                have hnx := sumL_take hx
                have hxs := hsm.out x (List.mem_of_getElem? hx)
                have hsk := hsumm.out k
                have hsk2 : sumL (m.take k) ≤ 30 * 140737488351232 := Nat.le_trans hsk (Nat.mul_le_mul_right _ hk30)
                have hbd := hb1.out
                clear hx hsk
                have hnx2 : N1 + sumL (m.take (k + 1)) = N1 + sumL (m.take k) + x.length := by omega
                have hN1 : N1 + sumL (m.take k) ≤ 100 * 140737488351232 := by omega
                clear hnx hsk2 hbd
                generalize N1 + sumL (m.take k) = N at *
                replace hnx2 := hid hnx2
                go_wp2_with fail
                exact ⟨⟨k + 1, by rw [hnx2.out]; go_num, by go_num, by omega, by omega⟩, by simp [intOf]; omega⟩
              · exact absurd h30 (by omega)
            · have hkl : k = m.length := by omega
              have q1 : decide ((k : Int) < (m.length : Int)) = false := decide_eq_false (by omega)
              have q1' : decide (k < m.length) = false := decide_eq_false hlt
              have hN := hN1.out (by omega)
              have hkm : N1 + sumL (m.take k) = 0 + sumL l + sumL m := by rw [hkl, List.take_length, hN]
              rw [hkm]
              have q3 : decide (20 < (l.length : Int)) = false := decide_eq_false (by omega)
              have q3' : decide (20 < l.length) = false := decide_eq_false (by omega)
              have q4 : decide (20 < (m.length : Int)) = false := decide_eq_false (by omega)
              have q4' : decide (20 < m.length) = false := decide_eq_false (by omega)
              by_cases h2k : 2000 < 0 + sumL l + sumL m
              · have q5 : decide (2000 < ((0 + sumL l + sumL m : Nat) : Int)) = true := decide_eq_true (by omega)
                have q5' : decide (2000 < 0 + sumL l + sumL m) = true := decide_eq_true h2k
                generalize 0 + sumL l + sumL m = N at *
                clear hkm
                go_wp2_with fail
                go_ret
                exact ⟨rfl, hB.out⟩
              · have q5 : decide (2000 < ((0 + sumL l + sumL m : Nat) : Int)) = false := decide_eq_false (by omega)
                have q5' : decide (2000 < 0 + sumL l + sumL m) = false := decide_eq_false h2k
                have hpl := hid (pay_small (l := l) (N := 2000) (by omega) (by decide))
                have hpm := hid (pay_small (l := m) (N := 2000) (by omega) (by decide))
                have hrl := recs_small l (by omega)
                have hrm := recs_small m (by omega)
                have hrl5 : (recs l).length ≤ 5000 := by omega
                have hrm5 : (recs m).length ≤ 5000 := by omega
                clear hrl hrm
                generalize 0 + sumL l + sumL m = N at *
                clear hkm hN
                have hl20 : l.length ≤ 20 := by omega
                have hm20 : m.length ≤ 20 := by omega
                have hv1l : Hid (∀ w', Below w.heap.size w w' → StrsR w' (.slice a0 l.length cp0) l) := hid (fun w' h => hv0k.out.below h)
                have hv1m : Hid (∀ w', Below w.heap.size w w' → StrsR w' (.slice a1 m.length cp1) m) := hid (fun w' h => hv1.out.below h)
                have hnew := hid (new_any w1)
                go_wp2_with fail
                refine hnew.out.mono ?_
                rintro e w2 ⟨rfl, hd, hb, hs1⟩
                have hS : DSt (from_ w1.heap.size) w1.heap.size dNew w2 := ⟨hd, fun k hk => by unfold from_; omega⟩
                replace hB := hid (hB.out.trans (hb.mono hsz))
                obtain ⟨B, hBe⟩ : ∃ B, w1.heap.size = B := ⟨_, rfl⟩
                rw [hBe] at hS hb hs1 hsz
                rw [hBe]
                have hszW := hid hsz
                obtain ⟨o1, o2, o3⟩ := calm_new.opn (f := 0) (by decide)
                have hcall := dst_opens (f := 0) hS (by decide) o1
                have hr0 : rowsOf (dNew.data 0) = [] := rows_nil
                rw [hr0] at hcall
                have hd0 : (opn2 0 dNew).data = fun _ => [] := by
                  rw [o3, hr0]; funext k; unfold upd; split
                  · rfl
                  · split <;> rfl
                generalize opn2 0 dNew = d1 at *
                replace hcall := hid hcall
                clear hnew hd hb hS hr0 o3 o1 hBe
                go_wp2_with fail
                refine hcall.out.mono ?_
                rintro e w3 ⟨bx, rfl, hW, hf⟩
                have hs3 := hf.size
                replace hB := hid (hB.out.trans (fr_from hf (fun k h => (show w.heap.size ≤ k from Nat.le_trans hsz h)) (by omega)))
                obtain ⟨o1, o4, o3⟩ := o2.opn (f := 2) (by decide)
                have hr0 : rowsOf (d1.data 2) = [] := by rw [hd0]; exact rows_nil
                have hcall2 := w1_open (fy := 2) hW (by omega) (by decide) o1
                rw [hr0] at hcall2
                have hd2 : (opn2 2 d1).data = fun _ => [] := by
                  rw [o3, hr0, hd0]; funext k; unfold upd; split
                  · rfl
                  · split <;> rfl
                generalize opn2 2 d1 = d2 at *
                replace hcall2 := hid hcall2
                replace o4 := hid o4
                replace hd2 := hid (show d2.data 0 = recs (l.take 0) by rw [hd2]; rfl)
                clear hcall hf hW o1 o2 o3 hr0 hd0
                go_wp2_with fail
                refine hcall2.out.mono ?_
                rintro e w4 ⟨b2, rfl, hW, hb4⟩
                replace hW := hid hW
                replace hB := hid (hB.out.trans (hb4.mono hsz))
                have hs4 := hb4.size
                clear hcall2 hb4
                go_wp2_with fail
                go_loopw [16] (fun i wr => ∃ (k : Nat) (d : DS), i = .int .i64 k ∧ k ≤ l.length ∧ Hid (Calm d) ∧ Hid (d.data 0 = recs (l.take k)) ∧ Hid (W2 B B bx 0 (l.take k) b2 2 [] d wr) ∧ Hid (Below w.heap.size w wr) ∧ B ≤ wr.heap.size) (fun i _ => l.length - (intOf i).toNat)
                case atStart => exact ⟨0, d2, rfl, Nat.zero_le _, o4, hd2, hW, hB, by omega⟩
                case round =>
                  clear o4 hd2 hW hB hs4 hs3 hs1
                  obtain ⟨k, d, rfl, hk, hc, hd0, hW, hB, hBw⟩ := hrel
                  by_cases hlt : k < l.length
                  · have q1 : decide ((k : Int) < (l.length : Int)) = true := decide_eq_true (by omega)
                    have q1' : decide (k < l.length) = true := decide_eq_true hlt
                    obtain ⟨x, hx⟩ : ∃ x, l[k]? = some x := ⟨_, List.getElem?_eq_getElem hlt⟩
                    obtain ⟨g, o, hidx, hcell⟩ := strs_at (hv1l.out wr hB.out) hx
                    have hxp := hpl.out x (List.mem_of_getElem? hx)
                    have hrt := recs_take1 hx
                    obtain ⟨a1, a2, a3⟩ := hc.out.wapp (f := 0) (by decide) x hxp (by rw [hd0.out]; omega)
                    have hcall := w2_append hW.out x (by rw [List.length_take]; omega) (by omega)
                    have hwr : wrow x (l.take k) 0 = l.take (k + 1) := by rw [List.take_add_one, hx]; rfl
                    rw [a1, hwr] at hcall
                    rw [hd0.out] at a3
                    have hd1 : (wapp2 0 x d).data 0 = recs (l.take (k + 1)) := by rw [a3, upd_same]; exact (recs_take hx).symm
                    generalize wapp2 0 x d = d5 at *
                    replace hcall := hid hcall
                    replace a2 := hid a2
                    replace hd1 := hid hd1
                    clear a3 hx hwr hW hc hd0 a1
                    go_wp2_with fail
                    refine hcall.out.mono ?_
                    rintro e w5 ⟨rfl, hW, hb5⟩
                    replace hB := hid (hB.out.trans (hb5.mono hszW.out))
                    replace hW := hid hW
                    have hs5 := hb5.size
                    have hs5' : B ≤ w5.heap.size := by have := hb5.size; obtain ⟨_, _, _, _, _, _, _, _, h7⟩ := hW.out; exact h7
                    clear hcall hb5 hidx hcell
                    go_wp2_with fail
                    exact ⟨⟨k + 1, d5, by go_num, by omega, a2, hd1, hW, hB, hs5'⟩, by simp [intOf]; omega⟩
                  · have hkl : k = l.length := by omega
                    subst hkl
                    rw [List.take_length] at hd0 hW
                    obtain ⟨r1, r2, r3⟩ := hc.out.rew (f := 2) (by decide) m (by omega)
                    have hcall := w2_rewrite hW.out.swap m (.slice a1 m.length cp1) (by decide) (by omega) hpm.out (by omega) (fun w' hb => hv1m.out w' (hB.out.trans (hb.mono hszW.out)))
                    have hrr : rewR 2 m [] d = m := if_pos r1
                    have hdm : (rew2 2 m d).data 2 = recs m := by rw [r3, upd_other _ _ _ _ (by decide), upd_same]
                    rw [r1, hrr] at hcall
                    generalize rew2 2 m d = d6 at *
                    replace hcall := hid hcall
                    replace r2 := hid r2
                    replace hdm := hid hdm
                    clear hW hc hd0 r1 r3 hrr
                    go_wp2_with fail
                    refine hcall.out.mono ?_
                    rintro e w6 ⟨rfl, hW, hb6⟩
                    replace hB := hid (hB.out.trans (hb6.mono hszW.out))
                    have hs6 : B ≤ w6.heap.size := by obtain ⟨_, _, _, _, _, _, _, _, h7⟩ := hW; exact h7
                    have hcl := r2
                    clear hcall hb6
                    cases again
                    · replace hW := hid hW.swap
                      go_wp2_with fail
                      have hcall := hid (wst_all hW.out.fst (by omega))
                      go_wp2_with fail
                      refine hcall.out.mono ?_
                      rintro e w8 ⟨va, rfl, ha, hb8⟩
                      obtain ⟨aa, ca, rfl, -, -⟩ := owns_form ha
                      replace hB := hid (hB.out.trans (hb8.mono (by have := hB.out.size; exact this)))
                      have hW8 := hid (hW.out.below hb8)
                      have hcall2 := hid (same_yes l _ _ w8 (own_strs ha) (hv1l.out w8 hB.out) (by omega))
                      clear hcall ha hb8 hW
                      go_wp2_with fail
                      refine hcall2.out.mono ?_
                      rintro e w9 ⟨rfl, hb9⟩
                      replace hB := hid (hB.out.trans (hb9.mono (by have := hB.out.size; exact this)))
                      have hW9 := hid (hW8.out.below hb9)
                      have hcall := hid (wst_all hW9.out.swap.fst (by omega))
                      clear hcall2 hb9 hW8
                      go_wp2_with fail
                      refine hcall.out.mono ?_
                      rintro e w10 ⟨vb, rfl, hbb, hb10⟩
                      obtain ⟨ab, cb, rfl, -, -⟩ := owns_form hbb
                      replace hB := hid (hB.out.trans (hb10.mono (by have := hB.out.size; exact this)))
                      have hW10 := hid (hW9.out.below hb10)
                      have hcall2 := hid (same_yes m _ _ w10 (own_strs hbb) (hv1m.out w10 hB.out) (by omega))
                      clear hcall hbb hb10 hW9
                      go_wp2_with fail
                      refine hcall2.out.mono ?_
                      rintro e w11 ⟨rfl, hb11⟩
                      replace hB := hid (hB.out.trans (hb11.mono (by have := hB.out.size; exact this)))
                      have hcall := w2_flush (hW10.out.below hb11)
                      rw [(hcl.out.flush (f := 0) (by decide)).1] at hcall
                      replace hcall := hid hcall
                      clear hcall2 hb11 hW10
                      go_wp2_with fail
                      refine hcall.out.mono ?_
                      rintro e w12 ⟨rfl, hb12⟩
                      replace hB := hid (hB.out.trans (hb12.mono (by have := hszW.out; omega)))
                      clear hcall hb12
                      go_wp2_with fail
                      go_ret
                      exact ⟨rfl, hB.out⟩
                    · obtain ⟨o1, o4, o3⟩ := r2.out.opn (f := 2) (by decide)
                      have hrm : rowsOf (d6.data 2) = m := by rw [hdm.out]; exact rows_recs m hpm.out
                      have hcall := w1_open (fy := 2) hW.swap.fst hs6 (by decide) o1
                      rw [hrm] at hcall
                      generalize opn2 2 d6 = d7 at *
                      replace hcall := hid hcall
                      replace hcl := hid o4
                      clear hW r2 o1 o3 o4 hrm hdm
                      go_wp2_with fail
                      refine hcall.out.mono ?_
                      rintro e w7 ⟨b3, rfl, hW, hb7⟩
                      replace hB := hid (hB.out.trans (hb7.mono hszW.out))
                      replace hW := hid hW
                      clear hcall hb7
                      go_wp2_with fail
                      have hcall := hid (wst_all hW.out.fst (by omega))
                      go_wp2_with fail
                      refine hcall.out.mono ?_
                      rintro e w8 ⟨va, rfl, ha, hb8⟩
                      obtain ⟨aa, ca, rfl, -, -⟩ := owns_form ha
                      replace hB := hid (hB.out.trans (hb8.mono (by have := hB.out.size; exact this)))
                      have hW8 := hid (hW.out.below hb8)
                      have hcall2 := hid (same_yes l _ _ w8 (own_strs ha) (hv1l.out w8 hB.out) (by omega))
                      clear hcall ha hb8 hW
                      go_wp2_with fail
                      refine hcall2.out.mono ?_
                      rintro e w9 ⟨rfl, hb9⟩
                      replace hB := hid (hB.out.trans (hb9.mono (by have := hB.out.size; exact this)))
                      have hW9 := hid (hW8.out.below hb9)
                      have hcall := hid (wst_all hW9.out.swap.fst (by omega))
                      clear hcall2 hb9 hW8
                      go_wp2_with fail
                      refine hcall.out.mono ?_
                      rintro e w10 ⟨vb, rfl, hbb, hb10⟩
                      obtain ⟨ab, cb, rfl, -, -⟩ := owns_form hbb
                      replace hB := hid (hB.out.trans (hb10.mono (by have := hB.out.size; exact this)))
                      have hW10 := hid (hW9.out.below hb10)
                      have hcall2 := hid (same_yes m _ _ w10 (own_strs hbb) (hv1m.out w10 hB.out) (by omega))
                      clear hcall hbb hb10 hW9
                      go_wp2_with fail
                      refine hcall2.out.mono ?_
                      rintro e w11 ⟨rfl, hb11⟩
                      replace hB := hid (hB.out.trans (hb11.mono (by have := hB.out.size; exact this)))
                      have hcall := w2_flush (hW10.out.below hb11)
                      rw [(hcl.out.flush (f := 0) (by decide)).1] at hcall
                      replace hcall := hid hcall
                      clear hcall2 hb11 hW10
                      go_wp2_with fail
                      refine hcall.out.mono ?_
                      rintro e w12 ⟨rfl, hb12⟩
                      replace hB := hid (hB.out.trans (hb12.mono (by have := hszW.out; omega)))
                      clear hcall hb12
                      go_wp2_with fail
                      go_ret
                      exact ⟨rfl, hB.out⟩
end Go.Proofs.Ytffmmhofgocldaa
