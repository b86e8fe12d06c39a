/- Chapter 06 (wal): WalJoins. -/
import Derived.Test.YtffmmhofgocldaaWalL3
set_option linter.unusedVariables false
namespace Go.Proofs.Ytffmmhofgocldaa
open Go.RowKit
open Go.Lib (hid byteCells)
set_option maxHeartbeats 4000000 in
set_option maxRecDepth 100000 in
theorem WalJoins_walk (l m : List (List UInt8)) (z : List UInt8) (v0 v1 : Value) (w : World)
    (hv0 : StrsR w v0 l) (hv1 : StrsR w v1 m) (hl : l.length ≤ 140737488351232) (hm : m.length ≤ 140737488351232) (hsl : ∀ x ∈ l, x.length ≤ 140737488351232) (hsm : ∀ x ∈ m, x.length ≤ 140737488351232) (hz : z.length ≤ 140737488351232) :
    Calls Try.prog 4 #[v0, v1, sv z] w fun e w' => e = .returned (.bool true) ∧ Below w.heap.size w w' := by
  have hsma := hid (small_any w)
  have hsuml := hid (sumL_le l _ hsl)
  have hsumm := hid (sumL_le m _ hsm)
  have hpre : Hid (z.length ≤ 10 * 140737488351232) := hid (by omega)
  obtain ⟨a0, cp0, rfl⟩ := hv0.slice
  obtain ⟨a1, cp1, rfl⟩ := hv1.slice
  replace hv0 := hid hv0
  have hv0k := hv0
  replace hv1 := hid hv1
  replace hsl := hid hsl
  replace hsm := hid hsm
  by_cases hbad : 20 < l.length
  · go_enter Try.func4, Try.ntmps4
    go_wp2_with fail
    refine hsma.out.mono ?_
    rintro e w1 ⟨rfl, hb⟩
    have hvl := hid (hv0.out.below hb)
    have hvm := hid (hv1.out.below hb)
    have hB := hid hb
    have hsz := hb.size
    clear hsma hb hv0
    go_wp2_with fail
    go_loop [8, 9] (fun n i => ∃ k : Nat, n = .int .i64 ((z.length + sumL (l.take k) : Nat) : Int) ∧ i = .int .i64 k ∧ k ≤ l.length ∧ k ≤ 30) (fun _ i => l.length - (intOf i).toNat)
    case atStart => exact ⟨0, by simp [sumL], rfl, Nat.zero_le _, Nat.zero_le _⟩
    case round =>
      obtain ⟨k, rfl, rfl, hk, hk30⟩ := hrel
      by_cases hlt : k < l.length
      · have q1 : decide ((k : Int) < (l.length : Int)) = true := decide_eq_true (by omega)
        have q1' : decide (k < l.length) = true := decide_eq_true hlt
        by_cases h30 : k < 30
        · have q2 : decide ((k : Int) < 30) = true := decide_eq_true (by omega)
          have q2' : decide (k < 30) = true := decide_eq_true h30
          obtain ⟨x, hx⟩ : ∃ x, l[k]? = some x := ⟨_, List.getElem?_eq_getElem hlt⟩
          obtain ⟨g, o, hidx, hcell⟩ := strs_at hvl.out hx
          have hnx := sumL_take hx
          have hxs := hsl.out x (List.mem_of_getElem? hx)
          have hsk := hsuml.out k
          have hsk2 : sumL (l.take k) ≤ 30 * 140737488351232 := Nat.le_trans hsk (Nat.mul_le_mul_right _ hk30)
          have hbd := hpre.out
          clear hx hsk
          have hnx2 : z.length + sumL (l.take (k + 1)) = z.length + sumL (l.take k) + x.length := by omega
          have hN1 : z.length + sumL (l.take k) ≤ 100 * 140737488351232 := by omega
          clear hnx hsk2 hbd
          generalize z.length + sumL (l.take k) = N at *
          replace hnx2 := hid hnx2
          go_wp2_with fail
          exact ⟨⟨k + 1, by rw [hnx2.out]; go_num, by go_num, by omega, by omega⟩, by simp [intOf]; omega⟩
        · have q2 : decide ((k : Int) < 30) = false := decide_eq_false (by omega)
          have q2' : decide (k < 30) = false := decide_eq_false h30
          have hkl : k = 30 := by omega
          have hb1 := hid (show z.length + sumL (l.take k) ≤ 40 * 140737488351232 by have h1 := hsuml.out k; have h2 : sumL (l.take k) ≤ 30 * 140737488351232 := Nat.le_trans h1 (Nat.mul_le_mul_right _ hk30); have := hpre.out; omega)
          have hN1 : Hid (k = l.length → z.length + sumL (l.take k) = z.length + sumL l) := hid (fun e => by rw [e, List.take_length])
          generalize z.length + sumL (l.take k) = N1 at *
          go_wp2_with fail
          go_loop [8, 10] (fun n i => ∃ k : Nat, n = .int .i64 ((N1 + sumL (m.take k) : Nat) : Int) ∧ i = .int .i64 k ∧ k ≤ m.length ∧ k ≤ 30) (fun _ i => m.length - (intOf i).toNat)
          case atStart => exact ⟨0, by simp [sumL], rfl, Nat.zero_le _, Nat.zero_le _⟩
          case round =>
            obtain ⟨k, rfl, rfl, hk, hk30⟩ := hrel
            by_cases hlt : k < m.length
            · have q1 : decide ((k : Int) < (m.length : Int)) = true := decide_eq_true (by omega)
              have q1' : decide (k < m.length) = true := decide_eq_true hlt
              by_cases h30 : k < 30
              · have q2 : decide ((k : Int) < 30) = true := decide_eq_true (by omega)
                have q2' : decide (k < 30) = true := decide_eq_true h30
                obtain ⟨x, hx⟩ : ∃ x, m[k]? = some x := ⟨_, List.getElem?_eq_getElem hlt⟩
                obtain ⟨g, o, hidx, hcell⟩ := strs_at hvm.out hx
                have hnx := sumL_take hx
                have hxs := hsm.out x (List.mem_of_getElem? hx)
                have hsk := hsumm.out k
                have hsk2 : sumL (m.take k) ≤ 30 * 140737488351232 := Nat.le_trans hsk (Nat.mul_le_mul_right _ hk30)
                have hbd := hb1.out
                clear hx hsk
                have hnx2 : N1 + sumL (m.take (k + 1)) = N1 + sumL (m.take k) + x.length := by omega
                have hN1 : N1 + sumL (m.take k) ≤ 100 * 140737488351232 := by omega
                clear hnx hsk2 hbd
                generalize N1 + sumL (m.take k) = N at *
                replace hnx2 := hid hnx2
                go_wp2_with fail
                exact ⟨⟨k + 1, by rw [hnx2.out]; go_num, by go_num, by omega, by omega⟩, by simp [intOf]; omega⟩
              · have q2 : decide ((k : Int) < 30) = false := decide_eq_false (by omega)
                have q2' : decide (k < 30) = false := decide_eq_false h30
                have hkl : k = 30 := by omega
                have q3 : decide (20 < (l.length : Int)) = true := decide_eq_true (by omega)
                have q3' : decide (20 < l.length) = true := decide_eq_true hbad
                go_wp2_with fail
                go_ret
                exact ⟨rfl, hB.out⟩
            · have hkl : k = m.length := by omega
              have q1 : decide ((k : Int) < (m.length : Int)) = false := decide_eq_false (by omega)
              have q1' : decide (k < m.length) = false := decide_eq_false hlt
              have q3 : decide (20 < (l.length : Int)) = true := decide_eq_true (by omega)
              have q3' : decide (20 < l.length) = true := decide_eq_true hbad
              go_wp2_with fail
              go_ret
              exact ⟨rfl, hB.out⟩
      · have hkl : k = l.length := by omega
        have q1 : decide ((k : Int) < (l.length : Int)) = false := decide_eq_false (by omega)
        have q1' : decide (k < l.length) = false := decide_eq_false hlt
        have hb1 := hid (show z.length + sumL (l.take k) ≤ 40 * 140737488351232 by have h1 := hsuml.out k; have h2 : sumL (l.take k) ≤ 30 * 140737488351232 := Nat.le_trans h1 (Nat.mul_le_mul_right _ hk30); have := hpre.out; omega)
        have hN1 : Hid (k = l.length → z.length + sumL (l.take k) = z.length + sumL l) := hid (fun e => by rw [e, List.take_length])
        generalize z.length + sumL (l.take k) = N1 at *
        go_wp2_with fail
        go_loop [8, 10] (fun n i => ∃ k : Nat, n = .int .i64 ((N1 + sumL (m.take k) : Nat) : Int) ∧ i = .int .i64 k ∧ k ≤ m.length ∧ k ≤ 30) (fun _ i => m.length - (intOf i).toNat)
        case atStart => exact ⟨0, by simp [sumL], rfl, Nat.zero_le _, Nat.zero_le _⟩
        case round =>
          obtain ⟨k, rfl, rfl, hk, hk30⟩ := hrel
          by_cases hlt : k < m.length
          · have q1 : decide ((k : Int) < (m.length : Int)) = true := decide_eq_true (by omega)
            have q1' : decide (k < m.length) = true := decide_eq_true hlt
            by_cases h30 : k < 30
            · have q2 : decide ((k : Int) < 30) = true := decide_eq_true (by omega)
              have q2' : decide (k < 30) = true := decide_eq_true h30
              obtain ⟨x, hx⟩ : ∃ x, m[k]? = some x := ⟨_, List.getElem?_eq_getElem hlt⟩
              obtain ⟨g, o, hidx, hcell⟩ := strs_at hvm.out hx
              have hnx := sumL_take hx
              have hxs := hsm.out x (List.mem_of_getElem? hx)
              have hsk := hsumm.out k
              have hsk2 : sumL (m.take k) ≤ 30 * 140737488351232 := Nat.le_trans hsk (Nat.mul_le_mul_right _ hk30)
              have hbd := hb1.out
              clear hx hsk
              have hnx2 : N1 + sumL (m.take (k + 1)) = N1 + sumL (m.take k) + x.length := by omega
              have hN1 : N1 + sumL (m.take k) ≤ 100 * 140737488351232 := by omega
              clear hnx hsk2 hbd
              generalize N1 + sumL (m.take k) = N at *
              replace hnx2 := hid hnx2
              go_wp2_with fail
              exact ⟨⟨k + 1, by rw [hnx2.out]; go_num, by go_num, by omega, by omega⟩, by simp [intOf]; omega⟩
            · have q2 : decide ((k : Int) < 30) = false := decide_eq_false (by omega)
              have q2' : decide (k < 30) = false := decide_eq_false h30
              have hkl : k = 30 := by omega
              have q3 : decide (20 < (l.length : Int)) = true := decide_eq_true (by omega)
              have q3' : decide (20 < l.length) = true := decide_eq_true hbad
              go_wp2_with fail
              go_ret
              exact ⟨rfl, hB.out⟩
          · have hkl : k = m.length := by omega
            have q1 : decide ((k : Int) < (m.length : Int)) = false := decide_eq_false (by omega)
            have q1' : decide (k < m.length) = false := decide_eq_false hlt
            have q3 : decide (20 < (l.length : Int)) = true := decide_eq_true (by omega)
            have q3' : decide (20 < l.length) = true := decide_eq_true hbad
            go_wp2_with fail
            go_ret
            exact ⟨rfl, hB.out⟩
  · by_cases hbad2 : 20 < m.length
    · go_enter Try.func4, Try.ntmps4
      go_wp2_with fail
      refine hsma.out.mono ?_
      rintro e w1 ⟨rfl, hb⟩
      have hvl := hid (hv0.out.below hb)
      have hvm := hid (hv1.out.below hb)
      have hB := hid hb
      have hsz := hb.size
      clear hsma hb hv0
      go_wp2_with fail
      go_loop [8, 9] (fun n i => ∃ k : Nat, n = .int .i64 ((z.length + sumL (l.take k) : Nat) : Int) ∧ i = .int .i64 k ∧ k ≤ l.length ∧ k ≤ 30) (fun _ i => l.length - (intOf i).toNat)
      case atStart => exact ⟨0, by simp [sumL], rfl, Nat.zero_le _, Nat.zero_le _⟩
      case round =>
        obtain ⟨k, rfl, rfl, hk, hk30⟩ := hrel
        by_cases hlt : k < l.length
        · have q1 : decide ((k : Int) < (l.length : Int)) = true := decide_eq_true (by omega)
          have q1' : decide (k < l.length) = true := decide_eq_true hlt
          by_cases h30 : k < 30
          · have q2 : decide ((k : Int) < 30) = true := decide_eq_true (by omega)
            have q2' : decide (k < 30) = true := decide_eq_true h30
            obtain ⟨x, hx⟩ : ∃ x, l[k]? = some x := ⟨_, List.getElem?_eq_getElem hlt⟩
            obtain ⟨g, o, hidx, hcell⟩ := strs_at hvl.out hx
            have hnx := sumL_take hx
            have hxs := hsl.out x (List.mem_of_getElem? hx)
            have hsk := hsuml.out k
            have hsk2 : sumL (l.take k) ≤ 30 * 140737488351232 := Nat.le_trans hsk (Nat.mul_le_mul_right _ hk30)
            have hbd := hpre.out
            clear hx hsk
            have hnx2 : z.length + sumL (l.take (k + 1)) = z.length + sumL (l.take k) + x.length := by omega
            have hN1 : z.length + sumL (l.take k) ≤ 100 * 140737488351232 := by omega
            clear hnx hsk2 hbd
            generalize z.length + sumL (l.take k) = N at *
            replace hnx2 := hid hnx2
            go_wp2_with fail
            exact ⟨⟨k + 1, by rw [hnx2.out]; go_num, by go_num, by omega, by omega⟩, by simp [intOf]; omega⟩
          · exact absurd h30 (by omega)
        · have hkl : k = l.length := by omega
          have q1 : decide ((k : Int) < (l.length : Int)) = false := decide_eq_false (by omega)
          have q1' : decide (k < l.length) = false := decide_eq_false hlt
          have hb1 := hid (show z.length + sumL (l.take k) ≤ 40 * 140737488351232 by have h1 := hsuml.out k; have h2 : sumL (l.take k) ≤ 30 * 140737488351232 := Nat.le_trans h1 (Nat.mul_le_mul_right _ hk30); have := hpre.out; omega)
          have hN1 : Hid (k = l.length → z.length + sumL (l.take k) = z.length + sumL l) := hid (fun e => by rw [e, List.take_length])
          generalize z.length + sumL (l.take k) = N1 at *
          go_wp2_with fail
          go_loop [8, 10] (fun n i => ∃ k : Nat, n = .int .i64 ((N1 + sumL (m.take k) : Nat) : Int) ∧ i = .int .i64 k ∧ k ≤ m.length ∧ k ≤ 30) (fun _ i => m.length - (intOf i).toNat)
          case atStart => exact ⟨0, by simp [sumL], rfl, Nat.zero_le _, Nat.zero_le _⟩
          case round =>
            obtain ⟨k, rfl, rfl, hk, hk30⟩ := hrel
            by_cases hlt : k < m.length
            · have q1 : decide ((k : Int) < (m.length : Int)) = true := decide_eq_true (by omega)
              have q1' : decide (k < m.length) = true := decide_eq_true hlt
              by_cases h30 : k < 30
              · have q2 : decide ((k : Int) < 30) = true := decide_eq_true (by omega)
                have q2' : decide (k < 30) = true := decide_eq_true h30
                obtain ⟨x, hx⟩ : ∃ x, m[k]? = some x := ⟨_, List.getElem?_eq_getElem hlt⟩
                obtain ⟨g, o, hidx, hcell⟩ := strs_at hvm.out hx
                have hnx := sumL_take hx
                have hxs := hsm.out x (List.mem_of_getElem? hx)
                have hsk := hsumm.out k
                have hsk2 : sumL (m.take k) ≤ 30 * 140737488351232 := Nat.le_trans hsk (Nat.mul_le_mul_right _ hk30)
                have hbd := hb1.out
                clear hx hsk
                have hnx2 : N1 + sumL (m.take (k + 1)) = N1 + sumL (m.take k) + x.length := by omega
                have hN1 : N1 + sumL (m.take k) ≤ 100 * 140737488351232 := by omega
                clear hnx hsk2 hbd
                generalize N1 + sumL (m.take k) = N at *
                replace hnx2 := hid hnx2
                go_wp2_with fail
                exact ⟨⟨k + 1, by rw [hnx2.out]; go_num, by go_num, by omega, by omega⟩, by simp [intOf]; omega⟩
              · have q2 : decide ((k : Int) < 30) = false := decide_eq_false (by omega)
                have q2' : decide (k < 30) = false := decide_eq_false h30
                have hkl : k = 30 := by omega
                have q3 : decide (20 < (l.length : Int)) = false := decide_eq_false (by omega)
                have q3' : decide (20 < l.length) = false := decide_eq_false (by omega)
                have q4 : decide (20 < (m.length : Int)) = true := decide_eq_true (by omega)
                have q4' : decide (20 < m.length) = true := decide_eq_true hbad2
                go_wp2_with fail
                go_ret
                exact ⟨rfl, hB.out⟩
            · have hkl : k = m.length := by omega
              have q1 : decide ((k : Int) < (m.length : Int)) = false := decide_eq_false (by omega)
              have q1' : decide (k < m.length) = false := decide_eq_false hlt
              have q3 : decide (20 < (l.length : Int)) = false := decide_eq_false (by omega)
              have q3' : decide (20 < l.length) = false := decide_eq_false (by omega)
              have q4 : decide (20 < (m.length : Int)) = true := decide_eq_true (by omega)
              have q4' : decide (20 < m.length) = true := decide_eq_true hbad2
              go_wp2_with fail
              go_ret
              exact ⟨rfl, hB.out⟩
    · go_enter Try.func4, Try.ntmps4
      go_wp2_with fail
      refine hsma.out.mono ?_
      rintro e w1 ⟨rfl, hb⟩
      have hvl := hid (hv0.out.below hb)
      have hvm := hid (hv1.out.below hb)
      have hB := hid hb
      have hsz := hb.size
      clear hsma hb hv0
      go_wp2_with fail
      go_loop [8, 9] (fun n i => ∃ k : Nat, n = .int .i64 ((z.length + sumL (l.take k) : Nat) : Int) ∧ i = .int .i64 k ∧ k ≤ l.length ∧ k ≤ 30) (fun _ i => l.length - (intOf i).toNat)
      case atStart => exact ⟨0, by simp [sumL], rfl, Nat.zero_le _, Nat.zero_le _⟩
      case round =>
        obtain ⟨k, rfl, rfl, hk, hk30⟩ := hrel
        by_cases hlt : k < l.length
        · have q1 : decide ((k : Int) < (l.length : Int)) = true := decide_eq_true (by omega)
          have q1' : decide (k < l.length) = true := decide_eq_true hlt
          by_cases h30 : k < 30
          · have q2 : decide ((k : Int) < 30) = true := decide_eq_true (by omega)
            have q2' : decide (k < 30) = true := decide_eq_true h30
            obtain ⟨x, hx⟩ : ∃ x, l[k]? = some x := ⟨_, List.getElem?_eq_getElem hlt⟩
            obtain ⟨g, o, hidx, hcell⟩ := strs_at hvl.out hx
            have hnx := sumL_take hx
            have hxs := hsl.out x (List.mem_of_getElem? hx)
            have hsk := hsuml.out k
            have hsk2 : sumL (l.take k) ≤ 30 * 140737488351232 := Nat.le_trans hsk (Nat.mul_le_mul_right _ hk30)
            have hbd := hpre.out
            clear hx hsk
            have hnx2 : z.length + sumL (l.take (k + 1)) = z.length + sumL (l.take k) + x.length := by omega
            have hN1 : z.length + sumL (l.take k) ≤ 100 * 140737488351232 := by omega
            clear hnx hsk2 hbd
            generalize z.length + sumL (l.take k) = N at *
            replace hnx2 := hid hnx2
            go_wp2_with fail
            exact ⟨⟨k + 1, by rw [hnx2.out]; go_num, by go_num, by omega, by omega⟩, by simp [intOf]; omega⟩
          · exact absurd h30 (by omega)
        · have hkl : k = l.length := by omega
          have q1 : decide ((k : Int) < (l.length : Int)) = false := decide_eq_false (by omega)
          have q1' : decide (k < l.length) = false := decide_eq_false hlt
          have hb1 := hid (show z.length + sumL (l.take k) ≤ 40 * 140737488351232 by have h1 := hsuml.out k; have h2 : sumL (l.take k) ≤ 30 * 140737488351232 := Nat.le_trans h1 (Nat.mul_le_mul_right _ hk30); have := hpre.out; omega)
          have hN1 : Hid (k = l.length → z.length + sumL (l.take k) = z.length + sumL l) := hid (fun e => by rw [e, List.take_length])
          generalize z.length + sumL (l.take k) = N1 at *
          go_wp2_with fail
          go_loop [8, 10] (fun n i => ∃ k : Nat, n = .int .i64 ((N1 + sumL (m.take k) : Nat) : Int) ∧ i = .int .i64 k ∧ k ≤ m.length ∧ k ≤ 30) (fun _ i => m.length - (intOf i).toNat)
          case atStart => exact ⟨0, by simp [sumL], rfl, Nat.zero_le _, Nat.zero_le _⟩
          case round =>
            obtain ⟨k, rfl, rfl, hk, hk30⟩ := hrel
            by_cases hlt : k < m.length
            · have q1 : decide ((k : Int) < (m.length : Int)) = true := decide_eq_true (by omega)
              have q1' : decide (k < m.length) = true := decide_eq_true hlt
              by_cases h30 : k < 30
              · have q2 : decide ((k : Int) < 30) = true := decide_eq_true (by omega)
                have q2' : decide (k < 30) = true := decide_eq_true h30
                obtain ⟨x, hx⟩ : ∃ x, m[k]? = some x := ⟨_, List.getElem?_eq_getElem hlt⟩
                obtain ⟨g, o, hidx, hcell⟩ := strs_at hvm.out hx
                have hnx := sumL_take hx
                have hxs := hsm.out x (List.mem_of_getElem? hx)
                have hsk := hsumm.out k
                have hsk2 : sumL (m.take k) ≤ 30 * 140737488351232 := Nat.le_trans hsk (Nat.mul_le_mul_right _ hk30)
                have hbd := hb1.out
                clear hx hsk
                have hnx2 : N1 + sumL (m.take (k + 1)) = N1 + sumL (m.take k) + x.length := by omega
                have hN1 : N1 + sumL (m.take k) ≤ 100 * 140737488351232 := by omega
                clear hnx hsk2 hbd
                generalize N1 + sumL (m.take k) = N at *
                replace hnx2 := hid hnx2
                go_wp2_with fail
                exact ⟨⟨k + 1, by rw [hnx2.out]; go_num, by go_num, by omega, by omega⟩, by simp [intOf]; omega⟩
              · exact absurd h30 (by omega)
            · have hkl : k = m.length := by omega
              have q1 : decide ((k : Int) < (m.length : Int)) = false := decide_eq_false (by omega)
              have q1' : decide (k < m.length) = false := decide_eq_false hlt
              have hN := hN1.out (by omega)
              have hkm : N1 + sumL (m.take k) = z.length + sumL l + sumL m := by rw [hkl, List.take_length, hN]
              rw [hkm]
              have q3 : decide (20 < (l.length : Int)) = false := decide_eq_false (by omega)
              have q3' : decide (20 < l.length) = false := decide_eq_false (by omega)
              have q4 : decide (20 < (m.length : Int)) = false := decide_eq_false (by omega)
              have q4' : decide (20 < m.length) = false := decide_eq_false (by omega)
              by_cases h2k : 2000 < z.length + sumL l + sumL m
              · have q5 : decide (2000 < ((z.length + sumL l + sumL m : Nat) : Int)) = true := decide_eq_true (by omega)
                have q5' : decide (2000 < z.length + sumL l + sumL m) = true := decide_eq_true h2k
                generalize z.length + sumL l + sumL m = N at *
                clear hkm
                go_wp2_with fail
                go_ret
                exact ⟨rfl, hB.out⟩
              · have q5 : decide (2000 < ((z.length + sumL l + sumL m : Nat) : Int)) = false := decide_eq_false (by omega)
                have q5' : decide (2000 < z.length + sumL l + sumL m) = false := decide_eq_false h2k
                have hpl := hid (pay_small (l := l) (N := 2000) (by omega) (by decide))
                have hpm := hid (pay_small (l := m) (N := 2000) (by omega) (by decide))
                have hpb := hid (show Pay (l ++ m) from fun p hp => (List.mem_append.1 hp).elim (hpl.out p) (hpm.out p))
                have hrl := recs_small l (by omega)
                have hrm := recs_small m (by omega)
                have hz2 : z.length ≤ 2000 := by omega
                have hrl5 : (recs l).length ≤ 5000 := by omega
                have hrm5 : (recs m).length ≤ 5000 := by omega
                clear hrl hrm
                generalize z.length + sumL l + sumL m = N at *
                clear hkm hN
                have hl20 : l.length ≤ 20 := by omega
                have hm20 : m.length ≤ 20 := by omega
                have habc := recs_app l m
                have hv1l : Hid (∀ w', Below w.heap.size w w' → StrsR w' (.slice a0 l.length cp0) l) := hid (fun w' h => hv0k.out.below h)
                have hv1m : Hid (∀ w', Below w.heap.size w w' → StrsR w' (.slice a1 m.length cp1) m) := hid (fun w' h => hv1.out.below h)
                have hf1 := hid (file_any l _ w1 hvl.out hpl.out (by omega) (by omega))
                have hf2 := hid (fun w' (h : Below w.heap.size w w') => file_any m (.slice a1 m.length cp1) w' (hv1m.out w' h) hpm.out (by omega) (by omega))
                have hf3 := hid (fun w' vb (h : StrsR w' vb (l ++ m)) => file_any (l ++ m) vb w' h hpb.out (by rw [List.length_append]; omega) (by rw [habc, List.length_append]; omega))
                have hpre0 : l ++ m <+: rowsOf (recs (l ++ m) ++ z) := by
                  have := rows_mono (recs (l ++ m)) (recs (l ++ m) ++ z) (List.prefix_append _ _)
                  rwa [rows_recs _ hpb.out] at this
                have hCl : (recs (l ++ m)).length ≤ 10000 := by rw [habc, List.length_append]; omega
                have hab2 : ByteArray.mk (recs l).toArray ++ ByteArray.mk (recs m).toArray = ByteArray.mk (recs (l ++ m)).toArray := by rw [ByteArray.mk_append_mk, habc]
                generalize hC : recs (l ++ m) = C at *
                generalize recs l = A1 at *
                generalize recs m = A2 at *
                have hcz : ByteArray.mk C.toArray ++ ByteArray.mk z.toArray = ByteArray.mk (C ++ z).toArray := by rw [ByteArray.mk_append_mk]
                have hEl : (C ++ z).length ≤ 12000 := by rw [List.length_append]; omega
                have hCE : (C ++ z).length = C.length + z.length := List.length_append
                generalize C ++ z = E at *
                clear habc hv1
                replace hpre0 := hid hpre0
                replace hCE := hid hCE
                replace hC := hid hC
                go_wp2_with fail
                refine hf1.out.mono ?_
                rintro e w2 ⟨rfl, hb2⟩
                replace hB := hid (hB.out.trans (hb2.mono hsz))
                have hf2' := hid (hf2.out w2 hB.out)
                have hs2 : w.heap.size ≤ w2.heap.size := hB.out.size
                clear hf1 hf2 hb2 hvl hvm
                go_wp2_with fail
                refine hf2'.out.mono ?_
                rintro e w3 ⟨rfl, hb3⟩
                replace hB := hid (hB.out.trans (hb3.mono hs2))
                have hs3 : w.heap.size ≤ w3.heap.size := hB.out.size
                clear hf2' hb3
                -- both
                obtain ⟨i0, hi, hz0, hz1, hz2'⟩ := info_parts infoS
                have hB4 : Below w3.heap.size w3 (w3.alloc (.cells #[] 9)) := (Below.refl _ _).alloc (Nat.le_refl _) _
                have hs4 : (w3.alloc (.cells #[] 9)).heap.size = w3.heap.size + 1 := by simp
                have hown0 : (w3.alloc (.cells #[] 9)).ownsRow w3.heap.size 9 1 (.slice (some ⟨w3.heap.size, 0, none⟩) 0 0) 0 [] :=
                  ⟨rfl, Or.inr ⟨w3.heap.size, 0, #[], rfl, Nat.le_refl _, heap_alloc_new' _ _, Nat.le_refl _, Nat.zero_le _, rfl, rfl⟩⟩
                obtain ⟨v5, w5, hrun5, hown5, hg5, hv5⟩ := append_row (P := Try.prog) (w3.alloc (.cells #[] 9)) w3.heap.size 22 22 9 i0 (.string .empty) 1 16 Try.underlying22 hi hz0 hz1 hz2' rfl (by decide) _ 0 [] hown0 _ (.slice a0 l.length cp0) l.length (l.map sv) (hv1l.out _ (hB.out.trans (hB4.mono hs3))) mem_sv (by unfold maxLen; omega) (by omega) (by omega)
                have hb5 : Below w3.heap.size w3 w5 := hB4.grown hg5 hB4.size (fun k hk => (hown0.lt k hk).1)
                have hs5 := hg5.size
                rw [Nat.zero_add, List.nil_append] at hown5
                obtain ⟨v6, w6, hrun6, hown6, hg6, hv6⟩ := append_row (P := Try.prog) w5 w3.heap.size 22 22 9 i0 (.string .empty) 1 16 Try.underlying22 hi hz0 hz1 hz2' rfl (by decide) v5 l.length (l.map sv) hown5 _ (.slice a1 m.length cp1) m.length (m.map sv) (hv1m.out _ (hB.out.trans (hb5.mono hs3))) mem_sv (by unfold maxLen; omega) (by omega) (by omega)
                have hb6 : Below w3.heap.size w3 w6 := hb5.grown hg6 (by omega) (fun k hk => (hown5.lt k hk).1)
                have hown6b : w6.ownsRow w3.heap.size 9 1 v6 (l ++ m).length ((l ++ m).map sv) := by rw [List.length_append, List.map_append]; exact hown6
                have hbl : (l ++ m).length ≤ 40 := by rw [List.length_append]; omega
                obtain ⟨a5, c5, rfl, -, -⟩ := owns_form hown5
                obtain ⟨a6, c6, rfl, -, -⟩ := owns_form hown6b
                have hll : l.length + m.length = (l ++ m).length := List.length_append.symm
                have hs6 := hb6.size
                replace hB := hid (hB.out.trans (hb6.mono hs3))
                have hown6h := hid hown6b
                have hf3' := hid (hf3.out w6 _ (own_strs hown6b))
                clear hf3 hb5 hb6 hg5 hg6 hown5 hown6 hown6b hown0 hB4 hv5 hv6 hs4 hs5 hll hv1l hv1m
                generalize l ++ m = both at *
                go_wp2_with (at_builtin; first | refine wpList_append_run rfl _ _ _ _ rfl rfl rfl hrun5 ?_ | refine wpList_append_run rfl _ _ _ _ rfl rfl rfl hrun6 ?_)
                refine hf3'.out.mono ?_
                rintro e w7 ⟨rfl, hb7⟩
                have hs7 : w.heap.size ≤ w7.heap.size := Nat.le_trans (by omega) hb7.size
                replace hB := hid (hB.out.trans (hb7.mono (by omega)))
                have hO7 := hid (own_fr hown6h.out (Fr.of_below hb7 (fun _ => False)) (fun _ _ h => h))
                have hOlt : Hid (∀ k, (Value.slice a6 both.length c6).ownBlock = some k → k < w7.heap.size) := hid (fun k hk => (hO7.out.lt k hk).2)
                clear hf3' hb7 hrun5 hrun6 hown6h
                have hnew := hid (new_any w7)
                go_wp2_with fail
                refine hnew.out.mono ?_
                rintro e w8 ⟨rfl, hd, hb, hs1⟩
                replace hB := hid (hB.out.trans (hb.mono hs7))
                have hO8 := hid (own_fr hO7.out (Fr.of_below hb (fun _ => False)) (fun _ _ h => h))
                obtain ⟨B, hBe⟩ : ∃ B, w7.heap.size = B := ⟨_, rfl⟩
                rw [hBe] at hd hb hs1 hs7 hOlt
                rw [hBe]
                have hS : DSt (from_ B) B dNew w8 := ⟨hd, fun k hk => by unfold from_; omega⟩
                have hBW := hid hs7
                obtain ⟨p1, p2⟩ := calm_new.app (f := 0) (by decide) E (by simp [dNew]; omega)
                have hcall := append_any (from_ B) B dNew ((0 : Nat) : Int) E w8 hd (by omega)
                have hst := dst_disk hS
                rw [p1, p2] at hcall
                have hc2 : Calm { dNew with data := upd dNew.data 0 (dNew.data 0 ++ E) } := ⟨rfl, rfl, rfl⟩
                have hdd : ({ dNew with data := upd dNew.data 0 (dNew.data 0 ++ E) } : DS).data 0 = E := by show upd dNew.data 0 (dNew.data 0 ++ E) 0 = E; rw [upd_same]; rfl
                generalize ({ dNew with data := upd dNew.data 0 (dNew.data 0 ++ E) } : DS) = d1 at *
                have hOs : Hid (∀ k, (Value.slice a6 both.length c6).ownBlock = some k → ¬ from_ B k) := hid (fun k hk h => by have := hOlt.out k hk; unfold from_ at h; omega)
                replace hcall := hid hcall
                replace hst := hid hst
                replace hc2 := hid hc2
                replace hdd := hid hdd
                clear hnew hd hb hS p1 p2 hBe hO7 hOlt
                go_wp2_with fail
                refine hcall.out.mono ?_
                rintro e w9 h9
                obtain ⟨rfl, hS, hf⟩ := hst.out _ _ _ _ h9
                have hO9 := hid (own_fr hO8.out hf hOs.out)
                have hs9 := hf.size
                replace hB := hid (hB.out.trans (fr_from hf (fun k h => (show w.heap.size ≤ k from Nat.le_trans hBW.out h)) (by omega)))
                clear hcall hst h9 hf hO8
                obtain ⟨o1, o2, o3⟩ := hc2.out.opn (f := 0) (by decide)
                have hcall := dst_opens (f := 0) hS (by decide) o1
                rw [hdd.out] at hcall o3
                have hdS : (opn2 0 d1).data 0 = recs (rowsOf E) := by rw [o3, upd_other _ _ _ _ (by decide), upd_same]
                have hRlen : (rowsOf E).length ≤ 12000 := by
                  obtain ⟨r, e9, _, _⟩ := rows_spec E
                  have h1 := recs_len_ge (rowsOf E)
                  have h2 := congrArg List.length e9
                  rw [List.length_append] at h2
                  omega
                have hRb : (rowsOf E).length = both.length → rowsOf E = both := fun h => (hpre0.out.eq_of_length h.symm).symm
                generalize rowsOf E = R at *
                generalize opn2 0 d1 = d2 at *
                replace hcall := hid hcall
                replace o2 := hid o2
                replace hdS := hid hdS
                replace hRb := hid hRb
                clear o1 o3 hS hc2 hdd
                go_wp2_with fail
                refine hcall.out.mono ?_
                rintro e w10 ⟨bx, rfl, hW, hf⟩
                have hO10 := hid (own_fr hO9.out hf hOs.out)
                have hs10 := hf.size
                replace hB := hid (hB.out.trans (fr_from hf (fun k h => (show w.heap.size ≤ k from Nat.le_trans hBW.out h)) (by omega)))
                replace hW := hid hW
                clear hcall hf hO9
                have hcall := hid (wst_all hW.out (by omega))
                go_wp2_with fail
                refine hcall.out.mono ?_
                rintro e w11 ⟨va, rfl, ha, hb11⟩
                obtain ⟨aa, ca, rfl, -, -⟩ := owns_form ha
                have hO11 := hid (own_fr hO10.out (Fr.of_below hb11 (fun _ => False)) (fun _ _ h => h))
                have hs11 := hb11.size
                replace hB := hid (hB.out.trans (hb11.mono (by omega)))
                replace hW := hid (hW.out.below hb11)
                have hcall2 := hid (begins_yes R both _ _ w11 hpre0.out (own_strs ha) (own_strs hO11.out) (by omega) (own_cap ha))
                clear hcall ha hb11 hO10
                go_wp2_with fail
                refine hcall2.out.mono ?_
                rintro e w12 ⟨rfl, hb12⟩
                have hO12 := hid (own_fr hO11.out (Fr.of_below hb12 (fun _ => False)) (fun _ _ h => h))
                have hs12 := hb12.size
                replace hB := hid (hB.out.trans (hb12.mono (by omega)))
                replace hW := hid (hW.out.below hb12)
                clear hcall2 hb12 hO11
                have hcall := hid (wst_all hW.out (by omega))
                go_wp2_with fail
                refine hcall.out.mono ?_
                rintro e w13 ⟨vb, rfl, hb, hb13⟩
                obtain ⟨ab, cb, rfl, -, -⟩ := owns_form hb
                have hO13 := hid (own_fr hO12.out (Fr.of_below hb13 (fun _ => False)) (fun _ _ h => h))
                have hs13 := hb13.size
                replace hB := hid (hB.out.trans (hb13.mono (by omega)))
                replace hW := hid (hW.out.below hb13)
                clear hcall hb hb13 hO12
                obtain ⟨r1, r2, r3⟩ := o2.out.rew (f := 0) (by decide) both (by rw [hC.out]; omega)
                have hrw := wst_rewrite hW.out both (.slice a6 both.length c6) (by decide) (by omega) hpb.out (by rw [hC.out]; omega) (fun w' hf => own_strs (own_fr hO13.out hf hOs.out))
                have hdm : (rew2 0 both d2).data 0 = C := by rw [r3, upd_other _ _ _ _ (by decide), upd_same, hC.out]
                have hdm1 : (rew2 0 both d2).data 1 = [] := by rw [r3, upd_same]
                rw [r1] at hrw
                have hsize := hid (size_any (from_ B) B d2 ((0 : Nat) : Int) w13 hW.out.dst.1)
                have hsz0 : size1 ((0 : Nat) : Int) d2 = (recs R).length := by rw [Calm.size (by decide), hdS.out]
                rw [hsz0] at hsize
                generalize rewR 0 both R d2 = rr at *
                generalize rew2 0 both d2 = d3 at *
                replace hrw := hid hrw
                replace r2 := hid r2
                replace hdm := hid hdm
                replace hdm1 := hid hdm1
                clear hW r1 r3 hsz0
                by_cases hRe : R.length = both.length
                · have hR := hRb.out hRe
                  have qe : ((R.length : Int) == (both.length : Int)) = true := by simp; omega
                  rw [hR, hC.out] at hsize
                  clear hRe hR
                  go_wp2_with fail
                  refine hsize.out.mono ?_
                  rintro e w14 ⟨rfl, rfl⟩
                  clear hsize
                  go_wp2_with fail
                  refine hrw.out.mono ?_
                  rintro e w15 ⟨rfl, hW, hf⟩
                  have hs15 := hf.size
                  replace hB := hid (hB.out.trans (fr_from hf (fun k h => (show w.heap.size ≤ k from Nat.le_trans hBW.out h)) (by omega)))
                  obtain ⟨g1, g2⟩ := r2.out.read (f := 0) (by decide)
                  have hread := read_any (from_ B) B d3 ((0 : Nat) : Int) w15 hW.dst.1
                  rw [g1, g2, hdm.out] at hread
                  have hsize2 := size_any (from_ B) B d3 ((1 : Nat) : Int) w15 hW.dst.1
                  have hsz1 : size1 ((1 : Nat) : Int) d3 = 0 := by rw [Calm.size (by decide), hdm1.out]; rfl
                  rw [hsz1] at hsize2
                  replace hread := hid hread
                  replace hsize2 := hid hsize2
                  clear hrw hf hW g1 g2 hsz1
                  go_wp2_with fail
                  refine hread.out.mono ?_
                  rintro e w16 ⟨rfl, rfl⟩
                  clear hread
                  go_wp2_with fail
                  refine hsize2.out.mono ?_
                  rintro e w17 ⟨rfl, rfl⟩
                  clear hsize2
                  go_wp2_with fail
                  go_ret
                  exact ⟨rfl, hB.out⟩
                · have qe : ((R.length : Int) == (both.length : Int)) = false := by simp; omega
                  clear hRe
                  go_wp2_with fail
                  refine hrw.out.mono ?_
                  rintro e w15 ⟨rfl, hW, hf⟩
                  have hs15 := hf.size
                  replace hB := hid (hB.out.trans (fr_from hf (fun k h => (show w.heap.size ≤ k from Nat.le_trans hBW.out h)) (by omega)))
                  obtain ⟨g1, g2⟩ := r2.out.read (f := 0) (by decide)
                  have hread := read_any (from_ B) B d3 ((0 : Nat) : Int) w15 hW.dst.1
                  rw [g1, g2, hdm.out] at hread
                  have hsize2 := size_any (from_ B) B d3 ((1 : Nat) : Int) w15 hW.dst.1
                  have hsz1 : size1 ((1 : Nat) : Int) d3 = 0 := by rw [Calm.size (by decide), hdm1.out]; rfl
                  rw [hsz1] at hsize2
                  replace hread := hid hread
                  replace hsize2 := hid hsize2
                  clear hrw hf hW g1 g2 hsz1
                  go_wp2_with fail
                  refine hread.out.mono ?_
                  rintro e w16 ⟨rfl, rfl⟩
                  clear hread
                  go_wp2_with fail
                  refine hsize2.out.mono ?_
                  rintro e w17 ⟨rfl, rfl⟩
                  clear hsize2
                  go_wp2_with fail
                  go_ret
                  exact ⟨rfl, hB.out⟩
end Go.Proofs.Ytffmmhofgocldaa
