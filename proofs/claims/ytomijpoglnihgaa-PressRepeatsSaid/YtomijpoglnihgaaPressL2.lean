/- press: PressRepeats. -/
import Derived.Test.YtomijpoglnihgaaPressL0
import Derived.Test.YtomijpoglnihgaaPressB
set_option linter.unusedVariables false
namespace Go.Proofs.Ytomijpoglnihgaa
open Go.RowKit
open Go.Lib (hid byteCells)
set_option maxHeartbeats 2000000 in
set_option maxRecDepth 100000 in
theorem PressRepeats_walk (s : List UInt8) (n : Int) (w : World) (hn : -9223372036854775808 ≤ n ∧ n ≤ 9223372036854775807) : Calls Try.prog 6 #[.string ⟨s.toArray⟩, .int .i64 n] w fun e w' => e = .returned (.bool true) ∧ Below w.heap.size w w' := by
  by_cases hs : s.length < 4 ∨ 300 < s.length ∨ n < 1 ∨ 12 < n
  · go_enter Try.func6, Try.ntmps6
    go_wp2_with fail
    refine (small_any _).mono ?_
    rintro e w1 ⟨rfl, hB⟩
    by_cases h1 : s.length < 4
    · have q1 : decide ((s.length : Int) < 4) = true := decide_eq_true (by omega)
      clear hs
      go_wp2_with fail
      go_ret
      exact ⟨rfl, hB⟩
    · have q1 : decide ((s.length : Int) < 4) = false := decide_eq_false (by omega)
      by_cases h2 : 300 < s.length
      · have q2 : decide (300 < (s.length : Int)) = true := decide_eq_true (by omega)
        clear hs
        go_wp2_with fail
        go_ret
        exact ⟨rfl, hB⟩
      · have q2 : decide (300 < (s.length : Int)) = false := decide_eq_false (by omega)
        by_cases h3 : n < 1
        · have q3 : decide (n < 1) = true := decide_eq_true (by omega)
          clear hs
          go_wp2_with fail
          go_ret
          exact ⟨rfl, hB⟩
        · have q3 : decide (n < 1) = false := decide_eq_false (by omega)
          have q4 : decide (12 < n) = true := decide_eq_true (by omega)
          clear hs
          go_wp2_with fail
          go_ret
          exact ⟨rfl, hB⟩
  · obtain ⟨m, rfl⟩ : ∃ m : Nat, n = (m : Int) := ⟨n.toNat, by omega⟩
    have q1 : decide ((s.length : Int) < 4) = false := decide_eq_false (by omega)
    have q2 : decide (300 < (s.length : Int)) = false := decide_eq_false (by omega)
    have q3 : decide ((m : Int) < 1) = false := decide_eq_false (by omega)
    have q4 : decide (12 < (m : Int)) = false := decide_eq_false (by omega)
    have hl := pack_rep s m (by omega) (by omega) (by omega) (by omega)
    have hrl := repF_len s m
    have hrm : (repF s m).length ≤ 3600 := by rw [hrl]; have := Nat.mul_le_mul (show m ≤ 12 by omega) (show s.length ≤ 300 by omega); omega
    have hml : ∀ k, k < m → (repF s k).length + s.length ≤ 3600 := fun k hk => by
      have := repF_len s (k + 1)
      rw [repF, List.length_append] at this
      have h2 := Nat.mul_le_mul (show k + 1 ≤ 12 by omega) (show s.length ≤ 300 by omega)
      omega
    clear hrl
    have hp := hid (fun w => pack_any (repF s m) w (by omega))
    have hu := hid (fun w => un_any (packF (repF s m)) (repF s m) true w (by omega) (unp_pack (repF s m) (by omega)))
    replace hml := hid hml
    go_enter Try.func6, Try.ntmps6
    go_wp2_with fail
    refine (small_any _).mono ?_
    rintro e w1 ⟨rfl, hB⟩
    replace hB := hid hB
    go_wp2_with fail
    go_loopw [6, 7] (fun tv iv' wr => ∃ k : Nat, tv = .string ⟨(repF s k).toArray⟩ ∧ iv' = .int .i64 k ∧ k ≤ m ∧ Hid (Below w.heap.size w wr)) (fun _ iv' _ => m - (intOf iv').toNat)
    case atStart => exact ⟨0, rfl, rfl, Nat.zero_le _, hB⟩
    case round =>
      obtain ⟨k, rfl, rfl, hk, hB⟩ := hrel
      by_cases hlt : k < m
      · have q5 : decide ((k : Int) < (m : Int)) = true := decide_eq_true (by omega)
        have hkl := hml.out k hlt
        have hre : repF s (k + 1) = repF s k ++ s := rfl
        generalize repF s k = X at *
        replace hre := hid hre
        go_wp2_with fail
        exact ⟨⟨k + 1, by rw [hre.out, ByteArray.mk_append_mk], rfl, by omega, hB⟩, by simp only [intOf]; omega⟩
      · have q5 : decide ((k : Int) < (m : Int)) = false := decide_eq_false (by omega)
        obtain rfl : k = m := by omega
        generalize packF (repF s k) = P at *
        generalize repF s k = X at *
        have q6 : decide ((P.length : Int) ≤ 2 * (s.length : Int) + 20) = true := decide_eq_true (by omega)
        go_wp2_with fail
        refine (hp.out _).mono ?_
        rintro e w2 ⟨rfl, hb⟩
        replace hB := hid (hB.out.trans (hb.mono hB.out.size)); clear hb
        go_wp2_with fail
        refine (hu.out _).mono ?_
        rintro e w3 ⟨rfl, hb⟩
        replace hB := hid (hB.out.trans (hb.mono hB.out.size)); clear hb
        go_wp2_with fail
        go_ret
        exact ⟨rfl, hB.out⟩
end Go.Proofs.Ytomijpoglnihgaa
