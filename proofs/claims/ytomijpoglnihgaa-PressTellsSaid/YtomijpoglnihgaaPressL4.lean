/- press: PressTells. -/
import Derived.Test.YtomijpoglnihgaaPressL0
import Derived.Test.YtomijpoglnihgaaPressR2
import Derived.Test.YtomijpoglnihgaaPressR3
set_option linter.unusedVariables false
namespace Go.Proofs.Ytomijpoglnihgaa
open Go.RowKit
open Go.Lib (hid byteCells)
set_option maxHeartbeats 2000000 in
set_option maxRecDepth 100000 in
theorem PressTells_walk (s t : List UInt8) (w : World) : Calls Try.prog 3 #[.string ⟨s.toArray⟩, .string ⟨t.toArray⟩] w fun e w' => e = .returned (.bool true) ∧ Below w.heap.size w w' := by
  by_cases h : 600 < s.length ∨ 600 < t.length
  · go_enter Try.func3, Try.ntmps3
    go_wp2_with fail
    refine (small_any _).mono ?_
    rintro e w1 ⟨rfl, hB⟩
    by_cases hs : 600 < s.length
    · have q1 : decide (600 < (s.length : Int)) = true := decide_eq_true (by omega)
      clear h
      go_wp2_with fail
      go_ret
      exact ⟨rfl, hB⟩
    · have q1 : decide (600 < (s.length : Int)) = false := decide_eq_false (by omega)
      have q2 : decide (600 < (t.length : Int)) = true := decide_eq_true (by omega)
      clear h
      go_wp2_with fail
      go_ret
      exact ⟨rfl, hB⟩
  · have q1 : decide (600 < (s.length : Int)) = false := decide_eq_false (by omega)
    have q2 : decide (600 < (t.length : Int)) = false := decide_eq_false (by omega)
    have hp := hid (fun w => pack_any s w (by omega))
    have hrp := hid (fun w => rpack_any s w (by omega))
    have hu := hid (fun w => unpack_any t (by omega) w)
    have hru := hid (fun w => runpack_any t (by omega) w)
    have htl : t.length ≤ 600 := by omega
    clear h
    generalize packF s = P at *
    generalize unpF t = U at *
    obtain ⟨U1, U2⟩ := U
    simp only at hu hru
    go_enter Try.func3, Try.ntmps3
    go_wp2_with fail
    refine (small_any _).mono ?_
    rintro e w1 ⟨rfl, hB⟩
    replace hB := hid hB
    go_wp2_with fail
    have hB1 := hid hB.out.size
    refine (ropen_any t w1).mono ?_
    rintro e w2 ⟨rfl, hR, hb, hs2⟩
    have hnum := hid (rreadNum w1.heap.size (t, false) w2 hR (show t.length ≤ 140737488355328 by omega))
    replace hB := hid (hB.out.trans (hb.mono hB.out.size)); clear hb hR
    have hsz : w.heap.size ≤ w1.heap.size := hB1.out
    generalize (stNum (t, false)).1 = N at *
    generalize (stNum (t, false)).2 = st0 at *
    go_wp2_with fail
    refine hnum.out.mono ?_
    rintro e w3 ⟨rfl, hR, hf⟩
    replace hB := hid (hB.out.trans (hf.to_below (by omega) (fun k hk e => by unfold one at e; omega))); clear hf hR hnum
    by_cases hN : 100000 < N
    · have q3 : decide (100000 < (N : Int)) = true := decide_eq_true (by omega)
      clear hN
      go_wp2_with fail
      go_ret
      exact ⟨rfl, hB.out⟩
    · have q3 : decide (100000 < (N : Int)) = false := decide_eq_false (by omega)
      clear hN
      go_wp2_with fail
      refine (hu.out _).mono ?_
      rintro e w4 ⟨rfl, hb⟩
      replace hB := hid (hB.out.trans (hb.mono hB.out.size)); clear hb
      go_wp2_with fail
      refine (hru.out _).mono ?_
      rintro e w5 ⟨rfl, hb⟩
      replace hB := hid (hB.out.trans (hb.mono hB.out.size)); clear hb
      go_wp2_with fail
      refine (hp.out _).mono ?_
      rintro e w6 ⟨rfl, hb⟩
      replace hB := hid (hB.out.trans (hb.mono hB.out.size)); clear hb
      go_wp2_with fail
      refine (hrp.out _).mono ?_
      rintro e w7 ⟨rfl, hb⟩
      replace hB := hid (hB.out.trans (hb.mono hB.out.size)); clear hb
      go_wp2_with fail
      go_ret
      exact ⟨rfl, hB.out⟩
end Go.Proofs.Ytomijpoglnihgaa
