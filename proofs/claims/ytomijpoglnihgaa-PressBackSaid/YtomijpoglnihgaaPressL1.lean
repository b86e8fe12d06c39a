/- press: PressBack. -/
import Derived.Test.YtomijpoglnihgaaPressL0
import Derived.Test.YtomijpoglnihgaaPressB
set_option linter.unusedVariables false
namespace Go.Proofs.Ytomijpoglnihgaa
open Go.RowKit
open Go.Lib (hid byteCells)
set_option maxHeartbeats 2000000 in
set_option maxRecDepth 100000 in
theorem PressBack_walk (s : List UInt8) (w : World) : Calls Try.prog 4 #[.string ⟨s.toArray⟩] w fun e w' => e = .returned (.bool true) ∧ Below w.heap.size w w' := by
  by_cases hs : 4000 < s.length
  · have q1 : decide (4000 < (s.length : Int)) = true := decide_eq_true (by omega)
    go_enter Try.func4, Try.ntmps4
    go_wp2_with fail
    refine (small_any _).mono ?_
    rintro e w1 ⟨rfl, hB⟩
    go_wp2_with fail
    go_ret
    exact ⟨rfl, hB⟩
  · have q1 : decide (4000 < (s.length : Int)) = false := decide_eq_false (by omega)
    have hl := pack_len s (by omega)
    have hp := hid (fun w => pack_any s w (by omega))
    have hu := hid (fun w => un_any (packF s) s true w (by omega) (unp_pack s (by omega)))
    generalize packF s = P at *
    have q2 : decide ((P.length : Int) ≤ 2 * (s.length : Int) + 8) = true := decide_eq_true (by omega)
    go_enter Try.func4, Try.ntmps4
    go_wp2_with fail
    refine (small_any _).mono ?_
    rintro e w1 ⟨rfl, hB⟩
    go_wp2_with fail
    refine (hp.out _).mono ?_
    rintro e w2 ⟨rfl, hb⟩
    replace hB := hB.trans (hb.mono hB.size); clear hb
    go_wp2_with fail
    refine (hu.out _).mono ?_
    rintro e w3 ⟨rfl, hb⟩
    replace hB := hB.trans (hb.mono hB.size); clear hb
    go_wp2_with fail
    go_ret
    exact ⟨rfl, hB⟩
end Go.Proofs.Ytomijpoglnihgaa
