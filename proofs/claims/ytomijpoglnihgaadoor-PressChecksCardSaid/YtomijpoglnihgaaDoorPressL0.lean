/- press: small. -/
import Derived.Test.YtomijpoglnihgaaDoorPressW6
import Derived.Test.YtomijpoglnihgaaDoorPressW1
set_option linter.unusedVariables false
namespace Go.Proofs.YtomijpoglnihgaaDoor
open Go.RowKit
open Go.Lib (hid byteCells)
theorem pk_any (s t : List UInt8) (w : World) (hs : s.length ≤ 16777216) (h : packF s = t) :
    Calls Tryd.prog 5 #[.string ⟨s.toArray⟩] w fun e w' => e = .returned (.string ⟨t.toArray⟩) ∧ Below w.heap.size w w' := by
  rw [← h]; exact pack_any s w hs
theorem un_any (s t : List UInt8) (b : Bool) (w : World) (hs : s.length ≤ 100000000) (h : unpF s = (t, b)) :
    Calls Tryd.prog 6 #[.string ⟨s.toArray⟩] w fun e w' => e = .returned (.tuple #[.string ⟨t.toArray⟩, .bool b]) ∧ Below w.heap.size w w' := by
  have := unpack_any s hs w
  rw [h] at this; exact this
theorem k1 : packF [97, 97, 97, 97, 97, 97] = [6, 2, 97, 11, 1] := by decide +kernel
theorem k2 : packF [97, 98, 99, 100, 101, 97, 98, 99, 100, 101, 102] = [11, 10, 97, 98, 99, 100, 101, 11, 5, 2, 102] := by decide +kernel
theorem k3 : unpF [3, 2, 120, 5, 1] = ([120, 120, 120], true) := by decide +kernel
theorem k4 : unpF [3, 2, 120, 5, 2] = ([], false) := by decide +kernel
theorem k5 : unpF [2, 2, 120, 5, 1] = ([], false) := by decide +kernel
theorem k6 : unpF [1, 2, 120, 120] = ([], false) := by decide +kernel
theorem k7 : unpF [] = ([], false) := by decide +kernel
theorem k8 : packF [] = [0] := by decide +kernel
theorem k9 : unpF [6, 2, 97, 11, 1] = ([97, 97, 97, 97, 97, 97], true) := by decide +kernel
theorem k10 : unpF [11, 10, 97, 98, 99, 100, 101, 11, 5, 2, 102] = ([97, 98, 99, 100, 101, 97, 98, 99, 100, 101, 102], true) := by decide +kernel
set_option maxHeartbeats 4000000 in
set_option maxRecDepth 100000 in
theorem small_any (w : World) : Calls Tryd.prog 4 #[] w fun e w' => e = .returned (.bool true) ∧ Below w.heap.size w w' := by
  go_enter Tryd.func4, Tryd.ntmps4
  go_wp2_with fail
  refine (pk_any [97, 97, 97, 97, 97, 97] _ _ (by decide) k1).mono ?_
  rintro e w1 ⟨rfl, hB⟩
  go_wp2_with fail
  refine (un_any [6, 2, 97, 11, 1] _ _ _ (by decide) k9).mono ?_
  rintro e w2 ⟨rfl, hb⟩
  replace hB := hB.trans (hb.mono hB.size); clear hb
  go_wp2_with fail
  refine (pk_any [97, 98, 99, 100, 101, 97, 98, 99, 100, 101, 102] _ _ (by decide) k2).mono ?_
  rintro e w3 ⟨rfl, hb⟩
  replace hB := hB.trans (hb.mono hB.size); clear hb
  go_wp2_with fail
  refine (un_any [11, 10, 97, 98, 99, 100, 101, 11, 5, 2, 102] _ _ _ (by decide) k10).mono ?_
  rintro e w4 ⟨rfl, hb⟩
  replace hB := hB.trans (hb.mono hB.size); clear hb
  go_wp2_with fail
  refine (un_any [3, 2, 120, 5, 1] _ _ _ (by decide) k3).mono ?_
  rintro e w5 ⟨rfl, hb⟩
  replace hB := hB.trans (hb.mono hB.size); clear hb
  go_wp2_with fail
  refine (un_any [3, 2, 120, 5, 2] _ _ _ (by decide) k4).mono ?_
  rintro e w6 ⟨rfl, hb⟩
  replace hB := hB.trans (hb.mono hB.size); clear hb
  go_wp2_with fail
  refine (un_any [2, 2, 120, 5, 1] _ _ _ (by decide) k5).mono ?_
  rintro e w7 ⟨rfl, hb⟩
  replace hB := hB.trans (hb.mono hB.size); clear hb
  go_wp2_with fail
  refine (un_any [1, 2, 120, 120] _ _ _ (by decide) k6).mono ?_
  rintro e w8 ⟨rfl, hb⟩
  replace hB := hB.trans (hb.mono hB.size); clear hb
  go_wp2_with fail
  refine (un_any [] _ _ _ (by decide) k7).mono ?_
  rintro e w9 ⟨rfl, hb⟩
  replace hB := hB.trans (hb.mono hB.size); clear hb
  go_wp2_with fail
  refine (pk_any [] _ _ (by decide) k8).mono ?_
  rintro e w10 ⟨rfl, hb⟩
  replace hB := hB.trans (hb.mono hB.size); clear hb
  go_wp2_with fail
  go_ret
  exact ⟨rfl, hB⟩
end Go.Proofs.YtomijpoglnihgaaDoor
