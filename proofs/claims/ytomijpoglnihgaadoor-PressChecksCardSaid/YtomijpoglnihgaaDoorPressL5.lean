/- press: PressChecks. -/
import Derived.Test.YtomijpoglnihgaaDoorPressL0
import Derived.Test.YtomijpoglnihgaaDoorPressB
import Derived.Test.YtomijpoglnihgaaDoorDgst
import Derived.Test.YtomijpoglnihgaaDoorSumC
set_option linter.unusedVariables false
namespace Go.Proofs.YtomijpoglnihgaaDoor
open Go.RowKit
open Go.Lib (hid byteCells)
theorem pack_num (s : List UInt8) (h : s.length ≤ 2000) : (stNum (packF s, false)).1 = s.length := by
  unfold packF
  rw [if_neg (by omega)]
  exact congrArg Prod.fst (stNum_some _ _ _ (dnum_venc s.length _ (by omega)))
set_option maxHeartbeats 2000000 in
set_option maxRecDepth 100000 in
theorem PressChecks_walk (s : List UInt8) (w : World) (ht : Hid (TabR w)) : Calls Tryd.prog 3 #[.string ⟨s.toArray⟩] w fun e w' => e = .returned (.bool true) ∧ Below w.heap.size w w' := by
  by_cases hs : 2000 < s.length
  · have q1 : decide (2000 < (s.length : Int)) = true := decide_eq_true (by omega)
    go_enter Tryd.func3, Tryd.ntmps3
    go_wp2_with fail
    refine (small_any _).mono ?_
    rintro e w1 ⟨rfl, hB⟩
    go_wp2_with fail
    go_ret
    exact ⟨rfl, hB⟩
  · have q1 : decide (2000 < (s.length : Int)) = false := decide_eq_false (by omega)
    have hl := pack_len s (by omega)
    have hl2 := pack_len (packF s) (by omega)
    have hn := pack_num s (by omega)
    have hp := hid (fun w => pack_any s w (by omega))
    have hp2 := hid (fun w => pack_any (packF s) w (by omega))
    have hu := hid (fun w => un_any (packF s) s true w (by omega) (unp_pack s (by omega)))
    have hu2 := hid (fun w => un_any (packF (packF s)) (packF s) true w (by omega) (unp_pack (packF s) (by omega)))
    have hcr := hid (fun w => crc_any s w (by omega))
    have hop := hid (fun w => open_any (packF s) w)
    have hsh := hid (fun w h => sha_any s w h (by omega))
    generalize packF (packF s) = Q at *
    generalize packF s = P at *
    generalize crcF s = C at *
    have hD := shaF_len s
    generalize shaF s = D at *
    have hdg := fun W op x y => dg_guard W op x y D D
    have hde := fun W => dg_eql W D D hD hD
    rw [show decide (D = D) = true from decide_eq_true rfl] at hde
    clear hD
    replace hn := hid hn
    go_enter Tryd.func3, Tryd.ntmps3
    go_wp2_with fail
    refine (small_any _).mono ?_
    rintro e w1 ⟨rfl, hB⟩
    go_wp2_with fail
    refine (hp.out _).mono ?_
    rintro e w2 ⟨rfl, hb⟩
    replace hB := hB.trans (hb.mono hB.size); clear hb
    go_wp2_with fail
    refine (hp2.out _).mono ?_
    rintro e w3 ⟨rfl, hb⟩
    replace hB := hB.trans (hb.mono hB.size); clear hb
    go_wp2_with fail
    refine (hu2.out _).mono ?_
    rintro e w4 ⟨rfl, hb⟩
    replace hB := hB.trans (hb.mono hB.size); clear hb
    go_wp2_with fail
    refine (hu.out _).mono ?_
    rintro e w5 ⟨rfl, hb⟩
    replace hB := hB.trans (hb.mono hB.size); clear hb
    go_wp2_with fail
    have hB5' := hB.size
    refine (hop.out _).mono ?_
    rintro e w6 ⟨rfl, hr, hb, hz⟩
    replace hB := hB.trans (hb.mono hB.size); clear hb
    go_wp2_with fail
    refine (hcr.out _).mono ?_
    rintro e w7 ⟨rfl, hb7⟩
    have hB7 := hB.trans (hb7.mono hB.size)
    go_wp2_with fail
    refine (hcr.out _).mono ?_
    rintro e w8 ⟨rfl, hb8⟩
    have hB8 := hB7.trans (hb8.mono hB7.size)
    go_wp2_with fail
    refine (hsh.out _ (hid (ht.out.below hB8 (Nat.le_refl _)))).mono ?_
    rintro e w9 ⟨rfl, hb9⟩
    have hB9 := hB8.trans (hb9.mono hB8.size)
    go_wp2_with fail
    refine (hsh.out _ (hid (ht.out.below hB9 (Nat.le_refl _)))).mono ?_
    rintro e w10 ⟨rfl, hb10⟩
    have hB10 := hB9.trans (hb10.mono hB9.size)
    go_wp2_with fail
    have z6 : w5.heap.size < w6.heap.size := by omega
    have z7 := hb7.size
    have z8 := hb8.size
    have z9 := hb9.size
    have k7 : Rd 55 w5.heap.size (P, false) w7 := below_keep hb7 hr z6
    have k8 : Rd 55 w5.heap.size (P, false) w8 := below_keep hb8 k7 (by omega)
    have k9 : Rd 55 w5.heap.size (P, false) w9 := below_keep hb9 k8 (by omega)
    have k10 : Rd 55 w5.heap.size (P, false) w10 := below_keep hb10 k9 (by omega)
    have hB5 : w.heap.size ≤ w5.heap.size := hB5'
    refine (readNum _ _ _ k10).mono ?_
    rintro e w11 ⟨rfl, hr11, hf11⟩
    rw [hn.out]
    have hB11 := hB10.trans (hf11.to_below hB10.size (fun k hk e => by unfold one at e; omega))
    clear k7 k8 k9 k10 hr hr11 hf11 hb7 hb8 hb9 hb10
    go_wp2_with fail
    go_ret
    exact ⟨rfl, hB11⟩
end Go.Proofs.YtomijpoglnihgaaDoor
