/- The laws' fixed example. -/
import Derived.Test.YthagdeadmoidnaaDoorTag
set_option linter.unusedVariables false
namespace Go.Proofs.YthagdeadmoidnaaDoor
open Go.RowKit
open Go.Lib (hid)
theorem payC_ok (key : List UInt8) (n : Int) (h : key.length ≤ 1048576) : CmdB (payC key n) :=
  ⟨⟨by simp [payC], fun x hx => by
    rw [List.mem_singleton.1 hx]
    exact ValB.mk _ (by simp [payV, Val.l]) (by simp [payV, Val.t]) (by simp [payV, Val.s]) (fun y hy => by simp [payV, Val.l] at hy)⟩, h⟩
def undoC (key of : List UInt8) : Cmd := ⟨key, 2, of, [], [], []⟩
theorem undoC_ok (key of : List UInt8) (h : key.length ≤ 1048576) : CmdB (undoC key of) := ⟨⟨by simp [undoC], fun x hx => by simp [undoC] at hx⟩, h⟩
theorem undoC_R (key of : List UInt8) (S : Foot) (w : World) : CmdR S w (undoC key of) (cmdCs (undoC key of) (.slice none 0 0)) := cmdR_shut (SlR.nil _ _ _ _ _)
def sA : WS := ⟨[payC [97] 1], [outOf (payC [97] 1)]⟩
theorem s1 : sendF wNew (payC [97] 1) 2 = (-1, sA) := rfl
theorem s2 : sendF sA (payC [97] 7) 0 = (1, sA) := rfl
theorem s3 : sendF sA (payC [98] 2) 1 = (0, sA) := rfl
theorem s4 : sendF sA (payC [98] 2) 3 = (-1, sA) := rfl
theorem s5 : sendF sA (undoC [117] [122]) 0 = (0, sA) := rfl
def sB : WS := ⟨[payC [97] 1, undoC [117] [97]], []⟩
theorem s6 : sendF sA (undoC [117] [97]) 0 = (1, sB) := rfl
theorem s7 : sendF sB (undoC [] [97]) 0 = (0, sB) := rfl
set_option maxHeartbeats 4000000 in
set_option maxRecDepth 100000 in
theorem small_any (w : World) : Calls Tryd.prog 4 #[] w fun e w' => e = .returned (.bool true) ∧ Below w.heap.size w w' := by
  have hS := hid (StW.start w)
  go_enter Tryd.func4, Tryd.ntmps4
  go_wp2_with fail
  refine (wnew_t (fun _ => 0) 1 w).mono ?_
  rintro e W ⟨o, b, rfl, m, h⟩
  replace hS := hid (hS.out.mv m (by decide))
  replace h := hid h
  clear m
  go_wp2_with fail
  refine (pay_t o 3 [97] 1 W).mono ?_
  rintro e W2 ⟨o2, cs, rfl, m, hc⟩
  replace hS := hid (hS.out.mv m (by decide))
  replace h := hid (h.out.mv m (by decide))
  replace hc := hid hc
  clear m o W
  go_wp2_with fail
  refine (send_t o2 1 3 (by decide) b wNew (payC [97] 1) 2 (payC_ok _ _ (by simp)) _ W2 h.out hc.out (by decide) (by decide)).mono ?_
  rintro e W ⟨o, rfl, m, h3⟩
  rw [s1] at h3
  rw [s1]
  replace hS := hid (hS.out.mv m (by decide))
  replace h : Hid (WV _ _ sA _) := hid h3
  clear m h3 hc o2 W2
  go_wp2_with fail
  refine (pay_t o 3 [97] 7 W).mono ?_
  rintro e W2 ⟨o2, cs, rfl, m, hc⟩
  replace hS := hid (hS.out.mv m (by decide))
  replace h := hid (h.out.mv m (by decide))
  replace hc := hid hc
  clear m o W
  go_wp2_with fail
  refine (send_t o2 1 3 (by decide) b sA (payC [97] 7) 0 (payC_ok _ _ (by simp)) _ W2 h.out hc.out (by decide) (by decide)).mono ?_
  rintro e W ⟨o, rfl, m, h3⟩
  rw [s2] at h3
  rw [s2]
  replace hS := hid (hS.out.mv m (by decide))
  replace h : Hid (WV _ _ sA _) := hid h3
  clear m h3 hc o2 W2
  go_wp2_with fail
  refine (pay_t o 3 [98] 2 W).mono ?_
  rintro e W2 ⟨o2, cs, rfl, m, hc⟩
  replace hS := hid (hS.out.mv m (by decide))
  replace h := hid (h.out.mv m (by decide))
  replace hc := hid hc
  clear m o W
  go_wp2_with fail
  refine (send_t o2 1 3 (by decide) b sA (payC [98] 2) 1 (payC_ok _ _ (by simp)) _ W2 h.out hc.out (by decide) (by decide)).mono ?_
  rintro e W ⟨o, rfl, m, h3⟩
  rw [s3] at h3
  rw [s3]
  replace hS := hid (hS.out.mv m (by decide))
  replace h : Hid (WV _ _ sA _) := hid h3
  clear m h3 hc o2 W2
  go_wp2_with fail
  refine (pay_t o 3 [98] 2 W).mono ?_
  rintro e W2 ⟨o2, cs, rfl, m, hc⟩
  replace hS := hid (hS.out.mv m (by decide))
  replace h := hid (h.out.mv m (by decide))
  replace hc := hid hc
  clear m o W
  go_wp2_with fail
  refine (send_t o2 1 3 (by decide) b sA (payC [98] 2) 3 (payC_ok _ _ (by simp)) _ W2 h.out hc.out (by decide) (by decide)).mono ?_
  rintro e W ⟨o, rfl, m, h3⟩
  rw [s4] at h3
  rw [s4]
  replace hS := hid (hS.out.mv m (by decide))
  replace h : Hid (WV _ _ sA _) := hid h3
  clear m h3 hc o2 W2
  have hc := hid (undoC_R [117] [122] (Tg o 3) W)
  go_wp2_with fail
  refine (send_t o 1 3 (by decide) b sA (undoC [117] [122]) 0 (undoC_ok _ _ (by simp)) _ W h.out hc.out (by decide) (by decide)).mono ?_
  rintro e W2 ⟨o2, rfl, m, h3⟩
  rw [s5] at h3
  rw [s5]
  replace hS := hid (hS.out.mv m (by decide))
  replace h : Hid (WV _ _ sA _) := hid h3
  clear m h3 hc o W
  generalize o2 = o at *
  generalize W2 = W at *
  go_wp2_with fail
  refine (wcopy_t o 2 1 b sA W h.out).mono ?_
  rintro e W2 ⟨o2, b2, rfl, m, g⟩
  replace hS := hid (hS.out.mv m (by decide))
  replace h := hid (h.out.mv m (by decide))
  replace g := hid g
  clear m o W
  generalize o2 = o at *
  generalize W2 = W at *
  have hc := hid (undoC_R [117] [97] (Tg o 3) W)
  go_wp2_with fail
  refine (send_t o 2 3 (by decide) b2 sA (undoC [117] [97]) 0 (undoC_ok _ _ (by simp)) _ W g.out hc.out (by decide) (by decide)).mono ?_
  rintro e W2 ⟨o2, rfl, m, h3⟩
  rw [s6] at h3
  rw [s6]
  replace hS := hid (hS.out.mv m (by decide))
  replace h := hid (h.out.mv m (by decide))
  replace g : Hid (WV _ _ sB _) := hid h3
  clear m h3 hc o W
  generalize o2 = o at *
  generalize W2 = W at *
  have hc := hid (undoC_R [] [97] (Tg o 3) W)
  go_wp2_with fail
  refine (send_t o 2 3 (by decide) b2 sB (undoC [] [97]) 0 (undoC_ok _ _ (by simp)) _ W g.out hc.out (by decide) (by decide)).mono ?_
  rintro e W2 ⟨o2, rfl, m, h3⟩
  rw [s7] at h3
  rw [s7]
  replace hS := hid (hS.out.mv m (by decide))
  replace h := hid (h.out.mv m (by decide))
  replace g : Hid (WV _ _ sB _) := hid h3
  clear m h3 hc o W
  generalize o2 = o at *
  generalize W2 = W at *
  go_wp2_with fail
  refine (wnet_t o 4 1 b sA W h.out).mono ?_
  rintro e W2 ⟨o2, v, rfl, m, hn⟩
  replace hS := hid (hS.out.mv m (by decide))
  replace h := hid (h.out.mv m (by decide))
  replace g := hid (g.out.mv m (by decide))
  clear m o W
  generalize o2 = o at *
  generalize W2 = W at *
  obtain ⟨a, k, hv, -⟩ := hn.slice
  replace hv : v = .slice a 1 k := hv
  subst hv
  obtain ⟨gb, go, cs, hidx, -, hgb, hcl, hR⟩ := hn.at (P := Tryd.prog) (t := 32) (by kernel_rfl) (fun _ => by kernel_rfl) (i := 0) (x := outOf (payC [97] 1)) rfl
  obtain ⟨a1, k1, rfl, hvs⟩ := hR
  obtain ⟨gb2, go2, cs2, hidx2, -, hgb2, hcl2, hR2⟩ := hvs.at (P := Tryd.prog) (t := 26) (by kernel_rfl) (fun _ => by kernel_rfl) (i := 0) (x := payV 1) rfl
  obtain ⟨a3, k3, rfl, -⟩ := valR_open hR2
  have c0 : W.cell? ⟨gb, go, none⟩ = some (sv [97]) := hcl 0 _ rfl
  have c2 : W.cell? ⟨gb, go + 2, none⟩ = some (.slice a1 1 k1) := hcl 2 _ rfl
  have d2 : W.cell? ⟨gb2, go2 + 2, none⟩ = some (iv 1) := hcl2 2 _ rfl
  replace hidx : ∀ kd w, (Instr.indexAt 32 (.slice a 1 k) (.int kd 0)).run Tryd.prog w = .ok (.pointer (some ⟨gb, go, none⟩)) w := hidx
  replace hidx2 : ∀ kd w, (Instr.indexAt 26 (.slice a1 1 k1) (.int kd 0)).run Tryd.prog w = .ok (.pointer (some ⟨gb2, go2, none⟩)) w := hidx2
  clear hcl hcl2 hn hvs hR2
  go_wp2_with fail
  clear c0 c2 d2 hidx hidx2
  refine (wlog_t o 4 1 b sA W h.out).mono ?_
  rintro e W3 ⟨o3, v, rfl, m, hn⟩
  obtain ⟨a, k, hv, -⟩ := hn.slice
  replace hv : v = .slice a 1 k := hv
  subst hv
  replace hS := hid (hS.out.mv m (by decide))
  replace g := hid (g.out.mv m (by decide))
  clear m h hn
  go_wp2_with fail
  refine (wnet_t o3 4 2 b2 sB W3 g.out).mono ?_
  rintro e W4 ⟨o4, v, rfl, m, hn⟩
  obtain ⟨a, k, hv, -⟩ := hn.slice
  replace hv : v = .slice a 0 k := hv
  subst hv
  replace hS := hid (hS.out.mv m (by decide))
  replace g := hid (g.out.mv m (by decide))
  clear m hn
  go_wp2_with fail
  refine (wlog_t o4 4 2 b2 sB W4 g.out).mono ?_
  rintro e W5 ⟨o5, v, rfl, m, hn⟩
  obtain ⟨a, k, hv, -⟩ := hn.slice
  replace hv : v = .slice a 2 k := hv
  subst hv
  replace hS := hid (hS.out.mv m (by decide))
  clear m hn
  go_wp2_with fail
  go_ret
  exact ⟨rfl, hS.out.below⟩
end Go.Proofs.YthagdeadmoidnaaDoor
