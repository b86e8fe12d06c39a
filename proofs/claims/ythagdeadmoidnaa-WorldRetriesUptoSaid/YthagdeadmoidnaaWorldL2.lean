/- WorldRetries. -/
import Derived.Test.YthagdeadmoidnaaWorldL1
set_option linter.unusedVariables false
namespace Go.Proofs.Ythagdeadmoidnaa
open Go.RowKit
open Go.Lib (hid)
/-- a command delivered twice is as delivered once -/
theorem takeF_again (x : WS) (c : Cmd) : takeF (takeF x c).2 c = takeF x c := by
  by_cases hk : isKnown x.log c.key = true
  · have : takeF x c = (1, x) := by unfold takeF; rw [if_pos hk]
    rw [this]; exact this
  · by_cases h0 : c.key = []
    · have : takeF x c = (0, x) := by unfold takeF; rw [if_neg hk, if_pos h0]
      rw [this]; exact this
    · by_cases hs : (stepF x.force c).1 ≠ 0
      · have : takeF x c = (0, x) := by unfold takeF; rw [if_neg hk, if_neg h0, if_pos hs]
        rw [this]; exact this
      · have h1 : takeF x c = (1, ⟨x.log ++ [c], (stepF x.force c).2⟩) := by unfold takeF; rw [if_neg hk, if_neg h0, if_neg hs]
        rw [h1]
        have hk2 : isKnown (x.log ++ [c]) c.key = true := isKnown_iff.2 ⟨c, by simp, rfl⟩
        unfold takeF
        rw [if_pos hk2]
theorem sendF_zero (x : WS) (c : Cmd) : sendF x c 0 = takeF x c := by simp [sendF]
theorem sendF_lost (x : WS) (c : Cmd) (u : WS) (hu : u = x ∨ u = (takeF x c).2) (how : Int) (h : how = 2 ∨ how = 3) : (sendF u c how).1 = -1 ∧ ((sendF u c how).2 = x ∨ (sendF u c how).2 = (takeF x c).2) := by
  rcases h with rfl | rfl
  · refine ⟨by simp [sendF], Or.inr ?_⟩
    have : sendF u c 2 = (-1, (takeF u c).2) := by simp [sendF]
    rw [this]
    rcases hu with rfl | rfl
    · rfl
    · show (takeF (takeF x c).2 c).2 = _
      rw [takeF_again]
  · have : sendF u c 3 = (-1, u) := by simp [sendF]
    rw [this]
    exact ⟨rfl, hu⟩
theorem takeF_lost (x : WS) (c : Cmd) (u : WS) (hu : u = x ∨ u = (takeF x c).2) : takeF u c = takeF x c := by
  rcases hu with rfl | rfl
  · rfl
  · exact takeF_again x c
theorem and1_cases (z : Int) : bits BinOp.and IntKind.i64 z 1 = 0 ∨ bits BinOp.and IntKind.i64 z 1 = 1 := by
  have h : ((BitVec.ofInt 64 z) &&& 1#64) = 0#64 ∨ ((BitVec.ofInt 64 z) &&& 1#64) = 1#64 := by
    generalize BitVec.ofInt 64 z = x
    have h2 : (x &&& 1#64).toNat = x.toNat % 2 := by
      rw [BitVec.toNat_and]; exact Nat.and_one_is_mod _
    rcases Nat.mod_two_eq_zero_or_one x.toNat with h | h
    · left; apply BitVec.eq_of_toNat_eq; rw [h2, h]; rfl
    · right; apply BitVec.eq_of_toNat_eq; rw [h2, h]; rfl
  have e : bits BinOp.and IntKind.i64 z 1 = IntKind.i64.wrap ((BitVec.ofInt 64 z &&& 1#64).toNat : Int) := rfl
  rw [e]
  rcases h with h | h
  · left; rw [h]; decide
  · right; rw [h]; decide
set_option maxHeartbeats 8000000 in
set_option maxRecDepth 100000 in
theorem WorldRetries_walk (l : List Dlv) (ls : List Int) (v lv : Value) (w : World) (hl : DlvsB l) (hr : SlR 7 DlvR (fun _ => True) w l v) (hls : ls.length ≤ 1048576) (hz : ∀ z ∈ ls, -9223372036854775808 ≤ z ∧ z ≤ 9223372036854775807) (hrl : SlR 1 IntR (fun _ => True) w ls lv) :
    Calls Try.prog 5 #[v, lv] w fun e w' => e = .returned (.bool true) ∧ Below w.heap.size w w' := by
  have hS := hid (St.start w)
  have hR := hid (hr.mono goodDlv (T := Tg (fun _ => 0) 0) (fun _ _ _ => rfl))
  have hI := hid (hrl.mono goodInt (T := Tg (fun _ => 0) 0) (fun _ _ _ => rfl))
  obtain ⟨a, k, rfl, -⟩ := hr.slice
  obtain ⟨a2, k2, rfl, -⟩ := hrl.slice
  have hl1 := hl.1
  replace hl := hid hl
  replace hz := hid hz
  clear hr hrl
  go_enter Try.func5, Try.ntmps5
  go_wp2_with fail
  refine (small_any w).mono ?_
  rintro e W ⟨rfl, hb⟩
  have m := Mv.pure hb (fun _ => 0)
  clear hb
  replace hS := hid (hS.out.mv m (by decide))
  replace hR := hid (hR.out.mv goodDlv m (by decide))
  replace hI := hid (hI.out.mv goodInt m (by decide))
  clear m
  go_wp2_with fail
  refine (wnew_t (fun _ => 0) 1 W).mono ?_
  rintro e W2 ⟨o, b, rfl, m, h⟩
  replace hS := hid (hS.out.mv m (by decide))
  replace hR := hid (hR.out.mv goodDlv m (by decide))
  replace hI := hid (hI.out.mv goodInt m (by decide))
  replace h := hid h
  clear m W
  go_wp2_with fail
  refine (wnew_t o 2 W2).mono ?_
  rintro e W ⟨o2, b2, rfl, m, g⟩
  replace hS := hid (hS.out.mv m (by decide))
  replace hR := hid (hR.out.mv goodDlv m (by decide))
  replace hI := hid (hI.out.mv goodInt m (by decide))
  replace h := hid (h.out.mv m (by decide))
  replace g := hid g
  clear m W2 o
  generalize o2 = o at *
  go_wp2_with fail
  refine (few_t l hl.out o 0 _ W hR.out).mono ?_
  rintro e W2 ⟨r, rfl, h40, m⟩
  replace hS := hid (hS.out.mv m (by decide))
  replace hR := hid (hR.out.mv goodDlv m (by decide))
  replace hI := hid (hI.out.mv goodInt m (by decide))
  replace h := hid (h.out.mv m (by decide))
  replace g := hid (g.out.mv m (by decide))
  clear m W
  generalize W2 = W at *
  cases r with
  | false =>
    go_wp2_with fail
    go_ret
    exact ⟨rfl, hS.out.below⟩
  | true =>
    replace h40 := h40 rfl
    go_wp2_with fail
    go_loopw [8, 9] (fun q i wr => ∃ (n j : Nat) (o : Own) (x : WS), i = .int .i64 n ∧ q = .int .i64 j ∧ n ≤ l.length ∧ j ≤ 40 + n ∧ Hid (St w o wr) ∧ Hid (SlR 7 DlvR (Tg o 0) wr l (Value.slice a l.length k)) ∧ Hid (SlR 1 IntR (Tg o 0) wr ls (Value.slice a2 ls.length k2)) ∧ Hid (WV (Tg o 1) b x wr) ∧ Hid (WV (Tg o 2) b2 x wr) ∧ x.log.length ≤ n ∧ x.force.length ≤ n) (fun _ i _ => l.length - (intOf i).toNat)
    case atStart => exact ⟨0, 0, o, wNew, rfl, rfl, Nat.zero_le _, Nat.zero_le _, hS, hR, hI, h, g, Nat.le_refl _, Nat.le_refl _⟩
    case round =>
      clear hS hR hI h g
      obtain ⟨n, j, o, x, rfl, rfl, hk, hj, hS, hR, hI, h, g, hxl, hxf⟩ := hrel
      by_cases hlt : n < l.length
      · obtain ⟨y, hy⟩ : ∃ y, l[n]? = some y := ⟨_, List.getElem?_eq_getElem hlt⟩
        have hcb := hid (hl.out.2 y (List.mem_of_getElem? hy))
        replace hy := hid hy
        go_wp2_with fail
        go_loopw [8] (fun q wr => ∃ (j : Nat) (o : Own) (u : WS), q = .int .i64 j ∧ j ≤ 40 + n ∧ Hid (St w o wr) ∧ Hid (SlR 7 DlvR (Tg o 0) wr l (Value.slice a l.length k)) ∧ Hid (SlR 1 IntR (Tg o 0) wr ls (Value.slice a2 ls.length k2)) ∧ Hid (WV (Tg o 1) b u wr) ∧ Hid (WV (Tg o 2) b2 x wr) ∧ Hid (u = x ∨ u = (takeF x y.c).2)) (fun q _ => 40 - (intOf q).toNat)
        case atStart => exact ⟨j, o, x, rfl, hj, hS, hR, hI, h, g, hid (Or.inl rfl)⟩
        case round =>
          clear hS hR hI h g hj
          obtain ⟨j, o, u, rfl, hj, hS, hR, hI, h, g, hu⟩ := hrel
          have hul : u.log.length ≤ n + 1 ∧ u.force.length ≤ n + 1 := by
            have := takeF_len x y.c
            rcases hu.out with rfl | rfl
            · exact ⟨by omega, by omega⟩
            · exact ⟨by omega, by omega⟩
          obtain ⟨gb, off, cs, hidx, hSg, hg, hc, hRy⟩ := hR.out.at (P := Try.prog) (t := 22) (by kernel_rfl) (fun _ => by kernel_rfl) hy.out
          obtain ⟨a3, k3, rfl, hv⟩ := hRy
          have c0 := hc 0 _ rfl
          have c1 := hc 1 _ rfl
          have c2 := hc 2 _ rfl
          have c3 := hc 3 _ rfl
          have c4 := hc 4 _ rfl
          have c5 := hc 5 _ rfl
          rw [Nat.add_zero] at c0
          clear hc
          replace hSg : o gb = 0 := hSg
          have md : Mv o wr o wr.drew 99 := Mv.pure (Below.refl _ _).drew o
          by_cases hjl : j < ls.length
          · by_cases hj40 : j < 40
            · obtain ⟨z, hzj⟩ : ∃ z, ls[j]? = some z := ⟨_, List.getElem?_eq_getElem hjl⟩
              obtain ⟨g1, of1, cs1, hidx1, -, hg1, hc1, hR1⟩ := hI.out.at (P := Try.prog) (t := 45) (by kernel_rfl) (fun _ => by kernel_rfl) hzj
              replace hR1 : cs1 = [iv z] := hR1
              subst hR1
              have z0 := hc1 0 _ rfl
              rw [Nat.add_zero] at z0
              clear hc1
              obtain ⟨how, hhow, hw23⟩ : ∃ how, IntKind.i64.wrap (2 + bits BinOp.and IntKind.i64 z 1) = how ∧ (how = 2 ∨ how = 3) := by
                rcases and1_cases z with e | e <;> rw [e]
                · exact ⟨2, by decide, Or.inl rfl⟩
                · exact ⟨3, by decide, Or.inr rfl⟩
              have hcall := hid (send_t o 1 0 (by decide) b u y.c how hcb.out _ wr.drew (h.out.mv md (by decide)) (goodCmd.mv (i := 0) (cmdR_shut hv) md (by decide)) (by omega) (by omega))
              have hlost := sendF_lost x y.c u hu.out how hw23
              generalize sendF u y.c how = res at *
              replace hlost := hid hlost
              go_wp2_with fail
              · go_still_tail 12, (by kernel_rfl)
                go_wp2_with fail
                refine hcall.out.mono ?_
                rintro e W ⟨o2, rfl, m, h6⟩
                rw [hlost.out.1]
                replace hS := hid ((hS.out.mv md (by decide)).mv m (by decide))
                replace hR := hid ((hR.out.mv goodDlv md (by decide)).mv goodDlv m (by decide))
                replace hI := hid ((hI.out.mv goodInt md (by decide)).mv goodInt m (by decide))
                replace g := hid ((g.out.mv md (by decide)).mv m (by decide))
                clear c0 c1 c2 c3 c4 c5 z0 hcall hidx hidx1 m md
                go_wp2_with fail
                exact ⟨⟨j + 1, o2, res.2, by go_num, by omega, hS, hR, hI, hid h6, g, hid hlost.out.2⟩, by simp [intOf]; omega⟩
              · clear hcall hlost
                have hcall1 := send_t o 1 0 (by decide) b u y.c 0 hcb.out _ wr.drew (h.out.mv md (by decide)) (goodCmd.mv (i := 0) (cmdR_shut hv) md (by decide)) (by omega) (by omega)
                rw [sendF_zero, takeF_lost x y.c u hu.out] at hcall1
                replace hcall1 := hid hcall1
                go_wp2_with fail
                go_region_held3 (fun w' => w'.cell? ⟨gb, off, none⟩ = some (sv y.c.key) ∧ w'.cell? ⟨gb, off + 1, none⟩ = some (iv y.c.kind) ∧ w'.cell? ⟨gb, off + 2, none⟩ = some (sv y.c.of) ∧ w'.cell? ⟨gb, off + 3, none⟩ = some (sv y.c.new) ∧ w'.cell? ⟨gb, off + 4, none⟩ = some (sv y.c.name) ∧ w'.cell? ⟨gb, off + 5, none⟩ = some (.slice a3 y.c.args.length k3)) (first | with_reducible exact q2 | with_reducible exact q3 | go_keep)
                  (first | (go_at_call 12; refine hcall2.out.mono ?_; rintro e W3 ⟨o3, rfl, m3, g6⟩; have hbk3 : W3.heap[gb]? = W.heap[gb]? := m3.fr.block gb hgW (fun h2 => absurd (hSW.symm.trans h2) (by decide)); have q3 : _ ∧ _ ∧ _ ∧ _ ∧ _ ∧ _ := ⟨(World.cell?_of_block hbk3).trans q2.1, (World.cell?_of_block hbk3).trans q2.2.1, (World.cell?_of_block hbk3).trans q2.2.2.1, (World.cell?_of_block hbk3).trans q2.2.2.2.1, (World.cell?_of_block hbk3).trans q2.2.2.2.2.1, (World.cell?_of_block hbk3).trans q2.2.2.2.2.2⟩) | (go_at_call 12; refine hcall1.out.mono ?_; rintro e W ⟨o2, rfl, m, h6⟩; have hbk : W.heap[gb]? = wr.heap[gb]? := m.fr.block gb hg (fun h2 => absurd (hSg.symm.trans h2) (by decide)); have hgW : gb < W.heap.size := lt_same hg hbk; have hSW : o2 gb = 0 := (m.own gb hg).trans hSg; have q2 : _ ∧ _ ∧ _ ∧ _ ∧ _ ∧ _ := ⟨(World.cell?_of_block hbk).trans c0, (World.cell?_of_block hbk).trans c1, (World.cell?_of_block hbk).trans c2, (World.cell?_of_block hbk).trans c3, (World.cell?_of_block hbk).trans c4, (World.cell?_of_block hbk).trans c5⟩; have hcall2 := send_t o2 2 0 (by decide) b2 x y.c 0 hcb.out _ W ((g.out.mv md (by decide)).mv m (by decide)) (goodCmd.mv (i := 0) (goodCmd.mv (i := 0) (cmdR_shut hv) md (by decide)) m (by decide)) (by omega) (by omega); rw [sendF_zero] at hcall2; replace hcall2 := hid hcall2))
                replace hS := hid (((hS.out.mv md (by decide)).mv m (by decide)).mv m3 (by decide))
                replace hR := hid (((hR.out.mv goodDlv md (by decide)).mv goodDlv m (by decide)).mv goodDlv m3 (by decide))
                replace hI := hid (((hI.out.mv goodInt md (by decide)).mv goodInt m (by decide)).mv goodInt m3 (by decide))
                replace h6 := hid (h6.mv m3 (by decide))
                replace g6 := hid g6
                have hlen := takeF_len x y.c
                clear hcall1 hcall2 q2 q3 m m3 md h g hu
                generalize takeF x y.c = T at *
                go_wp2_with fail
                exact ⟨⟨n + 1, j + 1, o3, T.2, by go_num, by go_num, by omega, by omega, hS, hR, hI, h6, g6, by omega, by omega⟩, by simp [intOf]; omega⟩
            · have hcall1 := send_t o 1 0 (by decide) b u y.c 0 hcb.out _ wr.drew (h.out.mv md (by decide)) (goodCmd.mv (i := 0) (cmdR_shut hv) md (by decide)) (by omega) (by omega)
              rw [sendF_zero, takeF_lost x y.c u hu.out] at hcall1
              replace hcall1 := hid hcall1
              go_wp2_with fail
              go_region_held3 (fun w' => w'.cell? ⟨gb, off, none⟩ = some (sv y.c.key) ∧ w'.cell? ⟨gb, off + 1, none⟩ = some (iv y.c.kind) ∧ w'.cell? ⟨gb, off + 2, none⟩ = some (sv y.c.of) ∧ w'.cell? ⟨gb, off + 3, none⟩ = some (sv y.c.new) ∧ w'.cell? ⟨gb, off + 4, none⟩ = some (sv y.c.name) ∧ w'.cell? ⟨gb, off + 5, none⟩ = some (.slice a3 y.c.args.length k3)) (first | with_reducible exact q2 | with_reducible exact q3 | go_keep)
                (first | (go_at_call 12; refine hcall2.out.mono ?_; rintro e W3 ⟨o3, rfl, m3, g6⟩; have hbk3 : W3.heap[gb]? = W.heap[gb]? := m3.fr.block gb hgW (fun h2 => absurd (hSW.symm.trans h2) (by decide)); have q3 : _ ∧ _ ∧ _ ∧ _ ∧ _ ∧ _ := ⟨(World.cell?_of_block hbk3).trans q2.1, (World.cell?_of_block hbk3).trans q2.2.1, (World.cell?_of_block hbk3).trans q2.2.2.1, (World.cell?_of_block hbk3).trans q2.2.2.2.1, (World.cell?_of_block hbk3).trans q2.2.2.2.2.1, (World.cell?_of_block hbk3).trans q2.2.2.2.2.2⟩) | (go_at_call 12; refine hcall1.out.mono ?_; rintro e W ⟨o2, rfl, m, h6⟩; have hbk : W.heap[gb]? = wr.heap[gb]? := m.fr.block gb hg (fun h2 => absurd (hSg.symm.trans h2) (by decide)); have hgW : gb < W.heap.size := lt_same hg hbk; have hSW : o2 gb = 0 := (m.own gb hg).trans hSg; have q2 : _ ∧ _ ∧ _ ∧ _ ∧ _ ∧ _ := ⟨(World.cell?_of_block hbk).trans c0, (World.cell?_of_block hbk).trans c1, (World.cell?_of_block hbk).trans c2, (World.cell?_of_block hbk).trans c3, (World.cell?_of_block hbk).trans c4, (World.cell?_of_block hbk).trans c5⟩; have hcall2 := send_t o2 2 0 (by decide) b2 x y.c 0 hcb.out _ W ((g.out.mv md (by decide)).mv m (by decide)) (goodCmd.mv (i := 0) (goodCmd.mv (i := 0) (cmdR_shut hv) md (by decide)) m (by decide)) (by omega) (by omega); rw [sendF_zero] at hcall2; replace hcall2 := hid hcall2))
              replace hS := hid (((hS.out.mv md (by decide)).mv m (by decide)).mv m3 (by decide))
              replace hR := hid (((hR.out.mv goodDlv md (by decide)).mv goodDlv m (by decide)).mv goodDlv m3 (by decide))
              replace hI := hid (((hI.out.mv goodInt md (by decide)).mv goodInt m (by decide)).mv goodInt m3 (by decide))
              replace h6 := hid (h6.mv m3 (by decide))
              replace g6 := hid g6
              have hlen := takeF_len x y.c
              clear hcall1 hcall2 q2 q3 m m3 md h g hu
              generalize takeF x y.c = T at *
              go_wp2_with fail
              exact ⟨⟨n + 1, j + 1, o3, T.2, by go_num, by go_num, by omega, by omega, hS, hR, hI, h6, g6, by omega, by omega⟩, by simp [intOf]; omega⟩
          · have hcall1 := send_t o 1 0 (by decide) b u y.c 0 hcb.out _ wr.drew (h.out.mv md (by decide)) (goodCmd.mv (i := 0) (cmdR_shut hv) md (by decide)) (by omega) (by omega)
            rw [sendF_zero, takeF_lost x y.c u hu.out] at hcall1
            replace hcall1 := hid hcall1
            go_wp2_with fail
            go_region_held3 (fun w' => w'.cell? ⟨gb, off, none⟩ = some (sv y.c.key) ∧ w'.cell? ⟨gb, off + 1, none⟩ = some (iv y.c.kind) ∧ w'.cell? ⟨gb, off + 2, none⟩ = some (sv y.c.of) ∧ w'.cell? ⟨gb, off + 3, none⟩ = some (sv y.c.new) ∧ w'.cell? ⟨gb, off + 4, none⟩ = some (sv y.c.name) ∧ w'.cell? ⟨gb, off + 5, none⟩ = some (.slice a3 y.c.args.length k3)) (first | with_reducible exact q2 | with_reducible exact q3 | go_keep)
              (first | (go_at_call 12; refine hcall2.out.mono ?_; rintro e W3 ⟨o3, rfl, m3, g6⟩; have hbk3 : W3.heap[gb]? = W.heap[gb]? := m3.fr.block gb hgW (fun h2 => absurd (hSW.symm.trans h2) (by decide)); have q3 : _ ∧ _ ∧ _ ∧ _ ∧ _ ∧ _ := ⟨(World.cell?_of_block hbk3).trans q2.1, (World.cell?_of_block hbk3).trans q2.2.1, (World.cell?_of_block hbk3).trans q2.2.2.1, (World.cell?_of_block hbk3).trans q2.2.2.2.1, (World.cell?_of_block hbk3).trans q2.2.2.2.2.1, (World.cell?_of_block hbk3).trans q2.2.2.2.2.2⟩) | (go_at_call 12; refine hcall1.out.mono ?_; rintro e W ⟨o2, rfl, m, h6⟩; have hbk : W.heap[gb]? = wr.heap[gb]? := m.fr.block gb hg (fun h2 => absurd (hSg.symm.trans h2) (by decide)); have hgW : gb < W.heap.size := lt_same hg hbk; have hSW : o2 gb = 0 := (m.own gb hg).trans hSg; have q2 : _ ∧ _ ∧ _ ∧ _ ∧ _ ∧ _ := ⟨(World.cell?_of_block hbk).trans c0, (World.cell?_of_block hbk).trans c1, (World.cell?_of_block hbk).trans c2, (World.cell?_of_block hbk).trans c3, (World.cell?_of_block hbk).trans c4, (World.cell?_of_block hbk).trans c5⟩; have hcall2 := send_t o2 2 0 (by decide) b2 x y.c 0 hcb.out _ W ((g.out.mv md (by decide)).mv m (by decide)) (goodCmd.mv (i := 0) (goodCmd.mv (i := 0) (cmdR_shut hv) md (by decide)) m (by decide)) (by omega) (by omega); rw [sendF_zero] at hcall2; replace hcall2 := hid hcall2))
            replace hS := hid (((hS.out.mv md (by decide)).mv m (by decide)).mv m3 (by decide))
            replace hR := hid (((hR.out.mv goodDlv md (by decide)).mv goodDlv m (by decide)).mv goodDlv m3 (by decide))
            replace hI := hid (((hI.out.mv goodInt md (by decide)).mv goodInt m (by decide)).mv goodInt m3 (by decide))
            replace h6 := hid (h6.mv m3 (by decide))
            replace g6 := hid g6
            have hlen := takeF_len x y.c
            clear hcall1 hcall2 q2 q3 m m3 md h g hu
            generalize takeF x y.c = T at *
            go_wp2_with fail
            exact ⟨⟨n + 1, j + 1, o3, T.2, by go_num, by go_num, by omega, by omega, hS, hR, hI, h6, g6, by omega, by omega⟩, by simp [intOf]; omega⟩
      · have hkl : n = l.length := by omega
        subst hkl
        have ho := hid h.out.1
        go_wp2_with fail
        refine (wlog_t o 4 1 b x wr h.out).mono ?_
        rintro e W3 ⟨o3, vl, rfl, m, hL⟩
        replace hS := hid (hS.out.mv m (by decide))
        replace h := hid (h.out.mv m (by decide))
        replace g := hid (g.out.mv m (by decide))
        replace hL := hid hL
        clear m
        go_wp2_with fail
        refine (wlog_t o3 5 2 b2 x W3 g.out).mono ?_
        rintro e W4 ⟨o4, vm, rfl, m, hM⟩
        replace hS := hid (hS.out.mv m (by decide))
        replace h := hid (h.out.mv m (by decide))
        replace g := hid (g.out.mv m (by decide))
        replace hL := hid (hL.out.mv goodCmd m (by decide))
        clear m
        have hcall := sameCmds_any x.log x.log (by have := ho.out.log.1; omega) (by have := ho.out.log.1; omega) (fun c hc => (ho.out.log.2 c hc).1) (fun c hc => (ho.out.log.2 c hc).1) _ _ _ _ W4 hL.out hM
        rw [dec_true rfl] at hcall
        replace hcall := hid hcall
        obtain ⟨al, kl, rfl, -⟩ := hL.out.slice
        obtain ⟨am, km, rfl, -⟩ := hM.slice
        go_wp2_with fail
        refine hcall.out.mono ?_
        rintro e W5 ⟨rfl, hb⟩
        have m := Mv.pure hb o4
        replace hS := hid (hS.out.mv m (by decide))
        replace h := hid (h.out.mv m (by decide))
        replace g := hid (g.out.mv m (by decide))
        clear m hb hcall hL hM
        go_wp2_with fail
        refine (wnet_t o4 6 1 b x W5 h.out).mono ?_
        rintro e W6 ⟨o6, vn, rfl, m, hN⟩
        replace hS := hid (hS.out.mv m (by decide))
        replace g := hid (g.out.mv m (by decide))
        replace hN := hid hN
        clear m h
        go_wp2_with fail
        refine (wnet_t o6 7 2 b2 x W6 g.out).mono ?_
        rintro e W7 ⟨o7, vk, rfl, m, hK⟩
        replace hS := hid (hS.out.mv m (by decide))
        replace hN := hid (hN.out.mv goodOut m (by decide))
        clear m g
        have hcall := hid (sameOuts_any x.force (by have := ho.out.force.1; omega) ho.out.force.2 _ _ _ _ W7 hN.out hK)
        obtain ⟨an, kn, rfl, -⟩ := hN.out.slice
        obtain ⟨ak, kk, rfl, -⟩ := hK.slice
        go_wp2_with fail
        refine hcall.out.mono ?_
        rintro e W8 ⟨rfl, hb⟩
        have m := Mv.pure hb o7
        replace hS := hid (hS.out.mv m (by decide))
        clear m hb hcall
        go_wp2_with fail
        go_ret
        exact ⟨rfl, hS.out.below⟩
end Go.Proofs.Ythagdeadmoidnaa
