/- WorldOnce. -/
import Derived.Test.YthagdeadmoidnaaOnceP
import Derived.Test.YthagdeadmoidnaaNetSame2
set_option linter.unusedVariables false
namespace Go.Proofs.Ythagdeadmoidnaa
open Go.RowKit
open Go.Lib (hid)
set_option maxHeartbeats 8000000 in
set_option maxRecDepth 100000 in
theorem WorldOnce_walk (l : List Dlv) (v : Value) (w : World) (hl : DlvsB l) (hnew : ∀ d ∈ l, d.c.new.length ≤ 1048576) (hr : SlR 7 DlvR (fun _ => True) w l v) :
    Calls Try.prog 7 #[v] w fun e w' => e = .returned (.bool true) ∧ Below w.heap.size w w' := by
  have hS := hid (St.start w)
  have hR := hid (hr.mono goodDlv (T := Tg (fun _ => 0) 0) (fun _ _ _ => rfl))
  obtain ⟨a, k, rfl, -⟩ := hr.slice
  have hl1 := hl.1
  replace hl := hid hl
  replace hnew := hid hnew
  clear hr
  go_enter Try.func7, Try.ntmps7
  go_wp2_with fail
  refine (small_any w).mono ?_
  rintro e W ⟨rfl, hb⟩
  have m := Mv.pure hb (fun _ => 0)
  clear hb
  replace hS := hid (hS.out.mv m (by decide))
  replace hR := hid (hR.out.mv goodDlv m (by decide))
  clear m
  go_wp2_with fail
  refine (wnew_t (fun _ => 0) 1 W).mono ?_
  rintro e W2 ⟨o, b, rfl, m, h⟩
  replace hS := hid (hS.out.mv m (by decide))
  replace hR := hid (hR.out.mv goodDlv m (by decide))
  replace h := hid h
  clear m W
  go_wp2_with fail
  refine (few_t l hl.out o 0 _ W2 hR.out).mono ?_
  rintro e W ⟨r, rfl, h40, m⟩
  replace hS := hid (hS.out.mv m (by decide))
  replace hR := hid (hR.out.mv goodDlv m (by decide))
  replace h := hid (h.out.mv m (by decide))
  clear m W2
  cases r with
  | false =>
    go_wp2_with fail
    go_ret
    exact ⟨rfl, hS.out.below⟩
  | true =>
    replace h40 := h40 rfl
    go_wp2_with fail
    go_loopw [5] (fun i wr => ∃ (n : Nat) (o : Own) (x : WS), i = .int .i64 n ∧ n ≤ l.length ∧ Hid (St w o wr) ∧ Hid (SlR 7 DlvR (Tg o 0) wr l (Value.slice a l.length k)) ∧ Hid (WV (Tg o 1) b x wr) ∧ Hid (OnceInv x ((l.take n).map Dlv.c)) ∧ x.log.length ≤ n ∧ x.force.length ≤ n) (fun i _ => l.length - (intOf i).toNat)
    case atStart => exact ⟨0, o, wNew, rfl, Nat.zero_le _, hS, hR, h, hid OnceInv.new, Nat.le_refl _, Nat.le_refl _⟩
    case round =>
      clear hS hR h
      obtain ⟨n, o, x, rfl, hk, hS, hR, h, hinv, hxl, hxf⟩ := hrel
      by_cases hlt : n < l.length
      · obtain ⟨y, hy⟩ : ∃ y, l[n]? = some y := ⟨_, List.getElem?_eq_getElem hlt⟩
        obtain ⟨gb, off, cs, hidx, hSg, hg, hc, hRy⟩ := hR.out.at (P := Try.prog) (t := 22) (by kernel_rfl) (fun _ => by kernel_rfl) hy
        obtain ⟨a3, k3, rfl, hv⟩ := hRy
        have c0 := hc 0 _ rfl
        have c1 := hc 1 _ rfl
        have c2 := hc 2 _ rfl
        have c3 := hc 3 _ rfl
        have c4 := hc 4 _ rfl
        have c5 := hc 5 _ rfl
        have c6 := hc 6 _ rfl
        rw [Nat.add_zero] at c0
        replace hSg : o gb = 0 := hSg
        have hcb := hid (hl.out.2 y (List.mem_of_getElem? hy))
        have md : Mv o wr o wr.drew 99 := Mv.pure (Below.refl _ _).drew o
        have hcall := hid (send_t o 1 0 (by decide) b x y.c y.how hcb.out _ wr.drew (h.out.mv md (by decide)) (goodCmd.mv (i := 0) (cmdR_shut hv) md (by decide)) (by omega) (by omega))
        have hlen := sendF_len x y.c y.how
        have hone := send_one x y.c y.how
        have hinv2 := hinv.out.send y.c y.how (hnew.out y (List.mem_of_getElem? hy))
        have htk : (l.take n).map Dlv.c ++ [y.c] = (l.take (n + 1)).map Dlv.c := by
          rw [List.take_add_one, hy, List.map_append]; rfl
        rw [htk] at hinv2
        generalize sendF x y.c y.how = res at *
        obtain ⟨ans, x2⟩ := res
        simp only at hone hlen hinv2
        replace hinv2 := hid hinv2
        replace hS := hid (hS.out.mv md (by decide))
        replace hR := hid (hR.out.mv goodDlv md (by decide))
        clear hc hy h hinv htk
        go_wp2_with fail
        go_still_tail 11, (by kernel_rfl)
        go_wp2_with fail
        refine hcall.out.mono ?_
        rintro e W ⟨o2, rfl, m, h⟩
        simp only at h ⊢
        have hbk : W.heap[gb]? = wr.heap[gb]? := m.fr.block gb hg (fun h2 => absurd (hSg.symm.trans h2) (by decide))
        have hgW : gb < W.heap.size := lt_same hg hbk
        have hSW : o2 gb = 0 := (m.own gb hg).trans hSg
        have d0 := (World.cell?_of_block (a := ⟨gb, off, none⟩) hbk).trans c0
        replace hS := hid (hS.out.mv m (by decide))
        replace hR := hid (hR.out.mv goodDlv m (by decide))
        replace h := hid h
        clear c0 c1 c2 c3 c4 c5 c6 hcall m hbk md
        have q1 : decide (ans < -1) = false := decide_eq_false (by omega)
        have q2 : decide (1 < ans) = false := decide_eq_false (by omega)
        by_cases hans : ans = 1
        · have hkn := hone.2 hans
          have q3 : (ans == 1) = true := by simpa using hans
          subst hans
          replace hone := hid hone
          go_wp2_with fail
          go_region_held3 (fun w' => w'.cell? ⟨gb, off, none⟩ = some (sv y.c.key)) (first | with_reducible exact d0 | with_reducible exact d3 | with_reducible exact d4 | go_keep)
            (first | (go_at_call 19; refine (has_any x2.log y.c.key hx2l _ _ W3 hL3).mono ?_; rintro e W4 ⟨rfl, hb4⟩; have m4 := Mv.pure hb4 o3; have d4 := (World.cell?_of_block (a := ⟨gb, off, none⟩) (hb4.block gb hg3)).trans d3) | (go_at_call 15; refine (wlog_t o2 4 1 b x2 W.drew (h.out.mv (Mv.pure (Below.refl _ _).drew o2) (by decide))).mono ?_; rintro e W3 ⟨o3, v3, rfl, m3, hL3⟩; have d3 := (World.cell?_of_block (a := ⟨gb, off, none⟩) (m3.fr.block gb hgW (fun h2 => absurd (hSW.symm.trans h2) (by decide)))).trans d0; have hg3 : gb < W3.heap.size := Nat.lt_of_lt_of_le hgW m3.fr.size; obtain ⟨a9, k9, rfl, -⟩ := hL3.slice; have hx2l : x2.log.length ≤ 1048576 := by omega))
          all_goals
            have md2 : Mv o2 W o2 W.drew 99 := Mv.pure (Below.refl _ _).drew o2
            replace hS := hid (((hS.out.mv md2 (by decide)).mv m3 (by decide)).mv m4 (by decide))
            replace hR := hid (((hR.out.mv goodDlv md2 (by decide)).mv goodDlv m3 (by decide)).mv goodDlv m4 (by decide))
            replace h := hid (((h.out.mv md2 (by decide)).mv m3 (by decide)).mv m4 (by decide))
            clear d0 d3 d4 m3 m4 md2 hL3
            go_wp2_with fail
            exact ⟨⟨n + 1, o3, x2, by go_num, by omega, hS, hR, h, hinv2, by omega, by omega⟩, by simp [intOf]; omega⟩
        · have q3 : (ans == 1) = false := by simpa using hans
          clear d0
          replace hone := hid hone
          go_wp2_with fail
          go_quiet (fail)
          all_goals
            have md2 : Mv o2 W o2 (W.drewN nq) 99 := Mv.pure (below_drewM (Below.refl _ _) nq) o2
            replace hS := hid (hS.out.mv md2 (by decide))
            replace hR := hid (hR.out.mv goodDlv md2 (by decide))
            replace h := hid (h.out.mv md2 (by decide))
            clear md2
            go_wp2_with fail
            exact ⟨⟨n + 1, o2, x2, by go_num, by omega, hS, hR, h, hinv2, by omega, by omega⟩, by simp [intOf]; omega⟩
      · obtain rfl : n = l.length := by omega
        have hinv2 := hinv.out
        rw [List.take_of_length_le (Nat.le_refl _)] at hinv2
        replace hinv := hid hinv2
        clear hinv2 hk hlt
        have ho := hid h.out.1
        go_wp2_with fail
        refine (wlog_t o 4 1 b x wr h.out).mono ?_
        rintro e W ⟨o2, vl, rfl, m, hL⟩
        replace hS := hid (hS.out.mv m (by decide))
        replace hR := hid (hR.out.mv goodDlv m (by decide))
        replace h := hid (h.out.mv m (by decide))
        replace hL := hid hL
        clear m
        obtain ⟨al, kl, rfl, hkl⟩ := hL.out.slice
        go_wp2_with fail
        go_loopw [8, 9] (fun q i wr => ∃ (n j : Nat) (o : Own), q = .int .i64 j ∧ i = .int .i64 n ∧ n ≤ x.log.length ∧ j ≤ l.length ∧ Hid (St w o wr) ∧ Hid (SlR 7 DlvR (Tg o 0) wr l (Value.slice a l.length k)) ∧ Hid (WV (Tg o 1) b x wr) ∧ Hid (SlR 6 CmdR (Tg o 4) wr x.log (Value.slice al x.log.length kl)) ∧ Hid (SubD l x.log j n)) (fun _ i _ => x.log.length - (intOf i).toNat)
        case atStart => exact ⟨0, 0, o2, rfl, rfl, Nat.zero_le _, Nat.zero_le _, hS, hR, h, hL, hid hinv.out.sub⟩
        case round =>
          clear hS hR h hL
          obtain ⟨n, j, o, rfl, rfl, hk, hj, hS, hR, h, hL, hsub⟩ := hrel
          by_cases hlt : n < x.log.length
          · obtain ⟨y, hy⟩ : ∃ y, x.log[n]? = some y := ⟨_, List.getElem?_eq_getElem hlt⟩
            obtain ⟨gb, off, cs, hidx, hSg, hg, hc, hRy⟩ := hL.out.at (P := Try.prog) (t := 36) (by kernel_rfl) (fun _ => by kernel_rfl) hy
            obtain ⟨a3, k3, rfl, hv⟩ := id hRy
            have c0 := hc 0 _ rfl
            rw [Nat.add_zero] at c0
            replace hSg : o gb = 4 := hSg
            have hne := hinv.out.keys y (List.mem_of_getElem? hy)
            have hnk := known_take hinv.out.nd hy
            have md : Mv o wr o wr.drew 99 := Mv.pure (Below.refl _ _).drew o
            have hcall := hid (has_any (x.log.take n) y.key (by rw [List.length_take]; omega) _ _ wr.drew ((hL.out.mv goodCmd md (by decide)).take (k := n) hk))
            rw [hnk] at hcall
            have k1 : n ≤ kl := by omega
            have k2 : (n : Int) ≤ (kl : Int) := by omega
            have k4 : (0 : Int) ≤ (n : Int) := by omega
            have hyk : (y.key == []) = false := by simpa using hne
            obtain ⟨kc, kr, hkey⟩ : ∃ kc kr, y.key = kc :: kr := by
              cases hq : y.key with
              | nil => exact absurd hq hne
              | cons kc kr => exact ⟨kc, kr, rfl⟩
            rw [hkey] at c0 hcall
            replace hy := hid hy
            replace hkey := hid hkey
            clear hc hne hnk hyk hRy hv
            go_wp2_with fail
            go_region_held3 (fun w' => w'.cell? ⟨gb, off, none⟩ = some (sv (kc :: kr))) (first | with_reducible exact c0 | with_reducible exact d3 | go_keep)
              (first | (go_at_call 19; refine hcall.out.mono ?_; rintro e W3 ⟨rfl, hb3⟩; have m3 := Mv.pure hb3 o; have d3 := (World.cell?_of_block (a := ⟨gb, off, none⟩) (hb3.block gb hg)).trans c0))
            replace hS := hid ((hS.out.mv md (by decide)).mv m3 (by decide))
            replace hR := hid ((hR.out.mv goodDlv md (by decide)).mv goodDlv m3 (by decide))
            replace h := hid ((h.out.mv md (by decide)).mv m3 (by decide))
            replace hL := hid ((hL.out.mv goodCmd md (by decide)).mv goodCmd m3 (by decide))
            clear c0 d3 hcall md m3 hidx
            go_wp2_with fail
            go_loopw [8] (fun q wr => ∃ (j : Nat) (o : Own), q = .int .i64 j ∧ j ≤ l.length ∧ Hid (St w o wr) ∧ Hid (SlR 7 DlvR (Tg o 0) wr l (Value.slice a l.length k)) ∧ Hid (WV (Tg o 1) b x wr) ∧ Hid (SlR 6 CmdR (Tg o 4) wr x.log (Value.slice al x.log.length kl)) ∧ Hid (SubD l x.log j n)) (fun q _ => l.length - (intOf q).toNat)
            case atStart => exact ⟨j, o, rfl, hj, hS, hR, h, hL, hsub⟩
            case round =>
              clear hS hR h hL hsub hj
              obtain ⟨j, o, rfl, hj, hS, hR, h, hL, hsub⟩ := hrel
              have hjl := hsub.out.lt hlt
              obtain ⟨d, hd⟩ : ∃ d, l[j]? = some d := ⟨_, List.getElem?_eq_getElem hjl⟩
              obtain ⟨ga, ofa, csa, hidxa, hSa, hga, hca, hRa⟩ := hR.out.at (P := Try.prog) (t := 22) (by kernel_rfl) (fun _ => by kernel_rfl) hd
              obtain ⟨a4, k4', rfl, hva⟩ := hRa
              obtain ⟨gb, off, cs, hidx, hSg, hg, hc, hRy⟩ := hL.out.at (P := Try.prog) (t := 36) (by kernel_rfl) (fun _ => by kernel_rfl) hy.out
              obtain ⟨a3, k3, rfl, hv⟩ := id hRy
              have c0 := hc 0 _ rfl
              have c1 := hc 1 _ rfl
              have c2 := hc 2 _ rfl
              have c3 := hc 3 _ rfl
              have c4 := hc 4 _ rfl
              have c5 := hc 5 _ rfl
              rw [Nat.add_zero] at c0
              have e0 := hca 0 _ rfl
              have e1 := hca 1 _ rfl
              have e2 := hca 2 _ rfl
              have e3 := hca 3 _ rfl
              have e4 := hca 4 _ rfl
              have e5 := hca 5 _ rfl
              rw [Nat.add_zero] at e0
              have md : Mv o wr o wr.drew 99 := Mv.pure (Below.refl _ _).drew o
              have hcall := hid (sameCmd_any d.c y (hl.out.2 d (List.mem_of_getElem? hd)).1 (ho.out.log.2 y (List.mem_of_getElem? hy.out)).1 _ _ _ _ wr.drew (goodCmd.mv (i := 0) (cmdR_shut hva) md (by decide)) (goodCmd.mv hRy md (by decide)))
              replace hd := hid hd
              clear hc hca hRy hv hva
              go_wp2_with fail
              go_region_held3 (fun w' => w'.cell? ⟨ga, ofa, none⟩ = some (sv d.c.key) ∧ w'.cell? ⟨ga, ofa + 1, none⟩ = some (iv d.c.kind) ∧ w'.cell? ⟨ga, ofa + 2, none⟩ = some (sv d.c.of) ∧ w'.cell? ⟨ga, ofa + 3, none⟩ = some (sv d.c.new) ∧ w'.cell? ⟨ga, ofa + 4, none⟩ = some (sv d.c.name) ∧ w'.cell? ⟨ga, ofa + 5, none⟩ = some (.slice a4 d.c.args.length k4') ∧ w'.cell? ⟨gb, off, none⟩ = some (sv y.key) ∧ w'.cell? ⟨gb, off + 1, none⟩ = some (iv y.kind) ∧ w'.cell? ⟨gb, off + 2, none⟩ = some (sv y.of) ∧ w'.cell? ⟨gb, off + 3, none⟩ = some (sv y.new) ∧ w'.cell? ⟨gb, off + 4, none⟩ = some (sv y.name) ∧ w'.cell? ⟨gb, off + 5, none⟩ = some (.slice a3 y.args.length k3)) (first | exact ⟨e0, e1, e2, e3, e4, e5, c0, c1, c2, c3, c4, c5⟩ | exact q3 | go_keep)
                (first | (go_at_call 21; refine hcall.out.mono ?_; rintro e W3 ⟨rfl, hb3⟩; have m3 := Mv.pure hb3 o; have hbka := hb3.block ga hga; have hbkb := hb3.block gb hg; have q3 : _ ∧ _ ∧ _ ∧ _ ∧ _ ∧ _ ∧ _ ∧ _ ∧ _ ∧ _ ∧ _ ∧ _ := ⟨(World.cell?_of_block (a := ⟨ga, ofa, none⟩) hbka).trans e0, (World.cell?_of_block (a := ⟨ga, ofa + 1, none⟩) hbka).trans e1, (World.cell?_of_block (a := ⟨ga, ofa + 2, none⟩) hbka).trans e2, (World.cell?_of_block (a := ⟨ga, ofa + 3, none⟩) hbka).trans e3, (World.cell?_of_block (a := ⟨ga, ofa + 4, none⟩) hbka).trans e4, (World.cell?_of_block (a := ⟨ga, ofa + 5, none⟩) hbka).trans e5, (World.cell?_of_block (a := ⟨gb, off, none⟩) hbkb).trans c0, (World.cell?_of_block (a := ⟨gb, off + 1, none⟩) hbkb).trans c1, (World.cell?_of_block (a := ⟨gb, off + 2, none⟩) hbkb).trans c2, (World.cell?_of_block (a := ⟨gb, off + 3, none⟩) hbkb).trans c3, (World.cell?_of_block (a := ⟨gb, off + 4, none⟩) hbkb).trans c4, (World.cell?_of_block (a := ⟨gb, off + 5, none⟩) hbkb).trans c5⟩))
              replace hS := hid ((hS.out.mv md (by decide)).mv m3 (by decide))
              replace hR := hid ((hR.out.mv goodDlv md (by decide)).mv goodDlv m3 (by decide))
              replace h := hid ((h.out.mv md (by decide)).mv m3 (by decide))
              replace hL := hid ((hL.out.mv goodCmd md (by decide)).mv goodCmd m3 (by decide))
              clear c0 c1 c2 c3 c4 c5 e0 e1 e2 e3 e4 e5 q3 hcall md m3 hidx hidxa hb3 hbka hbkb
              by_cases heq : d.c = y
              · rw [dec_true heq]
                have hjn : ((j : Int) == (l.length : Int)) = false := by simp; omega
                have hjn2 : (j == l.length) = false := by simp; omega
                replace hsub := hid hsub.out.up
                go_wp2_with fail
                exact ⟨⟨n + 1, j, o, rfl, by go_num, by omega, hj, hS, hR, h, hL, hsub⟩, by simp [intOf]; omega⟩
              · rw [dec_false heq]
                replace hsub := hid (hsub.out.next hy.out hd.out heq)
                go_wp2_with fail
                exact ⟨⟨j + 1, o, by go_num, by omega, hS, hR, h, hL, hsub⟩, by simp [intOf]; omega⟩
          · obtain rfl : n = x.log.length := by omega
            clear hlt hk hsub hR
            have hlog := ho.out.log
            have hcall := fold_any [] x.log (by simp; omega) (fun o h => by simp at h) (fun c hc => (hlog.2 c hc).1) (fun _ => False) _ (.slice none 0 0) _ wr (SlR.nil _ _ _ _ _) hL.out
            rw [hinv.out.fold] at hcall
            replace hcall := hid hcall
            clear hlog
            go_wp2_with fail
            refine hcall.out.mono ?_
            rintro e W3 ⟨v3, rfl, hO, hb3⟩
            have m3 := Mv.new hb3 o 6
            have hN := hid (((hO.sl goodOut).mono goodOut (T := Tg (upd o wr.heap.size 6) 6) (fun q _ hq => upd_ge hq)))
            replace hS := hid (hS.out.mv m3 (by decide))
            replace h := hid (h.out.mv m3 (by decide))
            obtain ⟨an, kn, rfl, -⟩ := hN.out.slice
            clear hcall hb3 m3 hO hL
            go_wp2_with fail
            refine (wnet_t _ 7 1 b x W3 h.out).mono ?_
            rintro e W4 ⟨o4, v4, rfl, m, hK⟩
            replace hS := hid (hS.out.mv m (by decide))
            replace hN := hid (hN.out.mv goodOut m (by decide))
            clear m h
            have hcall := hid (netSame_any x.force ho.out.force.1 hinv.out.force.nd hinv.out.force.len ho.out.force.2 _ _ _ _ W4 hN.out hK)
            obtain ⟨ak, kk, rfl, -⟩ := hK.slice
            go_wp2_with fail
            refine hcall.out.mono ?_
            rintro e W5 ⟨rfl, hb⟩
            have m := Mv.pure hb o4
            replace hS := hid (hS.out.mv m (by decide))
            clear m hb hcall
            go_wp2_with fail
            go_ret
            exact ⟨rfl, hS.out.below⟩
end Go.Proofs.Ythagdeadmoidnaa
