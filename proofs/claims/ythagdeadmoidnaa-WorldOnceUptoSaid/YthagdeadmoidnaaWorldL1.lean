/- WorldRepeats. -/
import Derived.Test.YthagdeadmoidnaaSmall
set_option linter.unusedVariables false
namespace Go.Proofs.Ythagdeadmoidnaa
open Go.RowKit
open Go.Lib (hid)
theorem takeF_len (x : WS) (c : Cmd) : (takeF x c).2.log.length ≤ x.log.length + 1 ∧ (takeF x c).2.force.length ≤ x.force.length + 1 := by
  have := stepF_len x.force c
  unfold takeF
  split
  · exact ⟨by simp, by simp⟩
  · split
    · exact ⟨by simp, by simp⟩
    · split
      · exact ⟨by simp, by simp⟩
      · exact ⟨by simp, this⟩
theorem sendF_len (x : WS) (c : Cmd) (how : Int) : (sendF x c how).2.log.length ≤ x.log.length + 1 ∧ (sendF x c how).2.force.length ≤ x.force.length + 1 := by
  unfold sendF
  split
  · exact ⟨by simp, by simp⟩
  · split
    · exact ⟨by simp, by simp⟩
    · split
      · exact takeF_len x c
      · exact takeF_len x c
theorem sendF_known {x : WS} {c : Cmd} {how : Int} (h : isKnown x.log c.key = true) : sendF x c how = (if how = 2 ∨ how = 3 then -1 else 1, x) := by
  have ht : takeF x c = (1, x) := by unfold takeF; rw [if_pos h]
  unfold sendF
  rw [ht]
  by_cases h3 : how = 3
  · simp [h3]
  · by_cases h1 : how = 1
    · simp [h1, h]
    · by_cases h2 : how = 2
      · simp [h2]
      · simp [h1, h2, h3]
/-- block b of tag i holds obj -/
structure Bx (o : Own) (i b : Nat) (obj : Obj) (w : World) : Prop where
  tag : o b = i
  at_ : w.heap[b]? = some obj
theorem Bx.mv {o o' : Own} {i j b : Nat} {obj : Obj} {w w' : World} (h : Bx o i b obj w) (m : Mv o w o' w' j) (hij : i ≠ j) : Bx o' i b obj w' :=
  ⟨(m.own b (lt_of_some h.at_)).trans h.tag, (m.fr.block b (lt_of_some h.at_) (fun h2 => hij (h.tag.symm.trans h2))).trans h.at_⟩
theorem few_t (l : List Dlv) (hl : DlvsB l) (o : Own) (i : Nat) (v : Value) (w : World) (hx : SlR 7 DlvR (Tg o i) w l v) :
    Calls Try.prog 11 #[v] w fun e w' => ∃ r : Bool, e = .returned (.bool r) ∧ (r = true → l.length ≤ 40) ∧ Mv o w o w' 99 := by
  refine (few_any l hl _ v w hx).mono ?_
  rintro e w' ⟨r, rfl, h, hb⟩
  exact ⟨r, rfl, h, Mv.pure hb o⟩
set_option maxHeartbeats 8000000 in
set_option maxRecDepth 100000 in
theorem WorldRepeats_walk (l : List Dlv) (d : Dlv) (v : Value) (cs : List Value) (w : World) (hl : DlvsB l) (hdb : CmdB d.c) (hr : SlR 7 DlvR (fun _ => True) w l v) (hd : DlvR (fun _ => True) w d cs) :
    Calls Try.prog 4 #[v, .agg cs.toArray] w fun e w' => e = .returned (.bool true) ∧ Below w.heap.size w w' := by
  obtain ⟨a1, k1, rfl, -⟩ := id hd
  have m0 : Mv (fun _ => 0) w (upd (fun _ => 0) w.heap.size 5) (w.alloc (.cells #[sv d.c.key, iv d.c.kind, sv d.c.of, sv d.c.new, sv d.c.name, .slice a1 d.c.args.length k1, iv d.how] 34)) 99 := Mv.new ((Below.refl _ w).alloc (Nat.le_refl _) _) _ 5
  have hS := hid ((St.start w).mv m0 (by decide))
  have hR := hid (SlR.mv goodDlv (i := 0) (hr.mono goodDlv (fun _ _ _ => rfl)) m0 (by decide))
  have hD := hid (goodDlv.mv (i := 0) (goodDlv.mono hd (fun _ _ _ => rfl)) m0 (by decide))
  have hX : Hid (Bx (upd (fun _ => 0) w.heap.size 5) 5 w.heap.size _ (w.alloc (.cells #[sv d.c.key, iv d.c.kind, sv d.c.of, sv d.c.new, sv d.c.name, .slice a1 d.c.args.length k1, iv d.how] 34))) := hid ⟨upd_ge (Nat.le_refl _), heap_alloc_new' _ _⟩
  obtain ⟨a, k, rfl, -⟩ := hr.slice
  have hl1 := hl.1
  replace hl := hid hl
  replace hdb := hid hdb
  clear m0 hr hd
  go_enter Try.func4, Try.ntmps4
  go_wp2_with fail
  generalize (upd (fun _ => 0) w.heap.size 5) = o at *
  generalize (w.alloc (.cells #[sv d.c.key, iv d.c.kind, sv d.c.of, sv d.c.new, sv d.c.name, .slice a1 d.c.args.length k1, iv d.how] 34)) = W at *
  refine (small_any W).mono ?_
  rintro e W2 ⟨rfl, hb⟩
  have m := Mv.pure hb o
  clear hb
  replace hS := hid (hS.out.mv m (by decide))
  replace hR := hid (hR.out.mv goodDlv m (by decide))
  replace hD := hid (goodDlv.mv hD.out m (by decide))
  replace hX := hid (hX.out.mv m (by decide))
  clear m W
  go_wp2_with fail
  refine (wnew_t o 1 W2).mono ?_
  rintro e W ⟨o2, b, rfl, m, h⟩
  replace hS := hid (hS.out.mv m (by decide))
  replace hR := hid (hR.out.mv goodDlv m (by decide))
  replace hD := hid (goodDlv.mv hD.out m (by decide))
  replace hX := hid (hX.out.mv m (by decide))
  replace h := hid h
  clear m W2 o
  generalize o2 = o at *
  go_wp2_with fail
  refine (few_t l hl.out o 0 _ W hR.out).mono ?_
  rintro e W2 ⟨r, rfl, h40, m⟩
  replace hS := hid (hS.out.mv m (by decide))
  replace hR := hid (hR.out.mv goodDlv m (by decide))
  replace hD := hid (goodDlv.mv hD.out m (by decide))
  replace hX := hid (hX.out.mv m (by decide))
  replace h := hid (h.out.mv m (by decide))
  clear m W
  generalize W2 = W at *
  cases r with
  | false =>
    go_wp2_with fail
    go_ret
    exact ⟨rfl, hS.out.below⟩
  | true =>
    replace h40 := h40 rfl
    have x0 : W.cell? ⟨w.heap.size, 0, none⟩ = some (sv d.c.key) := (cell_of hX.out.at_).trans rfl
    have x1 : W.cell? ⟨w.heap.size, 1, none⟩ = some (iv d.c.kind) := (cell_of hX.out.at_).trans rfl
    have x2 : W.cell? ⟨w.heap.size, 2, none⟩ = some (sv d.c.of) := (cell_of hX.out.at_).trans rfl
    have x3 : W.cell? ⟨w.heap.size, 3, none⟩ = some (sv d.c.new) := (cell_of hX.out.at_).trans rfl
    have x4 : W.cell? ⟨w.heap.size, 4, none⟩ = some (sv d.c.name) := (cell_of hX.out.at_).trans rfl
    have x5 : W.cell? ⟨w.heap.size, 5, none⟩ = some (.slice a1 d.c.args.length k1) := (cell_of hX.out.at_).trans rfl
    have x6 : W.cell? ⟨w.heap.size, 6, none⟩ = some (iv d.how) := (cell_of hX.out.at_).trans rfl
    have m : Mv o W (upd o W.heap.size 0) (W.alloc (.cells #[sv d.c.key, iv d.c.kind, sv d.c.of, sv d.c.new, sv d.c.name, .slice a1 d.c.args.length k1, iv d.how] 34)) 99 := Mv.new ((Below.refl _ W).alloc (Nat.le_refl _) _) _ 0
    have hsl := hid (SlR.single (sz := 7) (R := DlvR) (S := Tg (upd o W.heap.size 0) 0) (heap_alloc_new' W (.cells #[sv d.c.key, iv d.c.kind, sv d.c.of, sv d.c.new, sv d.c.name, .slice a1 d.c.args.length k1, iv d.how] 34)) (upd_ge (Nat.le_refl _)) (goodDlv.mv hD.out m (by decide)))
    replace hS := hid (hS.out.mv m (by decide))
    replace hR := hid (hR.out.mv goodDlv m (by decide))
    replace hD := hid (goodDlv.mv hD.out m (by decide))
    replace hX := hid (hX.out.mv m (by decide))
    replace h := hid (h.out.mv m (by decide))
    clear m
    go_wp2_with fail
    clear x0 x1 x2 x3 x4 x5 x6
    generalize (upd o W.heap.size 0) = o3 at *
    refine (few_t [d] ⟨by simp, fun y hy => by rw [List.mem_singleton.1 hy]; exact hdb.out⟩ o3 0 _ _ hsl.out).mono ?_
    rintro e W2 ⟨r, rfl, -, m⟩
    replace hS := hid (hS.out.mv m (by decide))
    replace hR := hid (hR.out.mv goodDlv m (by decide))
    replace hD := hid (goodDlv.mv hD.out m (by decide))
    replace hX := hid (hX.out.mv m (by decide))
    replace h := hid (h.out.mv m (by decide))
    clear m hsl o
    generalize o3 = o at *
    cases r with
    | false =>
      go_wp2_with fail
      go_ret
      exact ⟨rfl, hS.out.below⟩
    | true =>
      go_wp2_with fail
      go_loopw [7] (fun i wr => ∃ (n : Nat) (o : Own) (x : WS), i = .int .i64 n ∧ n ≤ l.length ∧ Hid (St w o wr) ∧ Hid (SlR 7 DlvR (Tg o 0) wr l (Value.slice a l.length k)) ∧ Hid (DlvR (Tg o 0) wr d [sv d.c.key, iv d.c.kind, sv d.c.of, sv d.c.new, sv d.c.name, Value.slice a1 d.c.args.length k1, iv d.how]) ∧
        Hid (Bx o 5 w.heap.size (.cells #[sv d.c.key, iv d.c.kind, sv d.c.of, sv d.c.new, sv d.c.name, .slice a1 d.c.args.length k1, iv d.how] 34) wr) ∧ Hid (WV (Tg o 1) b x wr) ∧ x.log.length ≤ n ∧ x.force.length ≤ n) (fun i _ => l.length - (intOf i).toNat)
      case atStart => exact ⟨0, o, wNew, rfl, Nat.zero_le _, hS, hR, hD, hX, h, Nat.le_refl _, Nat.le_refl _⟩
      case round =>
        clear hS hR hD hX h
        obtain ⟨n, o, x, rfl, hk, hS, hR, hD, hX, h, hxl, hxf⟩ := hrel
        by_cases hlt : n < l.length
        · obtain ⟨y, hy⟩ : ∃ y, l[n]? = some y := ⟨_, List.getElem?_eq_getElem hlt⟩
          obtain ⟨g, off, cs, hidx, -, hg, hc, hRy⟩ := hR.out.at (P := Try.prog) (t := 22) (by kernel_rfl) (fun _ => by kernel_rfl) hy
          obtain ⟨a2, k2, rfl, hv⟩ := hRy
          have c0 := hc 0 _ rfl
          have c1 := hc 1 _ rfl
          have c2 := hc 2 _ rfl
          have c3 := hc 3 _ rfl
          have c4 := hc 4 _ rfl
          have c5 := hc 5 _ rfl
          have c6 := hc 6 _ rfl
          rw [Nat.add_zero] at c0
          have hcb := hid (hl.out.2 y (List.mem_of_getElem? hy))
          have md : Mv o wr o wr.drew 99 := Mv.pure (Below.refl _ _).drew o
          have hcall := hid (send_t o 1 0 (by decide) b x y.c y.how hcb.out _ wr.drew (h.out.mv md (by decide)) (goodCmd.mv (i := 0) (cmdR_shut hv) md (by decide)) (by omega) (by omega))
          replace hS := hid (hS.out.mv md (by decide))
          replace hR := hid (hR.out.mv goodDlv md (by decide))
          replace hD := hid (goodDlv.mv hD.out md (by decide))
          replace hX := hid (hX.out.mv md (by decide))
          clear hc hv hy md h
          go_wp2_with fail
          go_still_tail 11, (by kernel_rfl)
          go_wp2_with fail
          refine hcall.out.mono ?_
          rintro e W ⟨o2, rfl, m, h⟩
          have hlen := sendF_len x y.c y.how
          generalize sendF x y.c y.how = res at *
          clear c0 c1 c2 c3 c4 c5 c6 hcall hidx
          replace hS := hid (hS.out.mv m (by decide))
          replace hR := hid (hR.out.mv goodDlv m (by decide))
          replace hD := hid (goodDlv.mv hD.out m (by decide))
          replace hX := hid (hX.out.mv m (by decide))
          clear m
          go_wp2_with fail
          exact ⟨⟨n + 1, o2, res.2, by go_num, by omega, hS, hR, hD, hX, hid h, by omega, by omega⟩, by simp [intOf]; omega⟩
        · have hkl : n = l.length := by omega
          subst hkl
          have ho := hid h.out.1
          replace hD : Hid (CmdR (Tg o 0) wr d.c (cmdCs d.c (.slice a1 d.c.args.length k1))) := hid (by
            obtain ⟨a9, k9, he, hv⟩ := hD.out
            simp at he
            obtain ⟨rfl, rfl⟩ := he
            exact cmdR_shut hv)
          clear hR
          go_wp2_with fail
          refine (wlog_t o 4 1 b x wr h.out).mono ?_
          rintro e W3 ⟨o3, vl, rfl, m, hL⟩
          replace hS := hid (hS.out.mv m (by decide))
          replace hD := hid (goodCmd.mv hD.out m (by decide))
          replace hX := hid (hX.out.mv m (by decide))
          replace h := hid (h.out.mv m (by decide))
          replace hL := hid hL
          clear m
          go_wp2_with fail
          refine (wnet_t o3 6 1 b x W3 h.out).mono ?_
          rintro e W4 ⟨o4, vn, rfl, m, hN⟩
          replace hS := hid (hS.out.mv m (by decide))
          replace hD := hid (goodCmd.mv hD.out m (by decide))
          replace hX := hid (hX.out.mv m (by decide))
          replace h := hid (h.out.mv m (by decide))
          replace hL := hid (hL.out.mv goodCmd m (by decide))
          replace hN := hid hN
          clear m
          obtain ⟨al, kl, rfl, -⟩ := hL.out.slice
          obtain ⟨an, kn, rfl, -⟩ := hN.out.slice
          have x0 : W4.cell? ⟨w.heap.size, 0, none⟩ = some (sv d.c.key) := (cell_of hX.out.at_).trans rfl
          have x1 : W4.cell? ⟨w.heap.size, 1, none⟩ = some (iv d.c.kind) := (cell_of hX.out.at_).trans rfl
          have x2 : W4.cell? ⟨w.heap.size, 2, none⟩ = some (sv d.c.of) := (cell_of hX.out.at_).trans rfl
          have x3 : W4.cell? ⟨w.heap.size, 3, none⟩ = some (sv d.c.new) := (cell_of hX.out.at_).trans rfl
          have x4 : W4.cell? ⟨w.heap.size, 4, none⟩ = some (sv d.c.name) := (cell_of hX.out.at_).trans rfl
          have x5 : W4.cell? ⟨w.heap.size, 5, none⟩ = some (.slice a1 d.c.args.length k1) := (cell_of hX.out.at_).trans rfl
          have x6 : W4.cell? ⟨w.heap.size, 6, none⟩ = some (iv d.how) := (cell_of hX.out.at_).trans rfl
          go_wp2_with fail
          clear x0 x1 x2 x3 x4 x5 x6
          refine (has_any x.log d.c.key (by have := ho.out.log.1; omega) _ _ W4 hL.out).mono ?_
          rintro e W5 ⟨rfl, hb⟩
          have m := Mv.pure hb o4
          replace hS := hid (hS.out.mv m (by decide))
          replace hD := hid (goodCmd.mv hD.out m (by decide))
          replace hX := hid (hX.out.mv m (by decide))
          replace h := hid (h.out.mv m (by decide))
          replace hL := hid (hL.out.mv goodCmd m (by decide))
          replace hN := hid (hN.out.mv goodOut m (by decide))
          clear m hb
          cases hk : isKnown x.log d.c.key with
          | false =>
            clear hk
            go_wp2_with fail
            go_ret
            exact ⟨rfl, hS.out.below⟩
          | true =>
            have key : ((d.how == 2) = true ∧ sendF x d.c d.how = (-1, x)) ∨ ((d.how == 2) = false ∧ (d.how == 3) = true ∧ sendF x d.c d.how = (-1, x)) ∨ ((d.how == 2) = false ∧ (d.how == 3) = false ∧ sendF x d.c d.how = (1, x)) := by
              rw [sendF_known hk]
              by_cases h2 : d.how = 2
              · exact Or.inl ⟨by simp [h2], by simp [h2]⟩
              · by_cases h3 : d.how = 3
                · exact Or.inr (Or.inl ⟨by simp [h2], by simp [h3], by simp [h3]⟩)
                · exact Or.inr (Or.inr ⟨by simp [h2], by simp [h3], by simp [h2, h3]⟩)
            clear hk
            have x0 : W5.cell? ⟨w.heap.size, 0, none⟩ = some (sv d.c.key) := (cell_of hX.out.at_).trans rfl
            have x1 : W5.cell? ⟨w.heap.size, 1, none⟩ = some (iv d.c.kind) := (cell_of hX.out.at_).trans rfl
            have x2 : W5.cell? ⟨w.heap.size, 2, none⟩ = some (sv d.c.of) := (cell_of hX.out.at_).trans rfl
            have x3 : W5.cell? ⟨w.heap.size, 3, none⟩ = some (sv d.c.new) := (cell_of hX.out.at_).trans rfl
            have x4 : W5.cell? ⟨w.heap.size, 4, none⟩ = some (sv d.c.name) := (cell_of hX.out.at_).trans rfl
            have x5 : W5.cell? ⟨w.heap.size, 5, none⟩ = some (.slice a1 d.c.args.length k1) := (cell_of hX.out.at_).trans rfl
            have x6 : W5.cell? ⟨w.heap.size, 6, none⟩ = some (iv d.how) := (cell_of hX.out.at_).trans rfl
            go_wp2_with fail
            clear x0 x1 x2 x3 x4 x5 x6
            refine (send_t o4 1 0 (by decide) b x d.c d.how hdb.out _ W5 h.out hD.out (by omega) (by omega)).mono ?_
            rintro e W6 ⟨o6, rfl, m, h6⟩
            replace hS := hid (hS.out.mv m (by decide))
            replace hX := hid (hX.out.mv m (by decide))
            replace hL := hid (hL.out.mv goodCmd m (by decide))
            replace hN := hid (hN.out.mv goodOut m (by decide))
            clear m
            rcases key with ⟨q2, hs⟩ | ⟨q2, q3, hs⟩ | ⟨q2, q3, hs⟩
            all_goals
              rw [hs] at h6
              rw [hs]
              replace h : Hid (WV (Tg o6 1) b x _) := hid h6
              clear hs h6
              have x0 : W6.cell? ⟨w.heap.size, 0, none⟩ = some (sv d.c.key) := (cell_of hX.out.at_).trans rfl
              have x1 : W6.cell? ⟨w.heap.size, 1, none⟩ = some (iv d.c.kind) := (cell_of hX.out.at_).trans rfl
              have x2 : W6.cell? ⟨w.heap.size, 2, none⟩ = some (sv d.c.of) := (cell_of hX.out.at_).trans rfl
              have x3 : W6.cell? ⟨w.heap.size, 3, none⟩ = some (sv d.c.new) := (cell_of hX.out.at_).trans rfl
              have x4 : W6.cell? ⟨w.heap.size, 4, none⟩ = some (sv d.c.name) := (cell_of hX.out.at_).trans rfl
              have x5 : W6.cell? ⟨w.heap.size, 5, none⟩ = some (.slice a1 d.c.args.length k1) := (cell_of hX.out.at_).trans rfl
              have x6 : W6.cell? ⟨w.heap.size, 6, none⟩ = some (iv d.how) := (cell_of hX.out.at_).trans rfl
              go_wp2_with fail
              clear x0 x1 x2 x3 x4 x5 x6
              refine (wlog_t o6 7 1 b x W6 h.out).mono ?_
              rintro e W7 ⟨o7, vm, rfl, m, hM⟩
              replace hS := hid (hS.out.mv m (by decide))
              replace h := hid (h.out.mv m (by decide))
              replace hL := hid (hL.out.mv goodCmd m (by decide))
              replace hN := hid (hN.out.mv goodOut m (by decide))
              replace hM := hid hM
              clear m hX
              have hcall := hid (sameCmds_any x.log x.log (by have := ho.out.log.1; omega) (by have := ho.out.log.1; omega) (fun c hc => (ho.out.log.2 c hc).1) (fun c hc => (ho.out.log.2 c hc).1) _ _ _ _ W7 hM.out hL.out)
              rw [dec_true rfl] at hcall
              obtain ⟨am, km, rfl, -⟩ := hM.out.slice
              go_wp2_with fail
              refine hcall.out.mono ?_
              rintro e W8 ⟨rfl, hb⟩
              have m := Mv.pure hb o7
              replace hS := hid (hS.out.mv m (by decide))
              replace h := hid (h.out.mv m (by decide))
              replace hN := hid (hN.out.mv goodOut m (by decide))
              clear m hb hcall
              go_wp2_with fail
              refine (wnet_t o7 8 1 b x W8 h.out).mono ?_
              rintro e W9 ⟨o9, vk, rfl, m, hK⟩
              replace hS := hid (hS.out.mv m (by decide))
              replace hN := hid (hN.out.mv goodOut m (by decide))
              replace hK := hid hK
              clear m
              have hcall := hid (sameOuts_any x.force (by have := ho.out.force.1; omega) ho.out.force.2 _ _ _ _ W9 hK.out hN.out)
              obtain ⟨ak, kk, rfl, -⟩ := hK.out.slice
              go_wp2_with fail
              refine hcall.out.mono ?_
              rintro e W10 ⟨rfl, hb⟩
              have m := Mv.pure hb o9
              replace hS := hid (hS.out.mv m (by decide))
              clear m hb hcall
              go_wp2_with fail
              go_ret
              exact ⟨rfl, hS.out.below⟩
end Go.Proofs.Ythagdeadmoidnaa
