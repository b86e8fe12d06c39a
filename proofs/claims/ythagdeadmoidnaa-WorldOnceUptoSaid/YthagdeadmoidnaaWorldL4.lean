/- WorldTells. -/
import Derived.Test.YthagdeadmoidnaaRefD
set_option linter.unusedVariables false
namespace Go.Proofs.Ythagdeadmoidnaa
open Go.RowKit
open Go.Lib (hid)
theorem wpAnyH_weaken {P : Program} {md : Region.Mode} {ops : Array Oper} {Q : Exit → Act → World → Prop} {S S2 : World → Prop} (hs : ∀ w, S2 w → S w) : ∀ {fuel : Nat} {listed : Array Bool} {a : Act} {w : World}, wpAnyH P md ops Q S2 fuel listed a w → wpAnyH P md ops Q S fuel listed a w
  | 0, _, _, _, h => h
  | fuel + 1, _, _, _, h => ⟨h.1, fun i hi => wpOp_mono (fun a' w' h' => ⟨hs w' h'.1, wpAnyH_weaken hs h'.2⟩) (h.2 i hi)⟩
theorem fold_send {x : WS} (h : foldF [] x.log = (0, x.force)) (c : Cmd) (how : Int) : foldF [] (sendF x c how).2.log = (0, (sendF x c how).2.force) := by
  have ht : foldF [] (takeF x c).2.log = (0, (takeF x c).2.force) := by
    unfold takeF
    split
    · exact h
    · split
      · exact h
      · split
        · exact h
        · rename_i he
          have he : (stepF x.force c).1 = 0 := by simpa using he
          show foldF [] (x.log ++ [c]) = _
          rw [foldF_append, h, if_pos rfl, foldF_one, if_pos he]
  unfold sendF
  split
  · exact h
  · split
    · exact h
    · split
      · exact ht
      · exact ht
theorem RWV.mv {o o' : Own} {w w' : World} {i t j b : Nat} {log : List Cmd} (h : RWV (Tg o i) (Tg o t) b log w) (m : Mv o w o' w' j) (hi : i ≠ j) (ht : t ≠ j) : RWV (Tg o' i) (Tg o' t) b log w' :=
  h.move (fun k hk hs => ⟨(m.own k hk).trans hs, m.fr.block k hk (fun h2 => hi (Eq.trans (Eq.symm hs) h2))⟩) (fun k hk hs => ⟨(m.own k hk).trans hs, m.fr.block k hk (fun h2 => ht (Eq.trans (Eq.symm hs) h2))⟩)
theorem rnew_t (o : Own) (i t : Nat) (w : World) : Calls Try.prog 10 #[] w fun e w' => ∃ o' b, e = .returned (pt b) ∧ Mv o w o' w' 99 ∧ RWV (Tg o' i) (Tg o' t) b [] w' := by
  refine (rnew_any (fun _ => False) w).mono ?_
  rintro e w' ⟨rfl, h, hb⟩
  exact ⟨_, _, rfl, Mv.new hb o i, h.move (fun k _ hk => ⟨upd_ge hk, rfl⟩) (fun k _ hk => hk.elim)⟩
theorem rsend_t (o : Own) (i t : Nat) (hit : i ≠ t) (b : Nat) (x : WS) (c : Cmd) (how : Int) (hc : CmdB c) (hfold : foldF [] x.log = (0, x.force)) (cs : List Value) (w : World) (h : RWV (Tg o i) (Tg o t) b x.log w) (hrc : CmdR (Tg o t) w c cs) (hl : x.log.length + 1 ≤ 100000) (hf : x.force.length + 1 ≤ 100000) :
    Calls Try.prog 13 #[pt b, .agg cs.toArray, iv how] w fun e w' => ∃ o', e = .returned (iv (sendF x c how).1) ∧ Mv o w o' w' i ∧ RWV (Tg o' i) (Tg o' t) b (sendF x c how).2.log w' := by
  refine (rsend_any (fun k => (o k = i ∧ k < w.heap.size) ∨ w.heap.size ≤ k) (fun k => o k = t ∧ k < w.heap.size) (fun k hk h => ?_) b x c how hc hfold hl hf cs w (fun k hk => Or.inr hk) (h.move (fun k hk h => ⟨Or.inl ⟨h, hk⟩, rfl⟩) (fun k hk h => ⟨⟨h, hk⟩, rfl⟩)) (goodCmd.mono hrc (fun k hk h => ⟨h, hk⟩))).mono ?_
  · rcases h with h | h
    · exact hit (h.1.symm.trans hk.1)
    · omega
  · rintro e w' ⟨rfl, h2, hfr⟩
    refine ⟨upd o w.heap.size i, rfl, ⟨⟨hfr.os, hfr.tape, hfr.output, hfr.size, fun k hk hn => hfr.block k hk (fun h => ?_)⟩, fun k hk => upd_lt hk⟩, h2.move (fun k hk h => ⟨?_, rfl⟩) (fun k hk h => ⟨(upd_lt h.2).trans h.1, rfl⟩)⟩
    · rcases h with h | h
      · exact hn h.1
      · omega
    · rcases h with h | h
      · exact (upd_lt h.2).trans h.1
      · exact upd_ge h
set_option maxHeartbeats 8000000 in
set_option maxRecDepth 100000 in
theorem WorldTells_walk (l : List Dlv) (v : Value) (w : World) (hl : DlvsB l) (hr : SlR 7 DlvR (fun _ => True) w l v) :
    Calls Try.prog 3 #[v] w fun e w' => e = .returned (.bool true) ∧ Below w.heap.size w w' := by
  have hS := hid (St.start w)
  have hR := hid (hr.mono goodDlv (T := Tg (fun _ => 0) 0) (fun _ _ _ => rfl))
  obtain ⟨a, k, rfl, -⟩ := hr.slice
  have hl1 := hl.1
  replace hl := hid hl
  clear hr
  go_enter Try.func3, Try.ntmps3
  go_wp2_with fail
  refine (small_any w).mono ?_
  rintro e W ⟨rfl, hb⟩
  have m := Mv.pure hb (fun _ => 0)
  clear hb
  replace hS := hid (hS.out.mv m (by decide))
  replace hR := hid (hR.out.mv goodDlv m (by decide))
  clear m
  go_wp2_with fail
  refine (wnew_t (fun _ => 0) 1 W).mono ?_
  rintro e W2 ⟨o, b, rfl, m, h⟩
  replace hS := hid (hS.out.mv m (by decide))
  replace hR := hid (hR.out.mv goodDlv m (by decide))
  replace h := hid h
  clear m W
  go_wp2_with fail
  refine (rnew_t o 2 0 W2).mono ?_
  rintro e W ⟨o2, b2, rfl, m, g⟩
  replace hS := hid (hS.out.mv m (by decide))
  replace hR := hid (hR.out.mv goodDlv m (by decide))
  replace h := hid (h.out.mv m (by decide))
  replace g := hid g
  clear m W2 o
  generalize o2 = o at *
  go_wp2_with fail
  refine (few_t l hl.out o 0 _ W hR.out).mono ?_
  rintro e W2 ⟨r, rfl, h40, m⟩
  replace hS := hid (hS.out.mv m (by decide))
  replace hR := hid (hR.out.mv goodDlv m (by decide))
  replace h := hid (h.out.mv m (by decide))
  replace g := hid (g.out.mv m (by decide) (by decide))
  clear m W
  cases r with
  | false =>
    go_wp2_with fail
    go_ret
    exact ⟨rfl, hS.out.below⟩
  | true =>
    replace h40 := h40 rfl
    go_wp2_with fail
    go_loopw [6] (fun i wr => ∃ (n : Nat) (o : Own) (x : WS), i = .int .i64 n ∧ n ≤ l.length ∧ Hid (St w o wr) ∧ Hid (SlR 7 DlvR (Tg o 0) wr l (Value.slice a l.length k)) ∧ Hid (WV (Tg o 1) b x wr) ∧ Hid (RWV (Tg o 2) (Tg o 0) b2 x.log wr) ∧ Hid (foldF [] x.log = (0, x.force)) ∧ x.log.length ≤ n ∧ x.force.length ≤ n) (fun i _ => l.length - (intOf i).toNat)
    case atStart => exact ⟨0, o, wNew, rfl, Nat.zero_le _, hS, hR, h, g, hid rfl, Nat.le_refl _, Nat.le_refl _⟩
    case round =>
      clear hS hR h g
      obtain ⟨n, o, x, rfl, hk, hS, hR, h, g, hfo, hxl, hxf⟩ := hrel
      by_cases hlt : n < l.length
      · obtain ⟨y, hy⟩ : ∃ y, l[n]? = some y := ⟨_, List.getElem?_eq_getElem hlt⟩
        obtain ⟨gb, off, cs, hidx, hSg, hg, hc, hRy⟩ := hR.out.at (P := Try.prog) (t := 22) (by kernel_rfl) (fun _ => by kernel_rfl) hy
        obtain ⟨a3, k3, rfl, hv⟩ := hRy
        have c0 := hc 0 _ rfl
        have c1 := hc 1 _ rfl
        have c2 := hc 2 _ rfl
        have c3 := hc 3 _ rfl
        have c4 := hc 4 _ rfl
        have c5 := hc 5 _ rfl
        have c6 := hc 6 _ rfl
        rw [Nat.add_zero] at c0
        replace hSg : o gb = 0 := hSg
        have hcb := hid (hl.out.2 y (List.mem_of_getElem? hy))
        have md : Mv o wr o wr.drew 99 := Mv.pure (Below.refl _ _).drew o
        have hcall1 := hid (send_t o 1 0 (by decide) b x y.c y.how hcb.out _ wr.drew (h.out.mv md (by decide)) (goodCmd.mv (i := 0) (cmdR_shut hv) md (by decide)) (by omega) (by omega))
        have hfo2 := hid (fold_send hfo.out y.c y.how)
        have hlen := sendF_len x y.c y.how
        have hrs := fun o2 W m g h1 h2 => rsend_t o2 2 0 (by decide) b2 x y.c y.how hcb.out hfo.out (cmdCs y.c (.slice a3 y.c.args.length k3)) W (RWV.mv (o := o) (w := wr.drew) (j := 1) g m (by decide) (by decide)) h1 h2 (by omega)
        generalize sendF x y.c y.how = res at *
        have hxo := hid h.out.1
        replace hrs := hid hrs
        replace hlen := hid hlen
        clear hc hy
        go_wp2_with fail
        refine wp_region_held_drew (S := (fun w' => w'.cell? ⟨gb, off, none⟩ = some (sv y.c.key) ∧ w'.cell? ⟨gb, off + 1, none⟩ = some (iv y.c.kind) ∧ w'.cell? ⟨gb, off + 2, none⟩ = some (sv y.c.of) ∧ w'.cell? ⟨gb, off + 3, none⟩ = some (sv y.c.new) ∧ w'.cell? ⟨gb, off + 4, none⟩ = some (sv y.c.name) ∧ w'.cell? ⟨gb, off + 5, none⟩ = some (.slice a3 y.c.args.length k3) ∧ w'.cell? ⟨gb, off + 6, none⟩ = some (iv y.how))) (by kernel_rfl) ?_ (fun hHeld => ?_)
        · exact ⟨c0, c1, c2, c3, c4, c5, c6⟩
        refine wpAnyH_take (i := 0) (oi := ⟨_, _, _, _, _, _⟩) (v := ?_) rfl (by kernel_rfl) (by kernel_rfl) (by kernel_rfl) (fun _ _ _ h => h) (Or.inl ⟨by rfl, ?hy⟩) (by assumption) ?_
        case hy =>
          intro w hSw
          (try dsimp only at hSw)
          go_simp
          all_goals with_reducible rfl
        try simp only [Act.put, List.setIfInBounds_toArray, List.set_cons_zero, List.set_cons_succ]
        refine wpAnyH_take (i := 1) (oi := ⟨_, _, _, _, _, _⟩) (v := ?_) rfl (by kernel_rfl) (by kernel_rfl) (by kernel_rfl) (fun _ _ _ h => h) (Or.inl ⟨by rfl, ?hy⟩) (by assumption) ?_
        case hy =>
          intro w hSw
          (try dsimp only at hSw)
          go_simp
          all_goals with_reducible rfl
        try simp only [Act.put, List.setIfInBounds_toArray, List.set_cons_zero, List.set_cons_succ]
        refine wpAnyH_take (i := 2) (oi := ⟨_, _, _, _, _, _⟩) (v := ?_) rfl (by kernel_rfl) (by kernel_rfl) (by kernel_rfl) (fun _ _ _ h => h) (Or.inl ⟨by rfl, ?hy⟩) (by assumption) ?_
        case hy =>
          intro w hSw
          (try dsimp only at hSw)
          go_simp
          all_goals with_reducible rfl
        try simp only [Act.put, List.setIfInBounds_toArray, List.set_cons_zero, List.set_cons_succ]
        refine wpAnyH_take (i := 3) (oi := ⟨_, _, _, _, _, _⟩) (v := ?_) rfl (by kernel_rfl) (by kernel_rfl) (by kernel_rfl) (fun _ _ _ h => h) (Or.inl ⟨by rfl, ?hy⟩) (by assumption) ?_
        case hy =>
          intro w hSw
          (try dsimp only at hSw)
          go_simp
          all_goals with_reducible rfl
        try simp only [Act.put, List.setIfInBounds_toArray, List.set_cons_zero, List.set_cons_succ]
        refine wpAnyH_take (i := 4) (oi := ⟨_, _, _, _, _, _⟩) (v := ?_) rfl (by kernel_rfl) (by kernel_rfl) (by kernel_rfl) (fun _ _ _ h => h) (Or.inl ⟨by rfl, ?hy⟩) (by assumption) ?_
        case hy =>
          intro w hSw
          (try dsimp only at hSw)
          go_simp
          all_goals with_reducible rfl
        try simp only [Act.put, List.setIfInBounds_toArray, List.set_cons_zero, List.set_cons_succ]
        refine wpAnyH_take (i := 5) (oi := ⟨_, _, _, _, _, _⟩) (v := ?_) rfl (by kernel_rfl) (by kernel_rfl) (by kernel_rfl) (fun _ _ _ h => h) (Or.inl ⟨by rfl, ?hy⟩) (by assumption) ?_
        case hy =>
          intro w hSw
          (try dsimp only at hSw)
          go_simp
          all_goals with_reducible rfl
        try simp only [Act.put, List.setIfInBounds_toArray, List.set_cons_zero, List.set_cons_succ]
        refine wpAnyH_take (i := 6) (oi := ⟨_, _, _, _, _, _⟩) (v := ?_) rfl (by kernel_rfl) (by kernel_rfl) (by kernel_rfl) (fun _ _ _ h => h) (Or.inl ⟨by rfl, ?hy⟩) (by assumption) ?_
        case hy =>
          intro w hSw
          (try dsimp only at hSw)
          go_simp
          all_goals with_reducible rfl
        try simp only [Act.put, List.setIfInBounds_toArray, List.set_cons_zero, List.set_cons_succ]
        refine wpAnyH_take (i := 7) (oi := ⟨_, _, _, _, _, _⟩) (v := ?_) rfl (by kernel_rfl) (by kernel_rfl) (by kernel_rfl) (fun _ _ _ h => h) (Or.inl ⟨by rfl, ?hy⟩) (by assumption) ?_
        case hy =>
          intro w hSw
          (try dsimp only at hSw)
          go_simp
          all_goals with_reducible rfl
        try simp only [Act.put, List.setIfInBounds_toArray, List.set_cons_zero, List.set_cons_succ]
        refine wpAnyH_take (i := 8) (oi := ⟨_, _, _, _, _, _⟩) (v := ?_) rfl (by kernel_rfl) (by kernel_rfl) (by kernel_rfl) (fun _ _ _ h => h) (Or.inl ⟨by rfl, ?hy⟩) (by assumption) ?_
        case hy =>
          intro w hSw
          (try dsimp only at hSw)
          go_simp
          all_goals with_reducible rfl
        try simp only [Act.put, List.setIfInBounds_toArray, List.set_cons_zero, List.set_cons_succ]
        refine wpAnyH_take (i := 9) (oi := ⟨_, _, _, _, _, _⟩) (v := ?_) rfl (by kernel_rfl) (by kernel_rfl) (by kernel_rfl) (fun _ _ _ h => h) (Or.inl ⟨by rfl, ?hy⟩) (by assumption) ?_
        case hy =>
          intro w hSw
          (try dsimp only at hSw)
          go_simp
          all_goals with_reducible rfl
        try simp only [Act.put, List.setIfInBounds_toArray, List.set_cons_zero, List.set_cons_succ]
        refine wpAnyH_take (i := 10) (oi := ⟨_, _, _, _, _, _⟩) (v := ?_) rfl (by kernel_rfl) (by kernel_rfl) (by kernel_rfl) (fun _ _ _ h => h) (Or.inl ⟨by rfl, ?hy⟩) (by assumption) ?_
        case hy =>
          intro w hSw
          (try dsimp only at hSw)
          go_simp
          all_goals with_reducible rfl
        try simp only [Act.put, List.setIfInBounds_toArray, List.set_cons_zero, List.set_cons_succ]
        refine wpAnyH_take (i := 12) (oi := ⟨_, _, _, _, _, _⟩) (v := ?_) rfl (by kernel_rfl) (by kernel_rfl) (by kernel_rfl) (fun _ _ _ h => h) (Or.inl ⟨by rfl, ?hy⟩) (by assumption) ?_
        case hy =>
          intro w hSw
          (try dsimp only at hSw)
          go_simp
          all_goals with_reducible rfl
        try simp only [Act.put, List.setIfInBounds_toArray, List.set_cons_zero, List.set_cons_succ]
        refine wpAnyH_take (i := 13) (oi := ⟨_, _, _, _, _, _⟩) (v := ?_) rfl (by kernel_rfl) (by kernel_rfl) (by kernel_rfl) (fun _ _ _ h => h) (Or.inl ⟨by rfl, ?hy⟩) (by assumption) ?_
        case hy =>
          intro w hSw
          (try dsimp only at hSw)
          go_simp
          all_goals with_reducible rfl
        try simp only [Act.put, List.setIfInBounds_toArray, List.set_cons_zero, List.set_cons_succ]
        refine wpAnyH_take (i := 14) (oi := ⟨_, _, _, _, _, _⟩) (v := ?_) rfl (by kernel_rfl) (by kernel_rfl) (by kernel_rfl) (fun _ _ _ h => h) (Or.inl ⟨by rfl, ?hy⟩) (by assumption) ?_
        case hy =>
          intro w hSw
          (try dsimp only at hSw)
          go_simp
          all_goals with_reducible rfl
        try simp only [Act.put, List.setIfInBounds_toArray, List.set_cons_zero, List.set_cons_succ]
        refine wpAnyH_take (i := 15) (oi := ⟨_, _, _, _, _, _⟩) (v := ?_) rfl (by kernel_rfl) (by kernel_rfl) (by kernel_rfl) (fun _ _ _ h => h) (Or.inl ⟨by rfl, ?hy⟩) (by assumption) ?_
        case hy =>
          intro w hSw
          (try dsimp only at hSw)
          go_simp
          all_goals with_reducible rfl
        try simp only [Act.put, List.setIfInBounds_toArray, List.set_cons_zero, List.set_cons_succ]
        refine wpAnyH_take (i := 16) (oi := ⟨_, _, _, _, _, _⟩) (v := ?_) rfl (by kernel_rfl) (by kernel_rfl) (by kernel_rfl) (fun _ _ _ h => h) (Or.inl ⟨by rfl, ?hy⟩) (by assumption) ?_
        case hy =>
          intro w hSw
          (try dsimp only at hSw)
          go_simp
          all_goals with_reducible rfl
        try simp only [Act.put, List.setIfInBounds_toArray, List.set_cons_zero, List.set_cons_succ]
        refine wpAnyH_take (i := 17) (oi := ⟨_, _, _, _, _, _⟩) (v := ?_) rfl (by kernel_rfl) (by kernel_rfl) (by kernel_rfl) (fun _ _ _ h => h) (Or.inl ⟨by rfl, ?hy⟩) (by assumption) ?_
        case hy =>
          intro w hSw
          (try dsimp only at hSw)
          go_simp
          all_goals with_reducible rfl
        try simp only [Act.put, List.setIfInBounds_toArray, List.set_cons_zero, List.set_cons_succ]
        refine wpAnyH_take (i := 18) (oi := ⟨_, _, _, _, _, _⟩) (v := ?_) rfl (by kernel_rfl) (by kernel_rfl) (by kernel_rfl) (fun _ _ _ h => h) (Or.inl ⟨by rfl, ?hy⟩) (by assumption) ?_
        case hy =>
          intro w hSw
          (try dsimp only at hSw)
          go_simp
          all_goals with_reducible rfl
        try simp only [Act.put, List.setIfInBounds_toArray, List.set_cons_zero, List.set_cons_succ]
        refine wpAnyH_take (i := 19) (oi := ⟨_, _, _, _, _, _⟩) (v := ?_) rfl (by kernel_rfl) (by kernel_rfl) (by kernel_rfl) (fun _ _ _ h => h) (Or.inl ⟨by rfl, ?hy⟩) (by assumption) ?_
        case hy =>
          intro w hSw
          (try dsimp only at hSw)
          go_simp
          all_goals with_reducible rfl
        try simp only [Act.put, List.setIfInBounds_toArray, List.set_cons_zero, List.set_cons_succ]
        refine wpAnyH_take (i := 20) (oi := ⟨_, _, _, _, _, _⟩) (v := ?_) rfl (by kernel_rfl) (by kernel_rfl) (by kernel_rfl) (fun _ _ _ h => h) (Or.inl ⟨by rfl, ?hy⟩) (by assumption) ?_
        case hy =>
          intro w hSw
          (try dsimp only at hSw)
          go_simp
          all_goals with_reducible rfl
        try simp only [Act.put, List.setIfInBounds_toArray, List.set_cons_zero, List.set_cons_succ]
        refine wpAnyH_take (i := 21) (oi := ⟨_, _, _, _, _, _⟩) (v := ?_) rfl (by kernel_rfl) (by kernel_rfl) (by kernel_rfl) (fun _ _ _ h => h) (Or.inl ⟨by rfl, ?hy⟩) (by assumption) ?_
        case hy =>
          intro w hSw
          (try dsimp only at hSw)
          go_simp
          all_goals with_reducible rfl
        try simp only [Act.put, List.setIfInBounds_toArray, List.set_cons_zero, List.set_cons_succ]
        refine wpAnyH_take (i := 22) (oi := ⟨_, _, _, _, _, _⟩) (v := ?_) rfl (by kernel_rfl) (by kernel_rfl) (by kernel_rfl) (fun _ _ _ h => h) (Or.inl ⟨by rfl, ?hy⟩) (by assumption) ?_
        case hy =>
          intro w hSw
          (try dsimp only at hSw)
          go_simp
          all_goals with_reducible rfl
        try simp only [Act.put, List.setIfInBounds_toArray, List.set_cons_zero, List.set_cons_succ]
        refine wpAnyH_ready (rs := [11]) (by kernel_rfl) (by simp) ?_
        refine AllReadyH.cons (o := ⟨_, _, _, _, _, _⟩) rfl (fun K hK => ?_) AllReadyH.nil
        go_simp
        go_at_call 12; refine hcall1.out.mono ?_; rintro e W2 ⟨o2, rfl, m2, h2⟩; have bk2 : W2.heap[gb]? = wr.heap[gb]? := m2.fr.block gb hg (fun h2 => absurd (hSg.symm.trans h2) (by decide)); have hg2 : gb < W2.heap.size := lt_same hg bk2; have hSg2 : o2 gb = 0 := (m2.own gb hg).trans hSg; have q2 : _ ∧ _ ∧ _ ∧ _ ∧ _ ∧ _ ∧ _ := ⟨(World.cell?_of_block bk2).trans c0, (World.cell?_of_block bk2).trans c1, (World.cell?_of_block bk2).trans c2, (World.cell?_of_block bk2).trans c3, (World.cell?_of_block bk2).trans c4, (World.cell?_of_block bk2).trans c5, (World.cell?_of_block bk2).trans c6⟩
        refine hK.out _ _ ?_ (fun hHeld2 => ?_)
        · exact q2
        clear hK K hHeld
        have hHeld := hHeld2
        clear hHeld2
        try simp only [Act.put, List.setIfInBounds_toArray, List.set_cons_zero, List.set_cons_succ]
        have hrs2 := hrs.out o2 W2 m2 (g.out.mv md (by decide) (by decide)) (goodCmd.mv (i := 0) (goodCmd.mv (i := 0) (cmdR_shut hv) md (by decide)) m2 (by decide)) (by omega)
        refine wpAnyH_ready (rs := [23]) (by kernel_rfl) (by simp) ?_
        refine AllReadyH.cons (o := ⟨_, _, _, _, _, _⟩) rfl (fun K hK => ?_) AllReadyH.nil
        go_simp
        go_at_call 13; refine hrs2.mono ?_; rintro e W3 ⟨o3, rfl, m3, g3⟩; have bk3 : W3.heap[gb]? = W2.heap[gb]? := m3.fr.block gb hg2 (fun h2 => absurd (hSg2.symm.trans h2) (by decide)); have hg3 : gb < W3.heap.size := lt_same hg2 bk3; have hSg3 : o3 gb = 0 := (m3.own gb hg2).trans hSg2; have q3 : _ ∧ _ ∧ _ ∧ _ ∧ _ ∧ _ ∧ _ := ⟨(World.cell?_of_block bk3).trans q2.1, (World.cell?_of_block bk3).trans q2.2.1, (World.cell?_of_block bk3).trans q2.2.2.1, (World.cell?_of_block bk3).trans q2.2.2.2.1, (World.cell?_of_block bk3).trans q2.2.2.2.2.1, (World.cell?_of_block bk3).trans q2.2.2.2.2.2.1, (World.cell?_of_block bk3).trans q2.2.2.2.2.2.2⟩; have h3 := h2.mv m3 (by decide); obtain ⟨vr3, hbr3, hsr3⟩ := g3.open (fun k h1 h2 => absurd (Eq.trans (Eq.symm h1) h2) (by decide)); obtain ⟨ar3, kr3, rfl, -⟩ := hsr3.slice; have hb2l := lt_of_some hbr3; have hSb2 : o3 b2 = 2 := by { obtain ⟨_, _, _, h9, _⟩ := g3; exact h9 }; have z3 : W3.cell? ⟨b2, 0, none⟩ = some (.slice ar3 res.2.log.length kr3) := (cell_of (i := 0) hbr3).trans rfl; have hwo := h3.1; have hol : res.2.force.length ≤ 1048576 := by { have := hwo.force.1; omega }; have hoB := hwo.force.2; have hll : res.2.log.length ≤ 100000 := hwo.log.1; have hcB := fun c hc => (hwo.log.2 c hc).1
        refine hK.out _ _ ?_ (fun hHeld2 => ?_)
        · exact q3
        clear hK K hHeld
        have hHeld := hHeld2
        clear hHeld2
        try simp only [Act.put, List.setIfInBounds_toArray, List.set_cons_zero, List.set_cons_succ]
        refine wpAnyH_weaken (S2 := (fun w' => (w'.cell? ⟨gb, off, none⟩ = some (sv y.c.key) ∧ w'.cell? ⟨gb, off + 1, none⟩ = some (iv y.c.kind) ∧ w'.cell? ⟨gb, off + 2, none⟩ = some (sv y.c.of) ∧ w'.cell? ⟨gb, off + 3, none⟩ = some (sv y.c.new) ∧ w'.cell? ⟨gb, off + 4, none⟩ = some (sv y.c.name) ∧ w'.cell? ⟨gb, off + 5, none⟩ = some (.slice a3 y.c.args.length k3) ∧ w'.cell? ⟨gb, off + 6, none⟩ = some (iv y.how)) ∧ w'.cell? ⟨b2, 0, none⟩ = some (.slice ar3 res.2.log.length kr3))) (fun w h => h.1) ?_
        replace hHeld : (_ ∧ _ ∧ _ ∧ _ ∧ _ ∧ _ ∧ _) ∧ _ := ⟨q3, z3⟩
        refine wpAnyH_take (i := 24) (oi := ⟨_, _, _, _, _, _⟩) (v := ?_) rfl (by kernel_rfl) (by kernel_rfl) (by kernel_rfl) (fun _ _ _ h => h) (Or.inl ⟨by rfl, ?hy⟩) (by assumption) ?_
        case hy =>
          intro w hSw
          (try dsimp only at hSw)
          go_simp
          all_goals with_reducible rfl
        try simp only [Act.put, List.setIfInBounds_toArray, List.set_cons_zero, List.set_cons_succ]
        refine wpAnyH_take (i := 25) (oi := ⟨_, _, _, _, _, _⟩) (v := ?_) rfl (by kernel_rfl) (by kernel_rfl) (by kernel_rfl) (fun _ _ _ h => h) (Or.inl ⟨by rfl, ?hy⟩) (by assumption) ?_
        case hy =>
          intro w hSw
          (try dsimp only at hSw)
          go_simp
          all_goals with_reducible rfl
        try simp only [Act.put, List.setIfInBounds_toArray, List.set_cons_zero, List.set_cons_succ]
        refine wpAnyH_take (i := 26) (oi := ⟨_, _, _, _, _, _⟩) (v := ?_) rfl (by kernel_rfl) (by kernel_rfl) (by kernel_rfl) (fun _ _ _ h => h) (Or.inl ⟨by rfl, ?hy⟩) (by assumption) ?_
        case hy =>
          intro w hSw
          (try dsimp only at hSw)
          go_simp
          all_goals with_reducible rfl
        try simp only [Act.put, List.setIfInBounds_toArray, List.set_cons_zero, List.set_cons_succ]
        refine wpAnyH_take (i := 28) (oi := ⟨_, _, _, _, _, _⟩) (v := ?_) rfl (by kernel_rfl) (by kernel_rfl) (by kernel_rfl) (fun _ _ _ h => h) (Or.inl ⟨by rfl, ?hy⟩) (by assumption) ?_
        case hy =>
          intro w hSw
          (try dsimp only at hSw)
          go_simp
          all_goals with_reducible rfl
        try simp only [Act.put, List.setIfInBounds_toArray, List.set_cons_zero, List.set_cons_succ]
        refine wpAnyH_take (i := 29) (oi := ⟨_, _, _, _, _, _⟩) (v := ?_) rfl (by kernel_rfl) (by kernel_rfl) (by kernel_rfl) (fun _ _ _ h => h) (Or.inl ⟨by rfl, ?hy⟩) (by assumption) ?_
        case hy =>
          intro w hSw
          (try dsimp only at hSw)
          go_simp
          all_goals with_reducible rfl
        try simp only [Act.put, List.setIfInBounds_toArray, List.set_cons_zero, List.set_cons_succ]
        refine wpAnyH_take (i := 30) (oi := ⟨_, _, _, _, _, _⟩) (v := ?_) rfl (by kernel_rfl) (by kernel_rfl) (by kernel_rfl) (fun _ _ _ h => h) (Or.inl ⟨by rfl, ?hy⟩) (by assumption) ?_
        case hy =>
          intro w hSw
          (try dsimp only at hSw)
          go_simp
          all_goals with_reducible rfl
        try simp only [Act.put, List.setIfInBounds_toArray, List.set_cons_zero, List.set_cons_succ]
        refine wpAnyH_take (i := 31) (oi := ⟨_, _, _, _, _, _⟩) (v := ?_) rfl (by kernel_rfl) (by kernel_rfl) (by kernel_rfl) (fun _ _ _ h => h) (Or.inl ⟨by rfl, ?hy⟩) (by assumption) ?_
        case hy =>
          intro w hSw
          (try dsimp only at hSw)
          go_simp
          all_goals with_reducible rfl
        try simp only [Act.put, List.setIfInBounds_toArray, List.set_cons_zero, List.set_cons_succ]
        refine wpAnyH_ready (rs := [27]) (by kernel_rfl) (by simp) ?_
        refine AllReadyH.cons (o := ⟨_, _, _, _, _, _⟩) rfl (fun K hK => ?_) AllReadyH.nil
        go_simp
        go_at_call 15; refine (wlog_t o3 4 1 b res.2 W3 h3).mono ?_; rintro e W4 ⟨o4, v4, rfl, m4, hL4⟩; have bk4 : W4.heap[gb]? = W3.heap[gb]? := m4.fr.block gb hg3 (fun h2 => absurd (hSg3.symm.trans h2) (by decide)); have hg4 : gb < W4.heap.size := lt_same hg3 bk4; have hSg4 : o4 gb = 0 := (m4.own gb hg3).trans hSg3; have q4 : _ ∧ _ ∧ _ ∧ _ ∧ _ ∧ _ ∧ _ := ⟨(World.cell?_of_block bk4).trans q3.1, (World.cell?_of_block bk4).trans q3.2.1, (World.cell?_of_block bk4).trans q3.2.2.1, (World.cell?_of_block bk4).trans q3.2.2.2.1, (World.cell?_of_block bk4).trans q3.2.2.2.2.1, (World.cell?_of_block bk4).trans q3.2.2.2.2.2.1, (World.cell?_of_block bk4).trans q3.2.2.2.2.2.2⟩; have h4 := h3.mv m4 (by decide); have g4 := g3.mv m4 (by decide) (by decide); have hbr4 := (m4.fr.block b2 hb2l (fun h2 => absurd (hSb2.symm.trans h2) (by decide))).trans hbr3; have hsr4 := hsr3.fr goodCmd m4.fr (fun k hk h9 => hk.elim (fun e => absurd (Eq.trans (Eq.symm e) h9) (by decide)) (fun e => absurd (Eq.trans (Eq.symm e) h9) (by decide))); have z4 : W4.cell? ⟨b2, 0, none⟩ = some (.slice ar3 res.2.log.length kr3) := (cell_of (i := 0) hbr4).trans rfl; have hb4l := lt_of_some hbr4; obtain ⟨a4, k4, rfl, -⟩ := hL4.slice; have hcS := sameCmds_any res.2.log res.2.log (by omega) (by omega) hcB hcB _ _ _ _ W4 hL4 hsr4; rw [dec_true rfl] at hcS; replace hcS := hid hcS
        refine hK.out _ _ ?_ (fun hHeld2 => ?_)
        · exact ⟨q4, z4⟩
        clear hK K hHeld
        have hHeld := hHeld2
        clear hHeld2
        try simp only [Act.put, List.setIfInBounds_toArray, List.set_cons_zero, List.set_cons_succ]
        refine wpAnyH_ready (rs := [32]) (by kernel_rfl) (by simp) ?_
        refine AllReadyH.cons (o := ⟨_, _, _, _, _, _⟩) rfl (fun K hK => ?_) AllReadyH.nil
        go_simp
        go_at_call 14; refine hcS.out.mono ?_; rintro e W5 ⟨rfl, hb5⟩; have m5 := Mv.pure hb5 o4; have bk5 : W5.heap[gb]? = W4.heap[gb]? := hb5.block gb hg4; have hg5 : gb < W5.heap.size := lt_same hg4 bk5; have q5 : _ ∧ _ ∧ _ ∧ _ ∧ _ ∧ _ ∧ _ := ⟨(World.cell?_of_block bk5).trans q4.1, (World.cell?_of_block bk5).trans q4.2.1, (World.cell?_of_block bk5).trans q4.2.2.1, (World.cell?_of_block bk5).trans q4.2.2.2.1, (World.cell?_of_block bk5).trans q4.2.2.2.2.1, (World.cell?_of_block bk5).trans q4.2.2.2.2.2.1, (World.cell?_of_block bk5).trans q4.2.2.2.2.2.2⟩; have z5 : W5.cell? ⟨b2, 0, none⟩ = some (.slice ar3 res.2.log.length kr3) := (World.cell?_of_block (hb5.block b2 hb4l)).trans z4; have h5 := h4.mv m5 (by decide); have g5 := g4.mv m5 (by decide) (by decide)
        refine hK.out _ _ ?_ (fun hHeld2 => ?_)
        · exact ⟨q5, z5⟩
        clear hK K hHeld
        have hHeld := hHeld2
        clear hHeld2
        try simp only [Act.put, List.setIfInBounds_toArray, List.set_cons_zero, List.set_cons_succ]
        refine wpAnyH_take (i := 33) (oi := ⟨_, _, _, _, _, _⟩) (v := ?_) rfl (by kernel_rfl) (by kernel_rfl) (by kernel_rfl) (fun _ _ _ h => h) (Or.inl ⟨by rfl, ?hy⟩) (by assumption) ?_
        case hy =>
          intro w hSw
          (try dsimp only at hSw)
          go_simp
          all_goals with_reducible rfl
        try simp only [Act.put, List.setIfInBounds_toArray, List.set_cons_zero, List.set_cons_succ]
        refine wpAnyH_take (i := 34) (oi := ⟨_, _, _, _, _, _⟩) (v := ?_) rfl (by kernel_rfl) (by kernel_rfl) (by kernel_rfl) (fun _ _ _ h => h) (Or.inl ⟨by rfl, ?hy⟩) (by assumption) ?_
        case hy =>
          intro w hSw
          (try dsimp only at hSw)
          go_simp
          all_goals with_reducible rfl
        try simp only [Act.put, List.setIfInBounds_toArray, List.set_cons_zero, List.set_cons_succ]
        refine wpAnyH_take (i := 35) (oi := ⟨_, _, _, _, _, _⟩) (v := ?_) rfl (by kernel_rfl) (by kernel_rfl) (by kernel_rfl) (fun _ _ _ h => h) (Or.inl ⟨by rfl, ?hy⟩) (by assumption) ?_
        case hy =>
          intro w hSw
          (try dsimp only at hSw)
          go_simp
          all_goals with_reducible rfl
        try simp only [Act.put, List.setIfInBounds_toArray, List.set_cons_zero, List.set_cons_succ]
        refine wpAnyH_take (i := 36) (oi := ⟨_, _, _, _, _, _⟩) (v := ?_) rfl (by kernel_rfl) (by kernel_rfl) (by kernel_rfl) (fun _ _ _ h => h) (Or.inl ⟨by rfl, ?hy⟩) (by assumption) ?_
        case hy =>
          intro w hSw
          (try dsimp only at hSw)
          go_simp
          all_goals with_reducible rfl
        try simp only [Act.put, List.setIfInBounds_toArray, List.set_cons_zero, List.set_cons_succ]
        refine wpAnyH_take (i := 38) (oi := ⟨_, _, _, _, _, _⟩) (v := ?_) rfl (by kernel_rfl) (by kernel_rfl) (by kernel_rfl) (fun _ _ _ h => h) (Or.inl ⟨by rfl, ?hy⟩) (by assumption) ?_
        case hy =>
          intro w hSw
          (try dsimp only at hSw)
          go_simp
          all_goals with_reducible rfl
        try simp only [Act.put, List.setIfInBounds_toArray, List.set_cons_zero, List.set_cons_succ]
        refine wpAnyH_ready (rs := [37]) (by kernel_rfl) (by simp) ?_
        refine AllReadyH.cons (o := ⟨_, _, _, _, _, _⟩) rfl (fun K hK => ?_) AllReadyH.nil
        go_simp
        go_at_call 17; refine (wnet_t o4 6 1 b res.2 W5 h5).mono ?_; rintro e W6 ⟨o6, v6, rfl, m6, hN6⟩; have bk6 : W6.heap[gb]? = W5.heap[gb]? := m6.fr.block gb hg5 (fun h2 => absurd (hSg4.symm.trans h2) (by decide)); have hg6 : gb < W6.heap.size := lt_same hg5 bk6; have q6 : _ ∧ _ ∧ _ ∧ _ ∧ _ ∧ _ ∧ _ := ⟨(World.cell?_of_block bk6).trans q5.1, (World.cell?_of_block bk6).trans q5.2.1, (World.cell?_of_block bk6).trans q5.2.2.1, (World.cell?_of_block bk6).trans q5.2.2.2.1, (World.cell?_of_block bk6).trans q5.2.2.2.2.1, (World.cell?_of_block bk6).trans q5.2.2.2.2.2.1, (World.cell?_of_block bk6).trans q5.2.2.2.2.2.2⟩; have hbr6 := m6.fr.keep (below_keep hb5 hbr4 hb4l) (fun h9 => absurd ((((m4.own b2 hb2l).trans hSb2).symm).trans h9) (by decide)); have z6 : W6.cell? ⟨b2, 0, none⟩ = some (.slice ar3 res.2.log.length kr3) := (cell_of (i := 0) hbr6).trans rfl; obtain ⟨a6, k6, rfl, -⟩ := hN6.slice; have g6 := g5.mv m6 (by decide) (by decide); have hcN := hid (rnet_any res.2.log (by omega) (Tg o6 2) (Tg o6 0) (fun k h1 h2 => absurd (Eq.trans (Eq.symm h1) h2) (by decide)) b2 W6 g6)
        refine hK.out _ _ ?_ (fun hHeld2 => ?_)
        · exact ⟨q6, z6⟩
        clear hK K hHeld
        have hHeld := hHeld2
        clear hHeld2
        try simp only [Act.put, List.setIfInBounds_toArray, List.set_cons_zero, List.set_cons_succ]
        refine wpAnyH_ready (rs := [39]) (by kernel_rfl) (by simp) ?_
        refine AllReadyH.cons (o := ⟨_, _, _, _, _, _⟩) rfl (fun K hK => ?_) AllReadyH.nil
        go_simp
        go_at_call 18; refine hcN.out.mono ?_; rintro e W7 ⟨v7, rfl, hN7, hb7⟩; rw [hfo2.out] at hN7; have m7 := Mv.pure hb7 o6; have bk7 : W7.heap[gb]? = W6.heap[gb]? := hb7.block gb hg6; have hg7 : gb < W7.heap.size := lt_same hg6 bk7; have q7 : _ ∧ _ ∧ _ ∧ _ ∧ _ ∧ _ ∧ _ := ⟨(World.cell?_of_block bk7).trans q6.1, (World.cell?_of_block bk7).trans q6.2.1, (World.cell?_of_block bk7).trans q6.2.2.1, (World.cell?_of_block bk7).trans q6.2.2.2.1, (World.cell?_of_block bk7).trans q6.2.2.2.2.1, (World.cell?_of_block bk7).trans q6.2.2.2.2.2.1, (World.cell?_of_block bk7).trans q6.2.2.2.2.2.2⟩; have hbr7 := below_keep hb7 hbr6 (lt_of_some hbr6); have z7 : W7.cell? ⟨b2, 0, none⟩ = some (.slice ar3 res.2.log.length kr3) := (cell_of (i := 0) hbr7).trans rfl; obtain ⟨a7, k7, rfl, -⟩ := hN7.slice; have hcO := hid (sameOuts_any res.2.force hol hoB _ _ _ _ W7 (hN6.mv goodOut m7 (by decide)) hN7)
        refine hK.out _ _ ?_ (fun hHeld2 => ?_)
        · exact ⟨q7, z7⟩
        clear hK K hHeld
        have hHeld := hHeld2
        clear hHeld2
        refine wpAnyH_ready (rs := [40]) (by kernel_rfl) (by simp) ?_
        refine AllReadyH.cons (o := ⟨_, _, _, _, _, _⟩) rfl (fun K hK => ?_) AllReadyH.nil
        go_simp
        go_at_call 16; refine hcO.out.mono ?_; rintro e W8 ⟨rfl, hb8⟩; have m8 := Mv.pure hb8 o6; have bk8 : W8.heap[gb]? = W7.heap[gb]? := hb8.block gb hg7; have q8 : _ ∧ _ ∧ _ ∧ _ ∧ _ ∧ _ ∧ _ := ⟨(World.cell?_of_block bk8).trans q7.1, (World.cell?_of_block bk8).trans q7.2.1, (World.cell?_of_block bk8).trans q7.2.2.1, (World.cell?_of_block bk8).trans q7.2.2.2.1, (World.cell?_of_block bk8).trans q7.2.2.2.2.1, (World.cell?_of_block bk8).trans q7.2.2.2.2.2.1, (World.cell?_of_block bk8).trans q7.2.2.2.2.2.2⟩; have hbr8 := below_keep hb8 hbr7 (lt_of_some hbr7); have z8 : W8.cell? ⟨b2, 0, none⟩ = some (.slice ar3 res.2.log.length kr3) := (cell_of (i := 0) hbr8).trans rfl
        refine hK.out _ _ ?_ (fun hHeld2 => ?_)
        · exact ⟨q8, z8⟩
        clear hK K hHeld
        have hHeld := hHeld2
        clear hHeld2
        try simp only [Act.put, List.setIfInBounds_toArray, List.set_cons_zero, List.set_cons_succ]
        refine wpAnyH_take (i := 41) (oi := ⟨_, _, _, _, _, _⟩) (v := ?_) rfl (by kernel_rfl) (by kernel_rfl) (by kernel_rfl) (fun _ _ _ h => h) (Or.inl ⟨by rfl, ?hy⟩) (by assumption) ?_
        case hy =>
          intro w hSw
          (try dsimp only at hSw)
          go_simp
          all_goals with_reducible rfl
        try simp only [Act.put, List.setIfInBounds_toArray, List.set_cons_zero, List.set_cons_succ]
        refine wpAnyH_take (i := 42) (oi := ⟨_, _, _, _, _, _⟩) (v := ?_) rfl (by kernel_rfl) (by kernel_rfl) (by kernel_rfl) (fun _ _ _ h => h) (Or.inl ⟨by rfl, ?hy⟩) (by assumption) ?_
        case hy =>
          intro w hSw
          (try dsimp only at hSw)
          go_simp
          all_goals with_reducible rfl
        try simp only [Act.put, List.setIfInBounds_toArray, List.set_cons_zero, List.set_cons_succ]
        refine wpAnyH_done (by kernel_rfl) ?_ _
        all_goals
          replace hS := hid ((((((((hS.out.mv md (by decide)).mv m2 (by decide)).mv m3 (by decide)).mv m4 (by decide)).mv m5 (by decide)).mv m6 (by decide)).mv m7 (by decide)).mv m8 (by decide))
          replace hR := hid ((((((((hR.out.mv goodDlv md (by decide)).mv goodDlv m2 (by decide)).mv goodDlv m3 (by decide)).mv goodDlv m4 (by decide)).mv goodDlv m5 (by decide)).mv goodDlv m6 (by decide)).mv goodDlv m7 (by decide)).mv goodDlv m8 (by decide))
          have h8 := hid (((h5.mv m6 (by decide)).mv m7 (by decide)).mv m8 (by decide))
          have g8 := hid ((g6.mv m7 (by decide) (by decide)).mv m8 (by decide) (by decide))
          have hlen2 := hlen.out
          clear q2 q3 q4 q5 q6 q7 q8 c0 c1 c2 c3 c4 c5 c6 md m2 m3 m4 m5 m6 m7 m8 h2 h3 h4 h5 g3 g4 g5 g6 h g hcO hcN hcS hrs hcall1 z3 z4 z5 z6 z7 z8 hbr3 hbr4 hbr6 hbr7 hbr8 hHeld hrs2
          go_wp2_with fail
          exact ⟨⟨n + 1, o6, res.2, by go_num, by omega, hS, hR, h8, g8, hfo2, by omega, by omega⟩, by simp [intOf]; omega⟩
      · have hkl : n = l.length := by omega
        subst hkl
        go_wp2_with fail
        go_ret
        exact ⟨rfl, hS.out.below⟩
end Go.Proofs.Ythagdeadmoidnaa
