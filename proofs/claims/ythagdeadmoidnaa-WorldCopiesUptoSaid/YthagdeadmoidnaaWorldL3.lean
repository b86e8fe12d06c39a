/- WorldCopies. -/
import Derived.Test.YthagdeadmoidnaaWorldL1
set_option linter.unusedVariables false
namespace Go.Proofs.Ythagdeadmoidnaa
open Go.RowKit
open Go.Lib (hid)
/-- the state after k deliveries from number p on -/
def stN (l : List Dlv) (x : WS) (p : Nat) : Nat → WS
  | 0 => x
  | k + 1 => match l[p + k]? with
    | some d => (sendF (stN l x p k) d.c d.how).2
    | none => stN l x p k
/-- their answers -/
def ansN (l : List Dlv) (x : WS) (p : Nat) : Nat → List Int
  | 0 => []
  | k + 1 => match l[p + k]? with
    | some d => ansN l x p k ++ [(sendF (stN l x p k) d.c d.how).1]
    | none => ansN l x p k
theorem stN_succ {l : List Dlv} {x : WS} {p k : Nat} {d : Dlv} (h : l[p + k]? = some d) : stN l x p (k + 1) = (sendF (stN l x p k) d.c d.how).2 := by
  rw [stN, h]
theorem ansN_succ {l : List Dlv} {x : WS} {p k : Nat} {d : Dlv} (h : l[p + k]? = some d) : ansN l x p (k + 1) = ansN l x p k ++ [(sendF (stN l x p k) d.c d.how).1] := by
  rw [ansN, h]
theorem ansN_len {l : List Dlv} {x : WS} {p : Nat} : ∀ k, p + k ≤ l.length → (ansN l x p k).length = k
  | 0, _ => rfl
  | k + 1, h => by
    have e : l[p + k]? = some l[p + k] := List.getElem?_eq_getElem (by omega)
    rw [ansN_succ e, List.length_append, ansN_len k (by omega)]; rfl
theorem ansN_get {l : List Dlv} {x : WS} {p k : Nat} {d : Dlv} (hd : l[p + k]? = some d) : ∀ m, k < m → p + m ≤ l.length → (ansN l x p m)[k]? = some (sendF (stN l x p k) d.c d.how).1
  | 0, h, _ => absurd h (by omega)
  | m + 1, h, hl => by
    have e : l[p + m]? = some l[p + m] := List.getElem?_eq_getElem (by omega)
    rw [ansN_succ e]
    rcases Nat.lt_or_ge k m with h1 | h1
    · rw [List.getElem?_append_left (by rw [ansN_len m (by omega)]; omega)]
      exact ansN_get hd m h1 (by omega)
    · have : k = m := by omega
      subst this
      have e2 := Option.some.inj (e.symm.trans hd)
      rw [List.getElem?_append_right (by rw [ansN_len k (by omega)]; omega), ansN_len k (by omega), Nat.sub_self, e2]; rfl
theorem stN_len {l : List Dlv} {x : WS} {p : Nat} : ∀ k, (stN l x p k).log.length ≤ x.log.length + k ∧ (stN l x p k).force.length ≤ x.force.length + k
  | 0 => ⟨Nat.le_refl _, Nat.le_refl _⟩
  | k + 1 => by
    have h := stN_len (l := l) (x := x) (p := p) k
    rw [stN]
    split
    · rename_i d hd
      have h2 := sendF_len (stN l x p k) d.c d.how
      omega
    · omega
theorem infoInt : (Try.prog.info? 3).map (fun i => (i.zero, i.size, i.bytes)) = some (some (.int .i64 0), 1, 8) := by kernel_rfl
/-- one answer behind the others -/
theorem intPush (o : Own) (i : Nat) (l : List Int) (v : Value) (w : World) (r : Int) (h : OwnR 3 1 IntR (Tg o i) w l v) (hl : l.length ≤ 100000) :
    ∃ o' v' w', AppRun Try.prog 45 45 45 v (.slice (some ⟨w.heap.size, 0, none⟩) 1 1) v' (w.alloc (.cells #[iv r] 3)) w' ∧ Mv o w o' w' i ∧ OwnR 3 1 IntR (Tg o' i) w' (l ++ [r]) v' := by
  obtain ⟨i0, hi, hz0, hz1, hz2⟩ := info_parts infoInt
  have hb : Below w.heap.size w (w.alloc (.cells #[iv r] 3)) := (Below.refl _ _).alloc (Nat.le_refl _) _
  have h1 : OwnR 3 1 IntR (fun k => (o k = i ∧ k < w.heap.size) ∨ w.heap.size ≤ k) (w.alloc (.cells #[iv r] 3)) l v := (h.mono goodInt (fun k hk hs => Or.inl ⟨hs, hk⟩)).below goodInt hb
  obtain ⟨v', w', hap, hO, hf⟩ := OwnR.append1 (t := 45) (ty := 45) (x := r) goodInt (by kernel_rfl) hi hz0 hz1 hz2 rfl (by decide) h1 (row_of_block (cs := [iv r]) (heap_alloc_new' w (.cells #[iv r] 3)) rfl) rfl (by unfold maxLen; omega) (by omega) (fun q hq => Or.inr (by simp at hq; omega))
  have hs : w.heap.size ≤ w'.heap.size := Nat.le_trans hb.size hf.size
  refine ⟨upd o w.heap.size i, v', w', hap, ⟨⟨hf.os.trans hb.os, hf.tape.trans hb.tape, hf.output.trans hb.output, hs, fun k hk hn => ?_⟩, fun k hk => upd_lt hk⟩, hO.mono goodInt (fun k hk hs => ?_)⟩
  · rw [hf.block k (Nat.lt_of_lt_of_le hk hb.size) (fun h => ?_), hb.block k hk]
    rcases h with h | h
    · exact hn h.1
    · omega
  · rcases hs with h | h
    · exact (upd_lt h.2).trans h.1
    · exact upd_ge h
theorem OwnR.mv {α : Type} {E : TypeId} {sz : Nat} {R : Rel α} (hR : Good sz R) {o o' : Own} {w w' : World} {i j : Nat} {l : List α} {v : Value} (h : OwnR E sz R (Tg o i) w l v) (m : Mv o w o' w' j) (hij : i ≠ j) : OwnR E sz R (Tg o' i) w' l v :=
  h.move hR fun k hk hs => ⟨(m.own k hk).trans hs, m.fr.block k hk (fun h2 => hij (Eq.trans (Eq.symm hs) h2))⟩
set_option maxHeartbeats 8000000 in
set_option maxRecDepth 100000 in
theorem WorldCopies_walk (l : List Dlv) (z : Int) (hz : -9223372036854775808 ≤ z ∧ z ≤ 9223372036854775807) (v : Value) (w : World) (hl : DlvsB l) (hr : SlR 7 DlvR (fun _ => True) w l v) :
    Calls Try.prog 6 #[v, iv z] w fun e w' => e = .returned (.bool true) ∧ Below w.heap.size w w' := by
  have hS := hid (St.start w)
  have hR := hid (hr.mono goodDlv (T := Tg (fun _ => 0) 0) (fun _ _ _ => rfl))
  obtain ⟨a, k, rfl, -⟩ := hr.slice
  have hl1 := hl.1
  replace hl := hid hl
  clear hr
  go_enter Try.func6, Try.ntmps6
  go_wp2_with fail
  refine (small_any w).mono ?_
  rintro e W ⟨rfl, hb⟩
  have m := Mv.pure hb (fun _ => 0)
  clear hb
  replace hS := hid (hS.out.mv m (by decide))
  replace hR := hid (hR.out.mv goodDlv m (by decide))
  clear m
  go_wp2_with fail
  refine (wnew_t (fun _ => 0) 1 W).mono ?_
  rintro e W2 ⟨o, b, rfl, m, h⟩
  replace hS := hid (hS.out.mv m (by decide))
  replace hR := hid (hR.out.mv goodDlv m (by decide))
  replace h := hid h
  clear m W
  go_wp2_with fail
  refine (few_t l hl.out o 0 _ W2 hR.out).mono ?_
  rintro e W ⟨r, rfl, h40, m⟩
  replace hS := hid (hS.out.mv m (by decide))
  replace hR := hid (hR.out.mv goodDlv m (by decide))
  replace h := hid (h.out.mv m (by decide))
  clear m W2
  cases r with
  | false =>
    go_wp2_with fail
    go_ret
    exact ⟨rfl, hS.out.below⟩
  | true =>
    replace h40 := h40 rfl
    by_cases hz0 : z < 0
    · go_wp2_with fail
      go_ret
      exact ⟨rfl, hS.out.below⟩
    by_cases hzl : (l.length : Int) < z
    · go_wp2_with fail
      go_ret
      exact ⟨rfl, hS.out.below⟩
    obtain ⟨p, rfl⟩ : ∃ p : Nat, z = p := ⟨z.toNat, by omega⟩
    have hpl : p ≤ l.length := by omega
    have hq0 : decide ((p : Int) < 0) = false := decide_eq_false (by omega)
    have hq1 : decide (l.length < p) = false := decide_eq_false (by omega)
    clear hz0 hzl
    go_wp2_with fail
    go_loopw [7] (fun i wr => ∃ (n : Nat) (o : Own), i = .int .i64 n ∧ n ≤ p ∧ Hid (St w o wr) ∧ Hid (SlR 7 DlvR (Tg o 0) wr l (Value.slice a l.length k)) ∧ Hid (WV (Tg o 1) b (stN l wNew 0 n) wr)) (fun i _ => p - (intOf i).toNat)
    case atStart => exact ⟨0, o, rfl, Nat.zero_le _, hS, hR, h⟩
    case round =>
      clear hS hR h
      obtain ⟨n, o, rfl, hk, hS, hR, h⟩ := hrel
      have hlen := stN_len (l := l) (x := wNew) (p := 0) n
      have hw0 : wNew.log.length = 0 ∧ wNew.force.length = 0 := ⟨rfl, rfl⟩
      by_cases hlt : n < p

      · obtain ⟨y, hy⟩ : ∃ y, l[n]? = some y := ⟨_, List.getElem?_eq_getElem (by omega)⟩
        obtain ⟨g9, off, cs, hidx, -, hg, hc, hRy⟩ := hR.out.at (P := Try.prog) (t := 22) (by kernel_rfl) (fun _ => by kernel_rfl) hy
        obtain ⟨a2, k2, rfl, hv⟩ := hRy
        have c0 := hc 0 _ rfl
        have c1 := hc 1 _ rfl
        have c2 := hc 2 _ rfl
        have c3 := hc 3 _ rfl
        have c4 := hc 4 _ rfl
        have c5 := hc 5 _ rfl
        have c6 := hc 6 _ rfl
        rw [Nat.add_zero] at c0
        have hcb := hid (hl.out.2 y (List.mem_of_getElem? hy))
        have md : Mv o wr o wr.drew 99 := Mv.pure (Below.refl _ _).drew o
        have hcall := hid (send_t o 1 0 (by decide) b _ y.c y.how hcb.out _ wr.drew (h.out.mv md (by decide)) (goodCmd.mv (i := 0) (cmdR_shut hv) md (by decide)) (by omega) (by omega))
        have hnext := stN_succ (l := l) (x := wNew) (p := 0) (k := n) (d := y) (by rw [Nat.zero_add]; exact hy)
        generalize sendF (stN l wNew 0 n) y.c y.how = res at *
        replace hnext := hid hnext
        replace hS := hid (hS.out.mv md (by decide))
        replace hR := hid (hR.out.mv goodDlv md (by decide))
        clear hc hv hy md h hlen
        go_wp2_with fail
        go_still_tail 11, (by kernel_rfl)
        go_wp2_with fail
        refine hcall.out.mono ?_
        rintro e W ⟨o2, rfl, m, h⟩
        clear c0 c1 c2 c3 c4 c5 c6 hcall hidx
        replace hS := hid (hS.out.mv m (by decide))
        replace hR := hid (hR.out.mv goodDlv m (by decide))
        clear m
        go_wp2_with fail
        rw [← hnext.out] at h
        exact ⟨⟨n + 1, o2, by go_num, by omega, hS, hR, hid h⟩, by simp [intOf]; omega⟩
      · have hkp : n = p := by omega
        subst hkp
        generalize hX : stN l wNew 0 n = X at *
        have hXl : X.log.length ≤ n ∧ X.force.length ≤ n := by omega
        have ho := hid h.out.1
        clear hX hlen hw0 hlt hk
        go_wp2_with fail
        refine (wcopy_t o 2 1 b X wr h.out).mono ?_
        rintro e W ⟨o2, b2, rfl, m, g⟩
        replace hS := hid (hS.out.mv m (by decide))
        replace hR := hid (hR.out.mv goodDlv m (by decide))
        replace h := hid (h.out.mv m (by decide))
        replace g := hid g
        clear m
        generalize o2 = o at *
        go_wp2_with fail
        refine (wlog_t o 4 1 b X W h.out).mono ?_
        rintro e W2 ⟨o2, vl, rfl, m, hL⟩
        replace hS := hid (hS.out.mv m (by decide))
        replace hR := hid (hR.out.mv goodDlv m (by decide))
        replace h := hid (h.out.mv m (by decide))
        replace g := hid (g.out.mv m (by decide))
        replace hL := hid hL
        clear m
        obtain ⟨al, kl, rfl, -⟩ := hL.out.slice
        go_wp2_with fail
        refine (wlog_t o2 5 2 b2 X W2 g.out).mono ?_
        rintro e W3 ⟨o3, vm, rfl, m, hM⟩
        replace hS := hid (hS.out.mv m (by decide))
        replace hR := hid (hR.out.mv goodDlv m (by decide))
        replace h := hid (h.out.mv m (by decide))
        replace g := hid (g.out.mv m (by decide))
        replace hL := hid (hL.out.mv goodCmd m (by decide))
        clear m
        obtain ⟨am, km, rfl, -⟩ := hM.slice
        have hcall := hid (sameCmds_any X.log X.log (by have := ho.out.log.1; omega) (by have := ho.out.log.1; omega) (fun c hc => (ho.out.log.2 c hc).1) (fun c hc => (ho.out.log.2 c hc).1) _ _ _ _ W3 hM hL.out)
        rw [dec_true rfl] at hcall
        clear hM
        go_wp2_with fail
        refine hcall.out.mono ?_
        rintro e W4 ⟨rfl, hb⟩
        have m := Mv.pure hb o3
        replace hS := hid (hS.out.mv m (by decide))
        replace hR := hid (hR.out.mv goodDlv m (by decide))
        replace h := hid (h.out.mv m (by decide))
        replace g := hid (g.out.mv m (by decide))
        replace hL := hid (hL.out.mv goodCmd m (by decide))
        clear m hb hcall
        go_wp2_with fail
        go_loopw [10, 11] (fun av i wr => ∃ (c j : Nat) (o : Own), i = .int .i64 c ∧ Hid (c = n + j) ∧ c ≤ l.length ∧ Hid (St w o wr) ∧ Hid (SlR 7 DlvR (Tg o 0) wr l (Value.slice a l.length k)) ∧ Hid (WV (Tg o 1) b X wr) ∧ Hid (WV (Tg o 2) b2 (stN l X n j) wr) ∧ Hid (SlR 6 CmdR (Tg o 4) wr X.log (Value.slice al X.log.length kl)) ∧ Hid (OwnR 3 1 IntR (Tg o 3) wr (ansN l X n j) av)) (fun _ i _ => l.length - (intOf i).toNat)
        case atStart => exact ⟨n, 0, o3, rfl, hid rfl, hpl, hS, hR, h, g, hL, hid (OwnR.nil _ _ _ _ _)⟩
        case round =>
          clear hS hR h g hL
          obtain ⟨c, j, o, rfl, hc0, hj, hS, hR, h, g, hL, hA⟩ := hrel
          have hlen := stN_len (l := l) (x := X) (p := n) j
          have hal := ansN_len (l := l) (x := X) (p := n) j (hc0.out ▸ hj)
          obtain ⟨aa, ka, hav, -, -⟩ := hA.out.slice
          rw [hal] at hav
          subst hav
          by_cases hlt : c < l.length
          · obtain ⟨y, hy⟩ : ∃ y, l[c]? = some y := ⟨_, List.getElem?_eq_getElem hlt⟩
            obtain ⟨g9, off, cs, hidx, hSg, hg, hc, hRy⟩ := hR.out.at (P := Try.prog) (t := 22) (by kernel_rfl) (fun _ => by kernel_rfl) hy
            obtain ⟨a2, k2, rfl, hv⟩ := hRy
            replace hSg : o g9 = 0 := hSg
            have c0 := hc 0 _ rfl
            have c1 := hc 1 _ rfl
            have c2 := hc 2 _ rfl
            have c3 := hc 3 _ rfl
            have c4 := hc 4 _ rfl
            have c5 := hc 5 _ rfl
            have c6 := hc 6 _ rfl
            rw [Nat.add_zero] at c0
            have hcb := hid (hl.out.2 y (List.mem_of_getElem? hy))
            have md : Mv o wr o wr.drew 99 := Mv.pure (Below.refl _ _).drew o
            have hcall := hid (send_t o 2 0 (by decide) b2 _ y.c y.how hcb.out _ wr.drew (g.out.mv md (by decide)) (goodCmd.mv (i := 0) (cmdR_shut hv) md (by decide)) (by have := hc0.out; omega) (by have := hc0.out; omega))
            have hnext := stN_succ (l := l) (x := X) (p := n) (k := j) (d := y) (hc0.out ▸ hy)
            have hnexta := ansN_succ (l := l) (x := X) (p := n) (k := j) (d := y) (hc0.out ▸ hy)
            generalize sendF (stN l X n j) y.c y.how = res at *
            replace hnext := hid hnext
            replace hnexta := hid hnexta
            replace hS := hid (hS.out.mv md (by decide))
            replace hR := hid (hR.out.mv goodDlv md (by decide))
            replace h := hid (h.out.mv md (by decide))
            replace hL := hid (hL.out.mv goodCmd md (by decide))
            replace hA := hid (hA.out.mv goodInt md (by decide))
            clear hc hv hy md g hlen
            go_wp2_with fail
            go_region_held3 (fun w' => w'.cell? ⟨g9, off, none⟩ = some (sv y.c.key) ∧ w'.cell? ⟨g9, off + 1, none⟩ = some (iv y.c.kind) ∧ w'.cell? ⟨g9, off + 2, none⟩ = some (sv y.c.of) ∧ w'.cell? ⟨g9, off + 3, none⟩ = some (sv y.c.new) ∧ w'.cell? ⟨g9, off + 4, none⟩ = some (sv y.c.name) ∧ w'.cell? ⟨g9, off + 5, none⟩ = some (.slice a2 y.c.args.length k2) ∧ w'.cell? ⟨g9, off + 6, none⟩ = some (iv y.how)) (first | with_reducible exact q2 | with_reducible exact q3 | with_reducible exact q4 | go_keep)
              (first | (refine step_append_shut (by rfl) (.tmp 74) (.tmp 87) (by rfl) (by rfl) (by rfl) hap ?_) | (go_at_call 12; refine hcall.out.mono ?_; rintro e W ⟨o2, rfl, m, g⟩; have hbk : W.heap[g9]? = wr.heap[g9]? := m.fr.block g9 hg (fun h2 => absurd (hSg.symm.trans h2) (by decide)); have hgW : g9 < W.heap.size := lt_same hg hbk; have hSW : o2 g9 = 0 := (m.own g9 hg).trans hSg; have q2 : _ ∧ _ ∧ _ ∧ _ ∧ _ ∧ _ ∧ _ := ⟨(World.cell?_of_block hbk).trans c0, (World.cell?_of_block hbk).trans c1, (World.cell?_of_block hbk).trans c2, (World.cell?_of_block hbk).trans c3, (World.cell?_of_block hbk).trans c4, (World.cell?_of_block hbk).trans c5, (World.cell?_of_block hbk).trans c6⟩; have hA2 := (hA.out.mv goodInt m (by decide)); obtain ⟨o3, v3, W3, hap, m3, hA3⟩ := intPush o2 3 _ _ W res.1 hA2 (by have := hc0.out; omega); obtain ⟨a3, k3, rfl, -, -⟩ := hA3.slice; have hbk2 : (W.alloc (.cells #[iv res.1] 3)).heap[g9]? = W.heap[g9]? := Below.heap_alloc _ _ _ hgW; have q3 : _ ∧ _ ∧ _ ∧ _ ∧ _ ∧ _ ∧ _ := ⟨(World.cell?_of_block hbk2).trans q2.1, (World.cell?_of_block hbk2).trans q2.2.1, (World.cell?_of_block hbk2).trans q2.2.2.1, (World.cell?_of_block hbk2).trans q2.2.2.2.1, (World.cell?_of_block hbk2).trans q2.2.2.2.2.1, (World.cell?_of_block hbk2).trans q2.2.2.2.2.2.1, (World.cell?_of_block hbk2).trans q2.2.2.2.2.2.2⟩; have hbk3 : W3.heap[g9]? = W.heap[g9]? := m3.fr.block g9 hgW (fun h2 => absurd (hSW.symm.trans h2) (by decide)); have q4 : _ ∧ _ ∧ _ ∧ _ ∧ _ ∧ _ ∧ _ := ⟨(World.cell?_of_block hbk3).trans q2.1, (World.cell?_of_block hbk3).trans q2.2.1, (World.cell?_of_block hbk3).trans q2.2.2.1, (World.cell?_of_block hbk3).trans q2.2.2.2.1, (World.cell?_of_block hbk3).trans q2.2.2.2.2.1, (World.cell?_of_block hbk3).trans q2.2.2.2.2.2.1, (World.cell?_of_block hbk3).trans q2.2.2.2.2.2.2⟩))
            clear c0 c1 c2 c3 c4 c5 c6 hcall hidx q2 q3 q4 hbk hbk2 hbk3
            replace hS := hid (hS.out.mv m (by decide))
            replace hR := hid (hR.out.mv goodDlv m (by decide))
            replace h := hid (h.out.mv m (by decide))
            replace hL := hid (hL.out.mv goodCmd m (by decide))
            clear m hA
            replace g := hid (g.mv m3 (by decide))
            replace hS := hid (hS.out.mv m3 (by decide))
            replace hR := hid (hR.out.mv goodDlv m3 (by decide))
            replace h := hid (h.out.mv m3 (by decide))
            replace hL := hid (hL.out.mv goodCmd m3 (by decide))
            rw [← hnext.out] at g
            rw [← hnexta.out] at hA3
            have hal2 := ansN_len (l := l) (x := X) (p := n) (j + 1) (by have := hc0.out; omega)
            rw [hal2] at hA3
            clear m3 hap
            go_wp2_with fail
            exact ⟨⟨c + 1, j + 1, o3, by go_num, hid (by rw [hc0.out]; omega), by omega, hS, hR, h, g, hL, hid hA3⟩, by simp [intOf]; omega⟩
          · obtain rfl : c = l.length := by omega
            clear hlt
            have hj1 : l.length ≤ n + j := Nat.le_of_eq hc0.out
            have hj2 : n + j ≤ l.length := Nat.le_of_eq hc0.out.symm
            go_wp2_with fail
            refine (wlog_t o 6 1 b X wr h.out).mono ?_
            rintro e W2 ⟨o2, vm, rfl, m, hM⟩
            replace hS := hid (hS.out.mv m (by decide))
            replace hR := hid (hR.out.mv goodDlv m (by decide))
            replace h := hid (h.out.mv m (by decide))
            replace g := hid (g.out.mv m (by decide))
            replace hL := hid (hL.out.mv goodCmd m (by decide))
            replace hA := hid (hA.out.mv goodInt m (by decide))
            clear m
            obtain ⟨am, km, rfl, -⟩ := hM.slice
            have hcall := hid (sameCmds_any X.log X.log (by have := ho.out.log.1; omega) (by have := ho.out.log.1; omega) (fun c hc => (ho.out.log.2 c hc).1) (fun c hc => (ho.out.log.2 c hc).1) _ _ _ _ W2 hM hL.out)
            rw [dec_true rfl] at hcall
            clear hM
            go_wp2_with fail
            refine hcall.out.mono ?_
            rintro e W4 ⟨rfl, hb⟩
            have m := Mv.pure hb o2
            replace hS := hid (hS.out.mv m (by decide))
            replace hR := hid (hR.out.mv goodDlv m (by decide))
            replace h := hid (h.out.mv m (by decide))
            replace g := hid (g.out.mv m (by decide))
            replace hA := hid (hA.out.mv goodInt m (by decide))
            clear m hb hcall hL
            replace hA := hid (hA.out.sl goodInt)
            generalize hG : stN l X n j = G at *
            have hGo := hid g.out.1
            go_wp2_with fail
            go_loopw [12] (fun i wr => ∃ (c q : Nat) (o : Own), i = .int .i64 c ∧ Hid (c = n + q) ∧ q ≤ j ∧ Hid (St w o wr) ∧ Hid (SlR 7 DlvR (Tg o 0) wr l (Value.slice a l.length k)) ∧ Hid (WV (Tg o 1) b (stN l X n q) wr) ∧ Hid (WV (Tg o 2) b2 G wr) ∧ Hid (SlR 1 IntR (Tg o 3) wr (ansN l X n j) (Value.slice aa j ka))) (fun i _ => l.length - (intOf i).toNat)
            case atStart => exact ⟨n, 0, o2, rfl, hid rfl, Nat.zero_le _, hS, hR, h, g, hA⟩
            case round =>
              clear hS hR h g hA
              obtain ⟨c, q, o, rfl, hc1, hqj, hS, hR, h, g, hA⟩ := hrel
              have hc2 : c ≤ n + q := Nat.le_of_eq hc1.out
              have hc3 : n + q ≤ c := Nat.le_of_eq hc1.out.symm
              have hlen := stN_len (l := l) (x := X) (p := n) q
              by_cases hlt : c < l.length
              · obtain ⟨y, hy⟩ : ∃ y, l[c]? = some y := ⟨_, List.getElem?_eq_getElem hlt⟩
                have hans := ansN_get (l := l) (x := X) (p := n) (k := q) (d := y) (hc1.out ▸ hy) j (by have := hc1.out; omega) (by omega)
                obtain ⟨gb, off, cs, hidx, hSg, hg, hc, hRy⟩ := hR.out.at (P := Try.prog) (t := 22) (by kernel_rfl) (fun _ => by kernel_rfl) hy
                obtain ⟨a2, k2, rfl, hv⟩ := hRy
                have c0 := hc 0 _ rfl
                have c1 := hc 1 _ rfl
                have c2 := hc 2 _ rfl
                have c3 := hc 3 _ rfl
                have c4 := hc 4 _ rfl
                have c5 := hc 5 _ rfl
                have c6 := hc 6 _ rfl
                rw [Nat.add_zero] at c0
                replace hSg : o gb = 0 := hSg
                obtain ⟨ga, ofa, csa, hidxa, hSa, hga, hca, hRa⟩ := hA.out.at (P := Try.prog) (t := 45) (by kernel_rfl) (fun _ => by kernel_rfl) hans
                replace hRa : csa = _ := hRa
                subst hRa
                have d0 := hca 0 _ rfl
                rw [Nat.add_zero] at d0
                replace hSa : o ga = 3 := hSa
                have hcb := hid (hl.out.2 y (List.mem_of_getElem? hy))
                have md : Mv o wr o wr.drew 99 := Mv.pure (Below.refl _ _).drew o
                have hcall := hid (send_t o 1 0 (by decide) b _ y.c y.how hcb.out _ wr.drew (h.out.mv md (by decide)) (goodCmd.mv (i := 0) (cmdR_shut hv) md (by decide)) (by have := hc1.out; omega) (by have := hc1.out; omega))
                have hnext := stN_succ (l := l) (x := X) (p := n) (k := q) (d := y) (hc1.out ▸ hy)
                generalize sendF (stN l X n q) y.c y.how = res at *
                have hwrap : IntKind.i64.wrap ((c : Int) - (n : Int)) = (q : Int) := by
                  rw [show ((c : Int) - (n : Int)) = (q : Int) by have := hc1.out; omega]; exact i64_wrap_id _ (by omega) (by omega)
                replace hnext := hid hnext
                clear hc hca hy hlen hans
                go_wp2_with fail
                go_region_held3 (fun w' => w'.cell? ⟨gb, off, none⟩ = some (sv y.c.key) ∧ w'.cell? ⟨gb, off + 1, none⟩ = some (iv y.c.kind) ∧ w'.cell? ⟨gb, off + 2, none⟩ = some (sv y.c.of) ∧ w'.cell? ⟨gb, off + 3, none⟩ = some (sv y.c.new) ∧ w'.cell? ⟨gb, off + 4, none⟩ = some (sv y.c.name) ∧ w'.cell? ⟨gb, off + 5, none⟩ = some (.slice a2 y.c.args.length k2) ∧ w'.cell? ⟨gb, off + 6, none⟩ = some (iv y.how) ∧ w'.cell? ⟨ga, ofa, none⟩ = some (iv res.1)) (first | with_reducible exact q2 | go_keep)
                  ((go_at_call 12; refine hcall.out.mono ?_; rintro e W ⟨o2, rfl, m, h6⟩; have hbk : W.heap[gb]? = wr.heap[gb]? := m.fr.block gb hg (fun h2 => absurd (hSg.symm.trans h2) (by decide)); have hbk2 : W.heap[ga]? = wr.heap[ga]? := m.fr.block ga hga (fun h2 => absurd (hSa.symm.trans h2) (by decide)); have q2 : _ ∧ _ ∧ _ ∧ _ ∧ _ ∧ _ ∧ _ ∧ _ := ⟨(World.cell?_of_block hbk).trans c0, (World.cell?_of_block hbk).trans c1, (World.cell?_of_block hbk).trans c2, (World.cell?_of_block hbk).trans c3, (World.cell?_of_block hbk).trans c4, (World.cell?_of_block hbk).trans c5, (World.cell?_of_block hbk).trans c6, (World.cell?_of_block hbk2).trans d0⟩))
                replace hS := hid (hS.out.mv md (by decide))
                replace hR := hid (hR.out.mv goodDlv md (by decide))
                replace g := hid (g.out.mv md (by decide))
                replace hA := hid (hA.out.mv goodInt md (by decide))
                replace hS := hid (hS.out.mv m (by decide))
                replace hR := hid (hR.out.mv goodDlv m (by decide))
                replace g := hid (g.out.mv m (by decide))
                replace hA := hid (hA.out.mv goodInt m (by decide))
                replace h6 := hid h6
                rw [← hnext.out] at h6
                clear hcall q2 m md h hv
                go_wp2_with fail
                exact ⟨⟨c + 1, q + 1, o2, by go_num, hid (by rw [hc1.out]; omega), by have := hc1.out; omega, hS, hR, h6, g, hA⟩, by simp [intOf]; omega⟩
              · have hqj2 : q = j := by have := hc1.out; have := hc0.out; omega
                subst hqj2
                obtain rfl : c = l.length := by have := hc1.out; have := hc0.out; omega
                rw [hG] at h
                clear hlen hA hR
                go_wp2_with fail
                refine (wlog_t o 6 1 b G wr h.out).mono ?_
                rintro e W3 ⟨o3, vl, rfl, m, hL⟩
                replace hS := hid (hS.out.mv m (by decide))
                replace h := hid (h.out.mv m (by decide))
                replace g := hid (g.out.mv m (by decide))
                replace hL := hid hL
                clear m
                go_wp2_with fail
                refine (wlog_t o3 7 2 b2 G W3 g.out).mono ?_
                rintro e W4 ⟨o4, vm, rfl, m, hM⟩
                replace hS := hid (hS.out.mv m (by decide))
                replace h := hid (h.out.mv m (by decide))
                replace g := hid (g.out.mv m (by decide))
                replace hL := hid (hL.out.mv goodCmd m (by decide))
                clear m
                have hcall := sameCmds_any G.log G.log (by have := hGo.out.log.1; omega) (by have := hGo.out.log.1; omega) (fun c hc => (hGo.out.log.2 c hc).1) (fun c hc => (hGo.out.log.2 c hc).1) _ _ _ _ W4 hL.out hM
                rw [dec_true rfl] at hcall
                replace hcall := hid hcall
                obtain ⟨al, kl, rfl, -⟩ := hL.out.slice
                obtain ⟨am, km, rfl, -⟩ := hM.slice
                go_wp2_with fail
                refine hcall.out.mono ?_
                rintro e W5 ⟨rfl, hb⟩
                have m := Mv.pure hb o4
                replace hS := hid (hS.out.mv m (by decide))
                replace h := hid (h.out.mv m (by decide))
                replace g := hid (g.out.mv m (by decide))
                clear m hb hcall hL hM
                go_wp2_with fail
                refine (wnet_t o4 6 1 b G W5 h.out).mono ?_
                rintro e W6 ⟨o6, vn, rfl, m, hN⟩
                replace hS := hid (hS.out.mv m (by decide))
                replace g := hid (g.out.mv m (by decide))
                replace hN := hid hN
                clear m h
                go_wp2_with fail
                refine (wnet_t o6 7 2 b2 G W6 g.out).mono ?_
                rintro e W7 ⟨o7, vk, rfl, m, hK⟩
                replace hS := hid (hS.out.mv m (by decide))
                replace hN := hid (hN.out.mv goodOut m (by decide))
                clear m g
                have hcall := hid (sameOuts_any G.force (by have := hGo.out.force.1; omega) hGo.out.force.2 _ _ _ _ W7 hN.out hK)
                obtain ⟨an, kn, rfl, -⟩ := hN.out.slice
                obtain ⟨ak, kk, rfl, -⟩ := hK.slice
                go_wp2_with fail
                refine hcall.out.mono ?_
                rintro e W8 ⟨rfl, hb⟩
                have m := Mv.pure hb o7
                replace hS := hid (hS.out.mv m (by decide))
                clear m hb hcall
                go_wp2_with fail
                go_ret
                exact ⟨rfl, hS.out.below⟩
end Go.Proofs.Ythagdeadmoidnaa
