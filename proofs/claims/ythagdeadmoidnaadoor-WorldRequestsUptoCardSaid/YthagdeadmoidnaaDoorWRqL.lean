/- WorldRequests walked. -/
import Derived.Test.YthagdeadmoidnaaDoorWRqK
import Derived.Test.YthagdeadmoidnaaDoorSmall
set_option linter.unusedVariables false
set_option linter.unusedSimpArgs false
namespace Go.Proofs.YthagdeadmoidnaaDoor
open Go.RowKit
open Go.Lib (hid)
set_option maxHeartbeats 4000000 in
set_option maxRecDepth 100000 in
theorem diff_any (l : List Req) (hl : ReqsB l) (hK : ∀ x ∈ l, (keyS x).length ≤ 1048576) (S : Foot) (v : Value) (w : World) (ht : TabR w) (hR : ReqsR S w l v) :
    Calls Tryd.prog 9 #[.slice none 0 0, v] w fun e w' => ∃ v1 v2, e = .returned (.tuple #[v1, v2]) ∧ OwnR 40 5 OutR (from_ w.heap.size) w' (l.map effF) v2 ∧ Below w.heap.size w w' := by
  have hnB : ReqsB [] := ⟨by simp, fun x h => by simp at h⟩
  have hnR := fun W => SlR.nil 8 ReqR (fun _ => True) W 0
  obtain ⟨a, c, rfl, -⟩ := hR.slice
  replace hR := hid hR
  replace ht := hid ht
  replace hl := hid hl
  replace hK := hid hK
  replace hnB := hid hnB
  replace hnR := hid hnR
  go_enter Tryd.func9, Tryd.ntmps9
  go_wp2_with fail
  refine (only_any [] l hnB.out hl.out (fun x h => by simp at h) hK.out _ _ (.slice none 0 0) _ w ht.out (hnR.out w) hR.out).mono ?_
  rintro e w1 ⟨v1, rfl, hO1, hb1⟩
  have ht1 := hid (ht.out.below hb1 (Nat.le_refl _))
  have hO1' : SlR 8 ReqR (fun _ => True) w1 [] v1 := OwnR.sl goodReq hO1
  obtain ⟨a1, c1, rfl, -⟩ := hO1'.slice
  replace hO1' := hid hO1'
  have hB1 := hid hb1
  clear hO1 hb1
  go_wp2_with fail
  refine (effects_any [] hnB.out (fun x h => by simp at h) _ _ w1 ht1.out hO1'.out).mono ?_
  rintro e w2 ⟨v2, rfl, hO2, hb2⟩
  have ht2 := hid (ht1.out.below hb2 (Nat.le_refl _))
  have hB2 := hid (hB1.out.trans (hb2.mono hB1.out.size))
  obtain ⟨a2, c2, rfl, -⟩ := hO2.slice
  clear hO2 hb2
  go_wp2_with fail
  refine (only_any l [] hl.out hnB.out hK.out (fun x h => by simp at h) _ _ _ (.slice none 0 0) w2 ht2.out (hR.out.below goodReq hB2.out) (hnR.out w2)).mono ?_
  rintro e w3 ⟨v3, rfl, hO3, hb3⟩
  rw [only_nil_right l l.length (Nat.le_refl _), List.take_length] at hO3
  have ht3 := hid (ht2.out.below hb3 (Nat.le_refl _))
  have hB3 := hid (hB2.out.trans (hb3.mono hB2.out.size))
  have hO3' := hid (OwnR.sl goodReq hO3)
  obtain ⟨a3, c3, rfl, -⟩ := hO3'.out.slice
  clear hO3 hb3
  go_wp2_with fail
  refine (effects_any l hl.out hK.out _ _ w3 ht3.out hO3'.out).mono ?_
  rintro e w4 ⟨v4, rfl, hO4, hb4⟩
  have hs3 := hB3.out.size
  have hB4 := hid (hB3.out.trans (hb4.mono hs3))
  have hml : (l.map effF).length = l.length := by simp
  have hO4' := hid (hO4.mono goodOut (T := from_ w.heap.size) fun q _ hq => by have h9 : w3.heap.size ≤ q := hq; show w.heap.size ≤ q; omega)
  obtain ⟨a4, c4, rfl, -, -⟩ := hO4.slice
  rw [hml] at hO4' ⊢
  clear hO4 hb4
  go_wp2_with fail
  go_ret2
  exact ⟨_, _, rfl, hO4'.out, hB4.out⟩
theorem and31 (t : Int) : ∃ s : Nat, s ≤ 31 ∧ bits .and .i64 t 31 = (s : Int) := by
  refine ⟨((BitVec.ofInt 64 t) &&& (BitVec.ofInt 64 31)).toNat, ?_, ?_⟩
  · rw [BitVec.toNat_and]
    exact Nat.le_trans Nat.and_le_right (by decide)
  · have h : ((BitVec.ofInt 64 t) &&& (BitVec.ofInt 64 31)).toNat ≤ 31 := by
      rw [BitVec.toNat_and]
      exact Nat.le_trans Nat.and_le_right (by decide)
    show IntKind.i64.wrap (((BitVec.ofInt 64 t) &&& (BitVec.ofInt 64 31)).toNat : Int) = _
    exact i64_wrap_id _ (by omega) (by omega)
/-- what the check loop knows behind i requests -/
def ChkP (l : List Req) (i : Nat) : Prop := ∀ j, j < i → SmallR (rq l j) ∧ ∀ k, k < j → keyF (rq l k) ≠ keyF (rq l j)
/-- the law's memory: the requests, the World -/
structure WM (w0 : World) (o : Own) (l : List Req) (va : Value) (b : Nat) (x : WS) (W : World) : Prop where
  st : StW w0 o W
  rq : ReqsR (Tg o 0) W l va
  wv : WV (Tg o 1) b x W
theorem WM.mv {w0 : World} {o o' : Own} {l : List Req} {va : Value} {b : Nat} {x : WS} {W W' : World} (h : WM w0 o l va b x W) (m : Mv o W o' W' 99) : WM w0 o' l va b x W' :=
  ⟨h.st.mv m (by decide), SlR.mv goodReq h.rq m (by decide), h.wv.mv m (by decide)⟩
theorem WM.below {w0 : World} {o : Own} {l : List Req} {va : Value} {b : Nat} {x : WS} {W W' : World} (h : WM w0 o l va b x W) (hb : Below W.heap.size W W') : WM w0 o l va b x W' := h.mv (Mv.pure hb o)
theorem WM.tab {w0 : World} {o : Own} {l : List Req} {va : Value} {b : Nat} {x : WS} {W : World} (h : WM w0 o l va b x W) (ht : TabR w0) : TabR W := ht.below h.st.below (Nat.le_refl _)
set_option maxHeartbeats 16000000 in
set_option maxRecDepth 100000 in
theorem WorldRequests_walk (l : List Req) (turn : Int) (v : Value) (w : World) (ht : TabR w) (hl : ReqsB l) (hR : ReqsR (fun _ => True) w l v) :
    Calls Tryd.prog 3 #[v, iv turn] w fun e w' => e = .returned (.bool true) ∧ Below w.heap.size w w' := by
  have hS := hid (StW.start w)
  obtain ⟨a, c, rfl, -⟩ := hR.slice
  have hR0 := hid (hR.mono goodReq (T := Tg (fun _ => 0) 0) fun _ _ _ => rfl)
  have hln := hl.1
  replace hl := hid hl
  replace ht := hid ht
  clear hR
  go_enter Tryd.func3, Tryd.ntmps3
  go_wp2_with fail
  refine (small_any w).mono ?_
  rintro e W2 ⟨rfl, hb⟩
  have m := Mv.pure hb (fun _ => 0)
  clear hb
  replace hS := hid (hS.out.mv m (by decide))
  replace hR0 := hid (SlR.mv goodReq hR0.out m (by decide))
  clear m
  go_wp2_with fail
  refine (wnew_t (fun _ => 0) 1 W2).mono ?_
  rintro e W0 ⟨o, b, rfl, m, h⟩
  have hM : Hid (WM w o l (.slice a l.length c) b wNew W0) := hid ⟨hS.out.mv m (by decide), SlR.mv goodReq hR0.out m (by decide), h⟩
  clear m h hS hR0
  by_cases h20 : (20 : Int) < (l.length : Int)
  · have q1 : decide ((l.length : Int) > 20) = true := decide_eq_true h20
    go_wp2_with fail
    go_ret
    exact ⟨rfl, hM.out.st.below⟩
  · have q1 : decide ((l.length : Int) > 20) = false := decide_eq_false h20
    have h20n : l.length ≤ 20 := by omega
    go_wp2_with fail
    go_loopw [7] (fun i wr => ∃ k : Nat, i = .int .i64 k ∧ k ≤ l.length ∧ Hid (ChkP l k) ∧ Hid (WM w o l (.slice a l.length c) b wNew wr)) (fun i _ => l.length - (intOf i).toNat)
    case atStart => exact ⟨0, rfl, Nat.zero_le _, hid (fun j h => absurd h (by omega)), hM⟩
    case round =>
      clear hM
      obtain ⟨i, rfl, hi, hC, hM⟩ := hrel
      by_cases hlt : i < l.length
      · obtain ⟨x, hx⟩ : ∃ x, x = rq l i := ⟨_, rfl⟩
        have hax := at_rq hlt
        rw [← hx] at hax
        have hxB := hl.out.2 x (List.mem_of_getElem? hax)
        obtain ⟨gi, oi, csi, hidxi, -, hgi, hci, hri⟩ := hM.out.rq.at (P := Tryd.prog) (t := 22) (by kernel_rfl) (fun _ => by kernel_rfl) hax
        obtain ⟨a1, k1, rfl, -⟩ := id hri
        have c0 := hci 0 _ rfl
        have c1 := hci 1 _ rfl
        have c2 := hci 2 _ rfl
        have c3 := hci 3 _ rfl
        have c4 := hci 4 _ rfl
        have c5 := hci 5 _ rfl
        have c6 := hci 6 _ rfl
        have c7 := hci 7 _ rfl
        rw [Nat.add_zero] at c0
        have hvi := hid (valsR_of hri)
        replace hri := hid hri
        replace hx := hid hx
        clear hci
        by_cases z1 : (100 : Int) < (x.path.length : Int)
        · have q2 : decide ((x.path.length : Int) > 100) = true := decide_eq_true z1
          go_wp2_with fail
          go_ret
          exact ⟨rfl, hM.out.st.below⟩
        have q2 : decide ((x.path.length : Int) > 100) = false := decide_eq_false z1
        by_cases z2 : (100 : Int) < (x.name.length : Int)
        · have q3 : decide ((x.name.length : Int) > 100) = true := decide_eq_true z2
          go_wp2_with fail
          go_ret
          exact ⟨rfl, hM.out.st.below⟩
        have q3 : decide ((x.name.length : Int) > 100) = false := decide_eq_false z2
        by_cases z3 : (100 : Int) < (x.reply.length : Int)
        · have q4 : decide ((x.reply.length : Int) > 100) = true := decide_eq_true z3
          go_wp2_with fail
          go_ret
          exact ⟨rfl, hM.out.st.below⟩
        have q4 : decide ((x.reply.length : Int) > 100) = false := decide_eq_false z3
        have hcall := hid (flatP_any 4 (by decide) x.args _ _ wr hxB.1 hvi.out)
        go_wp2_with fail
        refine hcall.out.mono ?_
        rintro e w3 ⟨f, rfl, hfl, hb3⟩
        have hM3 := hid (hM.out.below hb3)
        cases f with
        | false =>
          clear hfl
          go_wp2_with fail
          go_ret
          exact ⟨rfl, hM3.out.st.below⟩
        | true =>
          have hsm : SmallR x := ⟨by omega, by omega, hfl rfl⟩
          have hxK := small_key hsm
          replace hsm := hid hsm
          have d0 : w3.cell? ⟨gi, oi, none⟩ = some (sv x.path) := (hb3.cell (p := ⟨gi, oi, none⟩) hgi).trans c0
          have d1 : w3.cell? ⟨gi, oi + 1, none⟩ = some (sv x.name) := (hb3.cell (p := ⟨gi, oi + 1, none⟩) hgi).trans c1
          have d2 : w3.cell? ⟨gi, oi + 2, none⟩ = some (.slice a1 x.args.length k1) := (hb3.cell (p := ⟨gi, oi + 2, none⟩) hgi).trans c2
          have d3 : w3.cell? ⟨gi, oi + 3, none⟩ = some (iv x.ord) := (hb3.cell (p := ⟨gi, oi + 3, none⟩) hgi).trans c3
          have d4 : w3.cell? ⟨gi, oi + 4, none⟩ = some (sv x.reply) := (hb3.cell (p := ⟨gi, oi + 4, none⟩) hgi).trans c4
          have d5 : w3.cell? ⟨gi, oi + 5, none⟩ = some (iv x.sent) := (hb3.cell (p := ⟨gi, oi + 5, none⟩) hgi).trans c5
          have d6 : w3.cell? ⟨gi, oi + 6, none⟩ = some (iv x.tick) := (hb3.cell (p := ⟨gi, oi + 6, none⟩) hgi).trans c6
          have d7 : w3.cell? ⟨gi, oi + 7, none⟩ = some (.bool x.opn) := (hb3.cell (p := ⟨gi, oi + 7, none⟩) hgi).trans c7
          have hri3 := hid (goodReq.below hri.out hb3)
          have hgi3 := Nat.lt_of_lt_of_le hgi hb3.size
          clear hfl hri hvi hcall hb3 hM q2 q3 q4 z1 z2 z3 c0 c1 c2 c3 c4 c5 c6 c7
          go_wp2_with fail
          rename World => wA
          go_loopw [8] (fun z wr => ∃ k : Nat, z = .int .i64 k ∧ k ≤ i ∧ Hid (∀ j, j < k → keyF (rq l j) ≠ keyF x) ∧ Hid (Below wA.heap.size wA wr)) (fun z _ => i - (intOf z).toNat)
          case atStart => exact ⟨0, rfl, Nat.zero_le _, hid (fun j h => absurd h (by omega)), hid (Below.refl _ _)⟩
          case round =>
            obtain ⟨k, rfl, hk, hD, hB⟩ := hrel
            have hM4 := hid (hM3.out.below hB.out)
            by_cases hki : k < i
            · obtain ⟨y, hy⟩ : ∃ y, y = rq l k := ⟨_, rfl⟩
              have hay := at_rq (show k < l.length by omega)
              rw [← hy] at hay
              have hyB := hl.out.2 y (List.mem_of_getElem? hay)
              have hyK : (keyS y).length ≤ 1048576 := by rw [hy]; exact small_key (hC.out k hki).1
              obtain ⟨gk, ok, csk, hidxk, -, hgk, hck, hrk⟩ := hM4.out.rq.at (P := Tryd.prog) (t := 22) (by kernel_rfl) (fun _ => by kernel_rfl) hay
              obtain ⟨a2, k2, rfl, -⟩ := id hrk
              have f0 := hck 0 _ rfl
              have f1 := hck 1 _ rfl
              have f2 := hck 2 _ rfl
              have f3 := hck 3 _ rfl
              have f4 := hck 4 _ rfl
              have f5 := hck 5 _ rfl
              have f6 := hck 6 _ rfl
              have f7 := hck 7 _ rfl
              rw [Nat.add_zero] at f0
              have e0 : wr.cell? ⟨gi, oi, none⟩ = some (sv x.path) := (hB.out.cell (p := ⟨gi, oi, none⟩) hgi3).trans d0
              have e1 : wr.cell? ⟨gi, oi + 1, none⟩ = some (sv x.name) := (hB.out.cell (p := ⟨gi, oi + 1, none⟩) hgi3).trans d1
              have e2 : wr.cell? ⟨gi, oi + 2, none⟩ = some (.slice a1 x.args.length k1) := (hB.out.cell (p := ⟨gi, oi + 2, none⟩) hgi3).trans d2
              have e3 : wr.cell? ⟨gi, oi + 3, none⟩ = some (iv x.ord) := (hB.out.cell (p := ⟨gi, oi + 3, none⟩) hgi3).trans d3
              have e4 : wr.cell? ⟨gi, oi + 4, none⟩ = some (sv x.reply) := (hB.out.cell (p := ⟨gi, oi + 4, none⟩) hgi3).trans d4
              have e5 : wr.cell? ⟨gi, oi + 5, none⟩ = some (iv x.sent) := (hB.out.cell (p := ⟨gi, oi + 5, none⟩) hgi3).trans d5
              have e6 : wr.cell? ⟨gi, oi + 6, none⟩ = some (iv x.tick) := (hB.out.cell (p := ⟨gi, oi + 6, none⟩) hgi3).trans d6
              have e7 : wr.cell? ⟨gi, oi + 7, none⟩ = some (.bool x.opn) := (hB.out.cell (p := ⟨gi, oi + 7, none⟩) hgi3).trans d7
              have hri4 := hid (goodReq.below hri3.out hB.out)
              have hgi4 := Nat.lt_of_lt_of_le hgi3 hB.out.size
              have hvi4 := hid (valsR_of hri4.out)
              have hvk4 := hid (valsR_of hrk)
              have ht4 := hid (hM4.out.tab ht.out)
              replace hrk := hid hrk
              replace hy := hid hy
              clear hck d0 d1 d2 d3 d4 d5 d6 d7
              obtain ⟨ky, hky⟩ : ∃ ky, ky = keyF y := ⟨_, rfl⟩
              obtain ⟨kx, hkx⟩ : ∃ kx, kx = keyF x := ⟨_, rfl⟩
              replace hky := hid hky
              replace hkx := hid hkx
              go_wp2_with fail
              refine wp_region_held_drew (S := (fun w9 => Below wr.heap.size wr w9)) (by kernel_rfl) ?_ (fun hHeld => ?_)
              · exact (Below.refl _ _).drew
              generalize wr.drew = wd at *
              refine wpAnyH_take (i := 0) (oi := ⟨_, _, _, _, _, _⟩) (v := ?_) rfl (by as_aux_lemma => kernel_rfl) (by as_aux_lemma => kernel_rfl) (by as_aux_lemma => kernel_rfl) (fun _ _ _ h => h) (Or.inl ⟨by rfl, ?hy⟩) (by assumption) ?_
              case hy =>
                intro w hSw
                skip
                go_simp
                all_goals with_reducible rfl
              try simp only [Act.put, List.setIfInBounds_toArray, List.set_cons_zero, List.set_cons_succ]
              refine wpAnyH_take (i := 1) (oi := ⟨_, _, _, _, _, _⟩) (v := ?_) rfl (by as_aux_lemma => kernel_rfl) (by as_aux_lemma => kernel_rfl) (by as_aux_lemma => kernel_rfl) (fun _ _ _ h => h) (Or.inl ⟨by rfl, ?hy⟩) (by assumption) ?_
              case hy =>
                intro w hSw
                skip
                go_simp
                all_goals with_reducible rfl
              try simp only [Act.put, List.setIfInBounds_toArray, List.set_cons_zero, List.set_cons_succ]
              refine wpAnyH_take (i := 2) (oi := ⟨_, _, _, _, _, _⟩) (v := ?_) rfl (by as_aux_lemma => kernel_rfl) (by as_aux_lemma => kernel_rfl) (by as_aux_lemma => kernel_rfl) (fun _ _ _ h => h) (Or.inl ⟨by rfl, ?hy⟩) (by assumption) ?_
              case hy =>
                intro w hSw
                skip
                go_simp
                all_goals with_reducible rfl
              try simp only [Act.put, List.setIfInBounds_toArray, List.set_cons_zero, List.set_cons_succ]
              refine wpAnyH_take (i := 3) (oi := ⟨_, _, _, _, _, _⟩) (v := ?_) rfl (by as_aux_lemma => kernel_rfl) (by as_aux_lemma => kernel_rfl) (by as_aux_lemma => kernel_rfl) (fun _ _ _ h => h) (Or.inl ⟨by rfl, ?hy⟩) (by assumption) ?_
              case hy =>
                intro w hSw
                have f0 : w.cell? ⟨gk, ok, none⟩ = some (sv y.path) := (hSw.cell (p := ⟨gk, ok, none⟩) hgk).trans f0
                have f1 : w.cell? ⟨gk, ok + 1, none⟩ = some (sv y.name) := (hSw.cell (p := ⟨gk, ok + 1, none⟩) hgk).trans f1
                have f2 : w.cell? ⟨gk, ok + 2, none⟩ = some (.slice a2 y.args.length k2) := (hSw.cell (p := ⟨gk, ok + 2, none⟩) hgk).trans f2
                have f3 : w.cell? ⟨gk, ok + 3, none⟩ = some (iv y.ord) := (hSw.cell (p := ⟨gk, ok + 3, none⟩) hgk).trans f3
                have f4 : w.cell? ⟨gk, ok + 4, none⟩ = some (sv y.reply) := (hSw.cell (p := ⟨gk, ok + 4, none⟩) hgk).trans f4
                have f5 : w.cell? ⟨gk, ok + 5, none⟩ = some (iv y.sent) := (hSw.cell (p := ⟨gk, ok + 5, none⟩) hgk).trans f5
                have f6 : w.cell? ⟨gk, ok + 6, none⟩ = some (iv y.tick) := (hSw.cell (p := ⟨gk, ok + 6, none⟩) hgk).trans f6
                have f7 : w.cell? ⟨gk, ok + 7, none⟩ = some (.bool y.opn) := (hSw.cell (p := ⟨gk, ok + 7, none⟩) hgk).trans f7
                go_simp
                all_goals with_reducible rfl
              try simp only [Act.put, List.setIfInBounds_toArray, List.set_cons_zero, List.set_cons_succ]
              refine wpAnyH_take (i := 5) (oi := ⟨_, _, _, _, _, _⟩) (v := ?_) rfl (by as_aux_lemma => kernel_rfl) (by as_aux_lemma => kernel_rfl) (by as_aux_lemma => kernel_rfl) (fun _ _ _ h => h) (Or.inl ⟨by rfl, ?hy⟩) (by assumption) ?_
              case hy =>
                intro w hSw
                skip
                go_simp
                all_goals with_reducible rfl
              try simp only [Act.put, List.setIfInBounds_toArray, List.set_cons_zero, List.set_cons_succ]
              refine wpAnyH_take (i := 6) (oi := ⟨_, _, _, _, _, _⟩) (v := ?_) rfl (by as_aux_lemma => kernel_rfl) (by as_aux_lemma => kernel_rfl) (by as_aux_lemma => kernel_rfl) (fun _ _ _ h => h) (Or.inl ⟨by rfl, ?hy⟩) (by assumption) ?_
              case hy =>
                intro w hSw
                skip
                go_simp
                all_goals with_reducible rfl
              try simp only [Act.put, List.setIfInBounds_toArray, List.set_cons_zero, List.set_cons_succ]
              refine wpAnyH_take (i := 7) (oi := ⟨_, _, _, _, _, _⟩) (v := ?_) rfl (by as_aux_lemma => kernel_rfl) (by as_aux_lemma => kernel_rfl) (by as_aux_lemma => kernel_rfl) (fun _ _ _ h => h) (Or.inl ⟨by rfl, ?hy⟩) (by assumption) ?_
              case hy =>
                intro w hSw
                skip
                go_simp
                all_goals with_reducible rfl
              try simp only [Act.put, List.setIfInBounds_toArray, List.set_cons_zero, List.set_cons_succ]
              refine wpAnyH_take (i := 8) (oi := ⟨_, _, _, _, _, _⟩) (v := ?_) rfl (by as_aux_lemma => kernel_rfl) (by as_aux_lemma => kernel_rfl) (by as_aux_lemma => kernel_rfl) (fun _ _ _ h => h) (Or.inl ⟨by rfl, ?hy⟩) (by assumption) ?_
              case hy =>
                intro w hSw
                have e0 : w.cell? ⟨gi, oi, none⟩ = some (sv x.path) := (hSw.cell (p := ⟨gi, oi, none⟩) hgi4).trans e0
                have e1 : w.cell? ⟨gi, oi + 1, none⟩ = some (sv x.name) := (hSw.cell (p := ⟨gi, oi + 1, none⟩) hgi4).trans e1
                have e2 : w.cell? ⟨gi, oi + 2, none⟩ = some (.slice a1 x.args.length k1) := (hSw.cell (p := ⟨gi, oi + 2, none⟩) hgi4).trans e2
                have e3 : w.cell? ⟨gi, oi + 3, none⟩ = some (iv x.ord) := (hSw.cell (p := ⟨gi, oi + 3, none⟩) hgi4).trans e3
                have e4 : w.cell? ⟨gi, oi + 4, none⟩ = some (sv x.reply) := (hSw.cell (p := ⟨gi, oi + 4, none⟩) hgi4).trans e4
                have e5 : w.cell? ⟨gi, oi + 5, none⟩ = some (iv x.sent) := (hSw.cell (p := ⟨gi, oi + 5, none⟩) hgi4).trans e5
                have e6 : w.cell? ⟨gi, oi + 6, none⟩ = some (iv x.tick) := (hSw.cell (p := ⟨gi, oi + 6, none⟩) hgi4).trans e6
                have e7 : w.cell? ⟨gi, oi + 7, none⟩ = some (.bool x.opn) := (hSw.cell (p := ⟨gi, oi + 7, none⟩) hgi4).trans e7
                go_simp
                all_goals with_reducible rfl
              try simp only [Act.put, List.setIfInBounds_toArray, List.set_cons_zero, List.set_cons_succ]
              refine wpAnyH_ready (rs := [4]) (by as_aux_lemma => kernel_rfl) (by simp) ?_
              refine AllReadyH.cons (o := ⟨_, _, _, _, _, _⟩) rfl (fun K hK => ?_) AllReadyH.nil
              go_simp
              go_at_call 7
              refine (netKey_any y hyB hyK _ (reqCs y (.slice a2 y.args.length k2)) _ (ht4.out.below hHeld (Nat.le_refl _)) (goodReq.below hrk.out hHeld)).mono ?_
              rintro e wq ⟨rfl, hbq⟩
              rw [← hky.out]
              have hZ := hHeld.trans (hbq.mono hHeld.size)
              refine hK.out _ _ ?_ (fun hHeld2 => ?_)
              · exact hZ
              clear hK K
              clear hHeld
              have hHeld := hHeld2
              clear hHeld2
              try simp only [Act.put, List.setIfInBounds_toArray, List.set_cons_zero, List.set_cons_succ]
              refine wpAnyH_ready (rs := [9]) (by as_aux_lemma => kernel_rfl) (by simp) ?_
              refine AllReadyH.cons (o := ⟨_, _, _, _, _, _⟩) rfl (fun K hK => ?_) AllReadyH.nil
              go_simp
              go_at_call 7
              refine (netKey_any x hxB hxK _ (reqCs x (.slice a1 x.args.length k1)) _ (ht4.out.below hHeld (Nat.le_refl _)) (goodReq.below hri4.out hHeld)).mono ?_
              rintro e wq ⟨rfl, hbq⟩
              rw [← hkx.out]
              have hZ := hHeld.trans (hbq.mono hHeld.size)
              refine hK.out _ _ ?_ (fun hHeld2 => ?_)
              · exact hZ
              clear hK K
              clear hHeld
              have hHeld := hHeld2
              clear hHeld2
              try simp only [Act.put, List.setIfInBounds_toArray, List.set_cons_zero, List.set_cons_succ]
              refine wpAnyH_take (i := 10) (oi := ⟨_, _, _, _, _, _⟩) (v := ?_) rfl (by as_aux_lemma => kernel_rfl) (by as_aux_lemma => kernel_rfl) (by as_aux_lemma => kernel_rfl) (fun _ _ _ h => h) (Or.inl ⟨by rfl, ?hy⟩) (by assumption) ?_
              case hy =>
                intro w hSw
                skip
                go_simp
                all_goals with_reducible rfl
              try simp only [Act.put, List.setIfInBounds_toArray, List.set_cons_zero, List.set_cons_succ]
              refine wpAnyH_take (i := 11) (oi := ⟨_, _, _, _, _, _⟩) (v := ?_) rfl (by as_aux_lemma => kernel_rfl) (by as_aux_lemma => kernel_rfl) (by as_aux_lemma => kernel_rfl) (fun _ _ _ h => h) (Or.inl ⟨by rfl, ?hy⟩) (by assumption) ?_
              case hy =>
                intro w hSw
                skip
                go_simp
                all_goals with_reducible rfl
              try simp only [Act.put, List.setIfInBounds_toArray, List.set_cons_zero, List.set_cons_succ]
              cases hE : (ky == kx) with
              | true =>
                refine wpAnyH_take (i := 12) (oi := ⟨_, _, _, _, _, _⟩) (v := undef) rfl (by as_aux_lemma => kernel_rfl) (by as_aux_lemma => kernel_rfl) (by as_aux_lemma => kernel_rfl) (fun _ _ _ h => h) (Or.inr ⟨by rfl, rfl⟩) (by assumption) ?_
                try simp only [Act.put, List.setIfInBounds_toArray, List.set_cons_zero, List.set_cons_succ]
                refine wpAnyH_take (i := 13) (oi := ⟨_, _, _, _, _, _⟩) (v := undef) rfl (by as_aux_lemma => kernel_rfl) (by as_aux_lemma => kernel_rfl) (by as_aux_lemma => kernel_rfl) (fun _ _ _ h => h) (Or.inr ⟨by rfl, rfl⟩) (by assumption) ?_
                try simp only [Act.put, List.setIfInBounds_toArray, List.set_cons_zero, List.set_cons_succ]
                refine wpAnyH_take (i := 14) (oi := ⟨_, _, _, _, _, _⟩) (v := undef) rfl (by as_aux_lemma => kernel_rfl) (by as_aux_lemma => kernel_rfl) (by as_aux_lemma => kernel_rfl) (fun _ _ _ h => h) (Or.inr ⟨by rfl, rfl⟩) (by assumption) ?_
                try simp only [Act.put, List.setIfInBounds_toArray, List.set_cons_zero, List.set_cons_succ]
                refine wpAnyH_take (i := 15) (oi := ⟨_, _, _, _, _, _⟩) (v := undef) rfl (by as_aux_lemma => kernel_rfl) (by as_aux_lemma => kernel_rfl) (by as_aux_lemma => kernel_rfl) (fun _ _ _ h => h) (Or.inr ⟨by rfl, rfl⟩) (by assumption) ?_
                try simp only [Act.put, List.setIfInBounds_toArray, List.set_cons_zero, List.set_cons_succ]
                refine wpAnyH_take (i := 16) (oi := ⟨_, _, _, _, _, _⟩) (v := undef) rfl (by as_aux_lemma => kernel_rfl) (by as_aux_lemma => kernel_rfl) (by as_aux_lemma => kernel_rfl) (fun _ _ _ h => h) (Or.inr ⟨by rfl, rfl⟩) (by assumption) ?_
                try simp only [Act.put, List.setIfInBounds_toArray, List.set_cons_zero, List.set_cons_succ]
                refine wpAnyH_take (i := 17) (oi := ⟨_, _, _, _, _, _⟩) (v := undef) rfl (by as_aux_lemma => kernel_rfl) (by as_aux_lemma => kernel_rfl) (by as_aux_lemma => kernel_rfl) (fun _ _ _ h => h) (Or.inr ⟨by rfl, rfl⟩) (by assumption) ?_
                try simp only [Act.put, List.setIfInBounds_toArray, List.set_cons_zero, List.set_cons_succ]
                refine wpAnyH_take (i := 18) (oi := ⟨_, _, _, _, _, _⟩) (v := undef) rfl (by as_aux_lemma => kernel_rfl) (by as_aux_lemma => kernel_rfl) (by as_aux_lemma => kernel_rfl) (fun _ _ _ h => h) (Or.inr ⟨by rfl, rfl⟩) (by assumption) ?_
                try simp only [Act.put, List.setIfInBounds_toArray, List.set_cons_zero, List.set_cons_succ]
                refine wpAnyH_take (i := 19) (oi := ⟨_, _, _, _, _, _⟩) (v := undef) rfl (by as_aux_lemma => kernel_rfl) (by as_aux_lemma => kernel_rfl) (by as_aux_lemma => kernel_rfl) (fun _ _ _ h => h) (Or.inr ⟨by rfl, rfl⟩) (by assumption) ?_
                try simp only [Act.put, List.setIfInBounds_toArray, List.set_cons_zero, List.set_cons_succ]
                refine wpAnyH_take (i := 20) (oi := ⟨_, _, _, _, _, _⟩) (v := undef) rfl (by as_aux_lemma => kernel_rfl) (by as_aux_lemma => kernel_rfl) (by as_aux_lemma => kernel_rfl) (fun _ _ _ h => h) (Or.inr ⟨by rfl, rfl⟩) (by assumption) ?_
                try simp only [Act.put, List.setIfInBounds_toArray, List.set_cons_zero, List.set_cons_succ]
                refine wpAnyH_take (i := 21) (oi := ⟨_, _, _, _, _, _⟩) (v := undef) rfl (by as_aux_lemma => kernel_rfl) (by as_aux_lemma => kernel_rfl) (by as_aux_lemma => kernel_rfl) (fun _ _ _ h => h) (Or.inr ⟨by rfl, rfl⟩) (by assumption) ?_
                try simp only [Act.put, List.setIfInBounds_toArray, List.set_cons_zero, List.set_cons_succ]
                refine wpAnyH_take (i := 22) (oi := ⟨_, _, _, _, _, _⟩) (v := undef) rfl (by as_aux_lemma => kernel_rfl) (by as_aux_lemma => kernel_rfl) (by as_aux_lemma => kernel_rfl) (fun _ _ _ h => h) (Or.inr ⟨by rfl, rfl⟩) (by assumption) ?_
                try simp only [Act.put, List.setIfInBounds_toArray, List.set_cons_zero, List.set_cons_succ]
                refine wpAnyH_take (i := 23) (oi := ⟨_, _, _, _, _, _⟩) (v := undef) rfl (by as_aux_lemma => kernel_rfl) (by as_aux_lemma => kernel_rfl) (by as_aux_lemma => kernel_rfl) (fun _ _ _ h => h) (Or.inr ⟨by rfl, rfl⟩) (by assumption) ?_
                try simp only [Act.put, List.setIfInBounds_toArray, List.set_cons_zero, List.set_cons_succ]
                refine wpAnyH_take (i := 24) (oi := ⟨_, _, _, _, _, _⟩) (v := undef) rfl (by as_aux_lemma => kernel_rfl) (by as_aux_lemma => kernel_rfl) (by as_aux_lemma => kernel_rfl) (fun _ _ _ h => h) (Or.inr ⟨by rfl, rfl⟩) (by assumption) ?_
                try simp only [Act.put, List.setIfInBounds_toArray, List.set_cons_zero, List.set_cons_succ]
                refine wpAnyH_take (i := 25) (oi := ⟨_, _, _, _, _, _⟩) (v := undef) rfl (by as_aux_lemma => kernel_rfl) (by as_aux_lemma => kernel_rfl) (by as_aux_lemma => kernel_rfl) (fun _ _ _ h => h) (Or.inr ⟨by rfl, rfl⟩) (by assumption) ?_
                try simp only [Act.put, List.setIfInBounds_toArray, List.set_cons_zero, List.set_cons_succ]
                refine wpAnyH_take (i := 26) (oi := ⟨_, _, _, _, _, _⟩) (v := undef) rfl (by as_aux_lemma => kernel_rfl) (by as_aux_lemma => kernel_rfl) (by as_aux_lemma => kernel_rfl) (fun _ _ _ h => h) (Or.inr ⟨by rfl, rfl⟩) (by assumption) ?_
                try simp only [Act.put, List.setIfInBounds_toArray, List.set_cons_zero, List.set_cons_succ]
                refine wpAnyH_take (i := 27) (oi := ⟨_, _, _, _, _, _⟩) (v := undef) rfl (by as_aux_lemma => kernel_rfl) (by as_aux_lemma => kernel_rfl) (by as_aux_lemma => kernel_rfl) (fun _ _ _ h => h) (Or.inr ⟨by rfl, rfl⟩) (by assumption) ?_
                try simp only [Act.put, List.setIfInBounds_toArray, List.set_cons_zero, List.set_cons_succ]
                refine wpAnyH_take (i := 28) (oi := ⟨_, _, _, _, _, _⟩) (v := undef) rfl (by as_aux_lemma => kernel_rfl) (by as_aux_lemma => kernel_rfl) (by as_aux_lemma => kernel_rfl) (fun _ _ _ h => h) (Or.inr ⟨by rfl, rfl⟩) (by assumption) ?_
                try simp only [Act.put, List.setIfInBounds_toArray, List.set_cons_zero, List.set_cons_succ]
                refine wpAnyH_take (i := 29) (oi := ⟨_, _, _, _, _, _⟩) (v := undef) rfl (by as_aux_lemma => kernel_rfl) (by as_aux_lemma => kernel_rfl) (by as_aux_lemma => kernel_rfl) (fun _ _ _ h => h) (Or.inr ⟨by rfl, rfl⟩) (by assumption) ?_
                try simp only [Act.put, List.setIfInBounds_toArray, List.set_cons_zero, List.set_cons_succ]
                refine wpAnyH_take (i := 30) (oi := ⟨_, _, _, _, _, _⟩) (v := undef) rfl (by as_aux_lemma => kernel_rfl) (by as_aux_lemma => kernel_rfl) (by as_aux_lemma => kernel_rfl) (fun _ _ _ h => h) (Or.inr ⟨by rfl, rfl⟩) (by assumption) ?_
                try simp only [Act.put, List.setIfInBounds_toArray, List.set_cons_zero, List.set_cons_succ]
                refine wpAnyH_take (i := 31) (oi := ⟨_, _, _, _, _, _⟩) (v := undef) rfl (by as_aux_lemma => kernel_rfl) (by as_aux_lemma => kernel_rfl) (by as_aux_lemma => kernel_rfl) (fun _ _ _ h => h) (Or.inr ⟨by rfl, rfl⟩) (by assumption) ?_
                try simp only [Act.put, List.setIfInBounds_toArray, List.set_cons_zero, List.set_cons_succ]
                refine wpAnyH_take (i := 32) (oi := ⟨_, _, _, _, _, _⟩) (v := undef) rfl (by as_aux_lemma => kernel_rfl) (by as_aux_lemma => kernel_rfl) (by as_aux_lemma => kernel_rfl) (fun _ _ _ h => h) (Or.inr ⟨by rfl, rfl⟩) (by assumption) ?_
                try simp only [Act.put, List.setIfInBounds_toArray, List.set_cons_zero, List.set_cons_succ]
                refine wpAnyH_take (i := 33) (oi := ⟨_, _, _, _, _, _⟩) (v := undef) rfl (by as_aux_lemma => kernel_rfl) (by as_aux_lemma => kernel_rfl) (by as_aux_lemma => kernel_rfl) (fun _ _ _ h => h) (Or.inr ⟨by rfl, rfl⟩) (by assumption) ?_
                try simp only [Act.put, List.setIfInBounds_toArray, List.set_cons_zero, List.set_cons_succ]
                refine wpAnyH_take (i := 34) (oi := ⟨_, _, _, _, _, _⟩) (v := undef) rfl (by as_aux_lemma => kernel_rfl) (by as_aux_lemma => kernel_rfl) (by as_aux_lemma => kernel_rfl) (fun _ _ _ h => h) (Or.inr ⟨by rfl, rfl⟩) (by assumption) ?_
                try simp only [Act.put, List.setIfInBounds_toArray, List.set_cons_zero, List.set_cons_succ]
                refine wpAnyH_take (i := 35) (oi := ⟨_, _, _, _, _, _⟩) (v := undef) rfl (by as_aux_lemma => kernel_rfl) (by as_aux_lemma => kernel_rfl) (by as_aux_lemma => kernel_rfl) (fun _ _ _ h => h) (Or.inr ⟨by rfl, rfl⟩) (by assumption) ?_
                try simp only [Act.put, List.setIfInBounds_toArray, List.set_cons_zero, List.set_cons_succ]
                refine wpAnyH_take (i := 36) (oi := ⟨_, _, _, _, _, _⟩) (v := undef) rfl (by as_aux_lemma => kernel_rfl) (by as_aux_lemma => kernel_rfl) (by as_aux_lemma => kernel_rfl) (fun _ _ _ h => h) (Or.inr ⟨by rfl, rfl⟩) (by assumption) ?_
                try simp only [Act.put, List.setIfInBounds_toArray, List.set_cons_zero, List.set_cons_succ]
                refine wpAnyH_take (i := 37) (oi := ⟨_, _, _, _, _, _⟩) (v := undef) rfl (by as_aux_lemma => kernel_rfl) (by as_aux_lemma => kernel_rfl) (by as_aux_lemma => kernel_rfl) (fun _ _ _ h => h) (Or.inr ⟨by rfl, rfl⟩) (by assumption) ?_
                try simp only [Act.put, List.setIfInBounds_toArray, List.set_cons_zero, List.set_cons_succ]
                refine wpAnyH_take (i := 38) (oi := ⟨_, _, _, _, _, _⟩) (v := undef) rfl (by as_aux_lemma => kernel_rfl) (by as_aux_lemma => kernel_rfl) (by as_aux_lemma => kernel_rfl) (fun _ _ _ h => h) (Or.inr ⟨by rfl, rfl⟩) (by assumption) ?_
                try simp only [Act.put, List.setIfInBounds_toArray, List.set_cons_zero, List.set_cons_succ]
                refine wpAnyH_take (i := 39) (oi := ⟨_, _, _, _, _, _⟩) (v := undef) rfl (by as_aux_lemma => kernel_rfl) (by as_aux_lemma => kernel_rfl) (by as_aux_lemma => kernel_rfl) (fun _ _ _ h => h) (Or.inr ⟨by rfl, rfl⟩) (by assumption) ?_
                try simp only [Act.put, List.setIfInBounds_toArray, List.set_cons_zero, List.set_cons_succ]
                refine wpAnyH_take (i := 40) (oi := ⟨_, _, _, _, _, _⟩) (v := undef) rfl (by as_aux_lemma => kernel_rfl) (by as_aux_lemma => kernel_rfl) (by as_aux_lemma => kernel_rfl) (fun _ _ _ h => h) (Or.inr ⟨by rfl, rfl⟩) (by assumption) ?_
                try simp only [Act.put, List.setIfInBounds_toArray, List.set_cons_zero, List.set_cons_succ]
                refine wpAnyH_take (i := 41) (oi := ⟨_, _, _, _, _, _⟩) (v := undef) rfl (by as_aux_lemma => kernel_rfl) (by as_aux_lemma => kernel_rfl) (by as_aux_lemma => kernel_rfl) (fun _ _ _ h => h) (Or.inr ⟨by rfl, rfl⟩) (by assumption) ?_
                try simp only [Act.put, List.setIfInBounds_toArray, List.set_cons_zero, List.set_cons_succ]
                refine wpAnyH_take (i := 42) (oi := ⟨_, _, _, _, _, _⟩) (v := undef) rfl (by as_aux_lemma => kernel_rfl) (by as_aux_lemma => kernel_rfl) (by as_aux_lemma => kernel_rfl) (fun _ _ _ h => h) (Or.inr ⟨by rfl, rfl⟩) (by assumption) ?_
                try simp only [Act.put, List.setIfInBounds_toArray, List.set_cons_zero, List.set_cons_succ]
                refine wpAnyH_take (i := 43) (oi := ⟨_, _, _, _, _, _⟩) (v := undef) rfl (by as_aux_lemma => kernel_rfl) (by as_aux_lemma => kernel_rfl) (by as_aux_lemma => kernel_rfl) (fun _ _ _ h => h) (Or.inr ⟨by rfl, rfl⟩) (by assumption) ?_
                try simp only [Act.put, List.setIfInBounds_toArray, List.set_cons_zero, List.set_cons_succ]
                refine wpAnyH_take (i := 44) (oi := ⟨_, _, _, _, _, _⟩) (v := undef) rfl (by as_aux_lemma => kernel_rfl) (by as_aux_lemma => kernel_rfl) (by as_aux_lemma => kernel_rfl) (fun _ _ _ h => h) (Or.inr ⟨by rfl, rfl⟩) (by assumption) ?_
                try simp only [Act.put, List.setIfInBounds_toArray, List.set_cons_zero, List.set_cons_succ]
                refine wpAnyH_take (i := 45) (oi := ⟨_, _, _, _, _, _⟩) (v := undef) rfl (by as_aux_lemma => kernel_rfl) (by as_aux_lemma => kernel_rfl) (by as_aux_lemma => kernel_rfl) (fun _ _ _ h => h) (Or.inr ⟨by rfl, rfl⟩) (by assumption) ?_
                try simp only [Act.put, List.setIfInBounds_toArray, List.set_cons_zero, List.set_cons_succ]
                refine wpAnyH_take (i := 46) (oi := ⟨_, _, _, _, _, _⟩) (v := undef) rfl (by as_aux_lemma => kernel_rfl) (by as_aux_lemma => kernel_rfl) (by as_aux_lemma => kernel_rfl) (fun _ _ _ h => h) (Or.inr ⟨by rfl, rfl⟩) (by assumption) ?_
                try simp only [Act.put, List.setIfInBounds_toArray, List.set_cons_zero, List.set_cons_succ]
                refine wpAnyH_take (i := 47) (oi := ⟨_, _, _, _, _, _⟩) (v := undef) rfl (by as_aux_lemma => kernel_rfl) (by as_aux_lemma => kernel_rfl) (by as_aux_lemma => kernel_rfl) (fun _ _ _ h => h) (Or.inr ⟨by rfl, rfl⟩) (by assumption) ?_
                try simp only [Act.put, List.setIfInBounds_toArray, List.set_cons_zero, List.set_cons_succ]
                refine wpAnyH_take (i := 48) (oi := ⟨_, _, _, _, _, _⟩) (v := undef) rfl (by as_aux_lemma => kernel_rfl) (by as_aux_lemma => kernel_rfl) (by as_aux_lemma => kernel_rfl) (fun _ _ _ h => h) (Or.inr ⟨by rfl, rfl⟩) (by assumption) ?_
                try simp only [Act.put, List.setIfInBounds_toArray, List.set_cons_zero, List.set_cons_succ]
                refine wpAnyH_take (i := 49) (oi := ⟨_, _, _, _, _, _⟩) (v := undef) rfl (by as_aux_lemma => kernel_rfl) (by as_aux_lemma => kernel_rfl) (by as_aux_lemma => kernel_rfl) (fun _ _ _ h => h) (Or.inr ⟨by rfl, rfl⟩) (by assumption) ?_
                try simp only [Act.put, List.setIfInBounds_toArray, List.set_cons_zero, List.set_cons_succ]
                refine wpAnyH_take (i := 50) (oi := ⟨_, _, _, _, _, _⟩) (v := undef) rfl (by as_aux_lemma => kernel_rfl) (by as_aux_lemma => kernel_rfl) (by as_aux_lemma => kernel_rfl) (fun _ _ _ h => h) (Or.inr ⟨by rfl, rfl⟩) (by assumption) ?_
                try simp only [Act.put, List.setIfInBounds_toArray, List.set_cons_zero, List.set_cons_succ]
                refine wpAnyH_take (i := 51) (oi := ⟨_, _, _, _, _, _⟩) (v := undef) rfl (by as_aux_lemma => kernel_rfl) (by as_aux_lemma => kernel_rfl) (by as_aux_lemma => kernel_rfl) (fun _ _ _ h => h) (Or.inr ⟨by rfl, rfl⟩) (by assumption) ?_
                try simp only [Act.put, List.setIfInBounds_toArray, List.set_cons_zero, List.set_cons_succ]
                refine wpAnyH_take (i := 52) (oi := ⟨_, _, _, _, _, _⟩) (v := undef) rfl (by as_aux_lemma => kernel_rfl) (by as_aux_lemma => kernel_rfl) (by as_aux_lemma => kernel_rfl) (fun _ _ _ h => h) (Or.inr ⟨by rfl, rfl⟩) (by assumption) ?_
                try simp only [Act.put, List.setIfInBounds_toArray, List.set_cons_zero, List.set_cons_succ]
                refine wpAnyH_take (i := 53) (oi := ⟨_, _, _, _, _, _⟩) (v := undef) rfl (by as_aux_lemma => kernel_rfl) (by as_aux_lemma => kernel_rfl) (by as_aux_lemma => kernel_rfl) (fun _ _ _ h => h) (Or.inr ⟨by rfl, rfl⟩) (by assumption) ?_
                try simp only [Act.put, List.setIfInBounds_toArray, List.set_cons_zero, List.set_cons_succ]
                refine wpAnyH_take (i := 54) (oi := ⟨_, _, _, _, _, _⟩) (v := undef) rfl (by as_aux_lemma => kernel_rfl) (by as_aux_lemma => kernel_rfl) (by as_aux_lemma => kernel_rfl) (fun _ _ _ h => h) (Or.inr ⟨by rfl, rfl⟩) (by assumption) ?_
                try simp only [Act.put, List.setIfInBounds_toArray, List.set_cons_zero, List.set_cons_succ]
                refine wpAnyH_take (i := 55) (oi := ⟨_, _, _, _, _, _⟩) (v := undef) rfl (by as_aux_lemma => kernel_rfl) (by as_aux_lemma => kernel_rfl) (by as_aux_lemma => kernel_rfl) (fun _ _ _ h => h) (Or.inr ⟨by rfl, rfl⟩) (by assumption) ?_
                try simp only [Act.put, List.setIfInBounds_toArray, List.set_cons_zero, List.set_cons_succ]
                refine wpAnyH_take (i := 56) (oi := ⟨_, _, _, _, _, _⟩) (v := undef) rfl (by as_aux_lemma => kernel_rfl) (by as_aux_lemma => kernel_rfl) (by as_aux_lemma => kernel_rfl) (fun _ _ _ h => h) (Or.inr ⟨by rfl, rfl⟩) (by assumption) ?_
                try simp only [Act.put, List.setIfInBounds_toArray, List.set_cons_zero, List.set_cons_succ]
                refine wpAnyH_take (i := 57) (oi := ⟨_, _, _, _, _, _⟩) (v := undef) rfl (by as_aux_lemma => kernel_rfl) (by as_aux_lemma => kernel_rfl) (by as_aux_lemma => kernel_rfl) (fun _ _ _ h => h) (Or.inr ⟨by rfl, rfl⟩) (by assumption) ?_
                try simp only [Act.put, List.setIfInBounds_toArray, List.set_cons_zero, List.set_cons_succ]
                refine wpAnyH_take (i := 58) (oi := ⟨_, _, _, _, _, _⟩) (v := undef) rfl (by as_aux_lemma => kernel_rfl) (by as_aux_lemma => kernel_rfl) (by as_aux_lemma => kernel_rfl) (fun _ _ _ h => h) (Or.inr ⟨by rfl, rfl⟩) (by assumption) ?_
                try simp only [Act.put, List.setIfInBounds_toArray, List.set_cons_zero, List.set_cons_succ]
                refine wpAnyH_take (i := 59) (oi := ⟨_, _, _, _, _, _⟩) (v := undef) rfl (by as_aux_lemma => kernel_rfl) (by as_aux_lemma => kernel_rfl) (by as_aux_lemma => kernel_rfl) (fun _ _ _ h => h) (Or.inr ⟨by rfl, rfl⟩) (by assumption) ?_
                try simp only [Act.put, List.setIfInBounds_toArray, List.set_cons_zero, List.set_cons_succ]
                refine wpAnyH_take (i := 60) (oi := ⟨_, _, _, _, _, _⟩) (v := undef) rfl (by as_aux_lemma => kernel_rfl) (by as_aux_lemma => kernel_rfl) (by as_aux_lemma => kernel_rfl) (fun _ _ _ h => h) (Or.inr ⟨by rfl, rfl⟩) (by assumption) ?_
                try simp only [Act.put, List.setIfInBounds_toArray, List.set_cons_zero, List.set_cons_succ]
                refine wpAnyH_take (i := 61) (oi := ⟨_, _, _, _, _, _⟩) (v := undef) rfl (by as_aux_lemma => kernel_rfl) (by as_aux_lemma => kernel_rfl) (by as_aux_lemma => kernel_rfl) (fun _ _ _ h => h) (Or.inr ⟨by rfl, rfl⟩) (by assumption) ?_
                try simp only [Act.put, List.setIfInBounds_toArray, List.set_cons_zero, List.set_cons_succ]
                refine wpAnyH_take (i := 62) (oi := ⟨_, _, _, _, _, _⟩) (v := ?_) rfl (by as_aux_lemma => kernel_rfl) (by as_aux_lemma => kernel_rfl) (by as_aux_lemma => kernel_rfl) (fun _ _ _ h => h) (Or.inl ⟨by rfl, ?hy⟩) (by assumption) ?_
                case hy =>
                  intro w hSw
                  skip
                  go_simp
                  all_goals with_reducible rfl
                try simp only [Act.put, List.setIfInBounds_toArray, List.set_cons_zero, List.set_cons_succ]
                refine wpAnyH_done (by as_aux_lemma => kernel_rfl) ?_ _
                go_wp2_with fail
                go_ret
                exact ⟨rfl, (hM4.out.below hHeld).st.below⟩
              | false =>
                refine wpAnyH_take (i := 12) (oi := ⟨_, _, _, _, _, _⟩) (v := ?_) rfl (by as_aux_lemma => kernel_rfl) (by as_aux_lemma => kernel_rfl) (by as_aux_lemma => kernel_rfl) (fun _ _ _ h => h) (Or.inl ⟨by rfl, ?hy⟩) (by assumption) ?_
                case hy =>
                  intro w hSw
                  skip
                  go_simp
                  all_goals with_reducible rfl
                try simp only [Act.put, List.setIfInBounds_toArray, List.set_cons_zero, List.set_cons_succ]
                refine wpAnyH_take (i := 13) (oi := ⟨_, _, _, _, _, _⟩) (v := ?_) rfl (by as_aux_lemma => kernel_rfl) (by as_aux_lemma => kernel_rfl) (by as_aux_lemma => kernel_rfl) (fun _ _ _ h => h) (Or.inl ⟨by rfl, ?hy⟩) (by assumption) ?_
                case hy =>
                  intro w hSw
                  skip
                  go_simp
                  all_goals with_reducible rfl
                try simp only [Act.put, List.setIfInBounds_toArray, List.set_cons_zero, List.set_cons_succ]
                refine wpAnyH_take (i := 14) (oi := ⟨_, _, _, _, _, _⟩) (v := ?_) rfl (by as_aux_lemma => kernel_rfl) (by as_aux_lemma => kernel_rfl) (by as_aux_lemma => kernel_rfl) (fun _ _ _ h => h) (Or.inl ⟨by rfl, ?hy⟩) (by assumption) ?_
                case hy =>
                  intro w hSw
                  skip
                  go_simp
                  all_goals with_reducible rfl
                try simp only [Act.put, List.setIfInBounds_toArray, List.set_cons_zero, List.set_cons_succ]
                refine wpAnyH_take (i := 15) (oi := ⟨_, _, _, _, _, _⟩) (v := ?_) rfl (by as_aux_lemma => kernel_rfl) (by as_aux_lemma => kernel_rfl) (by as_aux_lemma => kernel_rfl) (fun _ _ _ h => h) (Or.inl ⟨by rfl, ?hy⟩) (by assumption) ?_
                case hy =>
                  intro w hSw
                  skip
                  go_simp
                  all_goals with_reducible rfl
                try simp only [Act.put, List.setIfInBounds_toArray, List.set_cons_zero, List.set_cons_succ]
                refine wpAnyH_take (i := 16) (oi := ⟨_, _, _, _, _, _⟩) (v := ?_) rfl (by as_aux_lemma => kernel_rfl) (by as_aux_lemma => kernel_rfl) (by as_aux_lemma => kernel_rfl) (fun _ _ _ h => h) (Or.inl ⟨by rfl, ?hy⟩) (by assumption) ?_
                case hy =>
                  intro w hSw
                  have f0 : w.cell? ⟨gk, ok, none⟩ = some (sv y.path) := (hSw.cell (p := ⟨gk, ok, none⟩) hgk).trans f0
                  go_simp
                  all_goals with_reducible rfl
                try simp only [Act.put, List.setIfInBounds_toArray, List.set_cons_zero, List.set_cons_succ]
                refine wpAnyH_take (i := 17) (oi := ⟨_, _, _, _, _, _⟩) (v := ?_) rfl (by as_aux_lemma => kernel_rfl) (by as_aux_lemma => kernel_rfl) (by as_aux_lemma => kernel_rfl) (fun _ _ _ h => h) (Or.inl ⟨by rfl, ?hy⟩) (by assumption) ?_
                case hy =>
                  intro w hSw
                  skip
                  go_simp
                  all_goals with_reducible rfl
                try simp only [Act.put, List.setIfInBounds_toArray, List.set_cons_zero, List.set_cons_succ]
                refine wpAnyH_take (i := 18) (oi := ⟨_, _, _, _, _, _⟩) (v := ?_) rfl (by as_aux_lemma => kernel_rfl) (by as_aux_lemma => kernel_rfl) (by as_aux_lemma => kernel_rfl) (fun _ _ _ h => h) (Or.inl ⟨by rfl, ?hy⟩) (by assumption) ?_
                case hy =>
                  intro w hSw
                  skip
                  go_simp
                  all_goals with_reducible rfl
                try simp only [Act.put, List.setIfInBounds_toArray, List.set_cons_zero, List.set_cons_succ]
                refine wpAnyH_take (i := 19) (oi := ⟨_, _, _, _, _, _⟩) (v := ?_) rfl (by as_aux_lemma => kernel_rfl) (by as_aux_lemma => kernel_rfl) (by as_aux_lemma => kernel_rfl) (fun _ _ _ h => h) (Or.inl ⟨by rfl, ?hy⟩) (by assumption) ?_
                case hy =>
                  intro w hSw
                  skip
                  go_simp
                  all_goals with_reducible rfl
                try simp only [Act.put, List.setIfInBounds_toArray, List.set_cons_zero, List.set_cons_succ]
                refine wpAnyH_take (i := 20) (oi := ⟨_, _, _, _, _, _⟩) (v := ?_) rfl (by as_aux_lemma => kernel_rfl) (by as_aux_lemma => kernel_rfl) (by as_aux_lemma => kernel_rfl) (fun _ _ _ h => h) (Or.inl ⟨by rfl, ?hy⟩) (by assumption) ?_
                case hy =>
                  intro w hSw
                  skip
                  go_simp
                  all_goals with_reducible rfl
                try simp only [Act.put, List.setIfInBounds_toArray, List.set_cons_zero, List.set_cons_succ]
                refine wpAnyH_take (i := 21) (oi := ⟨_, _, _, _, _, _⟩) (v := ?_) rfl (by as_aux_lemma => kernel_rfl) (by as_aux_lemma => kernel_rfl) (by as_aux_lemma => kernel_rfl) (fun _ _ _ h => h) (Or.inl ⟨by rfl, ?hy⟩) (by assumption) ?_
                case hy =>
                  intro w hSw
                  have e0 : w.cell? ⟨gi, oi, none⟩ = some (sv x.path) := (hSw.cell (p := ⟨gi, oi, none⟩) hgi4).trans e0
                  go_simp
                  all_goals with_reducible rfl
                try simp only [Act.put, List.setIfInBounds_toArray, List.set_cons_zero, List.set_cons_succ]
                refine wpAnyH_take (i := 22) (oi := ⟨_, _, _, _, _, _⟩) (v := ?_) rfl (by as_aux_lemma => kernel_rfl) (by as_aux_lemma => kernel_rfl) (by as_aux_lemma => kernel_rfl) (fun _ _ _ h => h) (Or.inl ⟨by rfl, ?hy⟩) (by assumption) ?_
                case hy =>
                  intro w hSw
                  skip
                  go_simp
                  all_goals with_reducible rfl
                try simp only [Act.put, List.setIfInBounds_toArray, List.set_cons_zero, List.set_cons_succ]
                refine wpAnyH_take (i := 23) (oi := ⟨_, _, _, _, _, _⟩) (v := ?_) rfl (by as_aux_lemma => kernel_rfl) (by as_aux_lemma => kernel_rfl) (by as_aux_lemma => kernel_rfl) (fun _ _ _ h => h) (Or.inl ⟨by rfl, ?hy⟩) (by assumption) ?_
                case hy =>
                  intro w hSw
                  skip
                  go_simp
                  all_goals with_reducible rfl
                try simp only [Act.put, List.setIfInBounds_toArray, List.set_cons_zero, List.set_cons_succ]
                cases hp : (y.path == x.path) with
                | true =>
                  refine wpAnyH_take (i := 24) (oi := ⟨_, _, _, _, _, _⟩) (v := ?_) rfl (by as_aux_lemma => kernel_rfl) (by as_aux_lemma => kernel_rfl) (by as_aux_lemma => kernel_rfl) (fun _ _ _ h => h) (Or.inl ⟨by rfl, ?hy⟩) (by assumption) ?_
                  case hy =>
                    intro w hSw
                    skip
                    go_simp
                    all_goals with_reducible rfl
                  try simp only [Act.put, List.setIfInBounds_toArray, List.set_cons_zero, List.set_cons_succ]
                  refine wpAnyH_take (i := 25) (oi := ⟨_, _, _, _, _, _⟩) (v := ?_) rfl (by as_aux_lemma => kernel_rfl) (by as_aux_lemma => kernel_rfl) (by as_aux_lemma => kernel_rfl) (fun _ _ _ h => h) (Or.inl ⟨by rfl, ?hy⟩) (by assumption) ?_
                  case hy =>
                    intro w hSw
                    skip
                    go_simp
                    all_goals with_reducible rfl
                  try simp only [Act.put, List.setIfInBounds_toArray, List.set_cons_zero, List.set_cons_succ]
                  refine wpAnyH_take (i := 26) (oi := ⟨_, _, _, _, _, _⟩) (v := ?_) rfl (by as_aux_lemma => kernel_rfl) (by as_aux_lemma => kernel_rfl) (by as_aux_lemma => kernel_rfl) (fun _ _ _ h => h) (Or.inl ⟨by rfl, ?hy⟩) (by assumption) ?_
                  case hy =>
                    intro w hSw
                    skip
                    go_simp
                    all_goals with_reducible rfl
                  try simp only [Act.put, List.setIfInBounds_toArray, List.set_cons_zero, List.set_cons_succ]
                  refine wpAnyH_take (i := 27) (oi := ⟨_, _, _, _, _, _⟩) (v := ?_) rfl (by as_aux_lemma => kernel_rfl) (by as_aux_lemma => kernel_rfl) (by as_aux_lemma => kernel_rfl) (fun _ _ _ h => h) (Or.inl ⟨by rfl, ?hy⟩) (by assumption) ?_
                  case hy =>
                    intro w hSw
                    skip
                    go_simp
                    all_goals with_reducible rfl
                  try simp only [Act.put, List.setIfInBounds_toArray, List.set_cons_zero, List.set_cons_succ]
                  refine wpAnyH_take (i := 28) (oi := ⟨_, _, _, _, _, _⟩) (v := ?_) rfl (by as_aux_lemma => kernel_rfl) (by as_aux_lemma => kernel_rfl) (by as_aux_lemma => kernel_rfl) (fun _ _ _ h => h) (Or.inl ⟨by rfl, ?hy⟩) (by assumption) ?_
                  case hy =>
                    intro w hSw
                    have f1 : w.cell? ⟨gk, ok + 1, none⟩ = some (sv y.name) := (hSw.cell (p := ⟨gk, ok + 1, none⟩) hgk).trans f1
                    go_simp
                    all_goals with_reducible rfl
                  try simp only [Act.put, List.setIfInBounds_toArray, List.set_cons_zero, List.set_cons_succ]
                  refine wpAnyH_take (i := 29) (oi := ⟨_, _, _, _, _, _⟩) (v := ?_) rfl (by as_aux_lemma => kernel_rfl) (by as_aux_lemma => kernel_rfl) (by as_aux_lemma => kernel_rfl) (fun _ _ _ h => h) (Or.inl ⟨by rfl, ?hy⟩) (by assumption) ?_
                  case hy =>
                    intro w hSw
                    skip
                    go_simp
                    all_goals with_reducible rfl
                  try simp only [Act.put, List.setIfInBounds_toArray, List.set_cons_zero, List.set_cons_succ]
                  refine wpAnyH_take (i := 30) (oi := ⟨_, _, _, _, _, _⟩) (v := ?_) rfl (by as_aux_lemma => kernel_rfl) (by as_aux_lemma => kernel_rfl) (by as_aux_lemma => kernel_rfl) (fun _ _ _ h => h) (Or.inl ⟨by rfl, ?hy⟩) (by assumption) ?_
                  case hy =>
                    intro w hSw
                    skip
                    go_simp
                    all_goals with_reducible rfl
                  try simp only [Act.put, List.setIfInBounds_toArray, List.set_cons_zero, List.set_cons_succ]
                  refine wpAnyH_take (i := 31) (oi := ⟨_, _, _, _, _, _⟩) (v := ?_) rfl (by as_aux_lemma => kernel_rfl) (by as_aux_lemma => kernel_rfl) (by as_aux_lemma => kernel_rfl) (fun _ _ _ h => h) (Or.inl ⟨by rfl, ?hy⟩) (by assumption) ?_
                  case hy =>
                    intro w hSw
                    skip
                    go_simp
                    all_goals with_reducible rfl
                  try simp only [Act.put, List.setIfInBounds_toArray, List.set_cons_zero, List.set_cons_succ]
                  refine wpAnyH_take (i := 32) (oi := ⟨_, _, _, _, _, _⟩) (v := ?_) rfl (by as_aux_lemma => kernel_rfl) (by as_aux_lemma => kernel_rfl) (by as_aux_lemma => kernel_rfl) (fun _ _ _ h => h) (Or.inl ⟨by rfl, ?hy⟩) (by assumption) ?_
                  case hy =>
                    intro w hSw
                    skip
                    go_simp
                    all_goals with_reducible rfl
                  try simp only [Act.put, List.setIfInBounds_toArray, List.set_cons_zero, List.set_cons_succ]
                  refine wpAnyH_take (i := 33) (oi := ⟨_, _, _, _, _, _⟩) (v := ?_) rfl (by as_aux_lemma => kernel_rfl) (by as_aux_lemma => kernel_rfl) (by as_aux_lemma => kernel_rfl) (fun _ _ _ h => h) (Or.inl ⟨by rfl, ?hy⟩) (by assumption) ?_
                  case hy =>
                    intro w hSw
                    have e1 : w.cell? ⟨gi, oi + 1, none⟩ = some (sv x.name) := (hSw.cell (p := ⟨gi, oi + 1, none⟩) hgi4).trans e1
                    go_simp
                    all_goals with_reducible rfl
                  try simp only [Act.put, List.setIfInBounds_toArray, List.set_cons_zero, List.set_cons_succ]
                  refine wpAnyH_take (i := 34) (oi := ⟨_, _, _, _, _, _⟩) (v := ?_) rfl (by as_aux_lemma => kernel_rfl) (by as_aux_lemma => kernel_rfl) (by as_aux_lemma => kernel_rfl) (fun _ _ _ h => h) (Or.inl ⟨by rfl, ?hy⟩) (by assumption) ?_
                  case hy =>
                    intro w hSw
                    skip
                    go_simp
                    all_goals with_reducible rfl
                  try simp only [Act.put, List.setIfInBounds_toArray, List.set_cons_zero, List.set_cons_succ]
                  refine wpAnyH_take (i := 35) (oi := ⟨_, _, _, _, _, _⟩) (v := ?_) rfl (by as_aux_lemma => kernel_rfl) (by as_aux_lemma => kernel_rfl) (by as_aux_lemma => kernel_rfl) (fun _ _ _ h => h) (Or.inl ⟨by rfl, ?hy⟩) (by assumption) ?_
                  case hy =>
                    intro w hSw
                    skip
                    go_simp
                    all_goals with_reducible rfl
                  try simp only [Act.put, List.setIfInBounds_toArray, List.set_cons_zero, List.set_cons_succ]
                  refine wpAnyH_take (i := 36) (oi := ⟨_, _, _, _, _, _⟩) (v := ?_) rfl (by as_aux_lemma => kernel_rfl) (by as_aux_lemma => kernel_rfl) (by as_aux_lemma => kernel_rfl) (fun _ _ _ h => h) (Or.inl ⟨by rfl, ?hy⟩) (by assumption) ?_
                  case hy =>
                    intro w hSw
                    skip
                    go_simp
                    all_goals with_reducible rfl
                  try simp only [Act.put, List.setIfInBounds_toArray, List.set_cons_zero, List.set_cons_succ]
                  cases hn : (y.name == x.name) with
                  | true =>
                    refine wpAnyH_take (i := 37) (oi := ⟨_, _, _, _, _, _⟩) (v := ?_) rfl (by as_aux_lemma => kernel_rfl) (by as_aux_lemma => kernel_rfl) (by as_aux_lemma => kernel_rfl) (fun _ _ _ h => h) (Or.inl ⟨by rfl, ?hy⟩) (by assumption) ?_
                    case hy =>
                      intro w hSw
                      skip
                      go_simp
                      all_goals with_reducible rfl
                    try simp only [Act.put, List.setIfInBounds_toArray, List.set_cons_zero, List.set_cons_succ]
                    refine wpAnyH_take (i := 38) (oi := ⟨_, _, _, _, _, _⟩) (v := ?_) rfl (by as_aux_lemma => kernel_rfl) (by as_aux_lemma => kernel_rfl) (by as_aux_lemma => kernel_rfl) (fun _ _ _ h => h) (Or.inl ⟨by rfl, ?hy⟩) (by assumption) ?_
                    case hy =>
                      intro w hSw
                      skip
                      go_simp
                      all_goals with_reducible rfl
                    try simp only [Act.put, List.setIfInBounds_toArray, List.set_cons_zero, List.set_cons_succ]
                    refine wpAnyH_take (i := 39) (oi := ⟨_, _, _, _, _, _⟩) (v := ?_) rfl (by as_aux_lemma => kernel_rfl) (by as_aux_lemma => kernel_rfl) (by as_aux_lemma => kernel_rfl) (fun _ _ _ h => h) (Or.inl ⟨by rfl, ?hy⟩) (by assumption) ?_
                    case hy =>
                      intro w hSw
                      skip
                      go_simp
                      all_goals with_reducible rfl
                    try simp only [Act.put, List.setIfInBounds_toArray, List.set_cons_zero, List.set_cons_succ]
                    refine wpAnyH_take (i := 40) (oi := ⟨_, _, _, _, _, _⟩) (v := ?_) rfl (by as_aux_lemma => kernel_rfl) (by as_aux_lemma => kernel_rfl) (by as_aux_lemma => kernel_rfl) (fun _ _ _ h => h) (Or.inl ⟨by rfl, ?hy⟩) (by assumption) ?_
                    case hy =>
                      intro w hSw
                      skip
                      go_simp
                      all_goals with_reducible rfl
                    try simp only [Act.put, List.setIfInBounds_toArray, List.set_cons_zero, List.set_cons_succ]
                    refine wpAnyH_take (i := 41) (oi := ⟨_, _, _, _, _, _⟩) (v := ?_) rfl (by as_aux_lemma => kernel_rfl) (by as_aux_lemma => kernel_rfl) (by as_aux_lemma => kernel_rfl) (fun _ _ _ h => h) (Or.inl ⟨by rfl, ?hy⟩) (by assumption) ?_
                    case hy =>
                      intro w hSw
                      have f3 : w.cell? ⟨gk, ok + 3, none⟩ = some (iv y.ord) := (hSw.cell (p := ⟨gk, ok + 3, none⟩) hgk).trans f3
                      go_simp
                      all_goals with_reducible rfl
                    try simp only [Act.put, List.setIfInBounds_toArray, List.set_cons_zero, List.set_cons_succ]
                    refine wpAnyH_take (i := 42) (oi := ⟨_, _, _, _, _, _⟩) (v := ?_) rfl (by as_aux_lemma => kernel_rfl) (by as_aux_lemma => kernel_rfl) (by as_aux_lemma => kernel_rfl) (fun _ _ _ h => h) (Or.inl ⟨by rfl, ?hy⟩) (by assumption) ?_
                    case hy =>
                      intro w hSw
                      skip
                      go_simp
                      all_goals with_reducible rfl
                    try simp only [Act.put, List.setIfInBounds_toArray, List.set_cons_zero, List.set_cons_succ]
                    refine wpAnyH_take (i := 43) (oi := ⟨_, _, _, _, _, _⟩) (v := ?_) rfl (by as_aux_lemma => kernel_rfl) (by as_aux_lemma => kernel_rfl) (by as_aux_lemma => kernel_rfl) (fun _ _ _ h => h) (Or.inl ⟨by rfl, ?hy⟩) (by assumption) ?_
                    case hy =>
                      intro w hSw
                      skip
                      go_simp
                      all_goals with_reducible rfl
                    try simp only [Act.put, List.setIfInBounds_toArray, List.set_cons_zero, List.set_cons_succ]
                    refine wpAnyH_take (i := 44) (oi := ⟨_, _, _, _, _, _⟩) (v := ?_) rfl (by as_aux_lemma => kernel_rfl) (by as_aux_lemma => kernel_rfl) (by as_aux_lemma => kernel_rfl) (fun _ _ _ h => h) (Or.inl ⟨by rfl, ?hy⟩) (by assumption) ?_
                    case hy =>
                      intro w hSw
                      skip
                      go_simp
                      all_goals with_reducible rfl
                    try simp only [Act.put, List.setIfInBounds_toArray, List.set_cons_zero, List.set_cons_succ]
                    refine wpAnyH_take (i := 45) (oi := ⟨_, _, _, _, _, _⟩) (v := ?_) rfl (by as_aux_lemma => kernel_rfl) (by as_aux_lemma => kernel_rfl) (by as_aux_lemma => kernel_rfl) (fun _ _ _ h => h) (Or.inl ⟨by rfl, ?hy⟩) (by assumption) ?_
                    case hy =>
                      intro w hSw
                      skip
                      go_simp
                      all_goals with_reducible rfl
                    try simp only [Act.put, List.setIfInBounds_toArray, List.set_cons_zero, List.set_cons_succ]
                    refine wpAnyH_take (i := 46) (oi := ⟨_, _, _, _, _, _⟩) (v := ?_) rfl (by as_aux_lemma => kernel_rfl) (by as_aux_lemma => kernel_rfl) (by as_aux_lemma => kernel_rfl) (fun _ _ _ h => h) (Or.inl ⟨by rfl, ?hy⟩) (by assumption) ?_
                    case hy =>
                      intro w hSw
                      have e3 : w.cell? ⟨gi, oi + 3, none⟩ = some (iv x.ord) := (hSw.cell (p := ⟨gi, oi + 3, none⟩) hgi4).trans e3
                      go_simp
                      all_goals with_reducible rfl
                    try simp only [Act.put, List.setIfInBounds_toArray, List.set_cons_zero, List.set_cons_succ]
                    refine wpAnyH_take (i := 47) (oi := ⟨_, _, _, _, _, _⟩) (v := ?_) rfl (by as_aux_lemma => kernel_rfl) (by as_aux_lemma => kernel_rfl) (by as_aux_lemma => kernel_rfl) (fun _ _ _ h => h) (Or.inl ⟨by rfl, ?hy⟩) (by assumption) ?_
                    case hy =>
                      intro w hSw
                      skip
                      go_simp
                      all_goals with_reducible rfl
                    try simp only [Act.put, List.setIfInBounds_toArray, List.set_cons_zero, List.set_cons_succ]
                    refine wpAnyH_take (i := 48) (oi := ⟨_, _, _, _, _, _⟩) (v := ?_) rfl (by as_aux_lemma => kernel_rfl) (by as_aux_lemma => kernel_rfl) (by as_aux_lemma => kernel_rfl) (fun _ _ _ h => h) (Or.inl ⟨by rfl, ?hy⟩) (by assumption) ?_
                    case hy =>
                      intro w hSw
                      skip
                      go_simp
                      all_goals with_reducible rfl
                    try simp only [Act.put, List.setIfInBounds_toArray, List.set_cons_zero, List.set_cons_succ]
                    refine wpAnyH_take (i := 49) (oi := ⟨_, _, _, _, _, _⟩) (v := ?_) rfl (by as_aux_lemma => kernel_rfl) (by as_aux_lemma => kernel_rfl) (by as_aux_lemma => kernel_rfl) (fun _ _ _ h => h) (Or.inl ⟨by rfl, ?hy⟩) (by assumption) ?_
                    case hy =>
                      intro w hSw
                      skip
                      go_simp
                      all_goals with_reducible rfl
                    try simp only [Act.put, List.setIfInBounds_toArray, List.set_cons_zero, List.set_cons_succ]
                    cases ho : (y.ord == x.ord) with
                    | true =>
                      refine wpAnyH_take (i := 50) (oi := ⟨_, _, _, _, _, _⟩) (v := ?_) rfl (by as_aux_lemma => kernel_rfl) (by as_aux_lemma => kernel_rfl) (by as_aux_lemma => kernel_rfl) (fun _ _ _ h => h) (Or.inl ⟨by rfl, ?hy⟩) (by assumption) ?_
                      case hy =>
                        intro w hSw
                        skip
                        go_simp
                        all_goals with_reducible rfl
                      try simp only [Act.put, List.setIfInBounds_toArray, List.set_cons_zero, List.set_cons_succ]
                      refine wpAnyH_take (i := 51) (oi := ⟨_, _, _, _, _, _⟩) (v := ?_) rfl (by as_aux_lemma => kernel_rfl) (by as_aux_lemma => kernel_rfl) (by as_aux_lemma => kernel_rfl) (fun _ _ _ h => h) (Or.inl ⟨by rfl, ?hy⟩) (by assumption) ?_
                      case hy =>
                        intro w hSw
                        skip
                        go_simp
                        all_goals with_reducible rfl
                      try simp only [Act.put, List.setIfInBounds_toArray, List.set_cons_zero, List.set_cons_succ]
                      refine wpAnyH_take (i := 52) (oi := ⟨_, _, _, _, _, _⟩) (v := ?_) rfl (by as_aux_lemma => kernel_rfl) (by as_aux_lemma => kernel_rfl) (by as_aux_lemma => kernel_rfl) (fun _ _ _ h => h) (Or.inl ⟨by rfl, ?hy⟩) (by assumption) ?_
                      case hy =>
                        intro w hSw
                        skip
                        go_simp
                        all_goals with_reducible rfl
                      try simp only [Act.put, List.setIfInBounds_toArray, List.set_cons_zero, List.set_cons_succ]
                      refine wpAnyH_take (i := 53) (oi := ⟨_, _, _, _, _, _⟩) (v := ?_) rfl (by as_aux_lemma => kernel_rfl) (by as_aux_lemma => kernel_rfl) (by as_aux_lemma => kernel_rfl) (fun _ _ _ h => h) (Or.inl ⟨by rfl, ?hy⟩) (by assumption) ?_
                      case hy =>
                        intro w hSw
                        skip
                        go_simp
                        all_goals with_reducible rfl
                      try simp only [Act.put, List.setIfInBounds_toArray, List.set_cons_zero, List.set_cons_succ]
                      refine wpAnyH_take (i := 54) (oi := ⟨_, _, _, _, _, _⟩) (v := ?_) rfl (by as_aux_lemma => kernel_rfl) (by as_aux_lemma => kernel_rfl) (by as_aux_lemma => kernel_rfl) (fun _ _ _ h => h) (Or.inl ⟨by rfl, ?hy⟩) (by assumption) ?_
                      case hy =>
                        intro w hSw
                        have f2 : w.cell? ⟨gk, ok + 2, none⟩ = some (.slice a2 y.args.length k2) := (hSw.cell (p := ⟨gk, ok + 2, none⟩) hgk).trans f2
                        go_simp
                        all_goals with_reducible rfl
                      try simp only [Act.put, List.setIfInBounds_toArray, List.set_cons_zero, List.set_cons_succ]
                      refine wpAnyH_take (i := 55) (oi := ⟨_, _, _, _, _, _⟩) (v := ?_) rfl (by as_aux_lemma => kernel_rfl) (by as_aux_lemma => kernel_rfl) (by as_aux_lemma => kernel_rfl) (fun _ _ _ h => h) (Or.inl ⟨by rfl, ?hy⟩) (by assumption) ?_
                      case hy =>
                        intro w hSw
                        skip
                        go_simp
                        all_goals with_reducible rfl
                      try simp only [Act.put, List.setIfInBounds_toArray, List.set_cons_zero, List.set_cons_succ]
                      refine wpAnyH_take (i := 56) (oi := ⟨_, _, _, _, _, _⟩) (v := ?_) rfl (by as_aux_lemma => kernel_rfl) (by as_aux_lemma => kernel_rfl) (by as_aux_lemma => kernel_rfl) (fun _ _ _ h => h) (Or.inl ⟨by rfl, ?hy⟩) (by assumption) ?_
                      case hy =>
                        intro w hSw
                        skip
                        go_simp
                        all_goals with_reducible rfl
                      try simp only [Act.put, List.setIfInBounds_toArray, List.set_cons_zero, List.set_cons_succ]
                      refine wpAnyH_take (i := 57) (oi := ⟨_, _, _, _, _, _⟩) (v := ?_) rfl (by as_aux_lemma => kernel_rfl) (by as_aux_lemma => kernel_rfl) (by as_aux_lemma => kernel_rfl) (fun _ _ _ h => h) (Or.inl ⟨by rfl, ?hy⟩) (by assumption) ?_
                      case hy =>
                        intro w hSw
                        skip
                        go_simp
                        all_goals with_reducible rfl
                      try simp only [Act.put, List.setIfInBounds_toArray, List.set_cons_zero, List.set_cons_succ]
                      refine wpAnyH_take (i := 58) (oi := ⟨_, _, _, _, _, _⟩) (v := ?_) rfl (by as_aux_lemma => kernel_rfl) (by as_aux_lemma => kernel_rfl) (by as_aux_lemma => kernel_rfl) (fun _ _ _ h => h) (Or.inl ⟨by rfl, ?hy⟩) (by assumption) ?_
                      case hy =>
                        intro w hSw
                        skip
                        go_simp
                        all_goals with_reducible rfl
                      try simp only [Act.put, List.setIfInBounds_toArray, List.set_cons_zero, List.set_cons_succ]
                      refine wpAnyH_take (i := 59) (oi := ⟨_, _, _, _, _, _⟩) (v := ?_) rfl (by as_aux_lemma => kernel_rfl) (by as_aux_lemma => kernel_rfl) (by as_aux_lemma => kernel_rfl) (fun _ _ _ h => h) (Or.inl ⟨by rfl, ?hy⟩) (by assumption) ?_
                      case hy =>
                        intro w hSw
                        have e2 : w.cell? ⟨gi, oi + 2, none⟩ = some (.slice a1 x.args.length k1) := (hSw.cell (p := ⟨gi, oi + 2, none⟩) hgi4).trans e2
                        go_simp
                        all_goals with_reducible rfl
                      try simp only [Act.put, List.setIfInBounds_toArray, List.set_cons_zero, List.set_cons_succ]
                      refine wpAnyH_ready (rs := [60]) (by as_aux_lemma => kernel_rfl) (by simp) ?_
                      refine AllReadyH.cons (o := ⟨_, _, _, _, _, _⟩) rfl (fun K hK => ?_) AllReadyH.nil
                      go_simp
                      go_at_call 8
                      refine (rSame_any y.args x.args hyB.1 hxB.1 _ _ (.slice a2 y.args.length k2) (.slice a1 x.args.length k1) _ (hvk4.out.below goodVal hHeld) (hvi4.out.below goodVal hHeld)).mono ?_
                      rintro e wq ⟨rfl, hbq⟩
                      have hZ := hHeld.trans (hbq.mono hHeld.size)
                      refine hK.out _ _ ?_ (fun hHeld2 => ?_)
                      · exact hZ
                      clear hK K
                      clear hHeld
                      have hHeld := hHeld2
                      clear hHeld2
                      try simp only [Act.put, List.setIfInBounds_toArray, List.set_cons_zero, List.set_cons_succ]
                      cases hb : dec (y.args = x.args) with
                      | true =>
                        refine wpAnyH_take (i := 61) (oi := ⟨_, _, _, _, _, _⟩) (v := ?_) rfl (by as_aux_lemma => kernel_rfl) (by as_aux_lemma => kernel_rfl) (by as_aux_lemma => kernel_rfl) (fun _ _ _ h => h) (Or.inl ⟨by rfl, ?hy⟩) (by assumption) ?_
                        case hy =>
                          intro w hSw
                          skip
                          go_simp
                          all_goals with_reducible rfl
                        try simp only [Act.put, List.setIfInBounds_toArray, List.set_cons_zero, List.set_cons_succ]
                        refine wpAnyH_take (i := 62) (oi := ⟨_, _, _, _, _, _⟩) (v := ?_) rfl (by as_aux_lemma => kernel_rfl) (by as_aux_lemma => kernel_rfl) (by as_aux_lemma => kernel_rfl) (fun _ _ _ h => h) (Or.inl ⟨by rfl, ?hy⟩) (by assumption) ?_
                        case hy =>
                          intro w hSw
                          skip
                          go_simp
                          all_goals with_reducible rfl
                        try simp only [Act.put, List.setIfInBounds_toArray, List.set_cons_zero, List.set_cons_succ]
                        refine wpAnyH_done (by as_aux_lemma => kernel_rfl) ?_ _
                        go_wp2_with fail
                        go_ret
                        exact ⟨rfl, (hM4.out.below hHeld).st.below⟩
                      | false =>
                        refine wpAnyH_take (i := 61) (oi := ⟨_, _, _, _, _, _⟩) (v := ?_) rfl (by as_aux_lemma => kernel_rfl) (by as_aux_lemma => kernel_rfl) (by as_aux_lemma => kernel_rfl) (fun _ _ _ h => h) (Or.inl ⟨by rfl, ?hy⟩) (by assumption) ?_
                        case hy =>
                          intro w hSw
                          skip
                          go_simp
                          all_goals with_reducible rfl
                        try simp only [Act.put, List.setIfInBounds_toArray, List.set_cons_zero, List.set_cons_succ]
                        refine wpAnyH_take (i := 62) (oi := ⟨_, _, _, _, _, _⟩) (v := ?_) rfl (by as_aux_lemma => kernel_rfl) (by as_aux_lemma => kernel_rfl) (by as_aux_lemma => kernel_rfl) (fun _ _ _ h => h) (Or.inl ⟨by rfl, ?hy⟩) (by assumption) ?_
                        case hy =>
                          intro w hSw
                          skip
                          go_simp
                          all_goals with_reducible rfl
                        try simp only [Act.put, List.setIfInBounds_toArray, List.set_cons_zero, List.set_cons_succ]
                        refine wpAnyH_done (by as_aux_lemma => kernel_rfl) ?_ _
                        have hD2 := hid (fun j (hj : j < k + 1) => show keyF (rq l j) ≠ keyF x by
                          by_cases e : j = k
                          · subst e
                            exact fun e => (beq_eq_false_iff_ne.1 hE) (by rw [hky.out, hkx.out, hy.out]; exact e)
                          · exact hD.out j (by omega))
                        have hB5 := hid (hB.out.trans (hHeld.mono hB.out.size))
                        clear hHeld
                        go_wp2_with fail
                        refine ⟨?_, by simp [intOf]; omega⟩
                        repeat (first | exact ⟨⟨k + 1, by go_num, by omega, hD2, hB5⟩, rfl⟩ | exact ⟨k + 1, by go_num, by omega, hD2, hB5⟩ | apply Exists.intro)
                    | false =>
                      refine wpAnyH_take (i := 50) (oi := ⟨_, _, _, _, _, _⟩) (v := undef) rfl (by as_aux_lemma => kernel_rfl) (by as_aux_lemma => kernel_rfl) (by as_aux_lemma => kernel_rfl) (fun _ _ _ h => h) (Or.inr ⟨by rfl, rfl⟩) (by assumption) ?_
                      try simp only [Act.put, List.setIfInBounds_toArray, List.set_cons_zero, List.set_cons_succ]
                      refine wpAnyH_take (i := 51) (oi := ⟨_, _, _, _, _, _⟩) (v := undef) rfl (by as_aux_lemma => kernel_rfl) (by as_aux_lemma => kernel_rfl) (by as_aux_lemma => kernel_rfl) (fun _ _ _ h => h) (Or.inr ⟨by rfl, rfl⟩) (by assumption) ?_
                      try simp only [Act.put, List.setIfInBounds_toArray, List.set_cons_zero, List.set_cons_succ]
                      refine wpAnyH_take (i := 52) (oi := ⟨_, _, _, _, _, _⟩) (v := undef) rfl (by as_aux_lemma => kernel_rfl) (by as_aux_lemma => kernel_rfl) (by as_aux_lemma => kernel_rfl) (fun _ _ _ h => h) (Or.inr ⟨by rfl, rfl⟩) (by assumption) ?_
                      try simp only [Act.put, List.setIfInBounds_toArray, List.set_cons_zero, List.set_cons_succ]
                      refine wpAnyH_take (i := 53) (oi := ⟨_, _, _, _, _, _⟩) (v := undef) rfl (by as_aux_lemma => kernel_rfl) (by as_aux_lemma => kernel_rfl) (by as_aux_lemma => kernel_rfl) (fun _ _ _ h => h) (Or.inr ⟨by rfl, rfl⟩) (by assumption) ?_
                      try simp only [Act.put, List.setIfInBounds_toArray, List.set_cons_zero, List.set_cons_succ]
                      refine wpAnyH_take (i := 54) (oi := ⟨_, _, _, _, _, _⟩) (v := undef) rfl (by as_aux_lemma => kernel_rfl) (by as_aux_lemma => kernel_rfl) (by as_aux_lemma => kernel_rfl) (fun _ _ _ h => h) (Or.inr ⟨by rfl, rfl⟩) (by assumption) ?_
                      try simp only [Act.put, List.setIfInBounds_toArray, List.set_cons_zero, List.set_cons_succ]
                      refine wpAnyH_take (i := 55) (oi := ⟨_, _, _, _, _, _⟩) (v := undef) rfl (by as_aux_lemma => kernel_rfl) (by as_aux_lemma => kernel_rfl) (by as_aux_lemma => kernel_rfl) (fun _ _ _ h => h) (Or.inr ⟨by rfl, rfl⟩) (by assumption) ?_
                      try simp only [Act.put, List.setIfInBounds_toArray, List.set_cons_zero, List.set_cons_succ]
                      refine wpAnyH_take (i := 56) (oi := ⟨_, _, _, _, _, _⟩) (v := undef) rfl (by as_aux_lemma => kernel_rfl) (by as_aux_lemma => kernel_rfl) (by as_aux_lemma => kernel_rfl) (fun _ _ _ h => h) (Or.inr ⟨by rfl, rfl⟩) (by assumption) ?_
                      try simp only [Act.put, List.setIfInBounds_toArray, List.set_cons_zero, List.set_cons_succ]
                      refine wpAnyH_take (i := 57) (oi := ⟨_, _, _, _, _, _⟩) (v := undef) rfl (by as_aux_lemma => kernel_rfl) (by as_aux_lemma => kernel_rfl) (by as_aux_lemma => kernel_rfl) (fun _ _ _ h => h) (Or.inr ⟨by rfl, rfl⟩) (by assumption) ?_
                      try simp only [Act.put, List.setIfInBounds_toArray, List.set_cons_zero, List.set_cons_succ]
                      refine wpAnyH_take (i := 58) (oi := ⟨_, _, _, _, _, _⟩) (v := undef) rfl (by as_aux_lemma => kernel_rfl) (by as_aux_lemma => kernel_rfl) (by as_aux_lemma => kernel_rfl) (fun _ _ _ h => h) (Or.inr ⟨by rfl, rfl⟩) (by assumption) ?_
                      try simp only [Act.put, List.setIfInBounds_toArray, List.set_cons_zero, List.set_cons_succ]
                      refine wpAnyH_take (i := 59) (oi := ⟨_, _, _, _, _, _⟩) (v := undef) rfl (by as_aux_lemma => kernel_rfl) (by as_aux_lemma => kernel_rfl) (by as_aux_lemma => kernel_rfl) (fun _ _ _ h => h) (Or.inr ⟨by rfl, rfl⟩) (by assumption) ?_
                      try simp only [Act.put, List.setIfInBounds_toArray, List.set_cons_zero, List.set_cons_succ]
                      refine wpAnyH_take (i := 60) (oi := ⟨_, _, _, _, _, _⟩) (v := undef) rfl (by as_aux_lemma => kernel_rfl) (by as_aux_lemma => kernel_rfl) (by as_aux_lemma => kernel_rfl) (fun _ _ _ h => h) (Or.inr ⟨by rfl, rfl⟩) (by assumption) ?_
                      try simp only [Act.put, List.setIfInBounds_toArray, List.set_cons_zero, List.set_cons_succ]
                      refine wpAnyH_take (i := 61) (oi := ⟨_, _, _, _, _, _⟩) (v := ?_) rfl (by as_aux_lemma => kernel_rfl) (by as_aux_lemma => kernel_rfl) (by as_aux_lemma => kernel_rfl) (fun _ _ _ h => h) (Or.inl ⟨by rfl, ?hy⟩) (by assumption) ?_
                      case hy =>
                        intro w hSw
                        skip
                        go_simp
                        all_goals with_reducible rfl
                      try simp only [Act.put, List.setIfInBounds_toArray, List.set_cons_zero, List.set_cons_succ]
                      refine wpAnyH_take (i := 62) (oi := ⟨_, _, _, _, _, _⟩) (v := ?_) rfl (by as_aux_lemma => kernel_rfl) (by as_aux_lemma => kernel_rfl) (by as_aux_lemma => kernel_rfl) (fun _ _ _ h => h) (Or.inl ⟨by rfl, ?hy⟩) (by assumption) ?_
                      case hy =>
                        intro w hSw
                        skip
                        go_simp
                        all_goals with_reducible rfl
                      try simp only [Act.put, List.setIfInBounds_toArray, List.set_cons_zero, List.set_cons_succ]
                      refine wpAnyH_done (by as_aux_lemma => kernel_rfl) ?_ _
                      have hD2 := hid (fun j (hj : j < k + 1) => show keyF (rq l j) ≠ keyF x by
                        by_cases e : j = k
                        · subst e
                          exact fun e => (beq_eq_false_iff_ne.1 hE) (by rw [hky.out, hkx.out, hy.out]; exact e)
                        · exact hD.out j (by omega))
                      have hB5 := hid (hB.out.trans (hHeld.mono hB.out.size))
                      clear hHeld
                      go_wp2_with fail
                      refine ⟨?_, by simp [intOf]; omega⟩
                      repeat (first | exact ⟨⟨k + 1, by go_num, by omega, hD2, hB5⟩, rfl⟩ | exact ⟨k + 1, by go_num, by omega, hD2, hB5⟩ | apply Exists.intro)
                  | false =>
                    refine wpAnyH_take (i := 37) (oi := ⟨_, _, _, _, _, _⟩) (v := undef) rfl (by as_aux_lemma => kernel_rfl) (by as_aux_lemma => kernel_rfl) (by as_aux_lemma => kernel_rfl) (fun _ _ _ h => h) (Or.inr ⟨by rfl, rfl⟩) (by assumption) ?_
                    try simp only [Act.put, List.setIfInBounds_toArray, List.set_cons_zero, List.set_cons_succ]
                    refine wpAnyH_take (i := 38) (oi := ⟨_, _, _, _, _, _⟩) (v := undef) rfl (by as_aux_lemma => kernel_rfl) (by as_aux_lemma => kernel_rfl) (by as_aux_lemma => kernel_rfl) (fun _ _ _ h => h) (Or.inr ⟨by rfl, rfl⟩) (by assumption) ?_
                    try simp only [Act.put, List.setIfInBounds_toArray, List.set_cons_zero, List.set_cons_succ]
                    refine wpAnyH_take (i := 39) (oi := ⟨_, _, _, _, _, _⟩) (v := undef) rfl (by as_aux_lemma => kernel_rfl) (by as_aux_lemma => kernel_rfl) (by as_aux_lemma => kernel_rfl) (fun _ _ _ h => h) (Or.inr ⟨by rfl, rfl⟩) (by assumption) ?_
                    try simp only [Act.put, List.setIfInBounds_toArray, List.set_cons_zero, List.set_cons_succ]
                    refine wpAnyH_take (i := 40) (oi := ⟨_, _, _, _, _, _⟩) (v := undef) rfl (by as_aux_lemma => kernel_rfl) (by as_aux_lemma => kernel_rfl) (by as_aux_lemma => kernel_rfl) (fun _ _ _ h => h) (Or.inr ⟨by rfl, rfl⟩) (by assumption) ?_
                    try simp only [Act.put, List.setIfInBounds_toArray, List.set_cons_zero, List.set_cons_succ]
                    refine wpAnyH_take (i := 41) (oi := ⟨_, _, _, _, _, _⟩) (v := undef) rfl (by as_aux_lemma => kernel_rfl) (by as_aux_lemma => kernel_rfl) (by as_aux_lemma => kernel_rfl) (fun _ _ _ h => h) (Or.inr ⟨by rfl, rfl⟩) (by assumption) ?_
                    try simp only [Act.put, List.setIfInBounds_toArray, List.set_cons_zero, List.set_cons_succ]
                    refine wpAnyH_take (i := 42) (oi := ⟨_, _, _, _, _, _⟩) (v := undef) rfl (by as_aux_lemma => kernel_rfl) (by as_aux_lemma => kernel_rfl) (by as_aux_lemma => kernel_rfl) (fun _ _ _ h => h) (Or.inr ⟨by rfl, rfl⟩) (by assumption) ?_
                    try simp only [Act.put, List.setIfInBounds_toArray, List.set_cons_zero, List.set_cons_succ]
                    refine wpAnyH_take (i := 43) (oi := ⟨_, _, _, _, _, _⟩) (v := undef) rfl (by as_aux_lemma => kernel_rfl) (by as_aux_lemma => kernel_rfl) (by as_aux_lemma => kernel_rfl) (fun _ _ _ h => h) (Or.inr ⟨by rfl, rfl⟩) (by assumption) ?_
                    try simp only [Act.put, List.setIfInBounds_toArray, List.set_cons_zero, List.set_cons_succ]
                    refine wpAnyH_take (i := 44) (oi := ⟨_, _, _, _, _, _⟩) (v := undef) rfl (by as_aux_lemma => kernel_rfl) (by as_aux_lemma => kernel_rfl) (by as_aux_lemma => kernel_rfl) (fun _ _ _ h => h) (Or.inr ⟨by rfl, rfl⟩) (by assumption) ?_
                    try simp only [Act.put, List.setIfInBounds_toArray, List.set_cons_zero, List.set_cons_succ]
                    refine wpAnyH_take (i := 45) (oi := ⟨_, _, _, _, _, _⟩) (v := undef) rfl (by as_aux_lemma => kernel_rfl) (by as_aux_lemma => kernel_rfl) (by as_aux_lemma => kernel_rfl) (fun _ _ _ h => h) (Or.inr ⟨by rfl, rfl⟩) (by assumption) ?_
                    try simp only [Act.put, List.setIfInBounds_toArray, List.set_cons_zero, List.set_cons_succ]
                    refine wpAnyH_take (i := 46) (oi := ⟨_, _, _, _, _, _⟩) (v := undef) rfl (by as_aux_lemma => kernel_rfl) (by as_aux_lemma => kernel_rfl) (by as_aux_lemma => kernel_rfl) (fun _ _ _ h => h) (Or.inr ⟨by rfl, rfl⟩) (by assumption) ?_
                    try simp only [Act.put, List.setIfInBounds_toArray, List.set_cons_zero, List.set_cons_succ]
                    refine wpAnyH_take (i := 47) (oi := ⟨_, _, _, _, _, _⟩) (v := undef) rfl (by as_aux_lemma => kernel_rfl) (by as_aux_lemma => kernel_rfl) (by as_aux_lemma => kernel_rfl) (fun _ _ _ h => h) (Or.inr ⟨by rfl, rfl⟩) (by assumption) ?_
                    try simp only [Act.put, List.setIfInBounds_toArray, List.set_cons_zero, List.set_cons_succ]
                    refine wpAnyH_take (i := 48) (oi := ⟨_, _, _, _, _, _⟩) (v := ?_) rfl (by as_aux_lemma => kernel_rfl) (by as_aux_lemma => kernel_rfl) (by as_aux_lemma => kernel_rfl) (fun _ _ _ h => h) (Or.inl ⟨by rfl, ?hy⟩) (by assumption) ?_
                    case hy =>
                      intro w hSw
                      skip
                      go_simp
                      all_goals with_reducible rfl
                    try simp only [Act.put, List.setIfInBounds_toArray, List.set_cons_zero, List.set_cons_succ]
                    refine wpAnyH_take (i := 49) (oi := ⟨_, _, _, _, _, _⟩) (v := ?_) rfl (by as_aux_lemma => kernel_rfl) (by as_aux_lemma => kernel_rfl) (by as_aux_lemma => kernel_rfl) (fun _ _ _ h => h) (Or.inl ⟨by rfl, ?hy⟩) (by assumption) ?_
                    case hy =>
                      intro w hSw
                      skip
                      go_simp
                      all_goals with_reducible rfl
                    try simp only [Act.put, List.setIfInBounds_toArray, List.set_cons_zero, List.set_cons_succ]
                    refine wpAnyH_take (i := 50) (oi := ⟨_, _, _, _, _, _⟩) (v := undef) rfl (by as_aux_lemma => kernel_rfl) (by as_aux_lemma => kernel_rfl) (by as_aux_lemma => kernel_rfl) (fun _ _ _ h => h) (Or.inr ⟨by rfl, rfl⟩) (by assumption) ?_
                    try simp only [Act.put, List.setIfInBounds_toArray, List.set_cons_zero, List.set_cons_succ]
                    refine wpAnyH_take (i := 51) (oi := ⟨_, _, _, _, _, _⟩) (v := undef) rfl (by as_aux_lemma => kernel_rfl) (by as_aux_lemma => kernel_rfl) (by as_aux_lemma => kernel_rfl) (fun _ _ _ h => h) (Or.inr ⟨by rfl, rfl⟩) (by assumption) ?_
                    try simp only [Act.put, List.setIfInBounds_toArray, List.set_cons_zero, List.set_cons_succ]
                    refine wpAnyH_take (i := 52) (oi := ⟨_, _, _, _, _, _⟩) (v := undef) rfl (by as_aux_lemma => kernel_rfl) (by as_aux_lemma => kernel_rfl) (by as_aux_lemma => kernel_rfl) (fun _ _ _ h => h) (Or.inr ⟨by rfl, rfl⟩) (by assumption) ?_
                    try simp only [Act.put, List.setIfInBounds_toArray, List.set_cons_zero, List.set_cons_succ]
                    refine wpAnyH_take (i := 53) (oi := ⟨_, _, _, _, _, _⟩) (v := undef) rfl (by as_aux_lemma => kernel_rfl) (by as_aux_lemma => kernel_rfl) (by as_aux_lemma => kernel_rfl) (fun _ _ _ h => h) (Or.inr ⟨by rfl, rfl⟩) (by assumption) ?_
                    try simp only [Act.put, List.setIfInBounds_toArray, List.set_cons_zero, List.set_cons_succ]
                    refine wpAnyH_take (i := 54) (oi := ⟨_, _, _, _, _, _⟩) (v := undef) rfl (by as_aux_lemma => kernel_rfl) (by as_aux_lemma => kernel_rfl) (by as_aux_lemma => kernel_rfl) (fun _ _ _ h => h) (Or.inr ⟨by rfl, rfl⟩) (by assumption) ?_
                    try simp only [Act.put, List.setIfInBounds_toArray, List.set_cons_zero, List.set_cons_succ]
                    refine wpAnyH_take (i := 55) (oi := ⟨_, _, _, _, _, _⟩) (v := undef) rfl (by as_aux_lemma => kernel_rfl) (by as_aux_lemma => kernel_rfl) (by as_aux_lemma => kernel_rfl) (fun _ _ _ h => h) (Or.inr ⟨by rfl, rfl⟩) (by assumption) ?_
                    try simp only [Act.put, List.setIfInBounds_toArray, List.set_cons_zero, List.set_cons_succ]
                    refine wpAnyH_take (i := 56) (oi := ⟨_, _, _, _, _, _⟩) (v := undef) rfl (by as_aux_lemma => kernel_rfl) (by as_aux_lemma => kernel_rfl) (by as_aux_lemma => kernel_rfl) (fun _ _ _ h => h) (Or.inr ⟨by rfl, rfl⟩) (by assumption) ?_
                    try simp only [Act.put, List.setIfInBounds_toArray, List.set_cons_zero, List.set_cons_succ]
                    refine wpAnyH_take (i := 57) (oi := ⟨_, _, _, _, _, _⟩) (v := undef) rfl (by as_aux_lemma => kernel_rfl) (by as_aux_lemma => kernel_rfl) (by as_aux_lemma => kernel_rfl) (fun _ _ _ h => h) (Or.inr ⟨by rfl, rfl⟩) (by assumption) ?_
                    try simp only [Act.put, List.setIfInBounds_toArray, List.set_cons_zero, List.set_cons_succ]
                    refine wpAnyH_take (i := 58) (oi := ⟨_, _, _, _, _, _⟩) (v := undef) rfl (by as_aux_lemma => kernel_rfl) (by as_aux_lemma => kernel_rfl) (by as_aux_lemma => kernel_rfl) (fun _ _ _ h => h) (Or.inr ⟨by rfl, rfl⟩) (by assumption) ?_
                    try simp only [Act.put, List.setIfInBounds_toArray, List.set_cons_zero, List.set_cons_succ]
                    refine wpAnyH_take (i := 59) (oi := ⟨_, _, _, _, _, _⟩) (v := undef) rfl (by as_aux_lemma => kernel_rfl) (by as_aux_lemma => kernel_rfl) (by as_aux_lemma => kernel_rfl) (fun _ _ _ h => h) (Or.inr ⟨by rfl, rfl⟩) (by assumption) ?_
                    try simp only [Act.put, List.setIfInBounds_toArray, List.set_cons_zero, List.set_cons_succ]
                    refine wpAnyH_take (i := 60) (oi := ⟨_, _, _, _, _, _⟩) (v := undef) rfl (by as_aux_lemma => kernel_rfl) (by as_aux_lemma => kernel_rfl) (by as_aux_lemma => kernel_rfl) (fun _ _ _ h => h) (Or.inr ⟨by rfl, rfl⟩) (by assumption) ?_
                    try simp only [Act.put, List.setIfInBounds_toArray, List.set_cons_zero, List.set_cons_succ]
                    refine wpAnyH_take (i := 61) (oi := ⟨_, _, _, _, _, _⟩) (v := ?_) rfl (by as_aux_lemma => kernel_rfl) (by as_aux_lemma => kernel_rfl) (by as_aux_lemma => kernel_rfl) (fun _ _ _ h => h) (Or.inl ⟨by rfl, ?hy⟩) (by assumption) ?_
                    case hy =>
                      intro w hSw
                      skip
                      go_simp
                      all_goals with_reducible rfl
                    try simp only [Act.put, List.setIfInBounds_toArray, List.set_cons_zero, List.set_cons_succ]
                    refine wpAnyH_take (i := 62) (oi := ⟨_, _, _, _, _, _⟩) (v := ?_) rfl (by as_aux_lemma => kernel_rfl) (by as_aux_lemma => kernel_rfl) (by as_aux_lemma => kernel_rfl) (fun _ _ _ h => h) (Or.inl ⟨by rfl, ?hy⟩) (by assumption) ?_
                    case hy =>
                      intro w hSw
                      skip
                      go_simp
                      all_goals with_reducible rfl
                    try simp only [Act.put, List.setIfInBounds_toArray, List.set_cons_zero, List.set_cons_succ]
                    refine wpAnyH_done (by as_aux_lemma => kernel_rfl) ?_ _
                    have hD2 := hid (fun j (hj : j < k + 1) => show keyF (rq l j) ≠ keyF x by
                      by_cases e : j = k
                      · subst e
                        exact fun e => (beq_eq_false_iff_ne.1 hE) (by rw [hky.out, hkx.out, hy.out]; exact e)
                      · exact hD.out j (by omega))
                    have hB5 := hid (hB.out.trans (hHeld.mono hB.out.size))
                    clear hHeld
                    go_wp2_with fail
                    refine ⟨?_, by simp [intOf]; omega⟩
                    repeat (first | exact ⟨⟨k + 1, by go_num, by omega, hD2, hB5⟩, rfl⟩ | exact ⟨k + 1, by go_num, by omega, hD2, hB5⟩ | apply Exists.intro)
                | false =>
                  refine wpAnyH_take (i := 24) (oi := ⟨_, _, _, _, _, _⟩) (v := undef) rfl (by as_aux_lemma => kernel_rfl) (by as_aux_lemma => kernel_rfl) (by as_aux_lemma => kernel_rfl) (fun _ _ _ h => h) (Or.inr ⟨by rfl, rfl⟩) (by assumption) ?_
                  try simp only [Act.put, List.setIfInBounds_toArray, List.set_cons_zero, List.set_cons_succ]
                  refine wpAnyH_take (i := 25) (oi := ⟨_, _, _, _, _, _⟩) (v := undef) rfl (by as_aux_lemma => kernel_rfl) (by as_aux_lemma => kernel_rfl) (by as_aux_lemma => kernel_rfl) (fun _ _ _ h => h) (Or.inr ⟨by rfl, rfl⟩) (by assumption) ?_
                  try simp only [Act.put, List.setIfInBounds_toArray, List.set_cons_zero, List.set_cons_succ]
                  refine wpAnyH_take (i := 26) (oi := ⟨_, _, _, _, _, _⟩) (v := undef) rfl (by as_aux_lemma => kernel_rfl) (by as_aux_lemma => kernel_rfl) (by as_aux_lemma => kernel_rfl) (fun _ _ _ h => h) (Or.inr ⟨by rfl, rfl⟩) (by assumption) ?_
                  try simp only [Act.put, List.setIfInBounds_toArray, List.set_cons_zero, List.set_cons_succ]
                  refine wpAnyH_take (i := 27) (oi := ⟨_, _, _, _, _, _⟩) (v := undef) rfl (by as_aux_lemma => kernel_rfl) (by as_aux_lemma => kernel_rfl) (by as_aux_lemma => kernel_rfl) (fun _ _ _ h => h) (Or.inr ⟨by rfl, rfl⟩) (by assumption) ?_
                  try simp only [Act.put, List.setIfInBounds_toArray, List.set_cons_zero, List.set_cons_succ]
                  refine wpAnyH_take (i := 28) (oi := ⟨_, _, _, _, _, _⟩) (v := undef) rfl (by as_aux_lemma => kernel_rfl) (by as_aux_lemma => kernel_rfl) (by as_aux_lemma => kernel_rfl) (fun _ _ _ h => h) (Or.inr ⟨by rfl, rfl⟩) (by assumption) ?_
                  try simp only [Act.put, List.setIfInBounds_toArray, List.set_cons_zero, List.set_cons_succ]
                  refine wpAnyH_take (i := 29) (oi := ⟨_, _, _, _, _, _⟩) (v := undef) rfl (by as_aux_lemma => kernel_rfl) (by as_aux_lemma => kernel_rfl) (by as_aux_lemma => kernel_rfl) (fun _ _ _ h => h) (Or.inr ⟨by rfl, rfl⟩) (by assumption) ?_
                  try simp only [Act.put, List.setIfInBounds_toArray, List.set_cons_zero, List.set_cons_succ]
                  refine wpAnyH_take (i := 30) (oi := ⟨_, _, _, _, _, _⟩) (v := undef) rfl (by as_aux_lemma => kernel_rfl) (by as_aux_lemma => kernel_rfl) (by as_aux_lemma => kernel_rfl) (fun _ _ _ h => h) (Or.inr ⟨by rfl, rfl⟩) (by assumption) ?_
                  try simp only [Act.put, List.setIfInBounds_toArray, List.set_cons_zero, List.set_cons_succ]
                  refine wpAnyH_take (i := 31) (oi := ⟨_, _, _, _, _, _⟩) (v := undef) rfl (by as_aux_lemma => kernel_rfl) (by as_aux_lemma => kernel_rfl) (by as_aux_lemma => kernel_rfl) (fun _ _ _ h => h) (Or.inr ⟨by rfl, rfl⟩) (by assumption) ?_
                  try simp only [Act.put, List.setIfInBounds_toArray, List.set_cons_zero, List.set_cons_succ]
                  refine wpAnyH_take (i := 32) (oi := ⟨_, _, _, _, _, _⟩) (v := undef) rfl (by as_aux_lemma => kernel_rfl) (by as_aux_lemma => kernel_rfl) (by as_aux_lemma => kernel_rfl) (fun _ _ _ h => h) (Or.inr ⟨by rfl, rfl⟩) (by assumption) ?_
                  try simp only [Act.put, List.setIfInBounds_toArray, List.set_cons_zero, List.set_cons_succ]
                  refine wpAnyH_take (i := 33) (oi := ⟨_, _, _, _, _, _⟩) (v := undef) rfl (by as_aux_lemma => kernel_rfl) (by as_aux_lemma => kernel_rfl) (by as_aux_lemma => kernel_rfl) (fun _ _ _ h => h) (Or.inr ⟨by rfl, rfl⟩) (by assumption) ?_
                  try simp only [Act.put, List.setIfInBounds_toArray, List.set_cons_zero, List.set_cons_succ]
                  refine wpAnyH_take (i := 34) (oi := ⟨_, _, _, _, _, _⟩) (v := undef) rfl (by as_aux_lemma => kernel_rfl) (by as_aux_lemma => kernel_rfl) (by as_aux_lemma => kernel_rfl) (fun _ _ _ h => h) (Or.inr ⟨by rfl, rfl⟩) (by assumption) ?_
                  try simp only [Act.put, List.setIfInBounds_toArray, List.set_cons_zero, List.set_cons_succ]
                  refine wpAnyH_take (i := 35) (oi := ⟨_, _, _, _, _, _⟩) (v := ?_) rfl (by as_aux_lemma => kernel_rfl) (by as_aux_lemma => kernel_rfl) (by as_aux_lemma => kernel_rfl) (fun _ _ _ h => h) (Or.inl ⟨by rfl, ?hy⟩) (by assumption) ?_
                  case hy =>
                    intro w hSw
                    skip
                    go_simp
                    all_goals with_reducible rfl
                  try simp only [Act.put, List.setIfInBounds_toArray, List.set_cons_zero, List.set_cons_succ]
                  refine wpAnyH_take (i := 36) (oi := ⟨_, _, _, _, _, _⟩) (v := ?_) rfl (by as_aux_lemma => kernel_rfl) (by as_aux_lemma => kernel_rfl) (by as_aux_lemma => kernel_rfl) (fun _ _ _ h => h) (Or.inl ⟨by rfl, ?hy⟩) (by assumption) ?_
                  case hy =>
                    intro w hSw
                    skip
                    go_simp
                    all_goals with_reducible rfl
                  try simp only [Act.put, List.setIfInBounds_toArray, List.set_cons_zero, List.set_cons_succ]
                  refine wpAnyH_take (i := 37) (oi := ⟨_, _, _, _, _, _⟩) (v := undef) rfl (by as_aux_lemma => kernel_rfl) (by as_aux_lemma => kernel_rfl) (by as_aux_lemma => kernel_rfl) (fun _ _ _ h => h) (Or.inr ⟨by rfl, rfl⟩) (by assumption) ?_
                  try simp only [Act.put, List.setIfInBounds_toArray, List.set_cons_zero, List.set_cons_succ]
                  refine wpAnyH_take (i := 38) (oi := ⟨_, _, _, _, _, _⟩) (v := undef) rfl (by as_aux_lemma => kernel_rfl) (by as_aux_lemma => kernel_rfl) (by as_aux_lemma => kernel_rfl) (fun _ _ _ h => h) (Or.inr ⟨by rfl, rfl⟩) (by assumption) ?_
                  try simp only [Act.put, List.setIfInBounds_toArray, List.set_cons_zero, List.set_cons_succ]
                  refine wpAnyH_take (i := 39) (oi := ⟨_, _, _, _, _, _⟩) (v := undef) rfl (by as_aux_lemma => kernel_rfl) (by as_aux_lemma => kernel_rfl) (by as_aux_lemma => kernel_rfl) (fun _ _ _ h => h) (Or.inr ⟨by rfl, rfl⟩) (by assumption) ?_
                  try simp only [Act.put, List.setIfInBounds_toArray, List.set_cons_zero, List.set_cons_succ]
                  refine wpAnyH_take (i := 40) (oi := ⟨_, _, _, _, _, _⟩) (v := undef) rfl (by as_aux_lemma => kernel_rfl) (by as_aux_lemma => kernel_rfl) (by as_aux_lemma => kernel_rfl) (fun _ _ _ h => h) (Or.inr ⟨by rfl, rfl⟩) (by assumption) ?_
                  try simp only [Act.put, List.setIfInBounds_toArray, List.set_cons_zero, List.set_cons_succ]
                  refine wpAnyH_take (i := 41) (oi := ⟨_, _, _, _, _, _⟩) (v := undef) rfl (by as_aux_lemma => kernel_rfl) (by as_aux_lemma => kernel_rfl) (by as_aux_lemma => kernel_rfl) (fun _ _ _ h => h) (Or.inr ⟨by rfl, rfl⟩) (by assumption) ?_
                  try simp only [Act.put, List.setIfInBounds_toArray, List.set_cons_zero, List.set_cons_succ]
                  refine wpAnyH_take (i := 42) (oi := ⟨_, _, _, _, _, _⟩) (v := undef) rfl (by as_aux_lemma => kernel_rfl) (by as_aux_lemma => kernel_rfl) (by as_aux_lemma => kernel_rfl) (fun _ _ _ h => h) (Or.inr ⟨by rfl, rfl⟩) (by assumption) ?_
                  try simp only [Act.put, List.setIfInBounds_toArray, List.set_cons_zero, List.set_cons_succ]
                  refine wpAnyH_take (i := 43) (oi := ⟨_, _, _, _, _, _⟩) (v := undef) rfl (by as_aux_lemma => kernel_rfl) (by as_aux_lemma => kernel_rfl) (by as_aux_lemma => kernel_rfl) (fun _ _ _ h => h) (Or.inr ⟨by rfl, rfl⟩) (by assumption) ?_
                  try simp only [Act.put, List.setIfInBounds_toArray, List.set_cons_zero, List.set_cons_succ]
                  refine wpAnyH_take (i := 44) (oi := ⟨_, _, _, _, _, _⟩) (v := undef) rfl (by as_aux_lemma => kernel_rfl) (by as_aux_lemma => kernel_rfl) (by as_aux_lemma => kernel_rfl) (fun _ _ _ h => h) (Or.inr ⟨by rfl, rfl⟩) (by assumption) ?_
                  try simp only [Act.put, List.setIfInBounds_toArray, List.set_cons_zero, List.set_cons_succ]
                  refine wpAnyH_take (i := 45) (oi := ⟨_, _, _, _, _, _⟩) (v := undef) rfl (by as_aux_lemma => kernel_rfl) (by as_aux_lemma => kernel_rfl) (by as_aux_lemma => kernel_rfl) (fun _ _ _ h => h) (Or.inr ⟨by rfl, rfl⟩) (by assumption) ?_
                  try simp only [Act.put, List.setIfInBounds_toArray, List.set_cons_zero, List.set_cons_succ]
                  refine wpAnyH_take (i := 46) (oi := ⟨_, _, _, _, _, _⟩) (v := undef) rfl (by as_aux_lemma => kernel_rfl) (by as_aux_lemma => kernel_rfl) (by as_aux_lemma => kernel_rfl) (fun _ _ _ h => h) (Or.inr ⟨by rfl, rfl⟩) (by assumption) ?_
                  try simp only [Act.put, List.setIfInBounds_toArray, List.set_cons_zero, List.set_cons_succ]
                  refine wpAnyH_take (i := 47) (oi := ⟨_, _, _, _, _, _⟩) (v := undef) rfl (by as_aux_lemma => kernel_rfl) (by as_aux_lemma => kernel_rfl) (by as_aux_lemma => kernel_rfl) (fun _ _ _ h => h) (Or.inr ⟨by rfl, rfl⟩) (by assumption) ?_
                  try simp only [Act.put, List.setIfInBounds_toArray, List.set_cons_zero, List.set_cons_succ]
                  refine wpAnyH_take (i := 48) (oi := ⟨_, _, _, _, _, _⟩) (v := ?_) rfl (by as_aux_lemma => kernel_rfl) (by as_aux_lemma => kernel_rfl) (by as_aux_lemma => kernel_rfl) (fun _ _ _ h => h) (Or.inl ⟨by rfl, ?hy⟩) (by assumption) ?_
                  case hy =>
                    intro w hSw
                    skip
                    go_simp
                    all_goals with_reducible rfl
                  try simp only [Act.put, List.setIfInBounds_toArray, List.set_cons_zero, List.set_cons_succ]
                  refine wpAnyH_take (i := 49) (oi := ⟨_, _, _, _, _, _⟩) (v := ?_) rfl (by as_aux_lemma => kernel_rfl) (by as_aux_lemma => kernel_rfl) (by as_aux_lemma => kernel_rfl) (fun _ _ _ h => h) (Or.inl ⟨by rfl, ?hy⟩) (by assumption) ?_
                  case hy =>
                    intro w hSw
                    skip
                    go_simp
                    all_goals with_reducible rfl
                  try simp only [Act.put, List.setIfInBounds_toArray, List.set_cons_zero, List.set_cons_succ]
                  refine wpAnyH_take (i := 50) (oi := ⟨_, _, _, _, _, _⟩) (v := undef) rfl (by as_aux_lemma => kernel_rfl) (by as_aux_lemma => kernel_rfl) (by as_aux_lemma => kernel_rfl) (fun _ _ _ h => h) (Or.inr ⟨by rfl, rfl⟩) (by assumption) ?_
                  try simp only [Act.put, List.setIfInBounds_toArray, List.set_cons_zero, List.set_cons_succ]
                  refine wpAnyH_take (i := 51) (oi := ⟨_, _, _, _, _, _⟩) (v := undef) rfl (by as_aux_lemma => kernel_rfl) (by as_aux_lemma => kernel_rfl) (by as_aux_lemma => kernel_rfl) (fun _ _ _ h => h) (Or.inr ⟨by rfl, rfl⟩) (by assumption) ?_
                  try simp only [Act.put, List.setIfInBounds_toArray, List.set_cons_zero, List.set_cons_succ]
                  refine wpAnyH_take (i := 52) (oi := ⟨_, _, _, _, _, _⟩) (v := undef) rfl (by as_aux_lemma => kernel_rfl) (by as_aux_lemma => kernel_rfl) (by as_aux_lemma => kernel_rfl) (fun _ _ _ h => h) (Or.inr ⟨by rfl, rfl⟩) (by assumption) ?_
                  try simp only [Act.put, List.setIfInBounds_toArray, List.set_cons_zero, List.set_cons_succ]
                  refine wpAnyH_take (i := 53) (oi := ⟨_, _, _, _, _, _⟩) (v := undef) rfl (by as_aux_lemma => kernel_rfl) (by as_aux_lemma => kernel_rfl) (by as_aux_lemma => kernel_rfl) (fun _ _ _ h => h) (Or.inr ⟨by rfl, rfl⟩) (by assumption) ?_
                  try simp only [Act.put, List.setIfInBounds_toArray, List.set_cons_zero, List.set_cons_succ]
                  refine wpAnyH_take (i := 54) (oi := ⟨_, _, _, _, _, _⟩) (v := undef) rfl (by as_aux_lemma => kernel_rfl) (by as_aux_lemma => kernel_rfl) (by as_aux_lemma => kernel_rfl) (fun _ _ _ h => h) (Or.inr ⟨by rfl, rfl⟩) (by assumption) ?_
                  try simp only [Act.put, List.setIfInBounds_toArray, List.set_cons_zero, List.set_cons_succ]
                  refine wpAnyH_take (i := 55) (oi := ⟨_, _, _, _, _, _⟩) (v := undef) rfl (by as_aux_lemma => kernel_rfl) (by as_aux_lemma => kernel_rfl) (by as_aux_lemma => kernel_rfl) (fun _ _ _ h => h) (Or.inr ⟨by rfl, rfl⟩) (by assumption) ?_
                  try simp only [Act.put, List.setIfInBounds_toArray, List.set_cons_zero, List.set_cons_succ]
                  refine wpAnyH_take (i := 56) (oi := ⟨_, _, _, _, _, _⟩) (v := undef) rfl (by as_aux_lemma => kernel_rfl) (by as_aux_lemma => kernel_rfl) (by as_aux_lemma => kernel_rfl) (fun _ _ _ h => h) (Or.inr ⟨by rfl, rfl⟩) (by assumption) ?_
                  try simp only [Act.put, List.setIfInBounds_toArray, List.set_cons_zero, List.set_cons_succ]
                  refine wpAnyH_take (i := 57) (oi := ⟨_, _, _, _, _, _⟩) (v := undef) rfl (by as_aux_lemma => kernel_rfl) (by as_aux_lemma => kernel_rfl) (by as_aux_lemma => kernel_rfl) (fun _ _ _ h => h) (Or.inr ⟨by rfl, rfl⟩) (by assumption) ?_
                  try simp only [Act.put, List.setIfInBounds_toArray, List.set_cons_zero, List.set_cons_succ]
                  refine wpAnyH_take (i := 58) (oi := ⟨_, _, _, _, _, _⟩) (v := undef) rfl (by as_aux_lemma => kernel_rfl) (by as_aux_lemma => kernel_rfl) (by as_aux_lemma => kernel_rfl) (fun _ _ _ h => h) (Or.inr ⟨by rfl, rfl⟩) (by assumption) ?_
                  try simp only [Act.put, List.setIfInBounds_toArray, List.set_cons_zero, List.set_cons_succ]
                  refine wpAnyH_take (i := 59) (oi := ⟨_, _, _, _, _, _⟩) (v := undef) rfl (by as_aux_lemma => kernel_rfl) (by as_aux_lemma => kernel_rfl) (by as_aux_lemma => kernel_rfl) (fun _ _ _ h => h) (Or.inr ⟨by rfl, rfl⟩) (by assumption) ?_
                  try simp only [Act.put, List.setIfInBounds_toArray, List.set_cons_zero, List.set_cons_succ]
                  refine wpAnyH_take (i := 60) (oi := ⟨_, _, _, _, _, _⟩) (v := undef) rfl (by as_aux_lemma => kernel_rfl) (by as_aux_lemma => kernel_rfl) (by as_aux_lemma => kernel_rfl) (fun _ _ _ h => h) (Or.inr ⟨by rfl, rfl⟩) (by assumption) ?_
                  try simp only [Act.put, List.setIfInBounds_toArray, List.set_cons_zero, List.set_cons_succ]
                  refine wpAnyH_take (i := 61) (oi := ⟨_, _, _, _, _, _⟩) (v := ?_) rfl (by as_aux_lemma => kernel_rfl) (by as_aux_lemma => kernel_rfl) (by as_aux_lemma => kernel_rfl) (fun _ _ _ h => h) (Or.inl ⟨by rfl, ?hy⟩) (by assumption) ?_
                  case hy =>
                    intro w hSw
                    skip
                    go_simp
                    all_goals with_reducible rfl
                  try simp only [Act.put, List.setIfInBounds_toArray, List.set_cons_zero, List.set_cons_succ]
                  refine wpAnyH_take (i := 62) (oi := ⟨_, _, _, _, _, _⟩) (v := ?_) rfl (by as_aux_lemma => kernel_rfl) (by as_aux_lemma => kernel_rfl) (by as_aux_lemma => kernel_rfl) (fun _ _ _ h => h) (Or.inl ⟨by rfl, ?hy⟩) (by assumption) ?_
                  case hy =>
                    intro w hSw
                    skip
                    go_simp
                    all_goals with_reducible rfl
                  try simp only [Act.put, List.setIfInBounds_toArray, List.set_cons_zero, List.set_cons_succ]
                  refine wpAnyH_done (by as_aux_lemma => kernel_rfl) ?_ _
                  have hD2 := hid (fun j (hj : j < k + 1) => show keyF (rq l j) ≠ keyF x by
                    by_cases e : j = k
                    · subst e
                      exact fun e => (beq_eq_false_iff_ne.1 hE) (by rw [hky.out, hkx.out, hy.out]; exact e)
                    · exact hD.out j (by omega))
                  have hB5 := hid (hB.out.trans (hHeld.mono hB.out.size))
                  clear hHeld
                  go_wp2_with fail
                  refine ⟨?_, by simp [intOf]; omega⟩
                  repeat (first | exact ⟨⟨k + 1, by go_num, by omega, hD2, hB5⟩, rfl⟩ | exact ⟨k + 1, by go_num, by omega, hD2, hB5⟩ | apply Exists.intro)
            · obtain rfl : k = i := by omega
              have hC2 := hid (show ChkP l (k + 1) from fun j hj => by
                by_cases e : j = k
                · subst e
                  refine ⟨hx.out ▸ hsm.out, fun q hq => ?_⟩
                  rw [← hx.out]
                  exact hD.out q hq
                · exact hC.out j (by omega))
              go_wp2_with fail
              refine ⟨?_, by simp [intOf]; omega⟩
              repeat (first | exact ⟨⟨k + 1, by go_num, by omega, hC2, hM4⟩, rfl⟩ | exact ⟨k + 1, by go_num, by omega, hC2, hM4⟩ | apply Exists.intro)
      · obtain rfl : i = l.length := by omega
        clear hlt hi
        have hNd : KeysNd l := fun i k hk hi => (hC.out i hi).2 k hk
        have hKs : ∀ x ∈ l, (keyS x).length ≤ 1048576 := fun x hx => by
          obtain ⟨j, hj⟩ := List.getElem?_of_mem hx
          have hjl := (List.getElem?_eq_some_iff.1 hj).1
          have := (hC.out j hjl).1
          rw [rq_at hj] at this
          exact small_key this
        replace hNd := hid hNd
        replace hKs := hid hKs
        have ht1 := hid (hM.out.tab ht.out)
        go_wp2_with fail
        refine (diff_any l hl.out hKs.out _ (.slice a l.length c) wr ht1.out hM.out.rq).mono ?_
        rintro e wD ⟨v1, v2, rfl, hO, hbD⟩
        have mD := Mv.new hbD o 2
        have hMD := hid (hM.out.mv mD)
        have hU := hid ((hO.sl goodOut).mono goodOut (T := Tg (upd o wr.heap.size 2) 2) fun q _ hq => upd_ge hq)
        have hml : (l.map effF).length = l.length := by simp
        obtain ⟨a5, c5, rfl, -, -⟩ := hO.slice
        rw [hml] at hU ⊢
        obtain ⟨o2, ho2⟩ : ∃ o2, o2 = upd o wr.heap.size 2 := ⟨_, rfl⟩
        rw [← ho2] at hU hMD
        replace ho2 := hid ho2
        clear hO hbD mD hM ht1 hC
        go_wp2_with fail
        go_loopw [11] (fun i wr => ∃ (k : Nat) (o : Own), i = .int .i64 k ∧ k ≤ l.length ∧ Hid (WM w o l (.slice a l.length c) b (doneW l k) wr) ∧ Hid (SlR 5 OutR (Tg o 2) wr (l.map effF) (.slice a5 l.length c5))) (fun i _ => l.length - (intOf i).toNat)
        case atStart => exact ⟨0, o2, rfl, Nat.zero_le _, hMD, hU⟩
        case round =>
          clear hMD hU
          obtain ⟨k, o, rfl, hk, hM, hU⟩ := hrel
          by_cases hlt : k < l.length
          · obtain ⟨x, hx⟩ : ∃ x, x = rq l k := ⟨_, rfl⟩
            have hax := at_rq hlt
            rw [← hx] at hax
            have hxm := List.mem_of_getElem? hax
            have hxB := hl.out.2 x hxm
            have hxK := hKs.out x hxm
            obtain ⟨g, og, cs, hidx, -, hg, hc, hr⟩ := hM.out.rq.at (P := Tryd.prog) (t := 22) (by kernel_rfl) (fun _ => by kernel_rfl) hax
            obtain ⟨a1, k1, rfl, -⟩ := id hr
            have c0 := hc 0 _ rfl
            have c1 := hc 1 _ rfl
            have c2 := hc 2 _ rfl
            have c3 := hc 3 _ rfl
            have c4 := hc 4 _ rfl
            have c5 := hc 5 _ rfl
            have c6 := hc 6 _ rfl
            have c7 := hc 7 _ rfl
            rw [Nat.add_zero] at c0
            have hs1 := send_do hNd.out hlt
            have hs2 := send_do2 hNd.out hlt
            rw [← hx] at hs1 hs2
            have hll : (doneW l k).log.length ≤ 20 ∧ (doneW l k).force.length ≤ 20 := by unfold doneW; constructor <;> (simp; omega)
            have hll2 : (doneW l (k + 1)).log.length ≤ 20 ∧ (doneW l (k + 1)).force.length ≤ 20 := by unfold doneW; constructor <;> (simp; omega)
            have hcB : CmdB (doC x) := ⟨hxB.1, by show (sDo ++ keyF x).length ≤ _; rw [List.length_append, keyF_len]; decide⟩
            have ht1 := hid (hM.out.tab ht.out)
            obtain ⟨ky, hky⟩ : ∃ ky, ky = keyF x := ⟨_, rfl⟩
            have hkl : ky.length = 64 := by rw [hky]; exact keyF_len x
            have hkl2 : ¬ 9223372036854775807 < 2 + ky.length := by omega
            have hv := hid (valsR_of hr)
            have hdo : doC x = ⟨[100, 111] ++ ky, 1, [], ky, x.name, x.args⟩ := by rw [hky]; rfl
            replace hdo := hid hdo
            have hone : (cmdCs ⟨[100, 111] ++ ky, 1, [], ky, x.name, x.args⟩ (.slice a1 x.args.length k1)).toArray.all (·.oneCell') = true := by simp [Value.oneCell']
            replace hone := hid hone
            replace hr := hid hr
            replace hs1 := hid hs1
            replace hs2 := hid hs2
            replace hky := hid hky
            replace hx := hid hx
            replace hcB := hid hcB
            clear hc
            go_wp2_with fail
            refine wp_region_held_drew (S := (fun w9 => Below wr.heap.size wr w9)) (by kernel_rfl) ?_ (fun hHeld => ?_)
            · exact (Below.refl _ _).drew
            generalize wr.drew = wd at *
            refine wpAnyH_take (i := 0) (oi := ⟨_, _, _, _, _, _⟩) (v := ?_) rfl (by as_aux_lemma => kernel_rfl) (by as_aux_lemma => kernel_rfl) (by as_aux_lemma => kernel_rfl) (fun _ _ _ h => h) (Or.inl ⟨by rfl, ?hy⟩) (by assumption) ?_
            case hy =>
              intro w hSw
              skip
              go_simp
              all_goals with_reducible rfl
            try simp only [Act.put, List.setIfInBounds_toArray, List.set_cons_zero, List.set_cons_succ]
            refine wpAnyH_take (i := 1) (oi := ⟨_, _, _, _, _, _⟩) (v := ?_) rfl (by as_aux_lemma => kernel_rfl) (by as_aux_lemma => kernel_rfl) (by as_aux_lemma => kernel_rfl) (fun _ _ _ h => h) (Or.inl ⟨by rfl, ?hy⟩) (by assumption) ?_
            case hy =>
              intro w hSw
              skip
              go_simp
              all_goals with_reducible rfl
            try simp only [Act.put, List.setIfInBounds_toArray, List.set_cons_zero, List.set_cons_succ]
            refine wpAnyH_take (i := 2) (oi := ⟨_, _, _, _, _, _⟩) (v := ?_) rfl (by as_aux_lemma => kernel_rfl) (by as_aux_lemma => kernel_rfl) (by as_aux_lemma => kernel_rfl) (fun _ _ _ h => h) (Or.inl ⟨by rfl, ?hy⟩) (by assumption) ?_
            case hy =>
              intro w hSw
              skip
              go_simp
              all_goals with_reducible rfl
            try simp only [Act.put, List.setIfInBounds_toArray, List.set_cons_zero, List.set_cons_succ]
            refine wpAnyH_take (i := 3) (oi := ⟨_, _, _, _, _, _⟩) (v := ?_) rfl (by as_aux_lemma => kernel_rfl) (by as_aux_lemma => kernel_rfl) (by as_aux_lemma => kernel_rfl) (fun _ _ _ h => h) (Or.inl ⟨by rfl, ?hy⟩) (by assumption) ?_
            case hy =>
              intro w hSw
              have c0 : w.cell? ⟨g, og, none⟩ = some (sv x.path) := (hSw.cell (p := ⟨g, og, none⟩) hg).trans c0
              have c1 : w.cell? ⟨g, og + 1, none⟩ = some (sv x.name) := (hSw.cell (p := ⟨g, og + 1, none⟩) hg).trans c1
              have c2 : w.cell? ⟨g, og + 2, none⟩ = some (.slice a1 x.args.length k1) := (hSw.cell (p := ⟨g, og + 2, none⟩) hg).trans c2
              have c3 : w.cell? ⟨g, og + 3, none⟩ = some (iv x.ord) := (hSw.cell (p := ⟨g, og + 3, none⟩) hg).trans c3
              have c4 : w.cell? ⟨g, og + 4, none⟩ = some (sv x.reply) := (hSw.cell (p := ⟨g, og + 4, none⟩) hg).trans c4
              have c5 : w.cell? ⟨g, og + 5, none⟩ = some (iv x.sent) := (hSw.cell (p := ⟨g, og + 5, none⟩) hg).trans c5
              have c6 : w.cell? ⟨g, og + 6, none⟩ = some (iv x.tick) := (hSw.cell (p := ⟨g, og + 6, none⟩) hg).trans c6
              have c7 : w.cell? ⟨g, og + 7, none⟩ = some (.bool x.opn) := (hSw.cell (p := ⟨g, og + 7, none⟩) hg).trans c7
              go_simp
              all_goals with_reducible rfl
            try simp only [Act.put, List.setIfInBounds_toArray, List.set_cons_zero, List.set_cons_succ]
            refine wpAnyH_take (i := 6) (oi := ⟨_, _, _, _, _, _⟩) (v := ?_) rfl (by as_aux_lemma => kernel_rfl) (by as_aux_lemma => kernel_rfl) (by as_aux_lemma => kernel_rfl) (fun _ _ _ h => h) (Or.inl ⟨by rfl, ?hy⟩) (by assumption) ?_
            case hy =>
              intro w hSw
              skip
              go_simp
              all_goals with_reducible rfl
            try simp only [Act.put, List.setIfInBounds_toArray, List.set_cons_zero, List.set_cons_succ]
            refine wpAnyH_take (i := 7) (oi := ⟨_, _, _, _, _, _⟩) (v := ?_) rfl (by as_aux_lemma => kernel_rfl) (by as_aux_lemma => kernel_rfl) (by as_aux_lemma => kernel_rfl) (fun _ _ _ h => h) (Or.inl ⟨by rfl, ?hy⟩) (by assumption) ?_
            case hy =>
              intro w hSw
              skip
              go_simp
              all_goals with_reducible rfl
            try simp only [Act.put, List.setIfInBounds_toArray, List.set_cons_zero, List.set_cons_succ]
            refine wpAnyH_take (i := 8) (oi := ⟨_, _, _, _, _, _⟩) (v := ?_) rfl (by as_aux_lemma => kernel_rfl) (by as_aux_lemma => kernel_rfl) (by as_aux_lemma => kernel_rfl) (fun _ _ _ h => h) (Or.inl ⟨by rfl, ?hy⟩) (by assumption) ?_
            case hy =>
              intro w hSw
              skip
              go_simp
              all_goals with_reducible rfl
            try simp only [Act.put, List.setIfInBounds_toArray, List.set_cons_zero, List.set_cons_succ]
            refine wpAnyH_take (i := 9) (oi := ⟨_, _, _, _, _, _⟩) (v := ?_) rfl (by as_aux_lemma => kernel_rfl) (by as_aux_lemma => kernel_rfl) (by as_aux_lemma => kernel_rfl) (fun _ _ _ h => h) (Or.inl ⟨by rfl, ?hy⟩) (by assumption) ?_
            case hy =>
              intro w hSw
              have c0 : w.cell? ⟨g, og, none⟩ = some (sv x.path) := (hSw.cell (p := ⟨g, og, none⟩) hg).trans c0
              have c1 : w.cell? ⟨g, og + 1, none⟩ = some (sv x.name) := (hSw.cell (p := ⟨g, og + 1, none⟩) hg).trans c1
              have c2 : w.cell? ⟨g, og + 2, none⟩ = some (.slice a1 x.args.length k1) := (hSw.cell (p := ⟨g, og + 2, none⟩) hg).trans c2
              have c3 : w.cell? ⟨g, og + 3, none⟩ = some (iv x.ord) := (hSw.cell (p := ⟨g, og + 3, none⟩) hg).trans c3
              have c4 : w.cell? ⟨g, og + 4, none⟩ = some (sv x.reply) := (hSw.cell (p := ⟨g, og + 4, none⟩) hg).trans c4
              have c5 : w.cell? ⟨g, og + 5, none⟩ = some (iv x.sent) := (hSw.cell (p := ⟨g, og + 5, none⟩) hg).trans c5
              have c6 : w.cell? ⟨g, og + 6, none⟩ = some (iv x.tick) := (hSw.cell (p := ⟨g, og + 6, none⟩) hg).trans c6
              have c7 : w.cell? ⟨g, og + 7, none⟩ = some (.bool x.opn) := (hSw.cell (p := ⟨g, og + 7, none⟩) hg).trans c7
              go_simp
              all_goals with_reducible rfl
            try simp only [Act.put, List.setIfInBounds_toArray, List.set_cons_zero, List.set_cons_succ]
            refine wpAnyH_take (i := 11) (oi := ⟨_, _, _, _, _, _⟩) (v := ?_) rfl (by as_aux_lemma => kernel_rfl) (by as_aux_lemma => kernel_rfl) (by as_aux_lemma => kernel_rfl) (fun _ _ _ h => h) (Or.inl ⟨by rfl, ?hy⟩) (by assumption) ?_
            case hy =>
              intro w hSw
              skip
              go_simp
              all_goals with_reducible rfl
            try simp only [Act.put, List.setIfInBounds_toArray, List.set_cons_zero, List.set_cons_succ]
            refine wpAnyH_take (i := 12) (oi := ⟨_, _, _, _, _, _⟩) (v := ?_) rfl (by as_aux_lemma => kernel_rfl) (by as_aux_lemma => kernel_rfl) (by as_aux_lemma => kernel_rfl) (fun _ _ _ h => h) (Or.inl ⟨by rfl, ?hy⟩) (by assumption) ?_
            case hy =>
              intro w hSw
              skip
              go_simp
              all_goals with_reducible rfl
            try simp only [Act.put, List.setIfInBounds_toArray, List.set_cons_zero, List.set_cons_succ]
            refine wpAnyH_take (i := 13) (oi := ⟨_, _, _, _, _, _⟩) (v := ?_) rfl (by as_aux_lemma => kernel_rfl) (by as_aux_lemma => kernel_rfl) (by as_aux_lemma => kernel_rfl) (fun _ _ _ h => h) (Or.inl ⟨by rfl, ?hy⟩) (by assumption) ?_
            case hy =>
              intro w hSw
              skip
              go_simp
              all_goals with_reducible rfl
            try simp only [Act.put, List.setIfInBounds_toArray, List.set_cons_zero, List.set_cons_succ]
            refine wpAnyH_take (i := 14) (oi := ⟨_, _, _, _, _, _⟩) (v := ?_) rfl (by as_aux_lemma => kernel_rfl) (by as_aux_lemma => kernel_rfl) (by as_aux_lemma => kernel_rfl) (fun _ _ _ h => h) (Or.inl ⟨by rfl, ?hy⟩) (by assumption) ?_
            case hy =>
              intro w hSw
              skip
              go_simp
              all_goals with_reducible rfl
            try simp only [Act.put, List.setIfInBounds_toArray, List.set_cons_zero, List.set_cons_succ]
            refine wpAnyH_take (i := 15) (oi := ⟨_, _, _, _, _, _⟩) (v := ?_) rfl (by as_aux_lemma => kernel_rfl) (by as_aux_lemma => kernel_rfl) (by as_aux_lemma => kernel_rfl) (fun _ _ _ h => h) (Or.inl ⟨by rfl, ?hy⟩) (by assumption) ?_
            case hy =>
              intro w hSw
              have c1 : w.cell? ⟨g, og + 1, none⟩ = some (sv x.name) := (hSw.cell (p := ⟨g, og + 1, none⟩) hg).trans c1
              go_simp
              all_goals with_reducible rfl
            try simp only [Act.put, List.setIfInBounds_toArray, List.set_cons_zero, List.set_cons_succ]
            refine wpAnyH_take (i := 16) (oi := ⟨_, _, _, _, _, _⟩) (v := ?_) rfl (by as_aux_lemma => kernel_rfl) (by as_aux_lemma => kernel_rfl) (by as_aux_lemma => kernel_rfl) (fun _ _ _ h => h) (Or.inl ⟨by rfl, ?hy⟩) (by assumption) ?_
            case hy =>
              intro w hSw
              skip
              go_simp
              all_goals with_reducible rfl
            try simp only [Act.put, List.setIfInBounds_toArray, List.set_cons_zero, List.set_cons_succ]
            refine wpAnyH_take (i := 17) (oi := ⟨_, _, _, _, _, _⟩) (v := ?_) rfl (by as_aux_lemma => kernel_rfl) (by as_aux_lemma => kernel_rfl) (by as_aux_lemma => kernel_rfl) (fun _ _ _ h => h) (Or.inl ⟨by rfl, ?hy⟩) (by assumption) ?_
            case hy =>
              intro w hSw
              skip
              go_simp
              all_goals with_reducible rfl
            try simp only [Act.put, List.setIfInBounds_toArray, List.set_cons_zero, List.set_cons_succ]
            refine wpAnyH_take (i := 18) (oi := ⟨_, _, _, _, _, _⟩) (v := ?_) rfl (by as_aux_lemma => kernel_rfl) (by as_aux_lemma => kernel_rfl) (by as_aux_lemma => kernel_rfl) (fun _ _ _ h => h) (Or.inl ⟨by rfl, ?hy⟩) (by assumption) ?_
            case hy =>
              intro w hSw
              skip
              go_simp
              all_goals with_reducible rfl
            try simp only [Act.put, List.setIfInBounds_toArray, List.set_cons_zero, List.set_cons_succ]
            refine wpAnyH_take (i := 19) (oi := ⟨_, _, _, _, _, _⟩) (v := ?_) rfl (by as_aux_lemma => kernel_rfl) (by as_aux_lemma => kernel_rfl) (by as_aux_lemma => kernel_rfl) (fun _ _ _ h => h) (Or.inl ⟨by rfl, ?hy⟩) (by assumption) ?_
            case hy =>
              intro w hSw
              skip
              go_simp
              all_goals with_reducible rfl
            try simp only [Act.put, List.setIfInBounds_toArray, List.set_cons_zero, List.set_cons_succ]
            refine wpAnyH_take (i := 20) (oi := ⟨_, _, _, _, _, _⟩) (v := ?_) rfl (by as_aux_lemma => kernel_rfl) (by as_aux_lemma => kernel_rfl) (by as_aux_lemma => kernel_rfl) (fun _ _ _ h => h) (Or.inl ⟨by rfl, ?hy⟩) (by assumption) ?_
            case hy =>
              intro w hSw
              have c2 : w.cell? ⟨g, og + 2, none⟩ = some (.slice a1 x.args.length k1) := (hSw.cell (p := ⟨g, og + 2, none⟩) hg).trans c2
              go_simp
              all_goals with_reducible rfl
            try simp only [Act.put, List.setIfInBounds_toArray, List.set_cons_zero, List.set_cons_succ]
            refine wpAnyH_ready (rs := [4, 22]) (by as_aux_lemma => kernel_rfl) (by simp) ?_
            refine AllReadyH.cons (o := ⟨_, _, _, _, _, _⟩) rfl (fun K hK => ?_) (AllReadyH.cons (o := ⟨_, _, _, _, _, _⟩) rfl (fun K hK => ?_) AllReadyH.nil)
            · go_simp
              go_at_call 7
              refine (netKey_any x hxB hxK _ (reqCs x (.slice a1 x.args.length k1)) _ (ht1.out.below hHeld (Nat.le_refl _)) (goodReq.below hr.out hHeld)).mono ?_
              rintro e wq ⟨rfl, hbq⟩
              rw [← hky.out]
              have hZ := hHeld.trans (hbq.mono hHeld.size)
              refine hK.out _ _ ?_ (fun hHeld2 => ?_)
              · exact hZ
              clear hK K
              clear hHeld
              have hHeld := hHeld2
              clear hHeld2
              try simp only [Act.put, List.setIfInBounds_toArray, List.set_cons_zero, List.set_cons_succ]
              refine wpAnyH_take (i := 5) (oi := ⟨_, _, _, _, _, _⟩) (v := ?_) rfl (by as_aux_lemma => kernel_rfl) (by as_aux_lemma => kernel_rfl) (by as_aux_lemma => kernel_rfl) (fun _ _ _ h => h) (Or.inl ⟨by rfl, ?hy⟩) (by assumption) ?_
              case hy =>
                intro w hSw
                skip
                go_simp
                all_goals with_reducible rfl
              try simp only [Act.put, List.setIfInBounds_toArray, List.set_cons_zero, List.set_cons_succ]
              refine wpAnyH_ready (rs := [10, 22]) (by as_aux_lemma => kernel_rfl) (by simp) ?_
              refine AllReadyH.cons (o := ⟨_, _, _, _, _, _⟩) rfl (fun K hK => ?_) (AllReadyH.cons (o := ⟨_, _, _, _, _, _⟩) rfl (fun K hK => ?_) AllReadyH.nil)
              · go_simp
                go_at_call 7
                refine (netKey_any x hxB hxK _ (reqCs x (.slice a1 x.args.length k1)) _ (ht1.out.below hHeld (Nat.le_refl _)) (goodReq.below hr.out hHeld)).mono ?_
                rintro e wp ⟨rfl, hbq⟩
                rw [← hky.out]
                have hZ := hHeld.trans (hbq.mono hHeld.size)
                refine hK.out _ _ ?_ (fun hHeld2 => ?_)
                · exact hZ
                clear hK K
                clear hHeld
                have hHeld := hHeld2
                clear hHeld2
                try simp only [Act.put, List.setIfInBounds_toArray, List.set_cons_zero, List.set_cons_succ]
                refine wpAnyH_take (i := 21) (oi := ⟨_, _, _, _, _, _⟩) (v := ?_) rfl (by as_aux_lemma => kernel_rfl) (by as_aux_lemma => kernel_rfl) (by as_aux_lemma => kernel_rfl) (fun _ _ _ h => h) (Or.inl ⟨by rfl, ?hy⟩) (by assumption) ?_
                case hy =>
                  intro w hSw
                  skip
                  go_simp
                  all_goals with_reducible rfl
                try simp only [Act.put, List.setIfInBounds_toArray, List.set_cons_zero, List.set_cons_succ]
                refine wpAnyH_ready (rs := [22]) (by as_aux_lemma => kernel_rfl) (by simp) ?_
                refine AllReadyH.cons (o := ⟨_, _, _, _, _, _⟩) rfl (fun K hK => ?_) AllReadyH.nil
                go_simp
                have hZ := hHeld.alloc hHeld.size (.cells #[.string ⟨#[]⟩, .int .i64 0, .string ⟨#[]⟩, .string ⟨#[]⟩, .string ⟨#[]⟩, .slice none 0 0] 36 (0, 0))
                have hzr := heap_alloc_new' wp (.cells #[.string ⟨#[]⟩, .int .i64 0, .string ⟨#[]⟩, .string ⟨#[]⟩, .string ⟨#[]⟩, .slice none 0 0] 36 (0, 0))
                have hbc : wr.heap.size ≤ wp.heap.size := hHeld.size
                have hbl := lt_of_some hzr
                generalize hWz : wp.alloc (.cells #[.string ⟨#[]⟩, .int .i64 0, .string ⟨#[]⟩, .string ⟨#[]⟩, .string ⟨#[]⟩, .slice none 0 0] 36 (0, 0)) = wz at *
                replace hWz := hid hWz
                refine hK.out _ _ ?_ (fun hHeld2 => ?_)
                · exact hZ
                clear hK K
                clear hHeld
                have hHeld := hHeld2
                clear hHeld2
                try simp only [Act.put, List.setIfInBounds_toArray, List.set_cons_zero, List.set_cons_succ]
                have hst : Below wr.heap.size wr (wz.setRow wp.heap.size (cmdCs ⟨[100, 111] ++ ky, 1, [], ky, x.name, x.args⟩ (.slice a1 x.args.length k1)).toArray) := below_setRow hHeld hbc _
                have hrow := setRow_heap wz wp.heap.size _ (cmdCs ⟨[100, 111] ++ ky, 1, [], ky, x.name, x.args⟩ (.slice a1 x.args.length k1)).toArray _ _ hzr
                refine wpAnyH_ready (rs := [23]) (by as_aux_lemma => kernel_rfl) (by simp) ?_
                refine AllReadyH.cons (o := ⟨_, _, _, _, _, _⟩) rfl (fun K hK => ?_) AllReadyH.nil
                rw [if_pos (by rfl)]
                refine wp_store_row 36 (.tmp 12) (.tmp 175) rfl wp.heap.size (cmdCs ⟨[100, 111] ++ ky, 1, [], ky, x.name, x.args⟩ (.slice a1 x.args.length k1)).toArray (by rfl) (by rfl) _ _ hzr (by kernel_rfl) (by rfl) hone.out ?_
                refine hK.out _ _ ?_ (fun hHeld2 => ?_)
                · exact hst
                clear hK K
                clear hHeld
                have hHeld := hHeld2
                clear hHeld2
                try simp only [Act.put, List.setIfInBounds_toArray, List.set_cons_zero, List.set_cons_succ]
                generalize hWf : wz.setRow wp.heap.size (cmdCs ⟨[100, 111] ++ ky, 1, [], ky, x.name, x.args⟩ (.slice a1 x.args.length k1)).toArray = Wf at *
                generalize hbcE : wp.heap.size = bc at *
                replace hWf := hid hWf
                replace hbcE := hid hbcE
                refine wpAnyH_done (by as_aux_lemma => kernel_rfl) ?_ _
                have m4 := Mv.new hHeld o 4
                have hM4 := hid (hM.out.mv m4)
                have hU4 := hid (SlR.mv goodOut hU.out m4 (by decide))
                have hv4 := hid (SlR.mv goodVal hv.out m4 (by decide))
                have hbt : upd o wr.heap.size 4 bc = 4 := upd_ge hbc
                obtain ⟨o4, ho4⟩ : ∃ o4, o4 = upd o wr.heap.size 4 := ⟨_, rfl⟩
                rw [← ho4] at hM4 hU4 hv4 hbt
                replace ho4 := hid ho4
                have hb0 := lt_of_some hrow
                have r0 : Wf.cell? ⟨bc, 0, none⟩ = some (sv ([100, 111] ++ ky)) := (cell_of (i := 0) hrow).trans rfl
                have r1 : Wf.cell? ⟨bc, 1, none⟩ = some (iv 1) := (cell_of (i := 1) hrow).trans rfl
                have r2 : Wf.cell? ⟨bc, 2, none⟩ = some (sv []) := (cell_of (i := 2) hrow).trans rfl
                have r3 : Wf.cell? ⟨bc, 3, none⟩ = some (sv ky) := (cell_of (i := 3) hrow).trans rfl
                have r4 : Wf.cell? ⟨bc, 4, none⟩ = some (sv x.name) := (cell_of (i := 4) hrow).trans rfl
                have r5 : Wf.cell? ⟨bc, 5, none⟩ = some (.slice a1 x.args.length k1) := (cell_of (i := 5) hrow).trans rfl
                have hcm : CmdR (Tg o4 0) Wf (doC x) (cmdCs (doC x) (.slice a1 x.args.length k1)) := cmdR_shut (c := doC x) hv4.out
                have hcall1 := send_t o4 1 0 (by decide) b (doneW l k) (doC x) 0 hcB.out _ Wf hM4.out.wv hcm (by omega) (by omega)
                rw [hs1.out, hdo.out] at hcall1
                replace hcall1 := hid hcall1
                clear m4 hHeld hM hU hv hr
                replace hcm := hid hcm
                go_wp2_with fail
                refine hcall1.out.mono ?_
                rintro e W5 ⟨o5, rfl, m5, h5⟩
                clear hcall1
                have hbk5 : W5.heap[bc]? = Wf.heap[bc]? := m5.fr.block bc hb0 (fun h2 => absurd (hbt.symm.trans h2) (by decide))
                have s0 : W5.cell? ⟨bc, 0, none⟩ = some (sv ([100, 111] ++ ky)) := (World.cell?_of_block hbk5).trans r0
                have s1 : W5.cell? ⟨bc, 1, none⟩ = some (iv 1) := (World.cell?_of_block hbk5).trans r1
                have s2 : W5.cell? ⟨bc, 2, none⟩ = some (sv []) := (World.cell?_of_block hbk5).trans r2
                have s3 : W5.cell? ⟨bc, 3, none⟩ = some (sv ky) := (World.cell?_of_block hbk5).trans r3
                have s4 : W5.cell? ⟨bc, 4, none⟩ = some (sv x.name) := (World.cell?_of_block hbk5).trans r4
                have s5 : W5.cell? ⟨bc, 5, none⟩ = some (.slice a1 x.args.length k1) := (World.cell?_of_block hbk5).trans r5
                have hcall2 := send_t o5 1 0 (by decide) b (doneW l (k + 1)) (doC x) 0 hcB.out _ W5 h5 (goodCmd.mv hcm.out m5 (by decide)) (by omega) (by omega)
                rw [hs2.out, hdo.out] at hcall2
                replace hcall2 := hid hcall2
                have hM5 := hid (hM4.out.st.mv m5 (by decide))
                have hR5 := hid (SlR.mv goodReq hM4.out.rq m5 (by decide))
                have hU5 := hid (SlR.mv goodOut hU4.out m5 (by decide))
                clear m5 h5 hbk5 r0 r1 r2 r3 r4 r5 hcm hM4 hU4
                go_wp2_with fail
                refine hcall2.out.mono ?_
                rintro e W6 ⟨o6, rfl, m6, h6⟩
                have hM6 : Hid (WM w o6 l (.slice a l.length c) b (doneW l (k + 1)) W6) := hid ⟨hM5.out.mv m6 (by decide), SlR.mv goodReq hR5.out m6 (by decide), h6⟩
                have hU6 := hid (SlR.mv goodOut hU5.out m6 (by decide))
                clear hcall2 m6 h6 hM5 hU5 hR5 s0 s1 s2 s3 s4 s5 hidx
                go_wp2_with fail
                refine ⟨?_, by simp [intOf]; omega⟩
                repeat (first | exact ⟨⟨k + 1, o6, by go_num, by omega, hM6, hU6⟩, rfl⟩ | exact ⟨k + 1, o6, by go_num, by omega, hM6, hU6⟩ | apply Exists.intro)
              · go_simp
                have hZ := hHeld.alloc hHeld.size (.cells #[.string ⟨#[]⟩, .int .i64 0, .string ⟨#[]⟩, .string ⟨#[]⟩, .string ⟨#[]⟩, .slice none 0 0] 36 (0, 0))
                have hzr := heap_alloc_new' wq (.cells #[.string ⟨#[]⟩, .int .i64 0, .string ⟨#[]⟩, .string ⟨#[]⟩, .string ⟨#[]⟩, .slice none 0 0] 36 (0, 0))
                have hbc : wr.heap.size ≤ wq.heap.size := hHeld.size
                have hbl := lt_of_some hzr
                generalize hWz : wq.alloc (.cells #[.string ⟨#[]⟩, .int .i64 0, .string ⟨#[]⟩, .string ⟨#[]⟩, .string ⟨#[]⟩, .slice none 0 0] 36 (0, 0)) = wz at *
                replace hWz := hid hWz
                refine hK.out _ _ ?_ (fun hHeld2 => ?_)
                · exact hZ
                clear hK K
                clear hHeld
                have hHeld := hHeld2
                clear hHeld2
                try simp only [Act.put, List.setIfInBounds_toArray, List.set_cons_zero, List.set_cons_succ]
                refine wpAnyH_ready (rs := [10]) (by as_aux_lemma => kernel_rfl) (by simp) ?_
                refine AllReadyH.cons (o := ⟨_, _, _, _, _, _⟩) rfl (fun K hK => ?_) AllReadyH.nil
                go_simp
                go_at_call 7
                refine (netKey_any x hxB hxK _ (reqCs x (.slice a1 x.args.length k1)) _ (ht1.out.below hHeld (Nat.le_refl _)) (goodReq.below hr.out hHeld)).mono ?_
                rintro e wp ⟨rfl, hbq⟩
                rw [← hky.out]
                have hZ := hHeld.trans (hbq.mono hHeld.size)
                have hzr2 := below_keep hbq hzr hbl
                clear hzr
                have hzr := hzr2
                clear hzr2
                have hbl2 := Nat.lt_of_lt_of_le hbl hbq.size
                clear hbl
                have hbl := hbl2
                clear hbl2
                refine hK.out _ _ ?_ (fun hHeld2 => ?_)
                · exact hZ
                clear hK K
                clear hHeld
                have hHeld := hHeld2
                clear hHeld2
                try simp only [Act.put, List.setIfInBounds_toArray, List.set_cons_zero, List.set_cons_succ]
                refine wpAnyH_take (i := 21) (oi := ⟨_, _, _, _, _, _⟩) (v := ?_) rfl (by as_aux_lemma => kernel_rfl) (by as_aux_lemma => kernel_rfl) (by as_aux_lemma => kernel_rfl) (fun _ _ _ h => h) (Or.inl ⟨by rfl, ?hy⟩) (by assumption) ?_
                case hy =>
                  intro w hSw
                  skip
                  go_simp
                  all_goals with_reducible rfl
                try simp only [Act.put, List.setIfInBounds_toArray, List.set_cons_zero, List.set_cons_succ]
                have hst : Below wr.heap.size wr (wp.setRow wq.heap.size (cmdCs ⟨[100, 111] ++ ky, 1, [], ky, x.name, x.args⟩ (.slice a1 x.args.length k1)).toArray) := below_setRow hHeld hbc _
                have hrow := setRow_heap wp wq.heap.size _ (cmdCs ⟨[100, 111] ++ ky, 1, [], ky, x.name, x.args⟩ (.slice a1 x.args.length k1)).toArray _ _ hzr
                refine wpAnyH_ready (rs := [23]) (by as_aux_lemma => kernel_rfl) (by simp) ?_
                refine AllReadyH.cons (o := ⟨_, _, _, _, _, _⟩) rfl (fun K hK => ?_) AllReadyH.nil
                rw [if_pos (by rfl)]
                refine wp_store_row 36 (.tmp 12) (.tmp 175) rfl wq.heap.size (cmdCs ⟨[100, 111] ++ ky, 1, [], ky, x.name, x.args⟩ (.slice a1 x.args.length k1)).toArray (by rfl) (by rfl) _ _ hzr (by kernel_rfl) (by rfl) hone.out ?_
                refine hK.out _ _ ?_ (fun hHeld2 => ?_)
                · exact hst
                clear hK K
                clear hHeld
                have hHeld := hHeld2
                clear hHeld2
                try simp only [Act.put, List.setIfInBounds_toArray, List.set_cons_zero, List.set_cons_succ]
                generalize hWf : wp.setRow wq.heap.size (cmdCs ⟨[100, 111] ++ ky, 1, [], ky, x.name, x.args⟩ (.slice a1 x.args.length k1)).toArray = Wf at *
                generalize hbcE : wq.heap.size = bc at *
                replace hWf := hid hWf
                replace hbcE := hid hbcE
                refine wpAnyH_done (by as_aux_lemma => kernel_rfl) ?_ _
                have m4 := Mv.new hHeld o 4
                have hM4 := hid (hM.out.mv m4)
                have hU4 := hid (SlR.mv goodOut hU.out m4 (by decide))
                have hv4 := hid (SlR.mv goodVal hv.out m4 (by decide))
                have hbt : upd o wr.heap.size 4 bc = 4 := upd_ge hbc
                obtain ⟨o4, ho4⟩ : ∃ o4, o4 = upd o wr.heap.size 4 := ⟨_, rfl⟩
                rw [← ho4] at hM4 hU4 hv4 hbt
                replace ho4 := hid ho4
                have hb0 := lt_of_some hrow
                have r0 : Wf.cell? ⟨bc, 0, none⟩ = some (sv ([100, 111] ++ ky)) := (cell_of (i := 0) hrow).trans rfl
                have r1 : Wf.cell? ⟨bc, 1, none⟩ = some (iv 1) := (cell_of (i := 1) hrow).trans rfl
                have r2 : Wf.cell? ⟨bc, 2, none⟩ = some (sv []) := (cell_of (i := 2) hrow).trans rfl
                have r3 : Wf.cell? ⟨bc, 3, none⟩ = some (sv ky) := (cell_of (i := 3) hrow).trans rfl
                have r4 : Wf.cell? ⟨bc, 4, none⟩ = some (sv x.name) := (cell_of (i := 4) hrow).trans rfl
                have r5 : Wf.cell? ⟨bc, 5, none⟩ = some (.slice a1 x.args.length k1) := (cell_of (i := 5) hrow).trans rfl
                have hcm : CmdR (Tg o4 0) Wf (doC x) (cmdCs (doC x) (.slice a1 x.args.length k1)) := cmdR_shut (c := doC x) hv4.out
                have hcall1 := send_t o4 1 0 (by decide) b (doneW l k) (doC x) 0 hcB.out _ Wf hM4.out.wv hcm (by omega) (by omega)
                rw [hs1.out, hdo.out] at hcall1
                replace hcall1 := hid hcall1
                clear m4 hHeld hM hU hv hr
                replace hcm := hid hcm
                go_wp2_with fail
                refine hcall1.out.mono ?_
                rintro e W5 ⟨o5, rfl, m5, h5⟩
                clear hcall1
                have hbk5 : W5.heap[bc]? = Wf.heap[bc]? := m5.fr.block bc hb0 (fun h2 => absurd (hbt.symm.trans h2) (by decide))
                have s0 : W5.cell? ⟨bc, 0, none⟩ = some (sv ([100, 111] ++ ky)) := (World.cell?_of_block hbk5).trans r0
                have s1 : W5.cell? ⟨bc, 1, none⟩ = some (iv 1) := (World.cell?_of_block hbk5).trans r1
                have s2 : W5.cell? ⟨bc, 2, none⟩ = some (sv []) := (World.cell?_of_block hbk5).trans r2
                have s3 : W5.cell? ⟨bc, 3, none⟩ = some (sv ky) := (World.cell?_of_block hbk5).trans r3
                have s4 : W5.cell? ⟨bc, 4, none⟩ = some (sv x.name) := (World.cell?_of_block hbk5).trans r4
                have s5 : W5.cell? ⟨bc, 5, none⟩ = some (.slice a1 x.args.length k1) := (World.cell?_of_block hbk5).trans r5
                have hcall2 := send_t o5 1 0 (by decide) b (doneW l (k + 1)) (doC x) 0 hcB.out _ W5 h5 (goodCmd.mv hcm.out m5 (by decide)) (by omega) (by omega)
                rw [hs2.out, hdo.out] at hcall2
                replace hcall2 := hid hcall2
                have hM5 := hid (hM4.out.st.mv m5 (by decide))
                have hR5 := hid (SlR.mv goodReq hM4.out.rq m5 (by decide))
                have hU5 := hid (SlR.mv goodOut hU4.out m5 (by decide))
                clear m5 h5 hbk5 r0 r1 r2 r3 r4 r5 hcm hM4 hU4
                go_wp2_with fail
                refine hcall2.out.mono ?_
                rintro e W6 ⟨o6, rfl, m6, h6⟩
                have hM6 : Hid (WM w o6 l (.slice a l.length c) b (doneW l (k + 1)) W6) := hid ⟨hM5.out.mv m6 (by decide), SlR.mv goodReq hR5.out m6 (by decide), h6⟩
                have hU6 := hid (SlR.mv goodOut hU5.out m6 (by decide))
                clear hcall2 m6 h6 hM5 hU5 hR5 s0 s1 s2 s3 s4 s5 hidx
                go_wp2_with fail
                refine ⟨?_, by simp [intOf]; omega⟩
                repeat (first | exact ⟨⟨k + 1, o6, by go_num, by omega, hM6, hU6⟩, rfl⟩ | exact ⟨k + 1, o6, by go_num, by omega, hM6, hU6⟩ | apply Exists.intro)
            · go_simp
              have hZ := hHeld.alloc hHeld.size (.cells #[.string ⟨#[]⟩, .int .i64 0, .string ⟨#[]⟩, .string ⟨#[]⟩, .string ⟨#[]⟩, .slice none 0 0] 36 (0, 0))
              have hzr := heap_alloc_new' wd (.cells #[.string ⟨#[]⟩, .int .i64 0, .string ⟨#[]⟩, .string ⟨#[]⟩, .string ⟨#[]⟩, .slice none 0 0] 36 (0, 0))
              have hbc : wr.heap.size ≤ wd.heap.size := hHeld.size
              have hbl := lt_of_some hzr
              generalize hWz : wd.alloc (.cells #[.string ⟨#[]⟩, .int .i64 0, .string ⟨#[]⟩, .string ⟨#[]⟩, .string ⟨#[]⟩, .slice none 0 0] 36 (0, 0)) = wz at *
              replace hWz := hid hWz
              refine hK.out _ _ ?_ (fun hHeld2 => ?_)
              · exact hZ
              clear hK K
              clear hHeld
              have hHeld := hHeld2
              clear hHeld2
              try simp only [Act.put, List.setIfInBounds_toArray, List.set_cons_zero, List.set_cons_succ]
              refine wpAnyH_ready (rs := [4]) (by as_aux_lemma => kernel_rfl) (by simp) ?_
              refine AllReadyH.cons (o := ⟨_, _, _, _, _, _⟩) rfl (fun K hK => ?_) AllReadyH.nil
              go_simp
              go_at_call 7
              refine (netKey_any x hxB hxK _ (reqCs x (.slice a1 x.args.length k1)) _ (ht1.out.below hHeld (Nat.le_refl _)) (goodReq.below hr.out hHeld)).mono ?_
              rintro e wq ⟨rfl, hbq⟩
              rw [← hky.out]
              have hZ := hHeld.trans (hbq.mono hHeld.size)
              have hzr2 := below_keep hbq hzr hbl
              clear hzr
              have hzr := hzr2
              clear hzr2
              have hbl2 := Nat.lt_of_lt_of_le hbl hbq.size
              clear hbl
              have hbl := hbl2
              clear hbl2
              refine hK.out _ _ ?_ (fun hHeld2 => ?_)
              · exact hZ
              clear hK K
              clear hHeld
              have hHeld := hHeld2
              clear hHeld2
              try simp only [Act.put, List.setIfInBounds_toArray, List.set_cons_zero, List.set_cons_succ]
              refine wpAnyH_take (i := 5) (oi := ⟨_, _, _, _, _, _⟩) (v := ?_) rfl (by as_aux_lemma => kernel_rfl) (by as_aux_lemma => kernel_rfl) (by as_aux_lemma => kernel_rfl) (fun _ _ _ h => h) (Or.inl ⟨by rfl, ?hy⟩) (by assumption) ?_
              case hy =>
                intro w hSw
                skip
                go_simp
                all_goals with_reducible rfl
              try simp only [Act.put, List.setIfInBounds_toArray, List.set_cons_zero, List.set_cons_succ]
              refine wpAnyH_ready (rs := [10]) (by as_aux_lemma => kernel_rfl) (by simp) ?_
              refine AllReadyH.cons (o := ⟨_, _, _, _, _, _⟩) rfl (fun K hK => ?_) AllReadyH.nil
              go_simp
              go_at_call 7
              refine (netKey_any x hxB hxK _ (reqCs x (.slice a1 x.args.length k1)) _ (ht1.out.below hHeld (Nat.le_refl _)) (goodReq.below hr.out hHeld)).mono ?_
              rintro e wp ⟨rfl, hbq⟩
              rw [← hky.out]
              have hZ := hHeld.trans (hbq.mono hHeld.size)
              have hzr2 := below_keep hbq hzr hbl
              clear hzr
              have hzr := hzr2
              clear hzr2
              have hbl2 := Nat.lt_of_lt_of_le hbl hbq.size
              clear hbl
              have hbl := hbl2
              clear hbl2
              refine hK.out _ _ ?_ (fun hHeld2 => ?_)
              · exact hZ
              clear hK K
              clear hHeld
              have hHeld := hHeld2
              clear hHeld2
              try simp only [Act.put, List.setIfInBounds_toArray, List.set_cons_zero, List.set_cons_succ]
              refine wpAnyH_take (i := 21) (oi := ⟨_, _, _, _, _, _⟩) (v := ?_) rfl (by as_aux_lemma => kernel_rfl) (by as_aux_lemma => kernel_rfl) (by as_aux_lemma => kernel_rfl) (fun _ _ _ h => h) (Or.inl ⟨by rfl, ?hy⟩) (by assumption) ?_
              case hy =>
                intro w hSw
                skip
                go_simp
                all_goals with_reducible rfl
              try simp only [Act.put, List.setIfInBounds_toArray, List.set_cons_zero, List.set_cons_succ]
              have hst : Below wr.heap.size wr (wp.setRow wd.heap.size (cmdCs ⟨[100, 111] ++ ky, 1, [], ky, x.name, x.args⟩ (.slice a1 x.args.length k1)).toArray) := below_setRow hHeld hbc _
              have hrow := setRow_heap wp wd.heap.size _ (cmdCs ⟨[100, 111] ++ ky, 1, [], ky, x.name, x.args⟩ (.slice a1 x.args.length k1)).toArray _ _ hzr
              refine wpAnyH_ready (rs := [23]) (by as_aux_lemma => kernel_rfl) (by simp) ?_
              refine AllReadyH.cons (o := ⟨_, _, _, _, _, _⟩) rfl (fun K hK => ?_) AllReadyH.nil
              rw [if_pos (by rfl)]
              refine wp_store_row 36 (.tmp 12) (.tmp 175) rfl wd.heap.size (cmdCs ⟨[100, 111] ++ ky, 1, [], ky, x.name, x.args⟩ (.slice a1 x.args.length k1)).toArray (by rfl) (by rfl) _ _ hzr (by kernel_rfl) (by rfl) hone.out ?_
              refine hK.out _ _ ?_ (fun hHeld2 => ?_)
              · exact hst
              clear hK K
              clear hHeld
              have hHeld := hHeld2
              clear hHeld2
              try simp only [Act.put, List.setIfInBounds_toArray, List.set_cons_zero, List.set_cons_succ]
              generalize hWf : wp.setRow wd.heap.size (cmdCs ⟨[100, 111] ++ ky, 1, [], ky, x.name, x.args⟩ (.slice a1 x.args.length k1)).toArray = Wf at *
              generalize hbcE : wd.heap.size = bc at *
              replace hWf := hid hWf
              replace hbcE := hid hbcE
              refine wpAnyH_done (by as_aux_lemma => kernel_rfl) ?_ _
              have m4 := Mv.new hHeld o 4
              have hM4 := hid (hM.out.mv m4)
              have hU4 := hid (SlR.mv goodOut hU.out m4 (by decide))
              have hv4 := hid (SlR.mv goodVal hv.out m4 (by decide))
              have hbt : upd o wr.heap.size 4 bc = 4 := upd_ge hbc
              obtain ⟨o4, ho4⟩ : ∃ o4, o4 = upd o wr.heap.size 4 := ⟨_, rfl⟩
              rw [← ho4] at hM4 hU4 hv4 hbt
              replace ho4 := hid ho4
              have hb0 := lt_of_some hrow
              have r0 : Wf.cell? ⟨bc, 0, none⟩ = some (sv ([100, 111] ++ ky)) := (cell_of (i := 0) hrow).trans rfl
              have r1 : Wf.cell? ⟨bc, 1, none⟩ = some (iv 1) := (cell_of (i := 1) hrow).trans rfl
              have r2 : Wf.cell? ⟨bc, 2, none⟩ = some (sv []) := (cell_of (i := 2) hrow).trans rfl
              have r3 : Wf.cell? ⟨bc, 3, none⟩ = some (sv ky) := (cell_of (i := 3) hrow).trans rfl
              have r4 : Wf.cell? ⟨bc, 4, none⟩ = some (sv x.name) := (cell_of (i := 4) hrow).trans rfl
              have r5 : Wf.cell? ⟨bc, 5, none⟩ = some (.slice a1 x.args.length k1) := (cell_of (i := 5) hrow).trans rfl
              have hcm : CmdR (Tg o4 0) Wf (doC x) (cmdCs (doC x) (.slice a1 x.args.length k1)) := cmdR_shut (c := doC x) hv4.out
              have hcall1 := send_t o4 1 0 (by decide) b (doneW l k) (doC x) 0 hcB.out _ Wf hM4.out.wv hcm (by omega) (by omega)
              rw [hs1.out, hdo.out] at hcall1
              replace hcall1 := hid hcall1
              clear m4 hHeld hM hU hv hr
              replace hcm := hid hcm
              go_wp2_with fail
              refine hcall1.out.mono ?_
              rintro e W5 ⟨o5, rfl, m5, h5⟩
              clear hcall1
              have hbk5 : W5.heap[bc]? = Wf.heap[bc]? := m5.fr.block bc hb0 (fun h2 => absurd (hbt.symm.trans h2) (by decide))
              have s0 : W5.cell? ⟨bc, 0, none⟩ = some (sv ([100, 111] ++ ky)) := (World.cell?_of_block hbk5).trans r0
              have s1 : W5.cell? ⟨bc, 1, none⟩ = some (iv 1) := (World.cell?_of_block hbk5).trans r1
              have s2 : W5.cell? ⟨bc, 2, none⟩ = some (sv []) := (World.cell?_of_block hbk5).trans r2
              have s3 : W5.cell? ⟨bc, 3, none⟩ = some (sv ky) := (World.cell?_of_block hbk5).trans r3
              have s4 : W5.cell? ⟨bc, 4, none⟩ = some (sv x.name) := (World.cell?_of_block hbk5).trans r4
              have s5 : W5.cell? ⟨bc, 5, none⟩ = some (.slice a1 x.args.length k1) := (World.cell?_of_block hbk5).trans r5
              have hcall2 := send_t o5 1 0 (by decide) b (doneW l (k + 1)) (doC x) 0 hcB.out _ W5 h5 (goodCmd.mv hcm.out m5 (by decide)) (by omega) (by omega)
              rw [hs2.out, hdo.out] at hcall2
              replace hcall2 := hid hcall2
              have hM5 := hid (hM4.out.st.mv m5 (by decide))
              have hR5 := hid (SlR.mv goodReq hM4.out.rq m5 (by decide))
              have hU5 := hid (SlR.mv goodOut hU4.out m5 (by decide))
              clear m5 h5 hbk5 r0 r1 r2 r3 r4 r5 hcm hM4 hU4
              go_wp2_with fail
              refine hcall2.out.mono ?_
              rintro e W6 ⟨o6, rfl, m6, h6⟩
              have hM6 : Hid (WM w o6 l (.slice a l.length c) b (doneW l (k + 1)) W6) := hid ⟨hM5.out.mv m6 (by decide), SlR.mv goodReq hR5.out m6 (by decide), h6⟩
              have hU6 := hid (SlR.mv goodOut hU5.out m6 (by decide))
              clear hcall2 m6 h6 hM5 hU5 hR5 s0 s1 s2 s3 s4 s5 hidx
              go_wp2_with fail
              refine ⟨?_, by simp [intOf]; omega⟩
              repeat (first | exact ⟨⟨k + 1, o6, by go_num, by omega, hM6, hU6⟩, rfl⟩ | exact ⟨k + 1, o6, by go_num, by omega, hM6, hU6⟩ | apply Exists.intro)
          · obtain rfl : k = l.length := by omega
            clear hlt hk
            have hfl : (doneW l l.length).force.length = l.length := by unfold doneW; simp
            go_wp2_with fail
            refine (wnet_t o 3 1 b _ wr hM.out.wv).mono ?_
            rintro e wN ⟨o3, vn, rfl, m, hN⟩
            replace hM := hid (hM.out.mv m)
            replace hU := hid (SlR.mv goodOut hU.out m (by decide))
            obtain ⟨a6, c6, rfl, -⟩ := hN.slice
            rw [hfl] at hN ⊢
            replace hN := hid hN
            clear m
            go_wp2_with fail
            go_loopw [14] (fun i wr => ∃ k : Nat, i = .int .i64 k ∧ k ≤ l.length ∧ Hid (Below wN.heap.size wN wr)) (fun i _ => l.length - (intOf i).toNat)
            case atStart => exact ⟨0, rfl, Nat.zero_le _, hid (Below.refl _ _)⟩
            case round =>
              obtain ⟨i, rfl, hi, hB⟩ := hrel
              by_cases hlt : i < l.length
              · obtain ⟨x, hx⟩ : ∃ x, x = rq l i := ⟨_, rfl⟩
                have hax := at_rq hlt
                rw [← hx] at hax
                have hxB := hl.out.2 x (List.mem_of_getElem? hax)
                have hau : (l.map effF)[i]? = some (effF x) := by rw [List.getElem?_map, hax]; rfl
                obtain ⟨gi, oi, csi, hidxi, -, hgi, hci, hri⟩ := (hU.out.below goodOut hB.out).at (P := Tryd.prog) (t := 32) (by kernel_rfl) (fun _ => by kernel_rfl) hau
                obtain ⟨a1, k1, rfl, hvi⟩ := id hri
                obtain ⟨kx, hkx⟩ : ∃ kx, kx = keyF x := ⟨_, rfl⟩
                have c0 : wr.cell? ⟨gi, oi, none⟩ = some (sv kx) := by have h9 := hci 0 _ rfl; rw [Nat.add_zero] at h9; rw [hkx]; exact h9
                have c1 : wr.cell? ⟨gi, oi + 1, none⟩ = some (sv x.name) := hci 1 _ rfl
                have c2 : wr.cell? ⟨gi, oi + 2, none⟩ = some (.slice a1 x.args.length k1) := hci 2 _ rfl
                replace hvi : Hid (ValsR _ wr x.args (.slice a1 x.args.length k1)) := hid hvi
                replace hkx := hid hkx
                replace hx := hid hx
                clear hci hri
                go_wp2_with fail
                rename World => wA
                go_loopw [15, 16] (fun f z wr => ∃ k : Nat, z = .int .i64 k ∧ f = .bool (decide (i < k)) ∧ k ≤ l.length ∧ Hid (Below wA.heap.size wA wr)) (fun _ z _ => l.length - (intOf z).toNat)
                case atStart => exact ⟨0, rfl, by rw [decide_eq_false (by omega)], Nat.zero_le _, hid (Below.refl _ _)⟩
                case round =>
                  obtain ⟨k, rfl, rfl, hk, hB2⟩ := hrel
                  have hBN := hid (hB.out.trans (hB2.out.mono hB.out.size))
                  by_cases hkl : k < l.length
                  · obtain ⟨y, hy⟩ : ∃ y, y = rq l k := ⟨_, rfl⟩
                    have hay := at_rq hkl
                    rw [← hy] at hay
                    have hyB := hl.out.2 y (List.mem_of_getElem? hay)
                    have hau : (doneW l l.length).force[k]? = some (outOf (doC y)) := by
                      unfold doneW
                      rw [List.take_length, List.getElem?_map, hay]
                      rfl
                    obtain ⟨gk, ok, csk, hidxk, -, hgk, hck, hrk⟩ := (hN.out.below goodOut hBN.out).at (P := Tryd.prog) (t := 32) (by kernel_rfl) (fun _ => by kernel_rfl) hau
                    obtain ⟨a2, k2, rfl, hvk⟩ := id hrk
                    obtain ⟨ky, hky⟩ : ∃ ky, ky = keyF y := ⟨_, rfl⟩
                    have d0 : wr.cell? ⟨gk, ok, none⟩ = some (sv ky) := by have h9 := hck 0 _ rfl; rw [Nat.add_zero] at h9; rw [hky]; exact h9
                    have d1 : wr.cell? ⟨gk, ok + 1, none⟩ = some (sv y.name) := hck 1 _ rfl
                    have d2 : wr.cell? ⟨gk, ok + 2, none⟩ = some (.slice a2 y.args.length k2) := hck 2 _ rfl
                    have e0 : wr.cell? ⟨gi, oi, none⟩ = some (sv kx) := (hB2.out.cell (p := ⟨gi, oi, none⟩) hgi).trans c0
                    have e1 : wr.cell? ⟨gi, oi + 1, none⟩ = some (sv x.name) := (hB2.out.cell (p := ⟨gi, oi + 1, none⟩) hgi).trans c1
                    have e2 : wr.cell? ⟨gi, oi + 2, none⟩ = some (.slice a1 x.args.length k1) := (hB2.out.cell (p := ⟨gi, oi + 2, none⟩) hgi).trans c2
                    have hgi2 := Nat.lt_of_lt_of_le hgi hB2.out.size
                    have hvi2 := hid (hvi.out.below goodVal hB2.out)
                    replace hvk : Hid (ValsR _ wr y.args (.slice a2 y.args.length k2)) := hid hvk
                    replace hky := hid hky
                    replace hy := hid hy
                    clear hck hrk
                    have t1 : decide (i < k + 1) = (decide (i < k) || decide (i = k)) := by
                      by_cases h1 : i < k
                      · rw [decide_eq_true h1, decide_eq_true (by omega)]; rfl
                      · by_cases h2 : i = k
                        · rw [decide_eq_false h1, decide_eq_true h2, decide_eq_true (by omega)]; rfl
                        · rw [decide_eq_false h1, decide_eq_false h2, decide_eq_false (by omega)]; rfl
                    by_cases h1 : i < k
                    · rw [decide_eq_true h1] at t1 ⊢
                      replace t1 := hid t1
                      go_wp2_with fail
                      refine wp_region_held_drew (S := (fun w9 => Below wr.heap.size wr w9)) (by kernel_rfl) ?_ (fun hHeld => ?_)
                      · exact (Below.refl _ _).drew
                      generalize wr.drew = wd at *
                      refine wpAnyH_take (i := 0) (oi := ⟨_, _, _, _, _, _⟩) (v := ?_) rfl (by as_aux_lemma => kernel_rfl) (by as_aux_lemma => kernel_rfl) (by as_aux_lemma => kernel_rfl) (fun _ _ _ h => h) (Or.inl ⟨by rfl, ?hy⟩) (by assumption) ?_
                      case hy =>
                        intro w hSw
                        skip
                        go_simp
                        all_goals with_reducible rfl
                      try simp only [Act.put, List.setIfInBounds_toArray, List.set_cons_zero, List.set_cons_succ]
                      refine wpAnyH_take (i := 1) (oi := ⟨_, _, _, _, _, _⟩) (v := ?_) rfl (by as_aux_lemma => kernel_rfl) (by as_aux_lemma => kernel_rfl) (by as_aux_lemma => kernel_rfl) (fun _ _ _ h => h) (Or.inl ⟨by rfl, ?hy⟩) (by assumption) ?_
                      case hy =>
                        intro w hSw
                        skip
                        go_simp
                        all_goals with_reducible rfl
                      try simp only [Act.put, List.setIfInBounds_toArray, List.set_cons_zero, List.set_cons_succ]
                      refine wpAnyH_take (i := 2) (oi := ⟨_, _, _, _, _, _⟩) (v := undef) rfl (by as_aux_lemma => kernel_rfl) (by as_aux_lemma => kernel_rfl) (by as_aux_lemma => kernel_rfl) (fun _ _ _ h => h) (Or.inr ⟨by rfl, rfl⟩) (by assumption) ?_
                      try simp only [Act.put, List.setIfInBounds_toArray, List.set_cons_zero, List.set_cons_succ]
                      refine wpAnyH_take (i := 3) (oi := ⟨_, _, _, _, _, _⟩) (v := undef) rfl (by as_aux_lemma => kernel_rfl) (by as_aux_lemma => kernel_rfl) (by as_aux_lemma => kernel_rfl) (fun _ _ _ h => h) (Or.inr ⟨by rfl, rfl⟩) (by assumption) ?_
                      try simp only [Act.put, List.setIfInBounds_toArray, List.set_cons_zero, List.set_cons_succ]
                      refine wpAnyH_take (i := 4) (oi := ⟨_, _, _, _, _, _⟩) (v := undef) rfl (by as_aux_lemma => kernel_rfl) (by as_aux_lemma => kernel_rfl) (by as_aux_lemma => kernel_rfl) (fun _ _ _ h => h) (Or.inr ⟨by rfl, rfl⟩) (by assumption) ?_
                      try simp only [Act.put, List.setIfInBounds_toArray, List.set_cons_zero, List.set_cons_succ]
                      refine wpAnyH_take (i := 5) (oi := ⟨_, _, _, _, _, _⟩) (v := undef) rfl (by as_aux_lemma => kernel_rfl) (by as_aux_lemma => kernel_rfl) (by as_aux_lemma => kernel_rfl) (fun _ _ _ h => h) (Or.inr ⟨by rfl, rfl⟩) (by assumption) ?_
                      try simp only [Act.put, List.setIfInBounds_toArray, List.set_cons_zero, List.set_cons_succ]
                      refine wpAnyH_take (i := 6) (oi := ⟨_, _, _, _, _, _⟩) (v := undef) rfl (by as_aux_lemma => kernel_rfl) (by as_aux_lemma => kernel_rfl) (by as_aux_lemma => kernel_rfl) (fun _ _ _ h => h) (Or.inr ⟨by rfl, rfl⟩) (by assumption) ?_
                      try simp only [Act.put, List.setIfInBounds_toArray, List.set_cons_zero, List.set_cons_succ]
                      refine wpAnyH_take (i := 7) (oi := ⟨_, _, _, _, _, _⟩) (v := undef) rfl (by as_aux_lemma => kernel_rfl) (by as_aux_lemma => kernel_rfl) (by as_aux_lemma => kernel_rfl) (fun _ _ _ h => h) (Or.inr ⟨by rfl, rfl⟩) (by assumption) ?_
                      try simp only [Act.put, List.setIfInBounds_toArray, List.set_cons_zero, List.set_cons_succ]
                      refine wpAnyH_take (i := 8) (oi := ⟨_, _, _, _, _, _⟩) (v := undef) rfl (by as_aux_lemma => kernel_rfl) (by as_aux_lemma => kernel_rfl) (by as_aux_lemma => kernel_rfl) (fun _ _ _ h => h) (Or.inr ⟨by rfl, rfl⟩) (by assumption) ?_
                      try simp only [Act.put, List.setIfInBounds_toArray, List.set_cons_zero, List.set_cons_succ]
                      refine wpAnyH_take (i := 9) (oi := ⟨_, _, _, _, _, _⟩) (v := undef) rfl (by as_aux_lemma => kernel_rfl) (by as_aux_lemma => kernel_rfl) (by as_aux_lemma => kernel_rfl) (fun _ _ _ h => h) (Or.inr ⟨by rfl, rfl⟩) (by assumption) ?_
                      try simp only [Act.put, List.setIfInBounds_toArray, List.set_cons_zero, List.set_cons_succ]
                      refine wpAnyH_take (i := 10) (oi := ⟨_, _, _, _, _, _⟩) (v := undef) rfl (by as_aux_lemma => kernel_rfl) (by as_aux_lemma => kernel_rfl) (by as_aux_lemma => kernel_rfl) (fun _ _ _ h => h) (Or.inr ⟨by rfl, rfl⟩) (by assumption) ?_
                      try simp only [Act.put, List.setIfInBounds_toArray, List.set_cons_zero, List.set_cons_succ]
                      refine wpAnyH_take (i := 11) (oi := ⟨_, _, _, _, _, _⟩) (v := undef) rfl (by as_aux_lemma => kernel_rfl) (by as_aux_lemma => kernel_rfl) (by as_aux_lemma => kernel_rfl) (fun _ _ _ h => h) (Or.inr ⟨by rfl, rfl⟩) (by assumption) ?_
                      try simp only [Act.put, List.setIfInBounds_toArray, List.set_cons_zero, List.set_cons_succ]
                      refine wpAnyH_take (i := 12) (oi := ⟨_, _, _, _, _, _⟩) (v := undef) rfl (by as_aux_lemma => kernel_rfl) (by as_aux_lemma => kernel_rfl) (by as_aux_lemma => kernel_rfl) (fun _ _ _ h => h) (Or.inr ⟨by rfl, rfl⟩) (by assumption) ?_
                      try simp only [Act.put, List.setIfInBounds_toArray, List.set_cons_zero, List.set_cons_succ]
                      refine wpAnyH_take (i := 13) (oi := ⟨_, _, _, _, _, _⟩) (v := undef) rfl (by as_aux_lemma => kernel_rfl) (by as_aux_lemma => kernel_rfl) (by as_aux_lemma => kernel_rfl) (fun _ _ _ h => h) (Or.inr ⟨by rfl, rfl⟩) (by assumption) ?_
                      try simp only [Act.put, List.setIfInBounds_toArray, List.set_cons_zero, List.set_cons_succ]
                      refine wpAnyH_take (i := 14) (oi := ⟨_, _, _, _, _, _⟩) (v := undef) rfl (by as_aux_lemma => kernel_rfl) (by as_aux_lemma => kernel_rfl) (by as_aux_lemma => kernel_rfl) (fun _ _ _ h => h) (Or.inr ⟨by rfl, rfl⟩) (by assumption) ?_
                      try simp only [Act.put, List.setIfInBounds_toArray, List.set_cons_zero, List.set_cons_succ]
                      refine wpAnyH_take (i := 15) (oi := ⟨_, _, _, _, _, _⟩) (v := undef) rfl (by as_aux_lemma => kernel_rfl) (by as_aux_lemma => kernel_rfl) (by as_aux_lemma => kernel_rfl) (fun _ _ _ h => h) (Or.inr ⟨by rfl, rfl⟩) (by assumption) ?_
                      try simp only [Act.put, List.setIfInBounds_toArray, List.set_cons_zero, List.set_cons_succ]
                      refine wpAnyH_take (i := 16) (oi := ⟨_, _, _, _, _, _⟩) (v := undef) rfl (by as_aux_lemma => kernel_rfl) (by as_aux_lemma => kernel_rfl) (by as_aux_lemma => kernel_rfl) (fun _ _ _ h => h) (Or.inr ⟨by rfl, rfl⟩) (by assumption) ?_
                      try simp only [Act.put, List.setIfInBounds_toArray, List.set_cons_zero, List.set_cons_succ]
                      refine wpAnyH_take (i := 17) (oi := ⟨_, _, _, _, _, _⟩) (v := undef) rfl (by as_aux_lemma => kernel_rfl) (by as_aux_lemma => kernel_rfl) (by as_aux_lemma => kernel_rfl) (fun _ _ _ h => h) (Or.inr ⟨by rfl, rfl⟩) (by assumption) ?_
                      try simp only [Act.put, List.setIfInBounds_toArray, List.set_cons_zero, List.set_cons_succ]
                      refine wpAnyH_take (i := 18) (oi := ⟨_, _, _, _, _, _⟩) (v := undef) rfl (by as_aux_lemma => kernel_rfl) (by as_aux_lemma => kernel_rfl) (by as_aux_lemma => kernel_rfl) (fun _ _ _ h => h) (Or.inr ⟨by rfl, rfl⟩) (by assumption) ?_
                      try simp only [Act.put, List.setIfInBounds_toArray, List.set_cons_zero, List.set_cons_succ]
                      refine wpAnyH_take (i := 19) (oi := ⟨_, _, _, _, _, _⟩) (v := undef) rfl (by as_aux_lemma => kernel_rfl) (by as_aux_lemma => kernel_rfl) (by as_aux_lemma => kernel_rfl) (fun _ _ _ h => h) (Or.inr ⟨by rfl, rfl⟩) (by assumption) ?_
                      try simp only [Act.put, List.setIfInBounds_toArray, List.set_cons_zero, List.set_cons_succ]
                      refine wpAnyH_take (i := 20) (oi := ⟨_, _, _, _, _, _⟩) (v := undef) rfl (by as_aux_lemma => kernel_rfl) (by as_aux_lemma => kernel_rfl) (by as_aux_lemma => kernel_rfl) (fun _ _ _ h => h) (Or.inr ⟨by rfl, rfl⟩) (by assumption) ?_
                      try simp only [Act.put, List.setIfInBounds_toArray, List.set_cons_zero, List.set_cons_succ]
                      refine wpAnyH_take (i := 21) (oi := ⟨_, _, _, _, _, _⟩) (v := undef) rfl (by as_aux_lemma => kernel_rfl) (by as_aux_lemma => kernel_rfl) (by as_aux_lemma => kernel_rfl) (fun _ _ _ h => h) (Or.inr ⟨by rfl, rfl⟩) (by assumption) ?_
                      try simp only [Act.put, List.setIfInBounds_toArray, List.set_cons_zero, List.set_cons_succ]
                      refine wpAnyH_take (i := 22) (oi := ⟨_, _, _, _, _, _⟩) (v := undef) rfl (by as_aux_lemma => kernel_rfl) (by as_aux_lemma => kernel_rfl) (by as_aux_lemma => kernel_rfl) (fun _ _ _ h => h) (Or.inr ⟨by rfl, rfl⟩) (by assumption) ?_
                      try simp only [Act.put, List.setIfInBounds_toArray, List.set_cons_zero, List.set_cons_succ]
                      refine wpAnyH_take (i := 23) (oi := ⟨_, _, _, _, _, _⟩) (v := undef) rfl (by as_aux_lemma => kernel_rfl) (by as_aux_lemma => kernel_rfl) (by as_aux_lemma => kernel_rfl) (fun _ _ _ h => h) (Or.inr ⟨by rfl, rfl⟩) (by assumption) ?_
                      try simp only [Act.put, List.setIfInBounds_toArray, List.set_cons_zero, List.set_cons_succ]
                      refine wpAnyH_take (i := 24) (oi := ⟨_, _, _, _, _, _⟩) (v := undef) rfl (by as_aux_lemma => kernel_rfl) (by as_aux_lemma => kernel_rfl) (by as_aux_lemma => kernel_rfl) (fun _ _ _ h => h) (Or.inr ⟨by rfl, rfl⟩) (by assumption) ?_
                      try simp only [Act.put, List.setIfInBounds_toArray, List.set_cons_zero, List.set_cons_succ]
                      refine wpAnyH_take (i := 25) (oi := ⟨_, _, _, _, _, _⟩) (v := undef) rfl (by as_aux_lemma => kernel_rfl) (by as_aux_lemma => kernel_rfl) (by as_aux_lemma => kernel_rfl) (fun _ _ _ h => h) (Or.inr ⟨by rfl, rfl⟩) (by assumption) ?_
                      try simp only [Act.put, List.setIfInBounds_toArray, List.set_cons_zero, List.set_cons_succ]
                      refine wpAnyH_take (i := 26) (oi := ⟨_, _, _, _, _, _⟩) (v := undef) rfl (by as_aux_lemma => kernel_rfl) (by as_aux_lemma => kernel_rfl) (by as_aux_lemma => kernel_rfl) (fun _ _ _ h => h) (Or.inr ⟨by rfl, rfl⟩) (by assumption) ?_
                      try simp only [Act.put, List.setIfInBounds_toArray, List.set_cons_zero, List.set_cons_succ]
                      refine wpAnyH_take (i := 27) (oi := ⟨_, _, _, _, _, _⟩) (v := undef) rfl (by as_aux_lemma => kernel_rfl) (by as_aux_lemma => kernel_rfl) (by as_aux_lemma => kernel_rfl) (fun _ _ _ h => h) (Or.inr ⟨by rfl, rfl⟩) (by assumption) ?_
                      try simp only [Act.put, List.setIfInBounds_toArray, List.set_cons_zero, List.set_cons_succ]
                      refine wpAnyH_take (i := 28) (oi := ⟨_, _, _, _, _, _⟩) (v := undef) rfl (by as_aux_lemma => kernel_rfl) (by as_aux_lemma => kernel_rfl) (by as_aux_lemma => kernel_rfl) (fun _ _ _ h => h) (Or.inr ⟨by rfl, rfl⟩) (by assumption) ?_
                      try simp only [Act.put, List.setIfInBounds_toArray, List.set_cons_zero, List.set_cons_succ]
                      refine wpAnyH_take (i := 29) (oi := ⟨_, _, _, _, _, _⟩) (v := undef) rfl (by as_aux_lemma => kernel_rfl) (by as_aux_lemma => kernel_rfl) (by as_aux_lemma => kernel_rfl) (fun _ _ _ h => h) (Or.inr ⟨by rfl, rfl⟩) (by assumption) ?_
                      try simp only [Act.put, List.setIfInBounds_toArray, List.set_cons_zero, List.set_cons_succ]
                      refine wpAnyH_take (i := 30) (oi := ⟨_, _, _, _, _, _⟩) (v := undef) rfl (by as_aux_lemma => kernel_rfl) (by as_aux_lemma => kernel_rfl) (by as_aux_lemma => kernel_rfl) (fun _ _ _ h => h) (Or.inr ⟨by rfl, rfl⟩) (by assumption) ?_
                      try simp only [Act.put, List.setIfInBounds_toArray, List.set_cons_zero, List.set_cons_succ]
                      refine wpAnyH_take (i := 31) (oi := ⟨_, _, _, _, _, _⟩) (v := undef) rfl (by as_aux_lemma => kernel_rfl) (by as_aux_lemma => kernel_rfl) (by as_aux_lemma => kernel_rfl) (fun _ _ _ h => h) (Or.inr ⟨by rfl, rfl⟩) (by assumption) ?_
                      try simp only [Act.put, List.setIfInBounds_toArray, List.set_cons_zero, List.set_cons_succ]
                      refine wpAnyH_take (i := 32) (oi := ⟨_, _, _, _, _, _⟩) (v := undef) rfl (by as_aux_lemma => kernel_rfl) (by as_aux_lemma => kernel_rfl) (by as_aux_lemma => kernel_rfl) (fun _ _ _ h => h) (Or.inr ⟨by rfl, rfl⟩) (by assumption) ?_
                      try simp only [Act.put, List.setIfInBounds_toArray, List.set_cons_zero, List.set_cons_succ]
                      refine wpAnyH_take (i := 33) (oi := ⟨_, _, _, _, _, _⟩) (v := undef) rfl (by as_aux_lemma => kernel_rfl) (by as_aux_lemma => kernel_rfl) (by as_aux_lemma => kernel_rfl) (fun _ _ _ h => h) (Or.inr ⟨by rfl, rfl⟩) (by assumption) ?_
                      try simp only [Act.put, List.setIfInBounds_toArray, List.set_cons_zero, List.set_cons_succ]
                      refine wpAnyH_take (i := 34) (oi := ⟨_, _, _, _, _, _⟩) (v := undef) rfl (by as_aux_lemma => kernel_rfl) (by as_aux_lemma => kernel_rfl) (by as_aux_lemma => kernel_rfl) (fun _ _ _ h => h) (Or.inr ⟨by rfl, rfl⟩) (by assumption) ?_
                      try simp only [Act.put, List.setIfInBounds_toArray, List.set_cons_zero, List.set_cons_succ]
                      refine wpAnyH_take (i := 35) (oi := ⟨_, _, _, _, _, _⟩) (v := undef) rfl (by as_aux_lemma => kernel_rfl) (by as_aux_lemma => kernel_rfl) (by as_aux_lemma => kernel_rfl) (fun _ _ _ h => h) (Or.inr ⟨by rfl, rfl⟩) (by assumption) ?_
                      try simp only [Act.put, List.setIfInBounds_toArray, List.set_cons_zero, List.set_cons_succ]
                      refine wpAnyH_take (i := 36) (oi := ⟨_, _, _, _, _, _⟩) (v := undef) rfl (by as_aux_lemma => kernel_rfl) (by as_aux_lemma => kernel_rfl) (by as_aux_lemma => kernel_rfl) (fun _ _ _ h => h) (Or.inr ⟨by rfl, rfl⟩) (by assumption) ?_
                      try simp only [Act.put, List.setIfInBounds_toArray, List.set_cons_zero, List.set_cons_succ]
                      refine wpAnyH_take (i := 37) (oi := ⟨_, _, _, _, _, _⟩) (v := undef) rfl (by as_aux_lemma => kernel_rfl) (by as_aux_lemma => kernel_rfl) (by as_aux_lemma => kernel_rfl) (fun _ _ _ h => h) (Or.inr ⟨by rfl, rfl⟩) (by assumption) ?_
                      try simp only [Act.put, List.setIfInBounds_toArray, List.set_cons_zero, List.set_cons_succ]
                      refine wpAnyH_take (i := 38) (oi := ⟨_, _, _, _, _, _⟩) (v := undef) rfl (by as_aux_lemma => kernel_rfl) (by as_aux_lemma => kernel_rfl) (by as_aux_lemma => kernel_rfl) (fun _ _ _ h => h) (Or.inr ⟨by rfl, rfl⟩) (by assumption) ?_
                      try simp only [Act.put, List.setIfInBounds_toArray, List.set_cons_zero, List.set_cons_succ]
                      refine wpAnyH_take (i := 39) (oi := ⟨_, _, _, _, _, _⟩) (v := ?_) rfl (by as_aux_lemma => kernel_rfl) (by as_aux_lemma => kernel_rfl) (by as_aux_lemma => kernel_rfl) (fun _ _ _ h => h) (Or.inl ⟨by rfl, ?hy⟩) (by assumption) ?_
                      case hy =>
                        intro w hSw
                        skip
                        go_simp
                        all_goals with_reducible rfl
                      try simp only [Act.put, List.setIfInBounds_toArray, List.set_cons_zero, List.set_cons_succ]
                      refine wpAnyH_take (i := 40) (oi := ⟨_, _, _, _, _, _⟩) (v := ?_) rfl (by as_aux_lemma => kernel_rfl) (by as_aux_lemma => kernel_rfl) (by as_aux_lemma => kernel_rfl) (fun _ _ _ h => h) (Or.inl ⟨by rfl, ?hy⟩) (by assumption) ?_
                      case hy =>
                        intro w hSw
                        skip
                        go_simp
                        all_goals with_reducible rfl
                      try simp only [Act.put, List.setIfInBounds_toArray, List.set_cons_zero, List.set_cons_succ]
                      refine wpAnyH_done (by as_aux_lemma => kernel_rfl) ?_ _
                      have hB3 := hid (hB2.out.trans (hHeld.mono hB2.out.size))
                      clear hHeld
                      have t2 := t1.out
                      simp only [Bool.true_or] at t2
                      go_wp2_with fail
                      refine ⟨?_, by simp [intOf]; omega⟩
                      repeat (first | exact ⟨⟨k + 1, by go_num, by rw [t2], by omega, hB3⟩, rfl⟩ | exact ⟨k + 1, by go_num, by rw [t2], by omega, hB3⟩ | apply Exists.intro)
                    · rw [decide_eq_false h1] at t1 ⊢
                      by_cases h2 : i = k
                      · rw [decide_eq_true h2] at t1
                        have hxy : y = x := by rw [hx.out, hy.out, h2]
                        subst hxy
                        have hkk : ky = kx := hky.out.trans hkx.out.symm
                        subst hkk
                        replace t1 := hid t1
                        clear h1 h2
                        go_wp2_with fail
                        refine wp_region_held_drew (S := (fun w9 => Below wr.heap.size wr w9)) (by kernel_rfl) ?_ (fun hHeld => ?_)
                        · exact (Below.refl _ _).drew
                        generalize wr.drew = wd at *
                        refine wpAnyH_take (i := 0) (oi := ⟨_, _, _, _, _, _⟩) (v := ?_) rfl (by as_aux_lemma => kernel_rfl) (by as_aux_lemma => kernel_rfl) (by as_aux_lemma => kernel_rfl) (fun _ _ _ h => h) (Or.inl ⟨by rfl, ?hy⟩) (by assumption) ?_
                        case hy =>
                          intro w hSw
                          skip
                          go_simp
                          all_goals with_reducible rfl
                        try simp only [Act.put, List.setIfInBounds_toArray, List.set_cons_zero, List.set_cons_succ]
                        refine wpAnyH_take (i := 1) (oi := ⟨_, _, _, _, _, _⟩) (v := ?_) rfl (by as_aux_lemma => kernel_rfl) (by as_aux_lemma => kernel_rfl) (by as_aux_lemma => kernel_rfl) (fun _ _ _ h => h) (Or.inl ⟨by rfl, ?hy⟩) (by assumption) ?_
                        case hy =>
                          intro w hSw
                          skip
                          go_simp
                          all_goals with_reducible rfl
                        try simp only [Act.put, List.setIfInBounds_toArray, List.set_cons_zero, List.set_cons_succ]
                        refine wpAnyH_take (i := 2) (oi := ⟨_, _, _, _, _, _⟩) (v := ?_) rfl (by as_aux_lemma => kernel_rfl) (by as_aux_lemma => kernel_rfl) (by as_aux_lemma => kernel_rfl) (fun _ _ _ h => h) (Or.inl ⟨by rfl, ?hy⟩) (by assumption) ?_
                        case hy =>
                          intro w hSw
                          skip
                          go_simp
                          all_goals with_reducible rfl
                        try simp only [Act.put, List.setIfInBounds_toArray, List.set_cons_zero, List.set_cons_succ]
                        refine wpAnyH_take (i := 3) (oi := ⟨_, _, _, _, _, _⟩) (v := ?_) rfl (by as_aux_lemma => kernel_rfl) (by as_aux_lemma => kernel_rfl) (by as_aux_lemma => kernel_rfl) (fun _ _ _ h => h) (Or.inl ⟨by rfl, ?hy⟩) (by assumption) ?_
                        case hy =>
                          intro w hSw
                          skip
                          go_simp
                          all_goals with_reducible rfl
                        try simp only [Act.put, List.setIfInBounds_toArray, List.set_cons_zero, List.set_cons_succ]
                        refine wpAnyH_take (i := 4) (oi := ⟨_, _, _, _, _, _⟩) (v := ?_) rfl (by as_aux_lemma => kernel_rfl) (by as_aux_lemma => kernel_rfl) (by as_aux_lemma => kernel_rfl) (fun _ _ _ h => h) (Or.inl ⟨by rfl, ?hy⟩) (by assumption) ?_
                        case hy =>
                          intro w hSw
                          skip
                          go_simp
                          all_goals with_reducible rfl
                        try simp only [Act.put, List.setIfInBounds_toArray, List.set_cons_zero, List.set_cons_succ]
                        refine wpAnyH_take (i := 5) (oi := ⟨_, _, _, _, _, _⟩) (v := ?_) rfl (by as_aux_lemma => kernel_rfl) (by as_aux_lemma => kernel_rfl) (by as_aux_lemma => kernel_rfl) (fun _ _ _ h => h) (Or.inl ⟨by rfl, ?hy⟩) (by assumption) ?_
                        case hy =>
                          intro w hSw
                          skip
                          go_simp
                          all_goals with_reducible rfl
                        try simp only [Act.put, List.setIfInBounds_toArray, List.set_cons_zero, List.set_cons_succ]
                        refine wpAnyH_take (i := 6) (oi := ⟨_, _, _, _, _, _⟩) (v := ?_) rfl (by as_aux_lemma => kernel_rfl) (by as_aux_lemma => kernel_rfl) (by as_aux_lemma => kernel_rfl) (fun _ _ _ h => h) (Or.inl ⟨by rfl, ?hy⟩) (by assumption) ?_
                        case hy =>
                          intro w hSw
                          have d0 : w.cell? ⟨gk, ok, none⟩ = some (sv ky) := (hSw.cell (p := ⟨gk, ok, none⟩) hgk).trans d0
                          go_simp
                          all_goals with_reducible rfl
                        try simp only [Act.put, List.setIfInBounds_toArray, List.set_cons_zero, List.set_cons_succ]
                        refine wpAnyH_take (i := 7) (oi := ⟨_, _, _, _, _, _⟩) (v := ?_) rfl (by as_aux_lemma => kernel_rfl) (by as_aux_lemma => kernel_rfl) (by as_aux_lemma => kernel_rfl) (fun _ _ _ h => h) (Or.inl ⟨by rfl, ?hy⟩) (by assumption) ?_
                        case hy =>
                          intro w hSw
                          skip
                          go_simp
                          all_goals with_reducible rfl
                        try simp only [Act.put, List.setIfInBounds_toArray, List.set_cons_zero, List.set_cons_succ]
                        refine wpAnyH_take (i := 8) (oi := ⟨_, _, _, _, _, _⟩) (v := ?_) rfl (by as_aux_lemma => kernel_rfl) (by as_aux_lemma => kernel_rfl) (by as_aux_lemma => kernel_rfl) (fun _ _ _ h => h) (Or.inl ⟨by rfl, ?hy⟩) (by assumption) ?_
                        case hy =>
                          intro w hSw
                          skip
                          go_simp
                          all_goals with_reducible rfl
                        try simp only [Act.put, List.setIfInBounds_toArray, List.set_cons_zero, List.set_cons_succ]
                        refine wpAnyH_take (i := 9) (oi := ⟨_, _, _, _, _, _⟩) (v := ?_) rfl (by as_aux_lemma => kernel_rfl) (by as_aux_lemma => kernel_rfl) (by as_aux_lemma => kernel_rfl) (fun _ _ _ h => h) (Or.inl ⟨by rfl, ?hy⟩) (by assumption) ?_
                        case hy =>
                          intro w hSw
                          skip
                          go_simp
                          all_goals with_reducible rfl
                        try simp only [Act.put, List.setIfInBounds_toArray, List.set_cons_zero, List.set_cons_succ]
                        refine wpAnyH_take (i := 10) (oi := ⟨_, _, _, _, _, _⟩) (v := ?_) rfl (by as_aux_lemma => kernel_rfl) (by as_aux_lemma => kernel_rfl) (by as_aux_lemma => kernel_rfl) (fun _ _ _ h => h) (Or.inl ⟨by rfl, ?hy⟩) (by assumption) ?_
                        case hy =>
                          intro w hSw
                          skip
                          go_simp
                          all_goals with_reducible rfl
                        try simp only [Act.put, List.setIfInBounds_toArray, List.set_cons_zero, List.set_cons_succ]
                        refine wpAnyH_take (i := 11) (oi := ⟨_, _, _, _, _, _⟩) (v := ?_) rfl (by as_aux_lemma => kernel_rfl) (by as_aux_lemma => kernel_rfl) (by as_aux_lemma => kernel_rfl) (fun _ _ _ h => h) (Or.inl ⟨by rfl, ?hy⟩) (by assumption) ?_
                        case hy =>
                          intro w hSw
                          have e0 : w.cell? ⟨gi, oi, none⟩ = some (sv ky) := (hSw.cell (p := ⟨gi, oi, none⟩) hgi2).trans e0
                          go_simp
                          all_goals with_reducible rfl
                        try simp only [Act.put, List.setIfInBounds_toArray, List.set_cons_zero, List.set_cons_succ]
                        refine wpAnyH_take (i := 12) (oi := ⟨_, _, _, _, _, _⟩) (v := ?_) rfl (by as_aux_lemma => kernel_rfl) (by as_aux_lemma => kernel_rfl) (by as_aux_lemma => kernel_rfl) (fun _ _ _ h => h) (Or.inl ⟨by rfl, ?hy⟩) (by assumption) ?_
                        case hy =>
                          intro w hSw
                          skip
                          go_simp
                          all_goals with_reducible rfl
                        try simp only [Act.put, List.setIfInBounds_toArray, List.set_cons_zero, List.set_cons_succ]
                        refine wpAnyH_take (i := 13) (oi := ⟨_, _, _, _, _, _⟩) (v := ?_) rfl (by as_aux_lemma => kernel_rfl) (by as_aux_lemma => kernel_rfl) (by as_aux_lemma => kernel_rfl) (fun _ _ _ h => h) (Or.inl ⟨by rfl, ?hy⟩) (by assumption) ?_
                        case hy =>
                          intro w hSw
                          skip
                          go_simp
                          all_goals with_reducible rfl
                        try simp only [Act.put, List.setIfInBounds_toArray, List.set_cons_zero, List.set_cons_succ]
                        refine wpAnyH_take (i := 14) (oi := ⟨_, _, _, _, _, _⟩) (v := ?_) rfl (by as_aux_lemma => kernel_rfl) (by as_aux_lemma => kernel_rfl) (by as_aux_lemma => kernel_rfl) (fun _ _ _ h => h) (Or.inl ⟨by rfl, ?hy⟩) (by assumption) ?_
                        case hy =>
                          intro w hSw
                          skip
                          go_simp
                          all_goals with_reducible rfl
                        try simp only [Act.put, List.setIfInBounds_toArray, List.set_cons_zero, List.set_cons_succ]
                        refine wpAnyH_take (i := 15) (oi := ⟨_, _, _, _, _, _⟩) (v := ?_) rfl (by as_aux_lemma => kernel_rfl) (by as_aux_lemma => kernel_rfl) (by as_aux_lemma => kernel_rfl) (fun _ _ _ h => h) (Or.inl ⟨by rfl, ?hy⟩) (by assumption) ?_
                        case hy =>
                          intro w hSw
                          skip
                          go_simp
                          all_goals with_reducible rfl
                        try simp only [Act.put, List.setIfInBounds_toArray, List.set_cons_zero, List.set_cons_succ]
                        refine wpAnyH_take (i := 16) (oi := ⟨_, _, _, _, _, _⟩) (v := ?_) rfl (by as_aux_lemma => kernel_rfl) (by as_aux_lemma => kernel_rfl) (by as_aux_lemma => kernel_rfl) (fun _ _ _ h => h) (Or.inl ⟨by rfl, ?hy⟩) (by assumption) ?_
                        case hy =>
                          intro w hSw
                          skip
                          go_simp
                          all_goals with_reducible rfl
                        try simp only [Act.put, List.setIfInBounds_toArray, List.set_cons_zero, List.set_cons_succ]
                        refine wpAnyH_take (i := 17) (oi := ⟨_, _, _, _, _, _⟩) (v := ?_) rfl (by as_aux_lemma => kernel_rfl) (by as_aux_lemma => kernel_rfl) (by as_aux_lemma => kernel_rfl) (fun _ _ _ h => h) (Or.inl ⟨by rfl, ?hy⟩) (by assumption) ?_
                        case hy =>
                          intro w hSw
                          skip
                          go_simp
                          all_goals with_reducible rfl
                        try simp only [Act.put, List.setIfInBounds_toArray, List.set_cons_zero, List.set_cons_succ]
                        refine wpAnyH_take (i := 18) (oi := ⟨_, _, _, _, _, _⟩) (v := ?_) rfl (by as_aux_lemma => kernel_rfl) (by as_aux_lemma => kernel_rfl) (by as_aux_lemma => kernel_rfl) (fun _ _ _ h => h) (Or.inl ⟨by rfl, ?hy⟩) (by assumption) ?_
                        case hy =>
                          intro w hSw
                          have d1 : w.cell? ⟨gk, ok + 1, none⟩ = some (sv y.name) := (hSw.cell (p := ⟨gk, ok + 1, none⟩) hgk).trans d1
                          go_simp
                          all_goals with_reducible rfl
                        try simp only [Act.put, List.setIfInBounds_toArray, List.set_cons_zero, List.set_cons_succ]
                        refine wpAnyH_take (i := 19) (oi := ⟨_, _, _, _, _, _⟩) (v := ?_) rfl (by as_aux_lemma => kernel_rfl) (by as_aux_lemma => kernel_rfl) (by as_aux_lemma => kernel_rfl) (fun _ _ _ h => h) (Or.inl ⟨by rfl, ?hy⟩) (by assumption) ?_
                        case hy =>
                          intro w hSw
                          skip
                          go_simp
                          all_goals with_reducible rfl
                        try simp only [Act.put, List.setIfInBounds_toArray, List.set_cons_zero, List.set_cons_succ]
                        refine wpAnyH_take (i := 20) (oi := ⟨_, _, _, _, _, _⟩) (v := ?_) rfl (by as_aux_lemma => kernel_rfl) (by as_aux_lemma => kernel_rfl) (by as_aux_lemma => kernel_rfl) (fun _ _ _ h => h) (Or.inl ⟨by rfl, ?hy⟩) (by assumption) ?_
                        case hy =>
                          intro w hSw
                          skip
                          go_simp
                          all_goals with_reducible rfl
                        try simp only [Act.put, List.setIfInBounds_toArray, List.set_cons_zero, List.set_cons_succ]
                        refine wpAnyH_take (i := 21) (oi := ⟨_, _, _, _, _, _⟩) (v := ?_) rfl (by as_aux_lemma => kernel_rfl) (by as_aux_lemma => kernel_rfl) (by as_aux_lemma => kernel_rfl) (fun _ _ _ h => h) (Or.inl ⟨by rfl, ?hy⟩) (by assumption) ?_
                        case hy =>
                          intro w hSw
                          skip
                          go_simp
                          all_goals with_reducible rfl
                        try simp only [Act.put, List.setIfInBounds_toArray, List.set_cons_zero, List.set_cons_succ]
                        refine wpAnyH_take (i := 22) (oi := ⟨_, _, _, _, _, _⟩) (v := ?_) rfl (by as_aux_lemma => kernel_rfl) (by as_aux_lemma => kernel_rfl) (by as_aux_lemma => kernel_rfl) (fun _ _ _ h => h) (Or.inl ⟨by rfl, ?hy⟩) (by assumption) ?_
                        case hy =>
                          intro w hSw
                          skip
                          go_simp
                          all_goals with_reducible rfl
                        try simp only [Act.put, List.setIfInBounds_toArray, List.set_cons_zero, List.set_cons_succ]
                        refine wpAnyH_take (i := 23) (oi := ⟨_, _, _, _, _, _⟩) (v := ?_) rfl (by as_aux_lemma => kernel_rfl) (by as_aux_lemma => kernel_rfl) (by as_aux_lemma => kernel_rfl) (fun _ _ _ h => h) (Or.inl ⟨by rfl, ?hy⟩) (by assumption) ?_
                        case hy =>
                          intro w hSw
                          have e1 : w.cell? ⟨gi, oi + 1, none⟩ = some (sv y.name) := (hSw.cell (p := ⟨gi, oi + 1, none⟩) hgi2).trans e1
                          go_simp
                          all_goals with_reducible rfl
                        try simp only [Act.put, List.setIfInBounds_toArray, List.set_cons_zero, List.set_cons_succ]
                        refine wpAnyH_take (i := 24) (oi := ⟨_, _, _, _, _, _⟩) (v := ?_) rfl (by as_aux_lemma => kernel_rfl) (by as_aux_lemma => kernel_rfl) (by as_aux_lemma => kernel_rfl) (fun _ _ _ h => h) (Or.inl ⟨by rfl, ?hy⟩) (by assumption) ?_
                        case hy =>
                          intro w hSw
                          skip
                          go_simp
                          all_goals with_reducible rfl
                        try simp only [Act.put, List.setIfInBounds_toArray, List.set_cons_zero, List.set_cons_succ]
                        refine wpAnyH_take (i := 25) (oi := ⟨_, _, _, _, _, _⟩) (v := ?_) rfl (by as_aux_lemma => kernel_rfl) (by as_aux_lemma => kernel_rfl) (by as_aux_lemma => kernel_rfl) (fun _ _ _ h => h) (Or.inl ⟨by rfl, ?hy⟩) (by assumption) ?_
                        case hy =>
                          intro w hSw
                          skip
                          go_simp
                          all_goals with_reducible rfl
                        try simp only [Act.put, List.setIfInBounds_toArray, List.set_cons_zero, List.set_cons_succ]
                        refine wpAnyH_take (i := 26) (oi := ⟨_, _, _, _, _, _⟩) (v := ?_) rfl (by as_aux_lemma => kernel_rfl) (by as_aux_lemma => kernel_rfl) (by as_aux_lemma => kernel_rfl) (fun _ _ _ h => h) (Or.inl ⟨by rfl, ?hy⟩) (by assumption) ?_
                        case hy =>
                          intro w hSw
                          skip
                          go_simp
                          all_goals with_reducible rfl
                        try simp only [Act.put, List.setIfInBounds_toArray, List.set_cons_zero, List.set_cons_succ]
                        refine wpAnyH_take (i := 27) (oi := ⟨_, _, _, _, _, _⟩) (v := ?_) rfl (by as_aux_lemma => kernel_rfl) (by as_aux_lemma => kernel_rfl) (by as_aux_lemma => kernel_rfl) (fun _ _ _ h => h) (Or.inl ⟨by rfl, ?hy⟩) (by assumption) ?_
                        case hy =>
                          intro w hSw
                          skip
                          go_simp
                          all_goals with_reducible rfl
                        try simp only [Act.put, List.setIfInBounds_toArray, List.set_cons_zero, List.set_cons_succ]
                        refine wpAnyH_take (i := 28) (oi := ⟨_, _, _, _, _, _⟩) (v := ?_) rfl (by as_aux_lemma => kernel_rfl) (by as_aux_lemma => kernel_rfl) (by as_aux_lemma => kernel_rfl) (fun _ _ _ h => h) (Or.inl ⟨by rfl, ?hy⟩) (by assumption) ?_
                        case hy =>
                          intro w hSw
                          skip
                          go_simp
                          all_goals with_reducible rfl
                        try simp only [Act.put, List.setIfInBounds_toArray, List.set_cons_zero, List.set_cons_succ]
                        refine wpAnyH_take (i := 29) (oi := ⟨_, _, _, _, _, _⟩) (v := ?_) rfl (by as_aux_lemma => kernel_rfl) (by as_aux_lemma => kernel_rfl) (by as_aux_lemma => kernel_rfl) (fun _ _ _ h => h) (Or.inl ⟨by rfl, ?hy⟩) (by assumption) ?_
                        case hy =>
                          intro w hSw
                          skip
                          go_simp
                          all_goals with_reducible rfl
                        try simp only [Act.put, List.setIfInBounds_toArray, List.set_cons_zero, List.set_cons_succ]
                        refine wpAnyH_take (i := 30) (oi := ⟨_, _, _, _, _, _⟩) (v := ?_) rfl (by as_aux_lemma => kernel_rfl) (by as_aux_lemma => kernel_rfl) (by as_aux_lemma => kernel_rfl) (fun _ _ _ h => h) (Or.inl ⟨by rfl, ?hy⟩) (by assumption) ?_
                        case hy =>
                          intro w hSw
                          skip
                          go_simp
                          all_goals with_reducible rfl
                        try simp only [Act.put, List.setIfInBounds_toArray, List.set_cons_zero, List.set_cons_succ]
                        refine wpAnyH_take (i := 31) (oi := ⟨_, _, _, _, _, _⟩) (v := ?_) rfl (by as_aux_lemma => kernel_rfl) (by as_aux_lemma => kernel_rfl) (by as_aux_lemma => kernel_rfl) (fun _ _ _ h => h) (Or.inl ⟨by rfl, ?hy⟩) (by assumption) ?_
                        case hy =>
                          intro w hSw
                          have d2 : w.cell? ⟨gk, ok + 2, none⟩ = some (.slice a2 y.args.length k2) := (hSw.cell (p := ⟨gk, ok + 2, none⟩) hgk).trans d2
                          go_simp
                          all_goals with_reducible rfl
                        try simp only [Act.put, List.setIfInBounds_toArray, List.set_cons_zero, List.set_cons_succ]
                        refine wpAnyH_take (i := 32) (oi := ⟨_, _, _, _, _, _⟩) (v := ?_) rfl (by as_aux_lemma => kernel_rfl) (by as_aux_lemma => kernel_rfl) (by as_aux_lemma => kernel_rfl) (fun _ _ _ h => h) (Or.inl ⟨by rfl, ?hy⟩) (by assumption) ?_
                        case hy =>
                          intro w hSw
                          skip
                          go_simp
                          all_goals with_reducible rfl
                        try simp only [Act.put, List.setIfInBounds_toArray, List.set_cons_zero, List.set_cons_succ]
                        refine wpAnyH_take (i := 33) (oi := ⟨_, _, _, _, _, _⟩) (v := ?_) rfl (by as_aux_lemma => kernel_rfl) (by as_aux_lemma => kernel_rfl) (by as_aux_lemma => kernel_rfl) (fun _ _ _ h => h) (Or.inl ⟨by rfl, ?hy⟩) (by assumption) ?_
                        case hy =>
                          intro w hSw
                          skip
                          go_simp
                          all_goals with_reducible rfl
                        try simp only [Act.put, List.setIfInBounds_toArray, List.set_cons_zero, List.set_cons_succ]
                        refine wpAnyH_take (i := 34) (oi := ⟨_, _, _, _, _, _⟩) (v := ?_) rfl (by as_aux_lemma => kernel_rfl) (by as_aux_lemma => kernel_rfl) (by as_aux_lemma => kernel_rfl) (fun _ _ _ h => h) (Or.inl ⟨by rfl, ?hy⟩) (by assumption) ?_
                        case hy =>
                          intro w hSw
                          skip
                          go_simp
                          all_goals with_reducible rfl
                        try simp only [Act.put, List.setIfInBounds_toArray, List.set_cons_zero, List.set_cons_succ]
                        refine wpAnyH_take (i := 35) (oi := ⟨_, _, _, _, _, _⟩) (v := ?_) rfl (by as_aux_lemma => kernel_rfl) (by as_aux_lemma => kernel_rfl) (by as_aux_lemma => kernel_rfl) (fun _ _ _ h => h) (Or.inl ⟨by rfl, ?hy⟩) (by assumption) ?_
                        case hy =>
                          intro w hSw
                          skip
                          go_simp
                          all_goals with_reducible rfl
                        try simp only [Act.put, List.setIfInBounds_toArray, List.set_cons_zero, List.set_cons_succ]
                        refine wpAnyH_take (i := 36) (oi := ⟨_, _, _, _, _, _⟩) (v := ?_) rfl (by as_aux_lemma => kernel_rfl) (by as_aux_lemma => kernel_rfl) (by as_aux_lemma => kernel_rfl) (fun _ _ _ h => h) (Or.inl ⟨by rfl, ?hy⟩) (by assumption) ?_
                        case hy =>
                          intro w hSw
                          have e2 : w.cell? ⟨gi, oi + 2, none⟩ = some (.slice a1 y.args.length k1) := (hSw.cell (p := ⟨gi, oi + 2, none⟩) hgi2).trans e2
                          go_simp
                          all_goals with_reducible rfl
                        try simp only [Act.put, List.setIfInBounds_toArray, List.set_cons_zero, List.set_cons_succ]
                        refine wpAnyH_ready (rs := [37]) (by as_aux_lemma => kernel_rfl) (by simp) ?_
                        refine AllReadyH.cons (o := ⟨_, _, _, _, _, _⟩) rfl (fun K hK => ?_) AllReadyH.nil
                        go_simp
                        go_at_call 8
                        refine (rSame_any y.args y.args hyB.1 hyB.1 _ _ (.slice a2 y.args.length k2) (.slice a1 y.args.length k1) _ (hvk.out.below goodVal hHeld) (hvi2.out.below goodVal hHeld)).mono ?_
                        rintro e wq ⟨rfl, hbq⟩
                        rw [dec_true rfl]
                        have hZ := hHeld.trans (hbq.mono hHeld.size)
                        refine hK.out _ _ ?_ (fun hHeld2 => ?_)
                        · exact hZ
                        clear hK K
                        clear hHeld
                        have hHeld := hHeld2
                        clear hHeld2
                        try simp only [Act.put, List.setIfInBounds_toArray, List.set_cons_zero, List.set_cons_succ]
                        refine wpAnyH_take (i := 38) (oi := ⟨_, _, _, _, _, _⟩) (v := ?_) rfl (by as_aux_lemma => kernel_rfl) (by as_aux_lemma => kernel_rfl) (by as_aux_lemma => kernel_rfl) (fun _ _ _ h => h) (Or.inl ⟨by rfl, ?hy⟩) (by assumption) ?_
                        case hy =>
                          intro w hSw
                          skip
                          go_simp
                          all_goals with_reducible rfl
                        try simp only [Act.put, List.setIfInBounds_toArray, List.set_cons_zero, List.set_cons_succ]
                        refine wpAnyH_take (i := 39) (oi := ⟨_, _, _, _, _, _⟩) (v := ?_) rfl (by as_aux_lemma => kernel_rfl) (by as_aux_lemma => kernel_rfl) (by as_aux_lemma => kernel_rfl) (fun _ _ _ h => h) (Or.inl ⟨by rfl, ?hy⟩) (by assumption) ?_
                        case hy =>
                          intro w hSw
                          skip
                          go_simp
                          all_goals with_reducible rfl
                        try simp only [Act.put, List.setIfInBounds_toArray, List.set_cons_zero, List.set_cons_succ]
                        refine wpAnyH_take (i := 40) (oi := ⟨_, _, _, _, _, _⟩) (v := ?_) rfl (by as_aux_lemma => kernel_rfl) (by as_aux_lemma => kernel_rfl) (by as_aux_lemma => kernel_rfl) (fun _ _ _ h => h) (Or.inl ⟨by rfl, ?hy⟩) (by assumption) ?_
                        case hy =>
                          intro w hSw
                          skip
                          go_simp
                          all_goals with_reducible rfl
                        try simp only [Act.put, List.setIfInBounds_toArray, List.set_cons_zero, List.set_cons_succ]
                        refine wpAnyH_done (by as_aux_lemma => kernel_rfl) ?_ _
                        have hB3 := hid (hB2.out.trans (hHeld.mono hB2.out.size))
                        clear hHeld
                        have t2 := t1.out
                        simp only [Bool.false_or] at t2
                        go_wp2_with fail
                        refine ⟨?_, by simp [intOf]; omega⟩
                        repeat (first | exact ⟨⟨k + 1, by go_num, by rw [t2], by omega, hB3⟩, rfl⟩ | exact ⟨k + 1, by go_num, by rw [t2], by omega, hB3⟩ | apply Exists.intro)
                      · rw [decide_eq_false h2] at t1
                        have hkk : (ky == kx) = false := beq_eq_false_iff_ne.2 (by rw [hky.out, hkx.out, hx.out, hy.out]; exact hNd.out.ne hlt hkl h2)
                        replace t1 := hid t1
                        clear h1 h2
                        go_wp2_with fail
                        refine wp_region_held_drew (S := (fun w9 => Below wr.heap.size wr w9)) (by kernel_rfl) ?_ (fun hHeld => ?_)
                        · exact (Below.refl _ _).drew
                        generalize wr.drew = wd at *
                        refine wpAnyH_take (i := 0) (oi := ⟨_, _, _, _, _, _⟩) (v := ?_) rfl (by as_aux_lemma => kernel_rfl) (by as_aux_lemma => kernel_rfl) (by as_aux_lemma => kernel_rfl) (fun _ _ _ h => h) (Or.inl ⟨by rfl, ?hy⟩) (by assumption) ?_
                        case hy =>
                          intro w hSw
                          skip
                          go_simp
                          all_goals with_reducible rfl
                        try simp only [Act.put, List.setIfInBounds_toArray, List.set_cons_zero, List.set_cons_succ]
                        refine wpAnyH_take (i := 1) (oi := ⟨_, _, _, _, _, _⟩) (v := ?_) rfl (by as_aux_lemma => kernel_rfl) (by as_aux_lemma => kernel_rfl) (by as_aux_lemma => kernel_rfl) (fun _ _ _ h => h) (Or.inl ⟨by rfl, ?hy⟩) (by assumption) ?_
                        case hy =>
                          intro w hSw
                          skip
                          go_simp
                          all_goals with_reducible rfl
                        try simp only [Act.put, List.setIfInBounds_toArray, List.set_cons_zero, List.set_cons_succ]
                        refine wpAnyH_take (i := 2) (oi := ⟨_, _, _, _, _, _⟩) (v := ?_) rfl (by as_aux_lemma => kernel_rfl) (by as_aux_lemma => kernel_rfl) (by as_aux_lemma => kernel_rfl) (fun _ _ _ h => h) (Or.inl ⟨by rfl, ?hy⟩) (by assumption) ?_
                        case hy =>
                          intro w hSw
                          skip
                          go_simp
                          all_goals with_reducible rfl
                        try simp only [Act.put, List.setIfInBounds_toArray, List.set_cons_zero, List.set_cons_succ]
                        refine wpAnyH_take (i := 3) (oi := ⟨_, _, _, _, _, _⟩) (v := ?_) rfl (by as_aux_lemma => kernel_rfl) (by as_aux_lemma => kernel_rfl) (by as_aux_lemma => kernel_rfl) (fun _ _ _ h => h) (Or.inl ⟨by rfl, ?hy⟩) (by assumption) ?_
                        case hy =>
                          intro w hSw
                          skip
                          go_simp
                          all_goals with_reducible rfl
                        try simp only [Act.put, List.setIfInBounds_toArray, List.set_cons_zero, List.set_cons_succ]
                        refine wpAnyH_take (i := 4) (oi := ⟨_, _, _, _, _, _⟩) (v := ?_) rfl (by as_aux_lemma => kernel_rfl) (by as_aux_lemma => kernel_rfl) (by as_aux_lemma => kernel_rfl) (fun _ _ _ h => h) (Or.inl ⟨by rfl, ?hy⟩) (by assumption) ?_
                        case hy =>
                          intro w hSw
                          skip
                          go_simp
                          all_goals with_reducible rfl
                        try simp only [Act.put, List.setIfInBounds_toArray, List.set_cons_zero, List.set_cons_succ]
                        refine wpAnyH_take (i := 5) (oi := ⟨_, _, _, _, _, _⟩) (v := ?_) rfl (by as_aux_lemma => kernel_rfl) (by as_aux_lemma => kernel_rfl) (by as_aux_lemma => kernel_rfl) (fun _ _ _ h => h) (Or.inl ⟨by rfl, ?hy⟩) (by assumption) ?_
                        case hy =>
                          intro w hSw
                          skip
                          go_simp
                          all_goals with_reducible rfl
                        try simp only [Act.put, List.setIfInBounds_toArray, List.set_cons_zero, List.set_cons_succ]
                        refine wpAnyH_take (i := 6) (oi := ⟨_, _, _, _, _, _⟩) (v := ?_) rfl (by as_aux_lemma => kernel_rfl) (by as_aux_lemma => kernel_rfl) (by as_aux_lemma => kernel_rfl) (fun _ _ _ h => h) (Or.inl ⟨by rfl, ?hy⟩) (by assumption) ?_
                        case hy =>
                          intro w hSw
                          have d0 : w.cell? ⟨gk, ok, none⟩ = some (sv ky) := (hSw.cell (p := ⟨gk, ok, none⟩) hgk).trans d0
                          go_simp
                          all_goals with_reducible rfl
                        try simp only [Act.put, List.setIfInBounds_toArray, List.set_cons_zero, List.set_cons_succ]
                        refine wpAnyH_take (i := 7) (oi := ⟨_, _, _, _, _, _⟩) (v := ?_) rfl (by as_aux_lemma => kernel_rfl) (by as_aux_lemma => kernel_rfl) (by as_aux_lemma => kernel_rfl) (fun _ _ _ h => h) (Or.inl ⟨by rfl, ?hy⟩) (by assumption) ?_
                        case hy =>
                          intro w hSw
                          skip
                          go_simp
                          all_goals with_reducible rfl
                        try simp only [Act.put, List.setIfInBounds_toArray, List.set_cons_zero, List.set_cons_succ]
                        refine wpAnyH_take (i := 8) (oi := ⟨_, _, _, _, _, _⟩) (v := ?_) rfl (by as_aux_lemma => kernel_rfl) (by as_aux_lemma => kernel_rfl) (by as_aux_lemma => kernel_rfl) (fun _ _ _ h => h) (Or.inl ⟨by rfl, ?hy⟩) (by assumption) ?_
                        case hy =>
                          intro w hSw
                          skip
                          go_simp
                          all_goals with_reducible rfl
                        try simp only [Act.put, List.setIfInBounds_toArray, List.set_cons_zero, List.set_cons_succ]
                        refine wpAnyH_take (i := 9) (oi := ⟨_, _, _, _, _, _⟩) (v := ?_) rfl (by as_aux_lemma => kernel_rfl) (by as_aux_lemma => kernel_rfl) (by as_aux_lemma => kernel_rfl) (fun _ _ _ h => h) (Or.inl ⟨by rfl, ?hy⟩) (by assumption) ?_
                        case hy =>
                          intro w hSw
                          skip
                          go_simp
                          all_goals with_reducible rfl
                        try simp only [Act.put, List.setIfInBounds_toArray, List.set_cons_zero, List.set_cons_succ]
                        refine wpAnyH_take (i := 10) (oi := ⟨_, _, _, _, _, _⟩) (v := ?_) rfl (by as_aux_lemma => kernel_rfl) (by as_aux_lemma => kernel_rfl) (by as_aux_lemma => kernel_rfl) (fun _ _ _ h => h) (Or.inl ⟨by rfl, ?hy⟩) (by assumption) ?_
                        case hy =>
                          intro w hSw
                          skip
                          go_simp
                          all_goals with_reducible rfl
                        try simp only [Act.put, List.setIfInBounds_toArray, List.set_cons_zero, List.set_cons_succ]
                        refine wpAnyH_take (i := 11) (oi := ⟨_, _, _, _, _, _⟩) (v := ?_) rfl (by as_aux_lemma => kernel_rfl) (by as_aux_lemma => kernel_rfl) (by as_aux_lemma => kernel_rfl) (fun _ _ _ h => h) (Or.inl ⟨by rfl, ?hy⟩) (by assumption) ?_
                        case hy =>
                          intro w hSw
                          have e0 : w.cell? ⟨gi, oi, none⟩ = some (sv kx) := (hSw.cell (p := ⟨gi, oi, none⟩) hgi2).trans e0
                          go_simp
                          all_goals with_reducible rfl
                        try simp only [Act.put, List.setIfInBounds_toArray, List.set_cons_zero, List.set_cons_succ]
                        refine wpAnyH_take (i := 12) (oi := ⟨_, _, _, _, _, _⟩) (v := ?_) rfl (by as_aux_lemma => kernel_rfl) (by as_aux_lemma => kernel_rfl) (by as_aux_lemma => kernel_rfl) (fun _ _ _ h => h) (Or.inl ⟨by rfl, ?hy⟩) (by assumption) ?_
                        case hy =>
                          intro w hSw
                          skip
                          go_simp
                          all_goals with_reducible rfl
                        try simp only [Act.put, List.setIfInBounds_toArray, List.set_cons_zero, List.set_cons_succ]
                        refine wpAnyH_take (i := 13) (oi := ⟨_, _, _, _, _, _⟩) (v := ?_) rfl (by as_aux_lemma => kernel_rfl) (by as_aux_lemma => kernel_rfl) (by as_aux_lemma => kernel_rfl) (fun _ _ _ h => h) (Or.inl ⟨by rfl, ?hy⟩) (by assumption) ?_
                        case hy =>
                          intro w hSw
                          skip
                          go_simp
                          all_goals with_reducible rfl
                        try simp only [Act.put, List.setIfInBounds_toArray, List.set_cons_zero, List.set_cons_succ]
                        refine wpAnyH_take (i := 14) (oi := ⟨_, _, _, _, _, _⟩) (v := undef) rfl (by as_aux_lemma => kernel_rfl) (by as_aux_lemma => kernel_rfl) (by as_aux_lemma => kernel_rfl) (fun _ _ _ h => h) (Or.inr ⟨by rfl, rfl⟩) (by assumption) ?_
                        try simp only [Act.put, List.setIfInBounds_toArray, List.set_cons_zero, List.set_cons_succ]
                        refine wpAnyH_take (i := 15) (oi := ⟨_, _, _, _, _, _⟩) (v := undef) rfl (by as_aux_lemma => kernel_rfl) (by as_aux_lemma => kernel_rfl) (by as_aux_lemma => kernel_rfl) (fun _ _ _ h => h) (Or.inr ⟨by rfl, rfl⟩) (by assumption) ?_
                        try simp only [Act.put, List.setIfInBounds_toArray, List.set_cons_zero, List.set_cons_succ]
                        refine wpAnyH_take (i := 16) (oi := ⟨_, _, _, _, _, _⟩) (v := undef) rfl (by as_aux_lemma => kernel_rfl) (by as_aux_lemma => kernel_rfl) (by as_aux_lemma => kernel_rfl) (fun _ _ _ h => h) (Or.inr ⟨by rfl, rfl⟩) (by assumption) ?_
                        try simp only [Act.put, List.setIfInBounds_toArray, List.set_cons_zero, List.set_cons_succ]
                        refine wpAnyH_take (i := 17) (oi := ⟨_, _, _, _, _, _⟩) (v := undef) rfl (by as_aux_lemma => kernel_rfl) (by as_aux_lemma => kernel_rfl) (by as_aux_lemma => kernel_rfl) (fun _ _ _ h => h) (Or.inr ⟨by rfl, rfl⟩) (by assumption) ?_
                        try simp only [Act.put, List.setIfInBounds_toArray, List.set_cons_zero, List.set_cons_succ]
                        refine wpAnyH_take (i := 18) (oi := ⟨_, _, _, _, _, _⟩) (v := undef) rfl (by as_aux_lemma => kernel_rfl) (by as_aux_lemma => kernel_rfl) (by as_aux_lemma => kernel_rfl) (fun _ _ _ h => h) (Or.inr ⟨by rfl, rfl⟩) (by assumption) ?_
                        try simp only [Act.put, List.setIfInBounds_toArray, List.set_cons_zero, List.set_cons_succ]
                        refine wpAnyH_take (i := 19) (oi := ⟨_, _, _, _, _, _⟩) (v := undef) rfl (by as_aux_lemma => kernel_rfl) (by as_aux_lemma => kernel_rfl) (by as_aux_lemma => kernel_rfl) (fun _ _ _ h => h) (Or.inr ⟨by rfl, rfl⟩) (by assumption) ?_
                        try simp only [Act.put, List.setIfInBounds_toArray, List.set_cons_zero, List.set_cons_succ]
                        refine wpAnyH_take (i := 20) (oi := ⟨_, _, _, _, _, _⟩) (v := undef) rfl (by as_aux_lemma => kernel_rfl) (by as_aux_lemma => kernel_rfl) (by as_aux_lemma => kernel_rfl) (fun _ _ _ h => h) (Or.inr ⟨by rfl, rfl⟩) (by assumption) ?_
                        try simp only [Act.put, List.setIfInBounds_toArray, List.set_cons_zero, List.set_cons_succ]
                        refine wpAnyH_take (i := 21) (oi := ⟨_, _, _, _, _, _⟩) (v := undef) rfl (by as_aux_lemma => kernel_rfl) (by as_aux_lemma => kernel_rfl) (by as_aux_lemma => kernel_rfl) (fun _ _ _ h => h) (Or.inr ⟨by rfl, rfl⟩) (by assumption) ?_
                        try simp only [Act.put, List.setIfInBounds_toArray, List.set_cons_zero, List.set_cons_succ]
                        refine wpAnyH_take (i := 22) (oi := ⟨_, _, _, _, _, _⟩) (v := undef) rfl (by as_aux_lemma => kernel_rfl) (by as_aux_lemma => kernel_rfl) (by as_aux_lemma => kernel_rfl) (fun _ _ _ h => h) (Or.inr ⟨by rfl, rfl⟩) (by assumption) ?_
                        try simp only [Act.put, List.setIfInBounds_toArray, List.set_cons_zero, List.set_cons_succ]
                        refine wpAnyH_take (i := 23) (oi := ⟨_, _, _, _, _, _⟩) (v := undef) rfl (by as_aux_lemma => kernel_rfl) (by as_aux_lemma => kernel_rfl) (by as_aux_lemma => kernel_rfl) (fun _ _ _ h => h) (Or.inr ⟨by rfl, rfl⟩) (by assumption) ?_
                        try simp only [Act.put, List.setIfInBounds_toArray, List.set_cons_zero, List.set_cons_succ]
                        refine wpAnyH_take (i := 24) (oi := ⟨_, _, _, _, _, _⟩) (v := undef) rfl (by as_aux_lemma => kernel_rfl) (by as_aux_lemma => kernel_rfl) (by as_aux_lemma => kernel_rfl) (fun _ _ _ h => h) (Or.inr ⟨by rfl, rfl⟩) (by assumption) ?_
                        try simp only [Act.put, List.setIfInBounds_toArray, List.set_cons_zero, List.set_cons_succ]
                        refine wpAnyH_take (i := 25) (oi := ⟨_, _, _, _, _, _⟩) (v := ?_) rfl (by as_aux_lemma => kernel_rfl) (by as_aux_lemma => kernel_rfl) (by as_aux_lemma => kernel_rfl) (fun _ _ _ h => h) (Or.inl ⟨by rfl, ?hy⟩) (by assumption) ?_
                        case hy =>
                          intro w hSw
                          skip
                          go_simp
                          all_goals with_reducible rfl
                        try simp only [Act.put, List.setIfInBounds_toArray, List.set_cons_zero, List.set_cons_succ]
                        refine wpAnyH_take (i := 26) (oi := ⟨_, _, _, _, _, _⟩) (v := ?_) rfl (by as_aux_lemma => kernel_rfl) (by as_aux_lemma => kernel_rfl) (by as_aux_lemma => kernel_rfl) (fun _ _ _ h => h) (Or.inl ⟨by rfl, ?hy⟩) (by assumption) ?_
                        case hy =>
                          intro w hSw
                          skip
                          go_simp
                          all_goals with_reducible rfl
                        try simp only [Act.put, List.setIfInBounds_toArray, List.set_cons_zero, List.set_cons_succ]
                        refine wpAnyH_take (i := 27) (oi := ⟨_, _, _, _, _, _⟩) (v := undef) rfl (by as_aux_lemma => kernel_rfl) (by as_aux_lemma => kernel_rfl) (by as_aux_lemma => kernel_rfl) (fun _ _ _ h => h) (Or.inr ⟨by rfl, rfl⟩) (by assumption) ?_
                        try simp only [Act.put, List.setIfInBounds_toArray, List.set_cons_zero, List.set_cons_succ]
                        refine wpAnyH_take (i := 28) (oi := ⟨_, _, _, _, _, _⟩) (v := undef) rfl (by as_aux_lemma => kernel_rfl) (by as_aux_lemma => kernel_rfl) (by as_aux_lemma => kernel_rfl) (fun _ _ _ h => h) (Or.inr ⟨by rfl, rfl⟩) (by assumption) ?_
                        try simp only [Act.put, List.setIfInBounds_toArray, List.set_cons_zero, List.set_cons_succ]
                        refine wpAnyH_take (i := 29) (oi := ⟨_, _, _, _, _, _⟩) (v := undef) rfl (by as_aux_lemma => kernel_rfl) (by as_aux_lemma => kernel_rfl) (by as_aux_lemma => kernel_rfl) (fun _ _ _ h => h) (Or.inr ⟨by rfl, rfl⟩) (by assumption) ?_
                        try simp only [Act.put, List.setIfInBounds_toArray, List.set_cons_zero, List.set_cons_succ]
                        refine wpAnyH_take (i := 30) (oi := ⟨_, _, _, _, _, _⟩) (v := undef) rfl (by as_aux_lemma => kernel_rfl) (by as_aux_lemma => kernel_rfl) (by as_aux_lemma => kernel_rfl) (fun _ _ _ h => h) (Or.inr ⟨by rfl, rfl⟩) (by assumption) ?_
                        try simp only [Act.put, List.setIfInBounds_toArray, List.set_cons_zero, List.set_cons_succ]
                        refine wpAnyH_take (i := 31) (oi := ⟨_, _, _, _, _, _⟩) (v := undef) rfl (by as_aux_lemma => kernel_rfl) (by as_aux_lemma => kernel_rfl) (by as_aux_lemma => kernel_rfl) (fun _ _ _ h => h) (Or.inr ⟨by rfl, rfl⟩) (by assumption) ?_
                        try simp only [Act.put, List.setIfInBounds_toArray, List.set_cons_zero, List.set_cons_succ]
                        refine wpAnyH_take (i := 32) (oi := ⟨_, _, _, _, _, _⟩) (v := undef) rfl (by as_aux_lemma => kernel_rfl) (by as_aux_lemma => kernel_rfl) (by as_aux_lemma => kernel_rfl) (fun _ _ _ h => h) (Or.inr ⟨by rfl, rfl⟩) (by assumption) ?_
                        try simp only [Act.put, List.setIfInBounds_toArray, List.set_cons_zero, List.set_cons_succ]
                        refine wpAnyH_take (i := 33) (oi := ⟨_, _, _, _, _, _⟩) (v := undef) rfl (by as_aux_lemma => kernel_rfl) (by as_aux_lemma => kernel_rfl) (by as_aux_lemma => kernel_rfl) (fun _ _ _ h => h) (Or.inr ⟨by rfl, rfl⟩) (by assumption) ?_
                        try simp only [Act.put, List.setIfInBounds_toArray, List.set_cons_zero, List.set_cons_succ]
                        refine wpAnyH_take (i := 34) (oi := ⟨_, _, _, _, _, _⟩) (v := undef) rfl (by as_aux_lemma => kernel_rfl) (by as_aux_lemma => kernel_rfl) (by as_aux_lemma => kernel_rfl) (fun _ _ _ h => h) (Or.inr ⟨by rfl, rfl⟩) (by assumption) ?_
                        try simp only [Act.put, List.setIfInBounds_toArray, List.set_cons_zero, List.set_cons_succ]
                        refine wpAnyH_take (i := 35) (oi := ⟨_, _, _, _, _, _⟩) (v := undef) rfl (by as_aux_lemma => kernel_rfl) (by as_aux_lemma => kernel_rfl) (by as_aux_lemma => kernel_rfl) (fun _ _ _ h => h) (Or.inr ⟨by rfl, rfl⟩) (by assumption) ?_
                        try simp only [Act.put, List.setIfInBounds_toArray, List.set_cons_zero, List.set_cons_succ]
                        refine wpAnyH_take (i := 36) (oi := ⟨_, _, _, _, _, _⟩) (v := undef) rfl (by as_aux_lemma => kernel_rfl) (by as_aux_lemma => kernel_rfl) (by as_aux_lemma => kernel_rfl) (fun _ _ _ h => h) (Or.inr ⟨by rfl, rfl⟩) (by assumption) ?_
                        try simp only [Act.put, List.setIfInBounds_toArray, List.set_cons_zero, List.set_cons_succ]
                        refine wpAnyH_take (i := 37) (oi := ⟨_, _, _, _, _, _⟩) (v := undef) rfl (by as_aux_lemma => kernel_rfl) (by as_aux_lemma => kernel_rfl) (by as_aux_lemma => kernel_rfl) (fun _ _ _ h => h) (Or.inr ⟨by rfl, rfl⟩) (by assumption) ?_
                        try simp only [Act.put, List.setIfInBounds_toArray, List.set_cons_zero, List.set_cons_succ]
                        refine wpAnyH_take (i := 38) (oi := ⟨_, _, _, _, _, _⟩) (v := ?_) rfl (by as_aux_lemma => kernel_rfl) (by as_aux_lemma => kernel_rfl) (by as_aux_lemma => kernel_rfl) (fun _ _ _ h => h) (Or.inl ⟨by rfl, ?hy⟩) (by assumption) ?_
                        case hy =>
                          intro w hSw
                          skip
                          go_simp
                          all_goals with_reducible rfl
                        try simp only [Act.put, List.setIfInBounds_toArray, List.set_cons_zero, List.set_cons_succ]
                        refine wpAnyH_take (i := 39) (oi := ⟨_, _, _, _, _, _⟩) (v := ?_) rfl (by as_aux_lemma => kernel_rfl) (by as_aux_lemma => kernel_rfl) (by as_aux_lemma => kernel_rfl) (fun _ _ _ h => h) (Or.inl ⟨by rfl, ?hy⟩) (by assumption) ?_
                        case hy =>
                          intro w hSw
                          skip
                          go_simp
                          all_goals with_reducible rfl
                        try simp only [Act.put, List.setIfInBounds_toArray, List.set_cons_zero, List.set_cons_succ]
                        refine wpAnyH_take (i := 40) (oi := ⟨_, _, _, _, _, _⟩) (v := ?_) rfl (by as_aux_lemma => kernel_rfl) (by as_aux_lemma => kernel_rfl) (by as_aux_lemma => kernel_rfl) (fun _ _ _ h => h) (Or.inl ⟨by rfl, ?hy⟩) (by assumption) ?_
                        case hy =>
                          intro w hSw
                          skip
                          go_simp
                          all_goals with_reducible rfl
                        try simp only [Act.put, List.setIfInBounds_toArray, List.set_cons_zero, List.set_cons_succ]
                        refine wpAnyH_done (by as_aux_lemma => kernel_rfl) ?_ _
                        have hB3 := hid (hB2.out.trans (hHeld.mono hB2.out.size))
                        clear hHeld
                        have t2 := t1.out
                        simp only [Bool.false_or] at t2
                        go_wp2_with fail
                        refine ⟨?_, by simp [intOf]; omega⟩
                        repeat (first | exact ⟨⟨k + 1, by go_num, by rw [t2], by omega, hB3⟩, rfl⟩ | exact ⟨k + 1, by go_num, by rw [t2], by omega, hB3⟩ | apply Exists.intro)
                  · obtain rfl : k = l.length := by omega
                    have t1 : decide (i < l.length) = true := decide_eq_true hlt
                    rw [t1]
                    clear t1 hkl hk
                    go_wp2_with fail
                    refine ⟨?_, by simp [intOf]; omega⟩
                    repeat (first | exact ⟨⟨i + 1, by go_num, by omega, hBN⟩, rfl⟩ | exact ⟨i + 1, by go_num, by omega, hBN⟩ | apply Exists.intro)
              · obtain rfl : i = l.length := by omega
                clear hlt hi
                replace hM := hid (hM.out.below hB.out)
                clear hU hN hB
                obtain ⟨s, hs31, hsb⟩ := and31 turn
                have hus := hid (un_start l s)
                go_wp2_with fail
                go_loopw [17] (fun i wr => ∃ (k : Nat) (o : Own) (z : WS), i = .int .i64 k ∧ k ≤ l.length ∧ Hid (WM w o l (.slice a l.length c) b z wr) ∧ Hid (UnInv l s k z)) (fun i _ => l.length - (intOf i).toNat)
                case atStart => exact ⟨0, _, _, rfl, Nat.zero_le _, hM, hus⟩
                case round =>
                  clear hM hus
                  obtain ⟨k, o, z, rfl, hk, hM, hu⟩ := hrel
                  by_cases hlt : k < l.length
                  · have hj := Nat.mod_lt (k + s) (show 0 < l.length by omega)
                    have hsend := send_un hNd.out hu.out hlt
                    have hlog := hu.out.log
                    have hfor := hu.out.len
                    have hw1 : IntKind.i64.wrap ((k : Int) + (s : Int)) = (k : Int) + (s : Int) := i64_wrap_id _ (by omega) (by omega)
                    obtain ⟨j, hjj⟩ : ∃ j, j = (k + s) % l.length := ⟨_, rfl⟩
                    have hrem : Int.tmod ((k : Int) + (s : Int)) (l.length : Int) = (j : Int) := by
                      rw [hjj, Int.tmod_eq_emod_of_nonneg (by omega), Int.natCast_emod, Int.natCast_add]
                    have hw2 : IntKind.i64.wrap (j : Int) = (j : Int) := i64_wrap_id _ (by omega) (by omega)
                    have hz0 : ¬ (l.length : Int) = 0 := by omega
                    have hz1 : ((l.length : Int) == 0) = false := beq_eq_false_iff_ne.2 hz0
                    rw [← hjj] at hsend hj
                    obtain ⟨x, hx⟩ : ∃ x, x = rq l j := ⟨_, rfl⟩
                    have hax := at_rq hj
                    rw [← hx] at hax hsend
                    have hxm := List.mem_of_getElem? hax
                    have hxB := hl.out.2 x hxm
                    have hxK := hKs.out x hxm
                    obtain ⟨g, og, cs, hidx, -, hg, hc, hr⟩ := hM.out.rq.at (P := Tryd.prog) (t := 22) (by kernel_rfl) (fun _ => by kernel_rfl) hax
                    obtain ⟨a1, k1, rfl, -⟩ := id hr
                    have c0 := hc 0 _ rfl
                    have c1 := hc 1 _ rfl
                    have c2 := hc 2 _ rfl
                    have c3 := hc 3 _ rfl
                    have c4 := hc 4 _ rfl
                    have c5 := hc 5 _ rfl
                    have c6 := hc 6 _ rfl
                    have c7 := hc 7 _ rfl
                    rw [Nat.add_zero] at c0
                    have ht1 := hid (hM.out.tab ht.out)
                    obtain ⟨ky, hky⟩ : ∃ ky, ky = keyF x := ⟨_, rfl⟩
                    have hkl : ky.length = 64 := by rw [hky]; exact keyF_len x
                    have hkl2 : ¬ 9223372036854775807 < 4 + ky.length := by omega
                    have hun : unC x = ⟨[117, 110, 100, 111] ++ ky, 2, ky, [], [], []⟩ := by rw [hky]; rfl
                    have hcB : CmdB (unC x) := ⟨⟨by simp [unC], fun y hy => by simp [unC] at hy⟩, by show (sUndo ++ keyF x).length ≤ _; rw [List.length_append, keyF_len]; decide⟩
                    replace hun := hid hun
                    replace hr := hid hr
                    replace hky := hid hky
                    replace hx := hid hx
                    replace hcB := hid hcB
                    replace hsend := hid hsend
                    replace hjj := hid hjj
                    clear hc
                    go_wp2_with fail
                    refine (netKey_any x hxB hxK _ (reqCs x (.slice a1 x.args.length k1)) wr ht1.out hr.out).mono ?_
                    rintro e wq ⟨rfl, hbq⟩
                    rw [← hky.out]
                    have hMq := hid (hM.out.below hbq)
                    have hcm : CmdR (Tg o 0) wq (unC x) (cmdCs (unC x) (.slice none 0 0)) := cmdR_shut (c := unC x) (SlR.nil _ _ _ _ _)
                    have hcall := send_t o 1 0 (by decide) b z (unC x) 0 hcB.out _ wq hMq.out.wv hcm (by omega) (by omega)
                    rw [hsend.out.1] at hcall
                    have hu2 := hid hsend.out.2
                    generalize (sendF z (unC x) 0).2 = z2 at *
                    rw [hun.out] at hcall
                    replace hcall := hid hcall
                    clear hcm hsend hbq c0 c1 c2 c3 c4 c5 c6 c7 hidx hr
                    go_wp2_with fail
                    refine hcall.out.mono ?_
                    rintro e W6 ⟨o6, rfl, m6, h6⟩
                    have hM6 : Hid (WM w o6 l (.slice a l.length c) b z2 W6) := hid ⟨hMq.out.st.mv m6 (by decide), SlR.mv goodReq hMq.out.rq m6 (by decide), h6⟩
                    clear hcall m6 h6 hMq
                    go_wp2_with fail
                    refine ⟨?_, by simp [intOf]; omega⟩
                    repeat (first | exact ⟨⟨k + 1, o6, z2, by go_num, by omega, hM6, hu2⟩, rfl⟩ | exact ⟨k + 1, o6, z2, by go_num, by omega, hM6, hu2⟩ | apply Exists.intro)
                  · obtain rfl : k = l.length := by omega
                    clear hlt hk
                    have hz := un_end hu.out
                    go_wp2_with fail
                    refine (wnet_t o 3 1 b _ wr hM.out.wv).mono ?_
                    rintro e w9 ⟨o9, vn, rfl, m, hN⟩
                    rw [hz] at hN
                    obtain ⟨a9, c9, rfl, -⟩ := hN.slice
                    have hM9 := hid (hM.out.mv m)
                    clear m hN hM
                    go_wp2_with fail
                    go_ret
                    exact ⟨rfl, hM9.out.st.below⟩
end Go.Proofs.YthagdeadmoidnaaDoor
