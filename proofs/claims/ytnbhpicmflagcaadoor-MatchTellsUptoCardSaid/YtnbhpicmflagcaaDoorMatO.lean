/- match.Only. -/
import Derived.Test.YtnbhpicmflagcaaDoorMatN
set_option linter.unusedVariables false
set_option linter.unusedSimpArgs false
namespace Go.Proofs.YtnbhpicmflagcaaDoor
open Go.RowKit
open Go.Lib (hid)
theorem infoReqB : (Tryd.prog.info? 25).map (fun i => (i.zero, i.size, i.bytes)) = some (some (.agg #[.string .empty, .string .empty, .slice none 0 0, .int .i64 0, .string .empty, .int .i64 0, .int .i64 0, .bool false]), 8, 104) := by kernel_rfl
/-- a row of requests of an older memory (below B); the row itself is new (from W1 on) -/
def RowQ (B W1 : Nat) (w : World) (l : List Req) (v : Value) : Prop := OwnR 25 8 ReqR (fun q => q < B ∨ W1 ≤ q) w l v ∧ ∀ q, v.ownBlock = some q → W1 ≤ q
theorem RowQ.below {B W1 : Nat} {w w' : World} {l : List Req} {v : Value} (h : RowQ B W1 w l v) (hb : Below w.heap.size w w') : RowQ B W1 w' l v := ⟨h.1.below goodReq hb, h.2⟩
theorem RowQ.nil (B W1 : Nat) (w : World) : RowQ B W1 w [] (.slice none 0 0) := ⟨OwnR.nil _ _ _ _ _, fun q h => by simp [Value.ownBlock] at h⟩
/-- one request more behind the row -/
theorem push_req (w3 : World) (RL : List Req) (x : Req) (ar : Option Addr) (cr : Nat) (a1 : Option Addr) (k1 B W1 : Nat) (hBW : B ≤ W1) (hW : W1 ≤ w3.heap.size) (hl : RL.length ≤ 1048576)
    (hO : RowQ B W1 w3 RL (.slice ar RL.length cr)) (hr : ReqR (fun q => q < B) w3 x (reqCs x (.slice a1 x.args.length k1))) :
    ∃ a5 c5 W, AppRun Tryd.prog 22 22 22 (.slice ar RL.length cr) (.slice (some ⟨w3.heap.size, 0, none⟩) 1 1) (.slice a5 (RL.length + 1) c5) (w3.alloc (.cells (reqCs x (.slice a1 x.args.length k1)).toArray 25)) W ∧
      RowQ B W1 W (RL ++ [x]) (.slice a5 (RL.length + 1) c5) ∧ Below W1 w3 W := by
  obtain ⟨i0, hi, hz0, hz1, hz2⟩ := info_parts infoReqB
  have hb : Below w3.heap.size w3 (w3.alloc (.cells (reqCs x (.slice a1 x.args.length k1)).toArray 25)) := (Below.refl _ _).alloc (Nat.le_refl _) _
  have hz := heap_alloc_new' w3 (.cells (reqCs x (.slice a1 x.args.length k1)).toArray 25)
  have hO1 := hO.below hb
  have hown := fun xs (hx : (w3.alloc (.cells (reqCs x (.slice a1 x.args.length k1)).toArray 25)).ownsRow 0 25 8 (.slice ar RL.length cr) RL.length xs) => append_row _ 0 22 22 25 i0 _ 8 104 (by kernel_rfl) hi hz0 hz1 hz2 rfl (by decide) _ _ xs hx _ _ 1 _ (row_of_block hz rfl) (goodReq.one hr) (by unfold maxLen; omega) (by omega) (Nat.zero_le _)
  obtain ⟨xs, hxs, -, -⟩ := id hO1.1
  obtain ⟨v', W, hrun, -, hg, hvv⟩ := hown xs hxs
  have hsz : (w3.alloc (.cells (reqCs x (.slice a1 x.args.length k1)).toArray 25)).heap.size = w3.heap.size + 1 := by simp
  have hpush : OwnR 25 8 ReqR (fun q => q < B ∨ W1 ≤ q) W (RL ++ [x]) v' := OwnR.push goodReq hO1.1 (fun ys hys => by
    obtain ⟨v2, w2', hr2, ho2, _⟩ := hown ys hys
    rw [hrun] at hr2
    injection hr2 with e1 e2
    subst e1 e2
    exact ho2) hg hvv (fun _ h => h) (Or.inr (by omega)) (goodReq.move hr fun q hq hs => ⟨⟨Or.inl hs, fun e => by have := hO.2 q e; omega, by omega⟩, hb.block q hq⟩)
  have hv2 : ∀ q, v'.ownBlock = some q → W1 ≤ q := fun q hq => by
    rcases hvv with e | e
    · exact hO.2 q (e ▸ hq)
    · rw [e] at hq; injection hq with hq; omega
  obtain ⟨a5, c5, rfl, -, -⟩ := hpush.slice
  rw [List.length_append, List.length_singleton] at hrun hpush hv2
  exact ⟨a5, c5, W, ⟨hrun⟩, ⟨hpush, hv2⟩, (hb.mono hW).trans ⟨hg.os, hg.tape, hg.output, hg.size, fun q hq => hg.block q (by omega) (fun e => by have := hO.2 q e.symm; omega)⟩⟩
set_option maxHeartbeats 8000000 in
set_option maxRecDepth 100000 in
theorem only_any (a b : List Req) (ha : ReqsB a) (hb : ReqsB b) (hKa : ∀ x ∈ a, (keyS x).length ≤ 1048576) (hKb : ∀ x ∈ b, (keyS x).length ≤ 1048576) (S T : Foot) (va vb : Value) (w : World) (ht : TabR w) (hRa : ReqsR S w a va) (hRb : ReqsR T w b vb) :
    Calls Tryd.prog 21 #[va, vb] w fun e w' => ∃ v, e = .returned v ∧ OwnR 25 8 ReqR (fun _ => True) w' (onlyF a b a.length) v ∧ Below w.heap.size w w' := by
  have hpairs := hid (pairs_any a b ha hb hKa hKb S T va vb w ht hRa hRb)
  obtain ⟨aa, ca, rfl, -⟩ := hRa.slice
  obtain ⟨ab, cb, rfl, -⟩ := hRb.slice
  have hla := ha.1
  replace hRa := hid (hRa.mono goodReq (T := fun k => k < w.heap.size) fun k hk _ => hk)
  clear hKa hKb ht hRb ha hb
  go_enter Tryd.func21, Tryd.ntmps21
  go_wp2_with fail
  refine hpairs.out.mono ?_
  rintro e w1 ⟨vp, rfl, hO, hB1⟩
  clear hpairs
  have hPl := pairs_len a b a.length
  have hP0 := hid ((OwnR.sl goodPair hO).mono goodPair (T := fun q => q < w1.heap.size) fun q hq _ => hq)
  obtain ⟨ap, cp, rfl, -⟩ := hP0.out.slice
  obtain ⟨P, hPe⟩ : ∃ P, P = pairsF a b a.length := ⟨_, rfl⟩
  rw [← hPe] at hP0 hPl ⊢
  replace hPe := hid hPe
  clear hO
  have hsz1 := hB1.size
  go_wp2_with fail
  go_loopw [5, 6, 15] (fun res nx i wr => ∃ k : Nat, i = .int .i64 k ∧ k ≤ a.length ∧ nx = iv (((pairsF a b k).length : Nat) : Int) ∧ Hid (RowQ w.heap.size w1.heap.size wr (onlyF a b k) res) ∧ Hid (Below w1.heap.size w1 wr)) (fun _ _ i _ => a.length - (intOf i).toNat)
  case atStart => exact ⟨0, rfl, Nat.zero_le _, rfl, hid (RowQ.nil _ _ _), hid (Below.refl _ _)⟩
  case round =>
    obtain ⟨k, rfl, hk, rfl, hO, hB⟩ := hrel
    by_cases hlt : k < a.length
    · obtain ⟨x, hx⟩ : ∃ x, a[k]? = some x := ⟨_, List.getElem?_eq_getElem hlt⟩
      obtain ⟨g, o, cs, hidx, hS, hg, hc, hr⟩ := ((hRa.out.below goodReq hB1).below goodReq hB.out).at (P := Tryd.prog) (t := 22) (by kernel_rfl) (fun _ => by kernel_rfl) hx
      obtain ⟨a1, k1, rfl, -⟩ := id hr
      have hr0 := hid hr
      have c0 := hc 0 _ rfl
      have c1 := hc 1 _ rfl
      have c2 := hc 2 _ rfl
      have c3 := hc 3 _ rfl
      have c4 := hc 4 _ rfl
      have c5 := hc 5 _ rfl
      have c6 := hc 6 _ rfl
      have c7 := hc 7 _ rfl
      rw [Nat.add_zero] at c0
      clear hc hr
      have hqx := hid (rq_at hx)
      have hpa := pairs_at a b hlt
      rw [← hPe.out] at hpa
      have hps := pairs_succ a b k
      have hos := only_succ a b k
      rw [hqx.out] at hos
      have hnl := pairs_len a b k
      have hol := only_len a b k
      obtain ⟨ar, cr, rfl, -, -⟩ := hO.out.1.slice
      obtain ⟨nx, hnx⟩ : ∃ nx, nx = (pairsF a b k).length := ⟨_, rfl⟩
      rw [← hnx] at hpa hnl ⊢
      obtain ⟨RL, hRL⟩ : ∃ RL, RL = onlyF a b k := ⟨_, rfl⟩
      rw [← hRL] at hO hol hos ⊢
      replace hos := hid hos
      replace hRL := hid hRL
      replace hps := hid hps
      replace hnx := hid hnx
      have hpush := hid (fun (w3 : World) (hB3 : Below w1.heap.size w1 w3) (hO3 : RowQ w.heap.size w1.heap.size w3 RL (.slice ar RL.length cr)) (hr3 : ReqR (fun q => q < w.heap.size) w3 x (reqCs x (.slice a1 x.args.length k1))) => push_req w3 RL x ar cr a1 k1 w.heap.size w1.heap.size hsz1 hB3.size (by omega) hO3 hr3)
      rcases hp : P[nx]? with _ | p
      · rw [hp] at hpa
        have hge : P.length ≤ nx := by
          rcases Nat.lt_or_ge nx P.length with h | h
          · rw [List.getElem?_eq_getElem h] at hp; cases hp
          · exact h
        have q1 : decide ((nx : Int) < (P.length : Int)) = false := decide_eq_false (by omega)
        have q1n : decide (nx < P.length) = false := decide_eq_false (by omega)
        have hmn : mateF a b k = none := by cases hm : mateF a b k with
          | none => rfl
          | some j => rw [hm] at hpa; cases hpa
        rw [hmn] at hos hps
        have hbx := hid (heap_alloc_new' wr (.cells (reqCs x (.slice a1 x.args.length k1)).toArray 25 (0, 0)))
        have hb1 : Below wr.heap.size wr (wr.alloc (.cells (reqCs x (.slice a1 x.args.length k1)).toArray 25 (0, 0))) := (Below.refl _ wr).alloc (Nat.le_refl _) _
        have hO1 := hO.out.below hb1
        have hB2 := hid (hB.out.trans (hb1.mono hB.out.size))
        have hr1 := goodReq.below hr0.out hb1
        obtain ⟨a5, c5', W3, hap, hO3, hF3⟩ := hpush.out _ hB2.out hO1 hr1
        have e6 : (wr.alloc (.cells (reqCs x (.slice a1 x.args.length k1)).toArray 25 (0, 0))).heap.size = wr.heap.size + 1 := by simp
        rw [e6] at hap
        clear e6
        have hB3 := hid (hB2.out.trans hF3)
        have d0 : (wr.alloc (.cells (reqCs x (.slice a1 x.args.length k1)).toArray 25 (0, 0))).cell? ⟨wr.heap.size, 0, none⟩ = some (sv x.path) := (cell_of hbx.out).trans rfl
        have hnx2 : Hid ((pairsF a b (k + 1)).length = nx) := hid (by rw [hps.out, List.append_nil, hnx.out])
        have hO4 := hid (show RowQ w.heap.size w1.heap.size W3 (onlyF a b (k + 1)) (.slice a5 (RL.length + 1) c5') by rw [hos.out]; exact hO3)
        clear hO3 hO1 hb1 hF3 hpa hmn hp hpush d0
        go_wp2_with (first | (at_builtin; refine wpList_append_shut rfl (.tmp 35) (.tmp 37) rfl rfl rfl hap ?_))
        exact ⟨⟨k + 1, by go_num, by omega, by rw [hnx2.out], hO4, hB3⟩, by simp [intOf]; omega⟩
      · rw [hp] at hpa
        have hltn : nx < P.length := (List.getElem?_eq_some_iff.1 hp).1
        have q1 : decide ((nx : Int) < (P.length : Int)) = true := decide_eq_true (by omega)
        have q1n : decide (nx < P.length) = true := decide_eq_true hltn
        obtain ⟨g2, o2, cs2, hidx2, hS2, hg2, hc2, hr2⟩ := (hP0.out.below goodPair hB.out).at (P := Tryd.prog) (t := 34) (by kernel_rfl) (fun _ => by kernel_rfl) hp
        have hr2' : cs2 = [iv p.1, iv p.2] := hr2
        subst hr2'
        have e0 := hc2 0 _ rfl
        rw [Nat.add_zero] at e0
        have hg2n : ¬ wr.heap.size = g2 := by omega
        have hg2n' : ¬ g2 = wr.heap.size := by omega
        by_cases hpk : p.1 = k
        · have hmn : ∃ j, mateF a b k = some j := by cases hm : mateF a b k with
            | some j => exact ⟨j, rfl⟩
            | none => rw [hm] at hpa; simp [hpk] at hpa
          obtain ⟨j, hmn⟩ := hmn
          rw [hmn] at hos hps
          have hnx2 : Hid ((pairsF a b (k + 1)).length = nx + 1) := hid (by rw [hps.out, List.length_append, hnx.out]; rfl)
          have hO4 := hid (show RowQ w.heap.size w1.heap.size (wr.alloc (.cells (reqCs x (.slice a1 x.args.length k1)).toArray 25 (0, 0))) (onlyF a b (k + 1)) (.slice ar RL.length cr) by rw [hos.out, List.append_nil]; exact hO.out.below ((Below.refl _ wr).alloc (Nat.le_refl _) _))
          have hB3 := hid (hB.out.trans (((Below.refl _ wr).alloc (Nat.le_refl _) (.cells (reqCs x (.slice a1 x.args.length k1)).toArray 25 (0, 0))).mono hB.out.size))
          have q3 : ((p.1 : Int) == (k : Int)) = true := by rw [hpk]; simp
          rw [hpk] at e0
          clear hpa hmn hp hpush
          go_wp2_with fail
          exact ⟨⟨k + 1, by go_num, by omega, by rw [hnx2.out]; go_num, hO4, hB3⟩, by simp [intOf]; omega⟩
        · have hmn : mateF a b k = none := by cases hm : mateF a b k with
            | none => rfl
            | some j => rw [hm] at hpa; simp [hpk] at hpa
          rw [hmn] at hos hps
          have q3 : ((p.1 : Int) == (k : Int)) = false := beq_eq_false_iff_ne.2 (by omega)
          have hbx := hid (heap_alloc_new' wr (.cells (reqCs x (.slice a1 x.args.length k1)).toArray 25 (0, 0)))
          have hb1 : Below wr.heap.size wr (wr.alloc (.cells (reqCs x (.slice a1 x.args.length k1)).toArray 25 (0, 0))) := (Below.refl _ wr).alloc (Nat.le_refl _) _
          have hO1 := hO.out.below hb1
          have hB2 := hid (hB.out.trans (hb1.mono hB.out.size))
          have hr1 := goodReq.below hr0.out hb1
          obtain ⟨a5, c5', W3, hap, hO3, hF3⟩ := hpush.out _ hB2.out hO1 hr1
          have e6 : (wr.alloc (.cells (reqCs x (.slice a1 x.args.length k1)).toArray 25 (0, 0))).heap.size = wr.heap.size + 1 := by simp
          rw [e6] at hap
          clear e6
          have hB3 := hid (hB2.out.trans hF3)
          have d0 : (wr.alloc (.cells (reqCs x (.slice a1 x.args.length k1)).toArray 25 (0, 0))).cell? ⟨wr.heap.size, 0, none⟩ = some (sv x.path) := (cell_of hbx.out).trans rfl
          have hnx2 : Hid ((pairsF a b (k + 1)).length = nx) := hid (by rw [hps.out, List.append_nil, hnx.out])
          have hO4 := hid (show RowQ w.heap.size w1.heap.size W3 (onlyF a b (k + 1)) (.slice a5 (RL.length + 1) c5') by rw [hos.out]; exact hO3)
          clear hO3 hO1 hb1 hF3 hpa hmn hp hpush d0
          go_wp2_with (first | (at_builtin; refine wpList_append_shut rfl (.tmp 35) (.tmp 37) rfl rfl rfl hap ?_))
          exact ⟨⟨k + 1, by go_num, by omega, by rw [hnx2.out], hO4, hB3⟩, by simp [intOf]; omega⟩
    · obtain rfl : k = a.length := by omega
      have hB2 := hB1.trans (hB.out.mono hsz1)
      go_wp2_with fail
      go_ret
      exact ⟨_, rfl, hO.out.1.mono goodReq fun _ _ _ => trivial, hB2⟩
end Go.Proofs.YtnbhpicmflagcaaDoor
