/- MatchOnce walked. -/
import Derived.Test.YtnbhpicmflagcaaDoorMatY
set_option linter.unusedVariables false
set_option linter.unusedSimpArgs false
namespace Go.Proofs.YtnbhpicmflagcaaDoor
open Go.RowKit
open Go.Lib (hid)
/-- a row of marks -/
def RowB (g n : Nat) (f : Nat → Bool) (W : World) : Prop := W.heap[g]? = some (.cells (arrW n fun j => .bool (f j)) 4 (0, 0))
theorem RowB.at {g n : Nat} {f : Nat → Bool} {W : World} (h : RowB g n f W) {k : Nat} (hk : k < n) : W.cell? ⟨g, k, none⟩ = some (.bool (f k)) := (cell_of h).trans (arr_at _ hk)
theorem RowB.set {g n : Nat} {f f' : Nat → Bool} {W : World} (h : RowB g n f W) (k : Nat) (h1 : f' k = true) (h2 : ∀ j, j < n → j ≠ k → f' j = f j) : RowB g n f' (W.setCell ⟨g, k, none⟩ (.bool true)) := by
  unfold RowB
  rw [← arr_set (fun j => .bool (f j)) k (.bool true) (fun j => .bool (f' j)) (by rw [h1]) (fun j hj hk => by rw [h2 j hj hk])]
  exact heap_setCell_same h _
theorem RowB.below {g n : Nat} {f : Nat → Bool} {W W' : World} (h : RowB g n f W) (hb : Below W.heap.size W W') : RowB g n f W' := below_keep hb h (lt_of_some h)
theorem RowB.sl {g n : Nat} {f : Nat → Bool} {W : World} (h : RowB g n f W) : SlR 1 BoolR (fun _ => True) W ((List.range n).map f) (.slice (some ⟨g, 0, none⟩) n n) := by
  have := SlR.of_block (R := BoolR) (S := fun _ => True) (W := W) (b := g) (l := (List.range n).map f) (css := (List.range n).map fun j => [Value.bool (f j)]) (sz := 1) (E := 4) (fr := (0, 0)) (by simp) (fun cs hc => by obtain ⟨j, _, rfl⟩ := List.mem_map.1 hc; rfl) (by
    rw [h]
    congr 2
    unfold arrW
    congr 1
    induction (List.range n) with
    | nil => rfl
    | cons x r ih => rw [List.map_cons, List.map_cons, List.flatten_cons, ← ih]; rfl) trivial (fun i x cs hx hc => by
    rw [List.getElem?_map] at hx hc
    cases hi : (List.range n)[i]? with
    | none => rw [hi] at hx; cases hx
    | some j =>
      rw [hi] at hx hc
      simp only [Option.map_some, Option.some.injEq] at hx hc
      subst hx hc
      rfl)
  simpa using this
theorem infoBoolG : (Tryd.prog.info? 4).map (fun i => (i.zero, i.size, i.bytes)) = some (some (.bool false), 1, 1) := by kernel_rfl
set_option maxRecDepth 100000 in
theorem mkB (n : Nat) (hn : n ≤ 1048576) (W : World) : (Instr.makeSlice 39 (.int .i64 (n : Int)) (.int .i64 (n : Int))).run Tryd.prog W = .ok (.slice (some ⟨W.heap.size, 0, none⟩) n n) (W.alloc (.cells (arrW n fun _ => .bool false) 4 (0, 0))) := by
  obtain ⟨i0, hi, hz0, hz1, hz2⟩ := info_parts infoBoolG
  have h := run_make (P := Tryd.prog) W 39 4 i0 _ (by kernel_rfl) hi hz0 .i64 .i64 (n : Int) (n : Int) (by omega) (Int.le_refl _) (by rw [hz2]; omega) (by omega)
  rw [h, Int.toNat_natCast, hz1, Nat.mul_one]
  congr 3
  apply Array.ext_getElem?
  intro j
  by_cases hj : j < n
  · rw [arr_at _ hj]
    simp [madeCells, hj, Value.cells, Nat.mod_one]
  · rw [Array.getElem?_eq_none (by simp [madeCells]; omega), Array.getElem?_eq_none (by rw [arr_size]; omega)]
/-- MatchOnce's memory -/
structure OM (B gl gr : Nat) (a b : List Req) (va vb vp : Value) (P : List (Nat × Nat)) (L R : Nat → Bool) (W0 W : World) : Prop where
  ra : ReqsR (fun q => q < B) W a va
  rb : ReqsR (fun q => q < B) W b vb
  rp : SlR 2 PairR (fun q => q < gl) W P vp
  ll : RowB gl a.length L W
  rr : RowB gr b.length R W
  bel : Below B W0 W
theorem OM.below {B gl gr : Nat} {a b : List Req} {va vb vp : Value} {P : List (Nat × Nat)} {L R : Nat → Bool} {W0 W W' : World} (h : OM B gl gr a b va vb vp P L R W0 W) (hB : B ≤ W.heap.size) (hb : Below W.heap.size W W') : OM B gl gr a b va vb vp P L R W0 W' :=
  ⟨h.ra.below goodReq hb, h.rb.below goodReq hb, h.rp.below goodPair hb, h.ll.below hb, h.rr.below hb, h.bel.trans (hb.mono hB)⟩
theorem OM.mark {B gl x y : Nat} {a b : List Req} {va vb vp : Value} {P : List (Nat × Nat)} {L R L' R' : Nat → Bool} {W0 W : World} (h : OM B gl (gl + 1) a b va vb vp P L R W0 W) (hB : B ≤ gl)
    (hL1 : L' x = true) (hL2 : ∀ j, j < a.length → j ≠ x → L' j = L j) (hR1 : R' y = true) (hR2 : ∀ j, j < b.length → j ≠ y → R' j = R j) :
    OM B gl (gl + 1) a b va vb vp P L' R' W0 ((W.setCell ⟨gl, x, none⟩ (.bool true)).setCell ⟨gl + 1, y, none⟩ (.bool true)) := by
  have hs : ∀ k, k ≠ gl → k ≠ gl + 1 → ((W.setCell ⟨gl, x, none⟩ (.bool true)).setCell ⟨gl + 1, y, none⟩ (.bool true)).heap[k]? = W.heap[k]? := fun k h1 h2 => (heap_setCell_other _ h2).trans (heap_setCell_other _ h1)
  refine ⟨h.ra.move goodReq fun k hk hf => ⟨hf, hs k (by omega) (by omega)⟩, h.rb.move goodReq fun k hk hf => ⟨hf, hs k (by omega) (by omega)⟩, h.rp.move goodPair fun k hk hf => ⟨hf, hs k (by omega) (by omega)⟩, ?_, ?_, (h.bel.setCell hB _).setCell (by show B ≤ gl + 1; omega) _⟩
  · exact (heap_setCell_other _ (by omega)).trans (h.ll.set x hL1 hL2)
  · have h1 : RowB (gl + 1) b.length R (W.setCell ⟨gl, x, none⟩ (.bool true)) := (heap_setCell_other _ (by omega)).trans h.rr
    exact h1.set y hR1 hR2
theorem idxB (g n k : Nat) (hk : k < n) (kd : IntKind) (W : World) : (Instr.indexAt 39 (.slice (some ⟨g, 0, none⟩) n n) (.int kd (k : Int))).run Tryd.prog W = .ok (.pointer (some ⟨g, k, none⟩)) W := by
  have := row_idx (P := Tryd.prog) (t := 39) (sz := 1) (by kernel_rfl) (fun _ => by kernel_rfl) (rfl : (some ⟨g, 0, none⟩ : Option Addr) = some ⟨g, 0, none⟩) n n k hk kd W
  simpa using this
set_option maxHeartbeats 8000000 in
set_option maxRecDepth 100000 in
theorem MatchOnce_walk (a b : List Req) (va vb : Value) (w0 : World) (ht : TabR w0) (ha : ReqsB a) (hb : ReqsB b) (hRa : ReqsR (fun _ => True) w0 a va) (hRb : ReqsR (fun _ => True) w0 b vb) :
    Calls Tryd.prog 4 #[va, vb] w0 fun e w' => e = .returned (.bool true) ∧ Below w0.heap.size w0 w' := by
  obtain ⟨aa, ca, rfl, -⟩ := hRa.slice
  obtain ⟨ab, cb, rfl, -⟩ := hRb.slice
  have hla := ha.1
  have hlb := hb.1
  replace hRa := hid (hRa.mono goodReq (T := fun k => k < w0.heap.size) fun k hk _ => hk)
  replace hRb := hid (hRb.mono goodReq (T := fun k => k < w0.heap.size) fun k hk _ => hk)
  replace ht := hid ht
  replace ha := hid ha
  replace hb := hid hb
  go_enter Tryd.func4, Tryd.ntmps4
  go_wp2_with fail
  refine (small_any w0 ht.out).mono ?_
  rintro e w1 ⟨rfl, hb1⟩
  replace hb1 := hid hb1
  go_wp2_with fail
  refine (few_any a ha.out _ _ w1 (hRa.out.below goodReq hb1.out)).mono ?_
  rintro e w2 ⟨f, rfl, hf, hbb⟩
  have hB2 := hid (hb1.out.trans (hbb.mono hb1.out.size))
  clear hbb hb1
  cases f with
  | false =>
    clear hf
    go_wp2_with fail
    go_ret
    exact ⟨rfl, hB2.out⟩
  | true =>
    have hFa : Hid (FewP a) := hid (hf rfl)
    clear hf
    go_wp2_with fail
    refine (few_any b hb.out _ _ w2 (hRb.out.below goodReq hB2.out)).mono ?_
    rintro e w3 ⟨f, rfl, hf, hbb⟩
    have hB3 := hid (hB2.out.trans (hbb.mono hB2.out.size))
    clear hbb hB2
    cases f with
    | false =>
      clear hf
      go_wp2_with fail
      go_ret
      exact ⟨rfl, hB3.out⟩
    | true =>
      have hFb : Hid (FewP b) := hid (hf rfl)
      clear hf
      have hKa := hid (fun x (hx : x ∈ a) => few_key (hFa.out.2 x hx))
      have hKb := hid (fun x (hx : x ∈ b) => few_key (hFb.out.2 x hx))
      go_wp2_with fail
      refine (pairs_any a b ha.out hb.out hKa.out hKb.out _ _ _ _ w3 (ht.out.below hB3.out (Nat.le_refl _)) (hRa.out.below goodReq hB3.out) (hRb.out.below goodReq hB3.out)).mono ?_
      rintro e w4 ⟨vp, rfl, hP, hbb⟩
      have hB4 := hid (hB3.out.trans (hbb.mono hB3.out.size))
      obtain ⟨P, hPe⟩ : ∃ P, P = pairsF a b a.length := ⟨_, rfl⟩
      rw [← hPe] at hP
      have hPl : P.length ≤ a.length := by rw [hPe]; exact pairs_len _ _ _
      replace hPe := hid hPe
      have hPs := hid ((OwnR.sl goodPair hP).mono goodPair (T := fun q => q < w4.heap.size) fun q hq _ => hq)
      obtain ⟨ap, cp, rfl, -⟩ := hPs.out.slice
      clear hbb hP hB3
      have hmkA := fun W => mkB a.length hla W
      have hmkB := fun W => mkB b.length hlb W
      have hbm1 : Below w4.heap.size w4 (w4.alloc (.cells (arrW a.length fun _ => .bool false) 4 (0, 0))) := (Below.refl _ _).alloc (Nat.le_refl _) _
      have hbm : Below w4.heap.size w4 ((w4.alloc (.cells (arrW a.length fun _ => .bool false) 4 (0, 0))).alloc (.cells (arrW b.length fun _ => .bool false) 4 (0, 0))) := hbm1.alloc (by simp) _
      have hsz4 := hB4.out.size
      have hOM : OM w0.heap.size w4.heap.size (w4.heap.size + 1) a b (.slice aa a.length ca) (.slice ab b.length cb) (.slice ap P.length cp) P (lefF P 0) (rigF P 0) w0 ((w4.alloc (.cells (arrW a.length fun _ => .bool false) 4 (0, 0))).alloc (.cells (arrW b.length fun _ => .bool false) 4 (0, 0))) := by
        have hBz := hB4.out.trans (hbm.mono hsz4)
        refine ⟨hRa.out.below goodReq hBz, hRb.out.below goodReq hBz, hPs.out.below goodPair hbm, heap_alloc_lt (heap_alloc_new' _ _), ?_, hBz⟩
        have e := heap_alloc_new' (w4.alloc (.cells (arrW a.length fun _ => .bool false) 4 (0, 0))) (.cells (arrW b.length fun _ => .bool false) 4 (0, 0))
        have e2 : (w4.alloc (.cells (arrW a.length fun _ => .bool false) 4 (0, 0))).heap.size = w4.heap.size + 1 := by simp
        rw [e2] at e
        exact e
      obtain ⟨g4, hg4⟩ : ∃ g4, g4 = w4.heap.size := ⟨_, rfl⟩
      have hbg : w0.heap.size ≤ g4 := by omega
      rw [← hg4] at hOM
      clear hbm hbm1 hRa hRb hPs
      replace hOM := hid hOM
      replace hg4 := hid hg4
      go_wp2_with fail
      rw [← hg4.out]
      go_loopw [9] (fun i wr => ∃ k : Nat, i = .int .i64 k ∧ k ≤ P.length ∧ Hid (OM w0.heap.size g4 (g4 + 1) a b (.slice aa a.length ca) (.slice ab b.length cb) (.slice ap P.length cp) P (lefF P k) (rigF P k) w0 wr)) (fun i _ => P.length - (intOf i).toNat)
      case atStart => exact ⟨0, rfl, Nat.zero_le _, hOM⟩
      case round =>
        clear hOM
        obtain ⟨k, rfl, hk, hM⟩ := hrel
        by_cases hlt : k < P.length
        · obtain ⟨p, hp⟩ : ∃ p, P[k]? = some p := ⟨_, List.getElem?_eq_getElem hlt⟩
          obtain ⟨x, y⟩ := p
          have hp1 : (pairsF a b a.length)[k]? = some (x, y) := by rw [← hPe.out]; exact hp
          obtain ⟨hxl, hmt⟩ := pairs_mem.1 (List.mem_of_getElem? hp1)
          have hxl : x < a.length := hxl
          obtain ⟨hyl, hal0⟩ := mate_lt hmt
          have hyl : y < b.length := hyl
          have hax := at_rq hxl
          have hby := at_rq hyl
          obtain ⟨rx, hrx⟩ : ∃ rx, rx = rq a x := ⟨_, rfl⟩
          obtain ⟨ry, hry⟩ : ∃ ry, ry = rq b y := ⟨_, rfl⟩
          have hal : dec (AlikeP rx ry) = true := dec_true (by rw [hrx, hry]; exact hal0.symm')
          rw [← hrx] at hax
          rw [← hry] at hby
          have hL0 : lefF P k x = false := by rw [hPe.out]; exact lef_at hp1
          have hR0 : rigF P k y = false := by rw [hPe.out]; exact rig_at hp1
          have hL1 : lefF P (k + 1) x = true := by rw [lef_succ hp, hL0]; simp
          have hR1 : rigF P (k + 1) y = true := by rw [rig_succ hp, hR0]; simp
          have hL2 : ∀ j, j < a.length → j ≠ x → lefF P (k + 1) j = lefF P k j := fun j _ hj => by rw [lef_succ hp]; simp; intro h; exact absurd h.symm hj
          have hR2 : ∀ j, j < b.length → j ≠ y → rigF P (k + 1) j = rigF P k j := fun j _ hj => by rw [rig_succ hp]; simp; intro h; exact absurd h.symm hj
          have hprev : ∀ q, 0 < k → P[k - 1]? = some q → q.1 < x := fun q h0 hq => by
            rw [hPe.out] at hq
            exact pairs_lt a b hq hp1 (by omega)
          obtain ⟨g, o, cs, hidx, -, hg, hc, hr⟩ := hM.out.rp.at (P := Tryd.prog) (t := 34) (by kernel_rfl) (fun _ => by kernel_rfl) hp
          have hr' : cs = [iv x, iv y] := hr
          subst hr'
          have p0 := hc 0 _ rfl
          have p1 := hc 1 _ rfl
          rw [Nat.add_zero] at p0
          clear hc hr
          obtain ⟨ga, oa, csa, hidxa, -, hga, hca, hra⟩ := hM.out.ra.at (P := Tryd.prog) (t := 22) (by kernel_rfl) (fun _ => by kernel_rfl) hax
          obtain ⟨a1, k1, rfl, -⟩ := id hra
          have c0 := hca 0 _ rfl
          have c1 := hca 1 _ rfl
          have c2 := hca 2 _ rfl
          have c3 := hca 3 _ rfl
          have c4 := hca 4 _ rfl
          have c5 := hca 5 _ rfl
          have c6 := hca 6 _ rfl
          have c7 := hca 7 _ rfl
          rw [Nat.add_zero] at c0
          obtain ⟨gb, ob, csb, hidxb, -, hgb, hcb, hrb⟩ := hM.out.rb.at (P := Tryd.prog) (t := 22) (by kernel_rfl) (fun _ => by kernel_rfl) hby
          obtain ⟨a2, k2, rfl, -⟩ := id hrb
          have d0 := hcb 0 _ rfl
          have d1 := hcb 1 _ rfl
          have d2 := hcb 2 _ rfl
          have d3 := hcb 3 _ rfl
          have d4 := hcb 4 _ rfl
          have d5 := hcb 5 _ rfl
          have d6 := hcb 6 _ rfl
          have d7 := hcb 7 _ rfl
          rw [Nat.add_zero] at d0
          clear hca hcb
          have hidxL := fun kd W => idxB g4 a.length x hxl kd W
          have hidxR := fun kd W => idxB (g4 + 1) b.length y hyl kd W
          have f0 := hM.out.ll.at hxl
          have f1 := hM.out.rr.at hyl
          rw [hL0] at f0
          rw [hR0] at f1
          have hgl := lt_of_some hM.out.ll
          have hgr := lt_of_some hM.out.rr
          have hrxB := ha.out.2 rx (List.mem_of_getElem? hax)
          have hryB := hb.out.2 ry (List.mem_of_getElem? hby)
          have hBw : w0.heap.size ≤ wr.heap.size := by omega
          have g1 : decide ((x : Int) ≥ (a.length : Int)) = false := decide_eq_false (by omega)
          have g1n : decide (a.length ≤ x) = false := decide_eq_false (by omega)
          have g2 : decide ((y : Int) ≥ (b.length : Int)) = false := decide_eq_false (by omega)
          have g2n : decide (b.length ≤ y) = false := decide_eq_false (by omega)
          have g3 : decide ((x : Int) < 0) = false := decide_eq_false (by omega)
          have g4' : decide ((y : Int) < 0) = false := decide_eq_false (by omega)
          replace hra := hid hra
          replace hrb := hid hrb
          replace hal := hid hal
          replace hL1 := hid hL1
          replace hR1 := hid hR1
          replace hL2 := hid hL2
          replace hR2 := hid hR2
          replace hrx := hid hrx
          replace hry := hid hry
          replace hp1 := hid hp1
          replace hmt := hid hmt
          clear hL0 hR0 hal0
          have hfin : ∀ wq, Below wr.heap.size wr wq → Hid (OM w0.heap.size g4 (g4 + 1) a b (.slice aa a.length ca) (.slice ab b.length cb) (.slice ap P.length cp) P (lefF P (k + 1)) (rigF P (k + 1)) w0 ((wq.setCell ⟨g4, x, none⟩ (.bool true)).setCell ⟨g4 + 1, y, none⟩ (.bool true))) := fun wq hq =>
            hid ((hM.out.below hBw hq).mark hbg hL1.out hL2.out hR1.out hR2.out)
          have hcell : ∀ wq, Below wr.heap.size wr wq → wq.cell? ⟨g4, x, none⟩ = some (.bool false) ∧ wq.cell? ⟨g4 + 1, y, none⟩ = some (.bool false) ∧ wq.frozen? ⟨g4, x, none⟩ = false ∧ wq.frozen? ⟨g4 + 1, y, none⟩ = false := fun wq hq =>
            ⟨(hq.cell (p := ⟨g4, x, none⟩) hgl).trans f0, (hq.cell (p := ⟨g4 + 1, y, none⟩) hgr).trans f1, free_of (hM.out.ll.below hq), free_of (hM.out.rr.below hq)⟩
          replace hfin := hid hfin
          replace hcell := hid hcell
          by_cases hk0 : 0 < k
          · obtain ⟨q, hq⟩ : ∃ q, P[k - 1]? = some q := ⟨_, List.getElem?_eq_getElem (by omega)⟩
            have hqx := hprev q hk0 hq
            obtain ⟨gq, oq, csq, hidxq, -, hgq, hcq, hrq⟩ := hM.out.rp.at (P := Tryd.prog) (t := 34) (by kernel_rfl) (fun _ => by kernel_rfl) hq
            have hrq' : csq = [iv q.1, iv q.2] := hrq
            subst hrq'
            have z0 := hcq 0 _ rfl
            rw [Nat.add_zero] at z0
            clear hcq hrq
            have hwk : IntKind.i64.wrap ((k : Int) - 1) = ((k - 1 : Nat) : Int) := by rw [IntKind.wrap_i64]; omega
            have t1 : decide ((k : Int) > 0) = true := decide_eq_true (by omega)
            have t2 : decide ((x : Int) ≤ (q.1 : Int)) = false := decide_eq_false (by omega)
            have t2n : decide (x ≤ q.1) = false := decide_eq_false (by omega)
            go_wp2_with fail
            refine wp_region_held_drew (S := (fun w9 => Below wr.heap.size wr w9)) (by kernel_rfl) ?_ (fun hHeld => ?_)
            · exact (Below.refl _ _).drew
            generalize wr.drew = wd at *
            refine wpAnyH_take (i := 0) (oi := ⟨_, _, _, _, _, _⟩) (v := ?_) rfl (by kernel_rfl) (by kernel_rfl) (by kernel_rfl) (fun _ _ _ h => h) (Or.inl ⟨by rfl, ?hy⟩) (by assumption) ?_
            case hy =>
              intro w hSw
              skip
              go_simp
              all_goals with_reducible rfl
            try simp only [Act.put, List.setIfInBounds_toArray, List.set_cons_zero, List.set_cons_succ]
            refine wpAnyH_take (i := 1) (oi := ⟨_, _, _, _, _, _⟩) (v := ?_) rfl (by kernel_rfl) (by kernel_rfl) (by kernel_rfl) (fun _ _ _ h => h) (Or.inl ⟨by rfl, ?hy⟩) (by assumption) ?_
            case hy =>
              intro w hSw
              skip
              go_simp
              all_goals with_reducible rfl
            try simp only [Act.put, List.setIfInBounds_toArray, List.set_cons_zero, List.set_cons_succ]
            refine wpAnyH_take (i := 2) (oi := ⟨_, _, _, _, _, _⟩) (v := ?_) rfl (by kernel_rfl) (by kernel_rfl) (by kernel_rfl) (fun _ _ _ h => h) (Or.inl ⟨by rfl, ?hy⟩) (by assumption) ?_
            case hy =>
              intro w hSw
              skip
              go_simp
              all_goals with_reducible rfl
            try simp only [Act.put, List.setIfInBounds_toArray, List.set_cons_zero, List.set_cons_succ]
            refine wpAnyH_take (i := 3) (oi := ⟨_, _, _, _, _, _⟩) (v := ?_) rfl (by kernel_rfl) (by kernel_rfl) (by kernel_rfl) (fun _ _ _ h => h) (Or.inl ⟨by rfl, ?hy⟩) (by assumption) ?_
            case hy =>
              intro w hSw
              skip
              go_simp
              all_goals with_reducible rfl
            try simp only [Act.put, List.setIfInBounds_toArray, List.set_cons_zero, List.set_cons_succ]
            refine wpAnyH_take (i := 4) (oi := ⟨_, _, _, _, _, _⟩) (v := ?_) rfl (by kernel_rfl) (by kernel_rfl) (by kernel_rfl) (fun _ _ _ h => h) (Or.inl ⟨by rfl, ?hy⟩) (by assumption) ?_
            case hy =>
              intro w hSw
              skip
              go_simp
              all_goals with_reducible rfl
            try simp only [Act.put, List.setIfInBounds_toArray, List.set_cons_zero, List.set_cons_succ]
            refine wpAnyH_take (i := 5) (oi := ⟨_, _, _, _, _, _⟩) (v := ?_) rfl (by kernel_rfl) (by kernel_rfl) (by kernel_rfl) (fun _ _ _ h => h) (Or.inl ⟨by rfl, ?hy⟩) (by assumption) ?_
            case hy =>
              intro w hSw
              skip
              go_simp
              all_goals with_reducible rfl
            try simp only [Act.put, List.setIfInBounds_toArray, List.set_cons_zero, List.set_cons_succ]
            refine wpAnyH_take (i := 6) (oi := ⟨_, _, _, _, _, _⟩) (v := ?_) rfl (by kernel_rfl) (by kernel_rfl) (by kernel_rfl) (fun _ _ _ h => h) (Or.inl ⟨by rfl, ?hy⟩) (by assumption) ?_
            case hy =>
              intro w hSw
              skip
              go_simp
              all_goals with_reducible rfl
            try simp only [Act.put, List.setIfInBounds_toArray, List.set_cons_zero, List.set_cons_succ]
            refine wpAnyH_take (i := 7) (oi := ⟨_, _, _, _, _, _⟩) (v := ?_) rfl (by kernel_rfl) (by kernel_rfl) (by kernel_rfl) (fun _ _ _ h => h) (Or.inl ⟨by rfl, ?hy⟩) (by assumption) ?_
            case hy =>
              intro w hSw
              skip
              go_simp
              all_goals with_reducible rfl
            try simp only [Act.put, List.setIfInBounds_toArray, List.set_cons_zero, List.set_cons_succ]
            refine wpAnyH_take (i := 8) (oi := ⟨_, _, _, _, _, _⟩) (v := ?_) rfl (by kernel_rfl) (by kernel_rfl) (by kernel_rfl) (fun _ _ _ h => h) (Or.inl ⟨by rfl, ?hy⟩) (by assumption) ?_
            case hy =>
              intro w hSw
              skip
              go_simp
              all_goals with_reducible rfl
            try simp only [Act.put, List.setIfInBounds_toArray, List.set_cons_zero, List.set_cons_succ]
            refine wpAnyH_take (i := 9) (oi := ⟨_, _, _, _, _, _⟩) (v := ?_) rfl (by kernel_rfl) (by kernel_rfl) (by kernel_rfl) (fun _ _ _ h => h) (Or.inl ⟨by rfl, ?hy⟩) (by assumption) ?_
            case hy =>
              intro w hSw
              skip
              go_simp
              all_goals with_reducible rfl
            try simp only [Act.put, List.setIfInBounds_toArray, List.set_cons_zero, List.set_cons_succ]
            refine wpAnyH_take (i := 10) (oi := ⟨_, _, _, _, _, _⟩) (v := ?_) rfl (by kernel_rfl) (by kernel_rfl) (by kernel_rfl) (fun _ _ _ h => h) (Or.inl ⟨by rfl, ?hy⟩) (by assumption) ?_
            case hy =>
              intro w hSw
              skip
              go_simp
              all_goals with_reducible rfl
            try simp only [Act.put, List.setIfInBounds_toArray, List.set_cons_zero, List.set_cons_succ]
            refine wpAnyH_take (i := 11) (oi := ⟨_, _, _, _, _, _⟩) (v := ?_) rfl (by kernel_rfl) (by kernel_rfl) (by kernel_rfl) (fun _ _ _ h => h) (Or.inl ⟨by rfl, ?hy⟩) (by assumption) ?_
            case hy =>
              intro w hSw
              skip
              go_simp
              all_goals with_reducible rfl
            try simp only [Act.put, List.setIfInBounds_toArray, List.set_cons_zero, List.set_cons_succ]
            refine wpAnyH_take (i := 12) (oi := ⟨_, _, _, _, _, _⟩) (v := ?_) rfl (by kernel_rfl) (by kernel_rfl) (by kernel_rfl) (fun _ _ _ h => h) (Or.inl ⟨by rfl, ?hy⟩) (by assumption) ?_
            case hy =>
              intro w hSw
              skip
              go_simp
              all_goals with_reducible rfl
            try simp only [Act.put, List.setIfInBounds_toArray, List.set_cons_zero, List.set_cons_succ]
            refine wpAnyH_take (i := 13) (oi := ⟨_, _, _, _, _, _⟩) (v := ?_) rfl (by kernel_rfl) (by kernel_rfl) (by kernel_rfl) (fun _ _ _ h => h) (Or.inl ⟨by rfl, ?hy⟩) (by assumption) ?_
            case hy =>
              intro w hSw
              skip
              go_simp
              all_goals with_reducible rfl
            try simp only [Act.put, List.setIfInBounds_toArray, List.set_cons_zero, List.set_cons_succ]
            refine wpAnyH_take (i := 14) (oi := ⟨_, _, _, _, _, _⟩) (v := ?_) rfl (by kernel_rfl) (by kernel_rfl) (by kernel_rfl) (fun _ _ _ h => h) (Or.inl ⟨by rfl, ?hy⟩) (by assumption) ?_
            case hy =>
              intro w hSw
              skip
              go_simp
              all_goals with_reducible rfl
            try simp only [Act.put, List.setIfInBounds_toArray, List.set_cons_zero, List.set_cons_succ]
            refine wpAnyH_take (i := 15) (oi := ⟨_, _, _, _, _, _⟩) (v := ?_) rfl (by kernel_rfl) (by kernel_rfl) (by kernel_rfl) (fun _ _ _ h => h) (Or.inl ⟨by rfl, ?hy⟩) (by assumption) ?_
            case hy =>
              intro w hSw
              skip
              go_simp
              all_goals with_reducible rfl
            try simp only [Act.put, List.setIfInBounds_toArray, List.set_cons_zero, List.set_cons_succ]
            refine wpAnyH_take (i := 16) (oi := ⟨_, _, _, _, _, _⟩) (v := ?_) rfl (by kernel_rfl) (by kernel_rfl) (by kernel_rfl) (fun _ _ _ h => h) (Or.inl ⟨by rfl, ?hy⟩) (by assumption) ?_
            case hy =>
              intro w hSw
              skip
              go_simp
              all_goals with_reducible rfl
            try simp only [Act.put, List.setIfInBounds_toArray, List.set_cons_zero, List.set_cons_succ]
            refine wpAnyH_take (i := 17) (oi := ⟨_, _, _, _, _, _⟩) (v := ?_) rfl (by kernel_rfl) (by kernel_rfl) (by kernel_rfl) (fun _ _ _ h => h) (Or.inl ⟨by rfl, ?hy⟩) (by assumption) ?_
            case hy =>
              intro w hSw
              skip
              go_simp
              all_goals with_reducible rfl
            try simp only [Act.put, List.setIfInBounds_toArray, List.set_cons_zero, List.set_cons_succ]
            refine wpAnyH_take (i := 18) (oi := ⟨_, _, _, _, _, _⟩) (v := ?_) rfl (by kernel_rfl) (by kernel_rfl) (by kernel_rfl) (fun _ _ _ h => h) (Or.inl ⟨by rfl, ?hy⟩) (by assumption) ?_
            case hy =>
              intro w hSw
              skip
              go_simp
              all_goals with_reducible rfl
            try simp only [Act.put, List.setIfInBounds_toArray, List.set_cons_zero, List.set_cons_succ]
            refine wpAnyH_take (i := 19) (oi := ⟨_, _, _, _, _, _⟩) (v := ?_) rfl (by kernel_rfl) (by kernel_rfl) (by kernel_rfl) (fun _ _ _ h => h) (Or.inl ⟨by rfl, ?hy⟩) (by assumption) ?_
            case hy =>
              intro w hSw
              skip
              go_simp
              all_goals with_reducible rfl
            try simp only [Act.put, List.setIfInBounds_toArray, List.set_cons_zero, List.set_cons_succ]
            refine wpAnyH_take (i := 20) (oi := ⟨_, _, _, _, _, _⟩) (v := ?_) rfl (by kernel_rfl) (by kernel_rfl) (by kernel_rfl) (fun _ _ _ h => h) (Or.inl ⟨by rfl, ?hy⟩) (by assumption) ?_
            case hy =>
              intro w hSw
              skip
              go_simp
              all_goals with_reducible rfl
            try simp only [Act.put, List.setIfInBounds_toArray, List.set_cons_zero, List.set_cons_succ]
            refine wpAnyH_take (i := 21) (oi := ⟨_, _, _, _, _, _⟩) (v := ?_) rfl (by kernel_rfl) (by kernel_rfl) (by kernel_rfl) (fun _ _ _ h => h) (Or.inl ⟨by rfl, ?hy⟩) (by assumption) ?_
            case hy =>
              intro w hSw
              skip
              go_simp
              all_goals with_reducible rfl
            try simp only [Act.put, List.setIfInBounds_toArray, List.set_cons_zero, List.set_cons_succ]
            refine wpAnyH_take (i := 22) (oi := ⟨_, _, _, _, _, _⟩) (v := ?_) rfl (by kernel_rfl) (by kernel_rfl) (by kernel_rfl) (fun _ _ _ h => h) (Or.inl ⟨by rfl, ?hy⟩) (by assumption) ?_
            case hy =>
              intro w hSw
              have f0 : w.cell? ⟨g4, x, none⟩ = some (.bool false) := (hSw.cell (p := ⟨g4, x, none⟩) hgl).trans f0
              go_simp
              all_goals with_reducible rfl
            try simp only [Act.put, List.setIfInBounds_toArray, List.set_cons_zero, List.set_cons_succ]
            refine wpAnyH_take (i := 23) (oi := ⟨_, _, _, _, _, _⟩) (v := ?_) rfl (by kernel_rfl) (by kernel_rfl) (by kernel_rfl) (fun _ _ _ h => h) (Or.inl ⟨by rfl, ?hy⟩) (by assumption) ?_
            case hy =>
              intro w hSw
              skip
              go_simp
              all_goals with_reducible rfl
            try simp only [Act.put, List.setIfInBounds_toArray, List.set_cons_zero, List.set_cons_succ]
            refine wpAnyH_take (i := 24) (oi := ⟨_, _, _, _, _, _⟩) (v := ?_) rfl (by kernel_rfl) (by kernel_rfl) (by kernel_rfl) (fun _ _ _ h => h) (Or.inl ⟨by rfl, ?hy⟩) (by assumption) ?_
            case hy =>
              intro w hSw
              skip
              go_simp
              all_goals with_reducible rfl
            try simp only [Act.put, List.setIfInBounds_toArray, List.set_cons_zero, List.set_cons_succ]
            refine wpAnyH_take (i := 25) (oi := ⟨_, _, _, _, _, _⟩) (v := ?_) rfl (by kernel_rfl) (by kernel_rfl) (by kernel_rfl) (fun _ _ _ h => h) (Or.inl ⟨by rfl, ?hy⟩) (by assumption) ?_
            case hy =>
              intro w hSw
              skip
              go_simp
              all_goals with_reducible rfl
            try simp only [Act.put, List.setIfInBounds_toArray, List.set_cons_zero, List.set_cons_succ]
            refine wpAnyH_take (i := 26) (oi := ⟨_, _, _, _, _, _⟩) (v := ?_) rfl (by kernel_rfl) (by kernel_rfl) (by kernel_rfl) (fun _ _ _ h => h) (Or.inl ⟨by rfl, ?hy⟩) (by assumption) ?_
            case hy =>
              intro w hSw
              skip
              go_simp
              all_goals with_reducible rfl
            try simp only [Act.put, List.setIfInBounds_toArray, List.set_cons_zero, List.set_cons_succ]
            refine wpAnyH_take (i := 27) (oi := ⟨_, _, _, _, _, _⟩) (v := ?_) rfl (by kernel_rfl) (by kernel_rfl) (by kernel_rfl) (fun _ _ _ h => h) (Or.inl ⟨by rfl, ?hy⟩) (by assumption) ?_
            case hy =>
              intro w hSw
              skip
              go_simp
              all_goals with_reducible rfl
            try simp only [Act.put, List.setIfInBounds_toArray, List.set_cons_zero, List.set_cons_succ]
            refine wpAnyH_take (i := 28) (oi := ⟨_, _, _, _, _, _⟩) (v := ?_) rfl (by kernel_rfl) (by kernel_rfl) (by kernel_rfl) (fun _ _ _ h => h) (Or.inl ⟨by rfl, ?hy⟩) (by assumption) ?_
            case hy =>
              intro w hSw
              have f1 : w.cell? ⟨g4 + 1, y, none⟩ = some (.bool false) := (hSw.cell (p := ⟨g4 + 1, y, none⟩) hgr).trans f1
              go_simp
              all_goals with_reducible rfl
            try simp only [Act.put, List.setIfInBounds_toArray, List.set_cons_zero, List.set_cons_succ]
            refine wpAnyH_take (i := 29) (oi := ⟨_, _, _, _, _, _⟩) (v := ?_) rfl (by kernel_rfl) (by kernel_rfl) (by kernel_rfl) (fun _ _ _ h => h) (Or.inl ⟨by rfl, ?hy⟩) (by assumption) ?_
            case hy =>
              intro w hSw
              skip
              go_simp
              all_goals with_reducible rfl
            try simp only [Act.put, List.setIfInBounds_toArray, List.set_cons_zero, List.set_cons_succ]
            refine wpAnyH_take (i := 30) (oi := ⟨_, _, _, _, _, _⟩) (v := ?_) rfl (by kernel_rfl) (by kernel_rfl) (by kernel_rfl) (fun _ _ _ h => h) (Or.inl ⟨by rfl, ?hy⟩) (by assumption) ?_
            case hy =>
              intro w hSw
              skip
              go_simp
              all_goals with_reducible rfl
            try simp only [Act.put, List.setIfInBounds_toArray, List.set_cons_zero, List.set_cons_succ]
            refine wpAnyH_take (i := 31) (oi := ⟨_, _, _, _, _, _⟩) (v := ?_) rfl (by kernel_rfl) (by kernel_rfl) (by kernel_rfl) (fun _ _ _ h => h) (Or.inl ⟨by rfl, ?hy⟩) (by assumption) ?_
            case hy =>
              intro w hSw
              skip
              go_simp
              all_goals with_reducible rfl
            try simp only [Act.put, List.setIfInBounds_toArray, List.set_cons_zero, List.set_cons_succ]
            refine wpAnyH_take (i := 32) (oi := ⟨_, _, _, _, _, _⟩) (v := ?_) rfl (by kernel_rfl) (by kernel_rfl) (by kernel_rfl) (fun _ _ _ h => h) (Or.inl ⟨by rfl, ?hy⟩) (by assumption) ?_
            case hy =>
              intro w hSw
              skip
              go_simp
              all_goals with_reducible rfl
            try simp only [Act.put, List.setIfInBounds_toArray, List.set_cons_zero, List.set_cons_succ]
            refine wpAnyH_take (i := 33) (oi := ⟨_, _, _, _, _, _⟩) (v := ?_) rfl (by kernel_rfl) (by kernel_rfl) (by kernel_rfl) (fun _ _ _ h => h) (Or.inl ⟨by rfl, ?hy⟩) (by assumption) ?_
            case hy =>
              intro w hSw
              skip
              go_simp
              all_goals with_reducible rfl
            try simp only [Act.put, List.setIfInBounds_toArray, List.set_cons_zero, List.set_cons_succ]
            refine wpAnyH_take (i := 34) (oi := ⟨_, _, _, _, _, _⟩) (v := ?_) rfl (by kernel_rfl) (by kernel_rfl) (by kernel_rfl) (fun _ _ _ h => h) (Or.inl ⟨by rfl, ?hy⟩) (by assumption) ?_
            case hy =>
              intro w hSw
              have c0 : w.cell? ⟨ga, oa, none⟩ = some (sv rx.path) := (hSw.cell (p := ⟨ga, oa, none⟩) hga).trans c0
              have c1 : w.cell? ⟨ga, oa + 1, none⟩ = some (sv rx.name) := (hSw.cell (p := ⟨ga, oa + 1, none⟩) hga).trans c1
              have c2 : w.cell? ⟨ga, oa + 2, none⟩ = some (.slice a1 rx.args.length k1) := (hSw.cell (p := ⟨ga, oa + 2, none⟩) hga).trans c2
              have c3 : w.cell? ⟨ga, oa + 3, none⟩ = some (iv rx.ord) := (hSw.cell (p := ⟨ga, oa + 3, none⟩) hga).trans c3
              have c4 : w.cell? ⟨ga, oa + 4, none⟩ = some (sv rx.reply) := (hSw.cell (p := ⟨ga, oa + 4, none⟩) hga).trans c4
              have c5 : w.cell? ⟨ga, oa + 5, none⟩ = some (iv rx.sent) := (hSw.cell (p := ⟨ga, oa + 5, none⟩) hga).trans c5
              have c6 : w.cell? ⟨ga, oa + 6, none⟩ = some (iv rx.tick) := (hSw.cell (p := ⟨ga, oa + 6, none⟩) hga).trans c6
              have c7 : w.cell? ⟨ga, oa + 7, none⟩ = some (.bool rx.opn) := (hSw.cell (p := ⟨ga, oa + 7, none⟩) hga).trans c7
              go_simp
              all_goals with_reducible rfl
            try simp only [Act.put, List.setIfInBounds_toArray, List.set_cons_zero, List.set_cons_succ]
            refine wpAnyH_take (i := 35) (oi := ⟨_, _, _, _, _, _⟩) (v := ?_) rfl (by kernel_rfl) (by kernel_rfl) (by kernel_rfl) (fun _ _ _ h => h) (Or.inl ⟨by rfl, ?hy⟩) (by assumption) ?_
            case hy =>
              intro w hSw
              skip
              go_simp
              all_goals with_reducible rfl
            try simp only [Act.put, List.setIfInBounds_toArray, List.set_cons_zero, List.set_cons_succ]
            refine wpAnyH_take (i := 36) (oi := ⟨_, _, _, _, _, _⟩) (v := ?_) rfl (by kernel_rfl) (by kernel_rfl) (by kernel_rfl) (fun _ _ _ h => h) (Or.inl ⟨by rfl, ?hy⟩) (by assumption) ?_
            case hy =>
              intro w hSw
              skip
              go_simp
              all_goals with_reducible rfl
            try simp only [Act.put, List.setIfInBounds_toArray, List.set_cons_zero, List.set_cons_succ]
            refine wpAnyH_take (i := 37) (oi := ⟨_, _, _, _, _, _⟩) (v := ?_) rfl (by kernel_rfl) (by kernel_rfl) (by kernel_rfl) (fun _ _ _ h => h) (Or.inl ⟨by rfl, ?hy⟩) (by assumption) ?_
            case hy =>
              intro w hSw
              skip
              go_simp
              all_goals with_reducible rfl
            try simp only [Act.put, List.setIfInBounds_toArray, List.set_cons_zero, List.set_cons_succ]
            refine wpAnyH_take (i := 38) (oi := ⟨_, _, _, _, _, _⟩) (v := ?_) rfl (by kernel_rfl) (by kernel_rfl) (by kernel_rfl) (fun _ _ _ h => h) (Or.inl ⟨by rfl, ?hy⟩) (by assumption) ?_
            case hy =>
              intro w hSw
              have d0 : w.cell? ⟨gb, ob, none⟩ = some (sv ry.path) := (hSw.cell (p := ⟨gb, ob, none⟩) hgb).trans d0
              have d1 : w.cell? ⟨gb, ob + 1, none⟩ = some (sv ry.name) := (hSw.cell (p := ⟨gb, ob + 1, none⟩) hgb).trans d1
              have d2 : w.cell? ⟨gb, ob + 2, none⟩ = some (.slice a2 ry.args.length k2) := (hSw.cell (p := ⟨gb, ob + 2, none⟩) hgb).trans d2
              have d3 : w.cell? ⟨gb, ob + 3, none⟩ = some (iv ry.ord) := (hSw.cell (p := ⟨gb, ob + 3, none⟩) hgb).trans d3
              have d4 : w.cell? ⟨gb, ob + 4, none⟩ = some (sv ry.reply) := (hSw.cell (p := ⟨gb, ob + 4, none⟩) hgb).trans d4
              have d5 : w.cell? ⟨gb, ob + 5, none⟩ = some (iv ry.sent) := (hSw.cell (p := ⟨gb, ob + 5, none⟩) hgb).trans d5
              have d6 : w.cell? ⟨gb, ob + 6, none⟩ = some (iv ry.tick) := (hSw.cell (p := ⟨gb, ob + 6, none⟩) hgb).trans d6
              have d7 : w.cell? ⟨gb, ob + 7, none⟩ = some (.bool ry.opn) := (hSw.cell (p := ⟨gb, ob + 7, none⟩) hgb).trans d7
              go_simp
              all_goals with_reducible rfl
            try simp only [Act.put, List.setIfInBounds_toArray, List.set_cons_zero, List.set_cons_succ]
            refine wpAnyH_ready (rs := [39]) (by kernel_rfl) (by simp) ?_
            refine AllReadyH.cons (o := ⟨_, _, _, _, _, _⟩) rfl (fun K hK => ?_) AllReadyH.nil
            go_simp
            go_at_call 15
            refine (alike_any rx ry hrxB hryB _ _ (reqCs rx (.slice a1 rx.args.length k1)) (reqCs ry (.slice a2 ry.args.length k2)) wd (goodReq.below hra.out hHeld) (goodReq.below hrb.out hHeld)).mono ?_
            rintro e wq ⟨rfl, hbq⟩
            rw [hal.out]
            have hZ := hHeld.trans (hbq.mono hHeld.size)
            refine hK.out _ _ ?_ (fun hHeld2 => ?_)
            · exact hZ
            clear hK K
            clear hHeld
            have hHeld := hHeld2
            clear hHeld2
            try simp only [Act.put, List.setIfInBounds_toArray, List.set_cons_zero, List.set_cons_succ]
            refine wpAnyH_take (i := 40) (oi := ⟨_, _, _, _, _, _⟩) (v := ?_) rfl (by kernel_rfl) (by kernel_rfl) (by kernel_rfl) (fun _ _ _ h => h) (Or.inl ⟨by rfl, ?hy⟩) (by assumption) ?_
            case hy =>
              intro w hSw
              skip
              go_simp
              all_goals with_reducible rfl
            try simp only [Act.put, List.setIfInBounds_toArray, List.set_cons_zero, List.set_cons_succ]
            refine wpAnyH_take (i := 41) (oi := ⟨_, _, _, _, _, _⟩) (v := ?_) rfl (by kernel_rfl) (by kernel_rfl) (by kernel_rfl) (fun _ _ _ h => h) (Or.inl ⟨by rfl, ?hy⟩) (by assumption) ?_
            case hy =>
              intro w hSw
              skip
              go_simp
              all_goals with_reducible rfl
            try simp only [Act.put, List.setIfInBounds_toArray, List.set_cons_zero, List.set_cons_succ]
            refine wpAnyH_take (i := 42) (oi := ⟨_, _, _, _, _, _⟩) (v := ?_) rfl (by kernel_rfl) (by kernel_rfl) (by kernel_rfl) (fun _ _ _ h => h) (Or.inl ⟨by rfl, ?hy⟩) (by assumption) ?_
            case hy =>
              intro w hSw
              skip
              go_simp
              all_goals with_reducible rfl
            try simp only [Act.put, List.setIfInBounds_toArray, List.set_cons_zero, List.set_cons_succ]
            refine wpAnyH_take (i := 43) (oi := ⟨_, _, _, _, _, _⟩) (v := ?_) rfl (by kernel_rfl) (by kernel_rfl) (by kernel_rfl) (fun _ _ _ h => h) (Or.inl ⟨by rfl, ?hy⟩) (by assumption) ?_
            case hy =>
              intro w hSw
              skip
              go_simp
              all_goals with_reducible rfl
            try simp only [Act.put, List.setIfInBounds_toArray, List.set_cons_zero, List.set_cons_succ]
            refine wpAnyH_take (i := 44) (oi := ⟨_, _, _, _, _, _⟩) (v := ?_) rfl (by kernel_rfl) (by kernel_rfl) (by kernel_rfl) (fun _ _ _ h => h) (Or.inl ⟨by rfl, ?hy⟩) (by assumption) ?_
            case hy =>
              intro w hSw
              skip
              go_simp
              all_goals with_reducible rfl
            try simp only [Act.put, List.setIfInBounds_toArray, List.set_cons_zero, List.set_cons_succ]
            refine wpAnyH_take (i := 45) (oi := ⟨_, _, _, _, _, _⟩) (v := ?_) rfl (by kernel_rfl) (by kernel_rfl) (by kernel_rfl) (fun _ _ _ h => h) (Or.inl ⟨by rfl, ?hy⟩) (by assumption) ?_
            case hy =>
              intro w hSw
              skip
              go_simp
              all_goals with_reducible rfl
            try simp only [Act.put, List.setIfInBounds_toArray, List.set_cons_zero, List.set_cons_succ]
            refine wpAnyH_take (i := 46) (oi := ⟨_, _, _, _, _, _⟩) (v := ?_) rfl (by kernel_rfl) (by kernel_rfl) (by kernel_rfl) (fun _ _ _ h => h) (Or.inl ⟨by rfl, ?hy⟩) (by assumption) ?_
            case hy =>
              intro w hSw
              skip
              go_simp
              all_goals with_reducible rfl
            try simp only [Act.put, List.setIfInBounds_toArray, List.set_cons_zero, List.set_cons_succ]
            refine wpAnyH_take (i := 47) (oi := ⟨_, _, _, _, _, _⟩) (v := ?_) rfl (by kernel_rfl) (by kernel_rfl) (by kernel_rfl) (fun _ _ _ h => h) (Or.inl ⟨by rfl, ?hy⟩) (by assumption) ?_
            case hy =>
              intro w hSw
              skip
              go_simp
              all_goals with_reducible rfl
            try simp only [Act.put, List.setIfInBounds_toArray, List.set_cons_zero, List.set_cons_succ]
            refine wpAnyH_take (i := 48) (oi := ⟨_, _, _, _, _, _⟩) (v := ?_) rfl (by kernel_rfl) (by kernel_rfl) (by kernel_rfl) (fun _ _ _ h => h) (Or.inl ⟨by rfl, ?hy⟩) (by assumption) ?_
            case hy =>
              intro w hSw
              skip
              go_simp
              all_goals with_reducible rfl
            try simp only [Act.put, List.setIfInBounds_toArray, List.set_cons_zero, List.set_cons_succ]
            refine wpAnyH_take (i := 49) (oi := ⟨_, _, _, _, _, _⟩) (v := ?_) rfl (by kernel_rfl) (by kernel_rfl) (by kernel_rfl) (fun _ _ _ h => h) (Or.inl ⟨by rfl, ?hy⟩) (by assumption) ?_
            case hy =>
              intro w hSw
              skip
              go_simp
              all_goals with_reducible rfl
            try simp only [Act.put, List.setIfInBounds_toArray, List.set_cons_zero, List.set_cons_succ]
            refine wpAnyH_take (i := 50) (oi := ⟨_, _, _, _, _, _⟩) (v := ?_) rfl (by kernel_rfl) (by kernel_rfl) (by kernel_rfl) (fun _ _ _ h => h) (Or.inl ⟨by rfl, ?hy⟩) (by assumption) ?_
            case hy =>
              intro w hSw
              skip
              go_simp
              all_goals with_reducible rfl
            try simp only [Act.put, List.setIfInBounds_toArray, List.set_cons_zero, List.set_cons_succ]
            refine wpAnyH_take (i := 51) (oi := ⟨_, _, _, _, _, _⟩) (v := ?_) rfl (by kernel_rfl) (by kernel_rfl) (by kernel_rfl) (fun _ _ _ h => h) (Or.inl ⟨by rfl, ?hy⟩) (by assumption) ?_
            case hy =>
              intro w hSw
              skip
              go_simp
              all_goals with_reducible rfl
            try simp only [Act.put, List.setIfInBounds_toArray, List.set_cons_zero, List.set_cons_succ]
            refine wpAnyH_take (i := 52) (oi := ⟨_, _, _, _, _, _⟩) (v := ?_) rfl (by kernel_rfl) (by kernel_rfl) (by kernel_rfl) (fun _ _ _ h => h) (Or.inl ⟨by rfl, ?hy⟩) (by assumption) ?_
            case hy =>
              intro w hSw
              have z0 : w.cell? ⟨gq, oq, none⟩ = some (iv q.1) := (hSw.cell (p := ⟨gq, oq, none⟩) hgq).trans z0
              go_simp
              all_goals with_reducible rfl
            try simp only [Act.put, List.setIfInBounds_toArray, List.set_cons_zero, List.set_cons_succ]
            refine wpAnyH_take (i := 53) (oi := ⟨_, _, _, _, _, _⟩) (v := ?_) rfl (by kernel_rfl) (by kernel_rfl) (by kernel_rfl) (fun _ _ _ h => h) (Or.inl ⟨by rfl, ?hy⟩) (by assumption) ?_
            case hy =>
              intro w hSw
              skip
              go_simp
              all_goals with_reducible rfl
            try simp only [Act.put, List.setIfInBounds_toArray, List.set_cons_zero, List.set_cons_succ]
            refine wpAnyH_take (i := 54) (oi := ⟨_, _, _, _, _, _⟩) (v := ?_) rfl (by kernel_rfl) (by kernel_rfl) (by kernel_rfl) (fun _ _ _ h => h) (Or.inl ⟨by rfl, ?hy⟩) (by assumption) ?_
            case hy =>
              intro w hSw
              skip
              go_simp
              all_goals with_reducible rfl
            try simp only [Act.put, List.setIfInBounds_toArray, List.set_cons_zero, List.set_cons_succ]
            refine wpAnyH_take (i := 55) (oi := ⟨_, _, _, _, _, _⟩) (v := ?_) rfl (by kernel_rfl) (by kernel_rfl) (by kernel_rfl) (fun _ _ _ h => h) (Or.inl ⟨by rfl, ?hy⟩) (by assumption) ?_
            case hy =>
              intro w hSw
              skip
              go_simp
              all_goals with_reducible rfl
            try simp only [Act.put, List.setIfInBounds_toArray, List.set_cons_zero, List.set_cons_succ]
            refine wpAnyH_done (by kernel_rfl) ?_ _
            obtain ⟨k1', k2', k3', k4'⟩ := hcell.out _ hHeld
            have hfin2 := hfin.out _ hHeld
            clear hHeld hfin hcell
            go_wp2_with fail
            refine ⟨?_, by simp [intOf]; omega⟩
            repeat (first | exact ⟨⟨k + 1, by go_num, by omega, hfin2⟩, rfl⟩ | exact ⟨k + 1, by go_num, by omega, hfin2⟩ | apply Exists.intro)
          · have t1 : decide ((k : Int) > 0) = false := decide_eq_false (by omega)
            go_wp2_with fail
            refine wp_region_held_drew (S := (fun w9 => Below wr.heap.size wr w9)) (by kernel_rfl) ?_ (fun hHeld => ?_)
            · exact (Below.refl _ _).drew
            generalize wr.drew = wd at *
            refine wpAnyH_take (i := 0) (oi := ⟨_, _, _, _, _, _⟩) (v := ?_) rfl (by kernel_rfl) (by kernel_rfl) (by kernel_rfl) (fun _ _ _ h => h) (Or.inl ⟨by rfl, ?hy⟩) (by assumption) ?_
            case hy =>
              intro w hSw
              skip
              go_simp
              all_goals with_reducible rfl
            try simp only [Act.put, List.setIfInBounds_toArray, List.set_cons_zero, List.set_cons_succ]
            refine wpAnyH_take (i := 1) (oi := ⟨_, _, _, _, _, _⟩) (v := ?_) rfl (by kernel_rfl) (by kernel_rfl) (by kernel_rfl) (fun _ _ _ h => h) (Or.inl ⟨by rfl, ?hy⟩) (by assumption) ?_
            case hy =>
              intro w hSw
              skip
              go_simp
              all_goals with_reducible rfl
            try simp only [Act.put, List.setIfInBounds_toArray, List.set_cons_zero, List.set_cons_succ]
            refine wpAnyH_take (i := 2) (oi := ⟨_, _, _, _, _, _⟩) (v := ?_) rfl (by kernel_rfl) (by kernel_rfl) (by kernel_rfl) (fun _ _ _ h => h) (Or.inl ⟨by rfl, ?hy⟩) (by assumption) ?_
            case hy =>
              intro w hSw
              skip
              go_simp
              all_goals with_reducible rfl
            try simp only [Act.put, List.setIfInBounds_toArray, List.set_cons_zero, List.set_cons_succ]
            refine wpAnyH_take (i := 3) (oi := ⟨_, _, _, _, _, _⟩) (v := ?_) rfl (by kernel_rfl) (by kernel_rfl) (by kernel_rfl) (fun _ _ _ h => h) (Or.inl ⟨by rfl, ?hy⟩) (by assumption) ?_
            case hy =>
              intro w hSw
              skip
              go_simp
              all_goals with_reducible rfl
            try simp only [Act.put, List.setIfInBounds_toArray, List.set_cons_zero, List.set_cons_succ]
            refine wpAnyH_take (i := 4) (oi := ⟨_, _, _, _, _, _⟩) (v := ?_) rfl (by kernel_rfl) (by kernel_rfl) (by kernel_rfl) (fun _ _ _ h => h) (Or.inl ⟨by rfl, ?hy⟩) (by assumption) ?_
            case hy =>
              intro w hSw
              skip
              go_simp
              all_goals with_reducible rfl
            try simp only [Act.put, List.setIfInBounds_toArray, List.set_cons_zero, List.set_cons_succ]
            refine wpAnyH_take (i := 5) (oi := ⟨_, _, _, _, _, _⟩) (v := ?_) rfl (by kernel_rfl) (by kernel_rfl) (by kernel_rfl) (fun _ _ _ h => h) (Or.inl ⟨by rfl, ?hy⟩) (by assumption) ?_
            case hy =>
              intro w hSw
              skip
              go_simp
              all_goals with_reducible rfl
            try simp only [Act.put, List.setIfInBounds_toArray, List.set_cons_zero, List.set_cons_succ]
            refine wpAnyH_take (i := 6) (oi := ⟨_, _, _, _, _, _⟩) (v := ?_) rfl (by kernel_rfl) (by kernel_rfl) (by kernel_rfl) (fun _ _ _ h => h) (Or.inl ⟨by rfl, ?hy⟩) (by assumption) ?_
            case hy =>
              intro w hSw
              skip
              go_simp
              all_goals with_reducible rfl
            try simp only [Act.put, List.setIfInBounds_toArray, List.set_cons_zero, List.set_cons_succ]
            refine wpAnyH_take (i := 7) (oi := ⟨_, _, _, _, _, _⟩) (v := ?_) rfl (by kernel_rfl) (by kernel_rfl) (by kernel_rfl) (fun _ _ _ h => h) (Or.inl ⟨by rfl, ?hy⟩) (by assumption) ?_
            case hy =>
              intro w hSw
              skip
              go_simp
              all_goals with_reducible rfl
            try simp only [Act.put, List.setIfInBounds_toArray, List.set_cons_zero, List.set_cons_succ]
            refine wpAnyH_take (i := 8) (oi := ⟨_, _, _, _, _, _⟩) (v := ?_) rfl (by kernel_rfl) (by kernel_rfl) (by kernel_rfl) (fun _ _ _ h => h) (Or.inl ⟨by rfl, ?hy⟩) (by assumption) ?_
            case hy =>
              intro w hSw
              skip
              go_simp
              all_goals with_reducible rfl
            try simp only [Act.put, List.setIfInBounds_toArray, List.set_cons_zero, List.set_cons_succ]
            refine wpAnyH_take (i := 9) (oi := ⟨_, _, _, _, _, _⟩) (v := ?_) rfl (by kernel_rfl) (by kernel_rfl) (by kernel_rfl) (fun _ _ _ h => h) (Or.inl ⟨by rfl, ?hy⟩) (by assumption) ?_
            case hy =>
              intro w hSw
              skip
              go_simp
              all_goals with_reducible rfl
            try simp only [Act.put, List.setIfInBounds_toArray, List.set_cons_zero, List.set_cons_succ]
            refine wpAnyH_take (i := 10) (oi := ⟨_, _, _, _, _, _⟩) (v := ?_) rfl (by kernel_rfl) (by kernel_rfl) (by kernel_rfl) (fun _ _ _ h => h) (Or.inl ⟨by rfl, ?hy⟩) (by assumption) ?_
            case hy =>
              intro w hSw
              skip
              go_simp
              all_goals with_reducible rfl
            try simp only [Act.put, List.setIfInBounds_toArray, List.set_cons_zero, List.set_cons_succ]
            refine wpAnyH_take (i := 11) (oi := ⟨_, _, _, _, _, _⟩) (v := ?_) rfl (by kernel_rfl) (by kernel_rfl) (by kernel_rfl) (fun _ _ _ h => h) (Or.inl ⟨by rfl, ?hy⟩) (by assumption) ?_
            case hy =>
              intro w hSw
              skip
              go_simp
              all_goals with_reducible rfl
            try simp only [Act.put, List.setIfInBounds_toArray, List.set_cons_zero, List.set_cons_succ]
            refine wpAnyH_take (i := 12) (oi := ⟨_, _, _, _, _, _⟩) (v := ?_) rfl (by kernel_rfl) (by kernel_rfl) (by kernel_rfl) (fun _ _ _ h => h) (Or.inl ⟨by rfl, ?hy⟩) (by assumption) ?_
            case hy =>
              intro w hSw
              skip
              go_simp
              all_goals with_reducible rfl
            try simp only [Act.put, List.setIfInBounds_toArray, List.set_cons_zero, List.set_cons_succ]
            refine wpAnyH_take (i := 13) (oi := ⟨_, _, _, _, _, _⟩) (v := ?_) rfl (by kernel_rfl) (by kernel_rfl) (by kernel_rfl) (fun _ _ _ h => h) (Or.inl ⟨by rfl, ?hy⟩) (by assumption) ?_
            case hy =>
              intro w hSw
              skip
              go_simp
              all_goals with_reducible rfl
            try simp only [Act.put, List.setIfInBounds_toArray, List.set_cons_zero, List.set_cons_succ]
            refine wpAnyH_take (i := 14) (oi := ⟨_, _, _, _, _, _⟩) (v := ?_) rfl (by kernel_rfl) (by kernel_rfl) (by kernel_rfl) (fun _ _ _ h => h) (Or.inl ⟨by rfl, ?hy⟩) (by assumption) ?_
            case hy =>
              intro w hSw
              skip
              go_simp
              all_goals with_reducible rfl
            try simp only [Act.put, List.setIfInBounds_toArray, List.set_cons_zero, List.set_cons_succ]
            refine wpAnyH_take (i := 15) (oi := ⟨_, _, _, _, _, _⟩) (v := ?_) rfl (by kernel_rfl) (by kernel_rfl) (by kernel_rfl) (fun _ _ _ h => h) (Or.inl ⟨by rfl, ?hy⟩) (by assumption) ?_
            case hy =>
              intro w hSw
              skip
              go_simp
              all_goals with_reducible rfl
            try simp only [Act.put, List.setIfInBounds_toArray, List.set_cons_zero, List.set_cons_succ]
            refine wpAnyH_take (i := 16) (oi := ⟨_, _, _, _, _, _⟩) (v := ?_) rfl (by kernel_rfl) (by kernel_rfl) (by kernel_rfl) (fun _ _ _ h => h) (Or.inl ⟨by rfl, ?hy⟩) (by assumption) ?_
            case hy =>
              intro w hSw
              skip
              go_simp
              all_goals with_reducible rfl
            try simp only [Act.put, List.setIfInBounds_toArray, List.set_cons_zero, List.set_cons_succ]
            refine wpAnyH_take (i := 17) (oi := ⟨_, _, _, _, _, _⟩) (v := ?_) rfl (by kernel_rfl) (by kernel_rfl) (by kernel_rfl) (fun _ _ _ h => h) (Or.inl ⟨by rfl, ?hy⟩) (by assumption) ?_
            case hy =>
              intro w hSw
              skip
              go_simp
              all_goals with_reducible rfl
            try simp only [Act.put, List.setIfInBounds_toArray, List.set_cons_zero, List.set_cons_succ]
            refine wpAnyH_take (i := 18) (oi := ⟨_, _, _, _, _, _⟩) (v := ?_) rfl (by kernel_rfl) (by kernel_rfl) (by kernel_rfl) (fun _ _ _ h => h) (Or.inl ⟨by rfl, ?hy⟩) (by assumption) ?_
            case hy =>
              intro w hSw
              skip
              go_simp
              all_goals with_reducible rfl
            try simp only [Act.put, List.setIfInBounds_toArray, List.set_cons_zero, List.set_cons_succ]
            refine wpAnyH_take (i := 19) (oi := ⟨_, _, _, _, _, _⟩) (v := ?_) rfl (by kernel_rfl) (by kernel_rfl) (by kernel_rfl) (fun _ _ _ h => h) (Or.inl ⟨by rfl, ?hy⟩) (by assumption) ?_
            case hy =>
              intro w hSw
              skip
              go_simp
              all_goals with_reducible rfl
            try simp only [Act.put, List.setIfInBounds_toArray, List.set_cons_zero, List.set_cons_succ]
            refine wpAnyH_take (i := 20) (oi := ⟨_, _, _, _, _, _⟩) (v := ?_) rfl (by kernel_rfl) (by kernel_rfl) (by kernel_rfl) (fun _ _ _ h => h) (Or.inl ⟨by rfl, ?hy⟩) (by assumption) ?_
            case hy =>
              intro w hSw
              skip
              go_simp
              all_goals with_reducible rfl
            try simp only [Act.put, List.setIfInBounds_toArray, List.set_cons_zero, List.set_cons_succ]
            refine wpAnyH_take (i := 21) (oi := ⟨_, _, _, _, _, _⟩) (v := ?_) rfl (by kernel_rfl) (by kernel_rfl) (by kernel_rfl) (fun _ _ _ h => h) (Or.inl ⟨by rfl, ?hy⟩) (by assumption) ?_
            case hy =>
              intro w hSw
              skip
              go_simp
              all_goals with_reducible rfl
            try simp only [Act.put, List.setIfInBounds_toArray, List.set_cons_zero, List.set_cons_succ]
            refine wpAnyH_take (i := 22) (oi := ⟨_, _, _, _, _, _⟩) (v := ?_) rfl (by kernel_rfl) (by kernel_rfl) (by kernel_rfl) (fun _ _ _ h => h) (Or.inl ⟨by rfl, ?hy⟩) (by assumption) ?_
            case hy =>
              intro w hSw
              have f0 : w.cell? ⟨g4, x, none⟩ = some (.bool false) := (hSw.cell (p := ⟨g4, x, none⟩) hgl).trans f0
              go_simp
              all_goals with_reducible rfl
            try simp only [Act.put, List.setIfInBounds_toArray, List.set_cons_zero, List.set_cons_succ]
            refine wpAnyH_take (i := 23) (oi := ⟨_, _, _, _, _, _⟩) (v := ?_) rfl (by kernel_rfl) (by kernel_rfl) (by kernel_rfl) (fun _ _ _ h => h) (Or.inl ⟨by rfl, ?hy⟩) (by assumption) ?_
            case hy =>
              intro w hSw
              skip
              go_simp
              all_goals with_reducible rfl
            try simp only [Act.put, List.setIfInBounds_toArray, List.set_cons_zero, List.set_cons_succ]
            refine wpAnyH_take (i := 24) (oi := ⟨_, _, _, _, _, _⟩) (v := ?_) rfl (by kernel_rfl) (by kernel_rfl) (by kernel_rfl) (fun _ _ _ h => h) (Or.inl ⟨by rfl, ?hy⟩) (by assumption) ?_
            case hy =>
              intro w hSw
              skip
              go_simp
              all_goals with_reducible rfl
            try simp only [Act.put, List.setIfInBounds_toArray, List.set_cons_zero, List.set_cons_succ]
            refine wpAnyH_take (i := 25) (oi := ⟨_, _, _, _, _, _⟩) (v := ?_) rfl (by kernel_rfl) (by kernel_rfl) (by kernel_rfl) (fun _ _ _ h => h) (Or.inl ⟨by rfl, ?hy⟩) (by assumption) ?_
            case hy =>
              intro w hSw
              skip
              go_simp
              all_goals with_reducible rfl
            try simp only [Act.put, List.setIfInBounds_toArray, List.set_cons_zero, List.set_cons_succ]
            refine wpAnyH_take (i := 26) (oi := ⟨_, _, _, _, _, _⟩) (v := ?_) rfl (by kernel_rfl) (by kernel_rfl) (by kernel_rfl) (fun _ _ _ h => h) (Or.inl ⟨by rfl, ?hy⟩) (by assumption) ?_
            case hy =>
              intro w hSw
              skip
              go_simp
              all_goals with_reducible rfl
            try simp only [Act.put, List.setIfInBounds_toArray, List.set_cons_zero, List.set_cons_succ]
            refine wpAnyH_take (i := 27) (oi := ⟨_, _, _, _, _, _⟩) (v := ?_) rfl (by kernel_rfl) (by kernel_rfl) (by kernel_rfl) (fun _ _ _ h => h) (Or.inl ⟨by rfl, ?hy⟩) (by assumption) ?_
            case hy =>
              intro w hSw
              skip
              go_simp
              all_goals with_reducible rfl
            try simp only [Act.put, List.setIfInBounds_toArray, List.set_cons_zero, List.set_cons_succ]
            refine wpAnyH_take (i := 28) (oi := ⟨_, _, _, _, _, _⟩) (v := ?_) rfl (by kernel_rfl) (by kernel_rfl) (by kernel_rfl) (fun _ _ _ h => h) (Or.inl ⟨by rfl, ?hy⟩) (by assumption) ?_
            case hy =>
              intro w hSw
              have f1 : w.cell? ⟨g4 + 1, y, none⟩ = some (.bool false) := (hSw.cell (p := ⟨g4 + 1, y, none⟩) hgr).trans f1
              go_simp
              all_goals with_reducible rfl
            try simp only [Act.put, List.setIfInBounds_toArray, List.set_cons_zero, List.set_cons_succ]
            refine wpAnyH_take (i := 29) (oi := ⟨_, _, _, _, _, _⟩) (v := ?_) rfl (by kernel_rfl) (by kernel_rfl) (by kernel_rfl) (fun _ _ _ h => h) (Or.inl ⟨by rfl, ?hy⟩) (by assumption) ?_
            case hy =>
              intro w hSw
              skip
              go_simp
              all_goals with_reducible rfl
            try simp only [Act.put, List.setIfInBounds_toArray, List.set_cons_zero, List.set_cons_succ]
            refine wpAnyH_take (i := 30) (oi := ⟨_, _, _, _, _, _⟩) (v := ?_) rfl (by kernel_rfl) (by kernel_rfl) (by kernel_rfl) (fun _ _ _ h => h) (Or.inl ⟨by rfl, ?hy⟩) (by assumption) ?_
            case hy =>
              intro w hSw
              skip
              go_simp
              all_goals with_reducible rfl
            try simp only [Act.put, List.setIfInBounds_toArray, List.set_cons_zero, List.set_cons_succ]
            refine wpAnyH_take (i := 31) (oi := ⟨_, _, _, _, _, _⟩) (v := ?_) rfl (by kernel_rfl) (by kernel_rfl) (by kernel_rfl) (fun _ _ _ h => h) (Or.inl ⟨by rfl, ?hy⟩) (by assumption) ?_
            case hy =>
              intro w hSw
              skip
              go_simp
              all_goals with_reducible rfl
            try simp only [Act.put, List.setIfInBounds_toArray, List.set_cons_zero, List.set_cons_succ]
            refine wpAnyH_take (i := 32) (oi := ⟨_, _, _, _, _, _⟩) (v := ?_) rfl (by kernel_rfl) (by kernel_rfl) (by kernel_rfl) (fun _ _ _ h => h) (Or.inl ⟨by rfl, ?hy⟩) (by assumption) ?_
            case hy =>
              intro w hSw
              skip
              go_simp
              all_goals with_reducible rfl
            try simp only [Act.put, List.setIfInBounds_toArray, List.set_cons_zero, List.set_cons_succ]
            refine wpAnyH_take (i := 33) (oi := ⟨_, _, _, _, _, _⟩) (v := ?_) rfl (by kernel_rfl) (by kernel_rfl) (by kernel_rfl) (fun _ _ _ h => h) (Or.inl ⟨by rfl, ?hy⟩) (by assumption) ?_
            case hy =>
              intro w hSw
              skip
              go_simp
              all_goals with_reducible rfl
            try simp only [Act.put, List.setIfInBounds_toArray, List.set_cons_zero, List.set_cons_succ]
            refine wpAnyH_take (i := 34) (oi := ⟨_, _, _, _, _, _⟩) (v := ?_) rfl (by kernel_rfl) (by kernel_rfl) (by kernel_rfl) (fun _ _ _ h => h) (Or.inl ⟨by rfl, ?hy⟩) (by assumption) ?_
            case hy =>
              intro w hSw
              have c0 : w.cell? ⟨ga, oa, none⟩ = some (sv rx.path) := (hSw.cell (p := ⟨ga, oa, none⟩) hga).trans c0
              have c1 : w.cell? ⟨ga, oa + 1, none⟩ = some (sv rx.name) := (hSw.cell (p := ⟨ga, oa + 1, none⟩) hga).trans c1
              have c2 : w.cell? ⟨ga, oa + 2, none⟩ = some (.slice a1 rx.args.length k1) := (hSw.cell (p := ⟨ga, oa + 2, none⟩) hga).trans c2
              have c3 : w.cell? ⟨ga, oa + 3, none⟩ = some (iv rx.ord) := (hSw.cell (p := ⟨ga, oa + 3, none⟩) hga).trans c3
              have c4 : w.cell? ⟨ga, oa + 4, none⟩ = some (sv rx.reply) := (hSw.cell (p := ⟨ga, oa + 4, none⟩) hga).trans c4
              have c5 : w.cell? ⟨ga, oa + 5, none⟩ = some (iv rx.sent) := (hSw.cell (p := ⟨ga, oa + 5, none⟩) hga).trans c5
              have c6 : w.cell? ⟨ga, oa + 6, none⟩ = some (iv rx.tick) := (hSw.cell (p := ⟨ga, oa + 6, none⟩) hga).trans c6
              have c7 : w.cell? ⟨ga, oa + 7, none⟩ = some (.bool rx.opn) := (hSw.cell (p := ⟨ga, oa + 7, none⟩) hga).trans c7
              go_simp
              all_goals with_reducible rfl
            try simp only [Act.put, List.setIfInBounds_toArray, List.set_cons_zero, List.set_cons_succ]
            refine wpAnyH_take (i := 35) (oi := ⟨_, _, _, _, _, _⟩) (v := ?_) rfl (by kernel_rfl) (by kernel_rfl) (by kernel_rfl) (fun _ _ _ h => h) (Or.inl ⟨by rfl, ?hy⟩) (by assumption) ?_
            case hy =>
              intro w hSw
              skip
              go_simp
              all_goals with_reducible rfl
            try simp only [Act.put, List.setIfInBounds_toArray, List.set_cons_zero, List.set_cons_succ]
            refine wpAnyH_take (i := 36) (oi := ⟨_, _, _, _, _, _⟩) (v := ?_) rfl (by kernel_rfl) (by kernel_rfl) (by kernel_rfl) (fun _ _ _ h => h) (Or.inl ⟨by rfl, ?hy⟩) (by assumption) ?_
            case hy =>
              intro w hSw
              skip
              go_simp
              all_goals with_reducible rfl
            try simp only [Act.put, List.setIfInBounds_toArray, List.set_cons_zero, List.set_cons_succ]
            refine wpAnyH_take (i := 37) (oi := ⟨_, _, _, _, _, _⟩) (v := ?_) rfl (by kernel_rfl) (by kernel_rfl) (by kernel_rfl) (fun _ _ _ h => h) (Or.inl ⟨by rfl, ?hy⟩) (by assumption) ?_
            case hy =>
              intro w hSw
              skip
              go_simp
              all_goals with_reducible rfl
            try simp only [Act.put, List.setIfInBounds_toArray, List.set_cons_zero, List.set_cons_succ]
            refine wpAnyH_take (i := 38) (oi := ⟨_, _, _, _, _, _⟩) (v := ?_) rfl (by kernel_rfl) (by kernel_rfl) (by kernel_rfl) (fun _ _ _ h => h) (Or.inl ⟨by rfl, ?hy⟩) (by assumption) ?_
            case hy =>
              intro w hSw
              have d0 : w.cell? ⟨gb, ob, none⟩ = some (sv ry.path) := (hSw.cell (p := ⟨gb, ob, none⟩) hgb).trans d0
              have d1 : w.cell? ⟨gb, ob + 1, none⟩ = some (sv ry.name) := (hSw.cell (p := ⟨gb, ob + 1, none⟩) hgb).trans d1
              have d2 : w.cell? ⟨gb, ob + 2, none⟩ = some (.slice a2 ry.args.length k2) := (hSw.cell (p := ⟨gb, ob + 2, none⟩) hgb).trans d2
              have d3 : w.cell? ⟨gb, ob + 3, none⟩ = some (iv ry.ord) := (hSw.cell (p := ⟨gb, ob + 3, none⟩) hgb).trans d3
              have d4 : w.cell? ⟨gb, ob + 4, none⟩ = some (sv ry.reply) := (hSw.cell (p := ⟨gb, ob + 4, none⟩) hgb).trans d4
              have d5 : w.cell? ⟨gb, ob + 5, none⟩ = some (iv ry.sent) := (hSw.cell (p := ⟨gb, ob + 5, none⟩) hgb).trans d5
              have d6 : w.cell? ⟨gb, ob + 6, none⟩ = some (iv ry.tick) := (hSw.cell (p := ⟨gb, ob + 6, none⟩) hgb).trans d6
              have d7 : w.cell? ⟨gb, ob + 7, none⟩ = some (.bool ry.opn) := (hSw.cell (p := ⟨gb, ob + 7, none⟩) hgb).trans d7
              go_simp
              all_goals with_reducible rfl
            try simp only [Act.put, List.setIfInBounds_toArray, List.set_cons_zero, List.set_cons_succ]
            refine wpAnyH_ready (rs := [39]) (by kernel_rfl) (by simp) ?_
            refine AllReadyH.cons (o := ⟨_, _, _, _, _, _⟩) rfl (fun K hK => ?_) AllReadyH.nil
            go_simp
            go_at_call 15
            refine (alike_any rx ry hrxB hryB _ _ (reqCs rx (.slice a1 rx.args.length k1)) (reqCs ry (.slice a2 ry.args.length k2)) wd (goodReq.below hra.out hHeld) (goodReq.below hrb.out hHeld)).mono ?_
            rintro e wq ⟨rfl, hbq⟩
            rw [hal.out]
            have hZ := hHeld.trans (hbq.mono hHeld.size)
            refine hK.out _ _ ?_ (fun hHeld2 => ?_)
            · exact hZ
            clear hK K
            clear hHeld
            have hHeld := hHeld2
            clear hHeld2
            try simp only [Act.put, List.setIfInBounds_toArray, List.set_cons_zero, List.set_cons_succ]
            refine wpAnyH_take (i := 40) (oi := ⟨_, _, _, _, _, _⟩) (v := ?_) rfl (by kernel_rfl) (by kernel_rfl) (by kernel_rfl) (fun _ _ _ h => h) (Or.inl ⟨by rfl, ?hy⟩) (by assumption) ?_
            case hy =>
              intro w hSw
              skip
              go_simp
              all_goals with_reducible rfl
            try simp only [Act.put, List.setIfInBounds_toArray, List.set_cons_zero, List.set_cons_succ]
            refine wpAnyH_take (i := 41) (oi := ⟨_, _, _, _, _, _⟩) (v := ?_) rfl (by kernel_rfl) (by kernel_rfl) (by kernel_rfl) (fun _ _ _ h => h) (Or.inl ⟨by rfl, ?hy⟩) (by assumption) ?_
            case hy =>
              intro w hSw
              skip
              go_simp
              all_goals with_reducible rfl
            try simp only [Act.put, List.setIfInBounds_toArray, List.set_cons_zero, List.set_cons_succ]
            refine wpAnyH_take (i := 42) (oi := ⟨_, _, _, _, _, _⟩) (v := ?_) rfl (by kernel_rfl) (by kernel_rfl) (by kernel_rfl) (fun _ _ _ h => h) (Or.inl ⟨by rfl, ?hy⟩) (by assumption) ?_
            case hy =>
              intro w hSw
              skip
              go_simp
              all_goals with_reducible rfl
            try simp only [Act.put, List.setIfInBounds_toArray, List.set_cons_zero, List.set_cons_succ]
            refine wpAnyH_take (i := 43) (oi := ⟨_, _, _, _, _, _⟩) (v := ?_) rfl (by kernel_rfl) (by kernel_rfl) (by kernel_rfl) (fun _ _ _ h => h) (Or.inl ⟨by rfl, ?hy⟩) (by assumption) ?_
            case hy =>
              intro w hSw
              skip
              go_simp
              all_goals with_reducible rfl
            try simp only [Act.put, List.setIfInBounds_toArray, List.set_cons_zero, List.set_cons_succ]
            refine wpAnyH_take (i := 44) (oi := ⟨_, _, _, _, _, _⟩) (v := ?_) rfl (by kernel_rfl) (by kernel_rfl) (by kernel_rfl) (fun _ _ _ h => h) (Or.inl ⟨by rfl, ?hy⟩) (by assumption) ?_
            case hy =>
              intro w hSw
              skip
              go_simp
              all_goals with_reducible rfl
            try simp only [Act.put, List.setIfInBounds_toArray, List.set_cons_zero, List.set_cons_succ]
            refine wpAnyH_take (i := 45) (oi := ⟨_, _, _, _, _, _⟩) (v := ?_) rfl (by kernel_rfl) (by kernel_rfl) (by kernel_rfl) (fun _ _ _ h => h) (Or.inl ⟨by rfl, ?hy⟩) (by assumption) ?_
            case hy =>
              intro w hSw
              skip
              go_simp
              all_goals with_reducible rfl
            try simp only [Act.put, List.setIfInBounds_toArray, List.set_cons_zero, List.set_cons_succ]
            refine wpAnyH_take (i := 46) (oi := ⟨_, _, _, _, _, _⟩) (v := undef) rfl (by kernel_rfl) (by kernel_rfl) (by kernel_rfl) (fun _ _ _ h => h) (Or.inr ⟨by rfl, rfl⟩) (by assumption) ?_
            try simp only [Act.put, List.setIfInBounds_toArray, List.set_cons_zero, List.set_cons_succ]
            refine wpAnyH_take (i := 47) (oi := ⟨_, _, _, _, _, _⟩) (v := undef) rfl (by kernel_rfl) (by kernel_rfl) (by kernel_rfl) (fun _ _ _ h => h) (Or.inr ⟨by rfl, rfl⟩) (by assumption) ?_
            try simp only [Act.put, List.setIfInBounds_toArray, List.set_cons_zero, List.set_cons_succ]
            refine wpAnyH_take (i := 48) (oi := ⟨_, _, _, _, _, _⟩) (v := undef) rfl (by kernel_rfl) (by kernel_rfl) (by kernel_rfl) (fun _ _ _ h => h) (Or.inr ⟨by rfl, rfl⟩) (by assumption) ?_
            try simp only [Act.put, List.setIfInBounds_toArray, List.set_cons_zero, List.set_cons_succ]
            refine wpAnyH_take (i := 49) (oi := ⟨_, _, _, _, _, _⟩) (v := undef) rfl (by kernel_rfl) (by kernel_rfl) (by kernel_rfl) (fun _ _ _ h => h) (Or.inr ⟨by rfl, rfl⟩) (by assumption) ?_
            try simp only [Act.put, List.setIfInBounds_toArray, List.set_cons_zero, List.set_cons_succ]
            refine wpAnyH_take (i := 50) (oi := ⟨_, _, _, _, _, _⟩) (v := undef) rfl (by kernel_rfl) (by kernel_rfl) (by kernel_rfl) (fun _ _ _ h => h) (Or.inr ⟨by rfl, rfl⟩) (by assumption) ?_
            try simp only [Act.put, List.setIfInBounds_toArray, List.set_cons_zero, List.set_cons_succ]
            refine wpAnyH_take (i := 51) (oi := ⟨_, _, _, _, _, _⟩) (v := undef) rfl (by kernel_rfl) (by kernel_rfl) (by kernel_rfl) (fun _ _ _ h => h) (Or.inr ⟨by rfl, rfl⟩) (by assumption) ?_
            try simp only [Act.put, List.setIfInBounds_toArray, List.set_cons_zero, List.set_cons_succ]
            refine wpAnyH_take (i := 52) (oi := ⟨_, _, _, _, _, _⟩) (v := undef) rfl (by kernel_rfl) (by kernel_rfl) (by kernel_rfl) (fun _ _ _ h => h) (Or.inr ⟨by rfl, rfl⟩) (by assumption) ?_
            try simp only [Act.put, List.setIfInBounds_toArray, List.set_cons_zero, List.set_cons_succ]
            refine wpAnyH_take (i := 53) (oi := ⟨_, _, _, _, _, _⟩) (v := undef) rfl (by kernel_rfl) (by kernel_rfl) (by kernel_rfl) (fun _ _ _ h => h) (Or.inr ⟨by rfl, rfl⟩) (by assumption) ?_
            try simp only [Act.put, List.setIfInBounds_toArray, List.set_cons_zero, List.set_cons_succ]
            refine wpAnyH_take (i := 54) (oi := ⟨_, _, _, _, _, _⟩) (v := ?_) rfl (by kernel_rfl) (by kernel_rfl) (by kernel_rfl) (fun _ _ _ h => h) (Or.inl ⟨by rfl, ?hy⟩) (by assumption) ?_
            case hy =>
              intro w hSw
              skip
              go_simp
              all_goals with_reducible rfl
            try simp only [Act.put, List.setIfInBounds_toArray, List.set_cons_zero, List.set_cons_succ]
            refine wpAnyH_take (i := 55) (oi := ⟨_, _, _, _, _, _⟩) (v := ?_) rfl (by kernel_rfl) (by kernel_rfl) (by kernel_rfl) (fun _ _ _ h => h) (Or.inl ⟨by rfl, ?hy⟩) (by assumption) ?_
            case hy =>
              intro w hSw
              skip
              go_simp
              all_goals with_reducible rfl
            try simp only [Act.put, List.setIfInBounds_toArray, List.set_cons_zero, List.set_cons_succ]
            refine wpAnyH_done (by kernel_rfl) ?_ _
            obtain ⟨k1', k2', k3', k4'⟩ := hcell.out _ hHeld
            have hfin2 := hfin.out _ hHeld
            clear hHeld hfin hcell
            go_wp2_with fail
            refine ⟨?_, by simp [intOf]; omega⟩
            repeat (first | exact ⟨⟨k + 1, by go_num, by omega, hfin2⟩, rfl⟩ | exact ⟨k + 1, by go_num, by omega, hfin2⟩ | apply Exists.intro)
        · obtain rfl : k = P.length := by omega
          clear hlt hk
          obtain ⟨L, hL⟩ : ∃ L, L = lefF P P.length := ⟨_, rfl⟩
          have hLm : ∀ j, j < a.length → L j = (mateF a b j).isSome := fun j hj => by rw [hL, hPe.out]; exact lef_all hj
          rw [← hL] at hM
          clear hL
          obtain ⟨U, hU⟩ : ∃ U, U = (List.range a.length).map L := ⟨_, rfl⟩
          have hUl : U.length = a.length := by rw [hU]; simp
          have hUd : ∀ j, j < a.length → U.getD j false = (mateF a b j).isSome := fun j hj => by
            rw [hU, List.getD_eq_getElem?_getD, List.getElem?_map, List.getElem?_range hj, ← hLm j hj]; rfl
          replace hLm := hid hLm
          replace hUd := hid hUd
          replace hU := hid hU
          go_wp2_with fail
          rename World => wA
          have hBA : w0.heap.size ≤ wA.heap.size := hM.out.bel.size
          go_loopw [12, 13] (fun rs i wr => ∃ k : Nat, i = .int .i64 k ∧ k ≤ a.length ∧ Hid (RowQ w0.heap.size wA.heap.size wr (onlyF a b k) rs) ∧ Hid (Below wA.heap.size wA wr)) (fun _ i _ => a.length - (intOf i).toNat)
          case atStart => exact ⟨0, rfl, Nat.zero_le _, hid (RowQ.nil _ _ _), hid (Below.refl _ _)⟩
          case round =>
            obtain ⟨k, rfl, hk, hO, hB⟩ := hrel
            have hM2 := hid (hM.out.below hBA hB.out)
            have hsz := hB.out.size
            by_cases hlt : k < a.length
            · obtain ⟨x, hx⟩ : ∃ x, x = rq a k := ⟨_, rfl⟩
              have hax := at_rq hlt
              rw [← hx] at hax
              have hxB := ha.out.2 x (List.mem_of_getElem? hax)
              obtain ⟨g, o, cs, hidx, -, hg, hc, hr⟩ := hM2.out.ra.at (P := Tryd.prog) (t := 22) (by kernel_rfl) (fun _ => by kernel_rfl) hax
              obtain ⟨a1, k1, rfl, -⟩ := id hr
              have c0 := hc 0 _ rfl
              have c1 := hc 1 _ rfl
              have c2 := hc 2 _ rfl
              have c3 := hc 3 _ rfl
              have c4 := hc 4 _ rfl
              have c5 := hc 5 _ rfl
              have c6 := hc 6 _ rfl
              have c7 := hc 7 _ rfl
              rw [Nat.add_zero] at c0
              have hr0 := hid hr
              have hnil := fun W => SlR.nil 1 BoolR (fun _ => True) W 0
              have hlen : (onlyF a b k).length ≤ 1048576 := by have := only_len a b k; omega
              obtain ⟨ar, cr, rfl, -, -⟩ := hO.out.1.slice
              obtain ⟨n1, hn1⟩ : ∃ n1, n1 = cntF a a.length x := ⟨_, rfl⟩
              obtain ⟨n2, hn2⟩ : ∃ n2, n2 = cntF b b.length x := ⟨_, rfl⟩
              have hv1 : alkC a x [] a.length = n1 := by rw [alkC_nil, hn1]
              have hv2 : alkC b x [] b.length = n2 := by rw [alkC_nil, hn2]
              have hv3 : alkC a x U a.length = min n1 n2 := by rw [alkC_mate a b x U hUd.out hUl a.length (Nat.le_refl _), hn1, hn2]
              replace hv1 := hid hv1
              replace hv2 := hid hv2
              replace hv3 := hid hv3
              replace hn1 := hid hn1
              replace hn2 := hid hn2
              have hosucc := hid (only_succ a b k)
              replace hx := hid hx
              clear hc hr
              go_wp2_with fail
              refine (alike39_any a x [] ha.out hxB (Or.inl rfl) _ _ (fun _ => True) (.slice aa a.length ca) (.slice none 0 0) (reqCs x (.slice a1 x.args.length k1)) wr hM2.out.ra hr0.out (hnil _)).mono ?_
              rintro e w5 ⟨rfl, hb5⟩
              rw [hv1.out]
              have d0 : w5.cell? ⟨g, o, none⟩ = some (sv x.path) := (hb5.cell (p := ⟨g, o, none⟩) hg).trans c0
              have d1 : w5.cell? ⟨g, o + 1, none⟩ = some (sv x.name) := (hb5.cell (p := ⟨g, o + 1, none⟩) hg).trans c1
              have d2 : w5.cell? ⟨g, o + 2, none⟩ = some (.slice a1 x.args.length k1) := (hb5.cell (p := ⟨g, o + 2, none⟩) hg).trans c2
              have d3 : w5.cell? ⟨g, o + 3, none⟩ = some (iv x.ord) := (hb5.cell (p := ⟨g, o + 3, none⟩) hg).trans c3
              have d4 : w5.cell? ⟨g, o + 4, none⟩ = some (sv x.reply) := (hb5.cell (p := ⟨g, o + 4, none⟩) hg).trans c4
              have d5 : w5.cell? ⟨g, o + 5, none⟩ = some (iv x.sent) := (hb5.cell (p := ⟨g, o + 5, none⟩) hg).trans c5
              have d6 : w5.cell? ⟨g, o + 6, none⟩ = some (iv x.tick) := (hb5.cell (p := ⟨g, o + 6, none⟩) hg).trans c6
              have d7 : w5.cell? ⟨g, o + 7, none⟩ = some (.bool x.opn) := (hb5.cell (p := ⟨g, o + 7, none⟩) hg).trans c7
              have hM5 := hid (hM2.out.below (by omega) hb5)
              have hr5 := hid (goodReq.below hr0.out hb5)
              have hg5 := Nat.lt_of_lt_of_le hg hb5.size
              have hb5' := hid hb5
              clear hb5
              go_wp2_with fail
              refine (alike39_any b x [] hb.out hxB (Or.inl rfl) _ _ (fun _ => True) (.slice ab b.length cb) (.slice none 0 0) (reqCs x (.slice a1 x.args.length k1)) w5 hM5.out.rb hr5.out (hnil _)).mono ?_
              rintro e w6 ⟨rfl, hb6⟩
              rw [hv2.out]
              have e0 : w6.cell? ⟨g, o, none⟩ = some (sv x.path) := (hb6.cell (p := ⟨g, o, none⟩) hg5).trans d0
              have e1 : w6.cell? ⟨g, o + 1, none⟩ = some (sv x.name) := (hb6.cell (p := ⟨g, o + 1, none⟩) hg5).trans d1
              have e2 : w6.cell? ⟨g, o + 2, none⟩ = some (.slice a1 x.args.length k1) := (hb6.cell (p := ⟨g, o + 2, none⟩) hg5).trans d2
              have e3 : w6.cell? ⟨g, o + 3, none⟩ = some (iv x.ord) := (hb6.cell (p := ⟨g, o + 3, none⟩) hg5).trans d3
              have e4 : w6.cell? ⟨g, o + 4, none⟩ = some (sv x.reply) := (hb6.cell (p := ⟨g, o + 4, none⟩) hg5).trans d4
              have e5 : w6.cell? ⟨g, o + 5, none⟩ = some (iv x.sent) := (hb6.cell (p := ⟨g, o + 5, none⟩) hg5).trans d5
              have e6 : w6.cell? ⟨g, o + 6, none⟩ = some (iv x.tick) := (hb6.cell (p := ⟨g, o + 6, none⟩) hg5).trans d6
              have e7 : w6.cell? ⟨g, o + 7, none⟩ = some (.bool x.opn) := (hb6.cell (p := ⟨g, o + 7, none⟩) hg5).trans d7
              have hs6 := hM5.out.bel.size
              have hM6 := hid (hM5.out.below hs6 hb6)
              have hr6 := hid (goodReq.below hr5.out hb6)
              have hg6 := Nat.lt_of_lt_of_le hg5 hb6.size
              have hb6' := hid (hb5'.out.trans (hb6.mono hb5'.out.size))
              clear hb6
              obtain ⟨m, hm⟩ : ∃ m, m = min n1 n2 := ⟨_, rfl⟩
              have hmin : min (n1 : Int) (n2 : Int) = (m : Int) := by omega
              rw [← hm] at hv3
              replace hm := hid hm
              go_wp2_with fail
              refine (alike39_any a x U ha.out hxB (Or.inr hUl) _ _ (fun _ => True) (.slice aa a.length ca) (.slice (some ⟨g4, 0, none⟩) a.length a.length) (reqCs x (.slice a1 x.args.length k1)) w6 hM6.out.ra hr6.out (by rw [hU.out]; exact hM6.out.ll.sl)).mono ?_
              rintro e w7 ⟨rfl, hb7⟩
              rw [hv3.out]
              have ff0 : w7.cell? ⟨g, o, none⟩ = some (sv x.path) := (hb7.cell (p := ⟨g, o, none⟩) hg6).trans e0
              have ff1 : w7.cell? ⟨g, o + 1, none⟩ = some (sv x.name) := (hb7.cell (p := ⟨g, o + 1, none⟩) hg6).trans e1
              have ff2 : w7.cell? ⟨g, o + 2, none⟩ = some (.slice a1 x.args.length k1) := (hb7.cell (p := ⟨g, o + 2, none⟩) hg6).trans e2
              have ff3 : w7.cell? ⟨g, o + 3, none⟩ = some (iv x.ord) := (hb7.cell (p := ⟨g, o + 3, none⟩) hg6).trans e3
              have ff4 : w7.cell? ⟨g, o + 4, none⟩ = some (sv x.reply) := (hb7.cell (p := ⟨g, o + 4, none⟩) hg6).trans e4
              have ff5 : w7.cell? ⟨g, o + 5, none⟩ = some (iv x.sent) := (hb7.cell (p := ⟨g, o + 5, none⟩) hg6).trans e5
              have ff6 : w7.cell? ⟨g, o + 6, none⟩ = some (iv x.tick) := (hb7.cell (p := ⟨g, o + 6, none⟩) hg6).trans e6
              have ff7 : w7.cell? ⟨g, o + 7, none⟩ = some (.bool x.opn) := (hb7.cell (p := ⟨g, o + 7, none⟩) hg6).trans e7
              have hs7 := hM6.out.bel.size
              have hM7 := hid (hM6.out.below hs7 hb7)
              have hr7 := hid (goodReq.below hr6.out hb7)
              have hb7' := hid (hb6'.out.trans (hb7.mono hb6'.out.size))
              clear hb7
              have hidxL := fun kd W => idxB g4 a.length k hlt kd W
              have f0 := hM7.out.ll.at hlt
              have hO7 := hid (hO.out.below hb7'.out)
              have hBf := hid (hB.out.trans (hb7'.out.mono hsz))
              cases hmt : mateF a b k with
              | some y =>
                have hl0 : L k = true := by rw [hLm.out k hlt, hmt]; rfl
                rw [hl0] at f0
                have hO8 : Hid (RowQ w0.heap.size wA.heap.size w7 (onlyF a b (k + 1)) (.slice ar (onlyF a b k).length cr)) := hid (by
                  have h9 := hosucc.out
                  rw [hmt] at h9
                  rw [h9]
                  simpa using hO7.out)
                go_wp2_with fail
                refine ⟨?_, by simp [intOf]; omega⟩
                repeat (first | exact ⟨⟨k + 1, by go_num, by omega, hO8, hBf⟩, rfl⟩ | exact ⟨k + 1, by go_num, by omega, hO8, hBf⟩ | apply Exists.intro)
              | none =>
                have hl0 : L k = false := by rw [hLm.out k hlt, hmt]; rfl
                rw [hl0] at f0
                obtain ⟨a5, c5', W3, hap, hO8, hF8⟩ := push_req w7 (onlyF a b k) x ar cr a1 k1 w0.heap.size wA.heap.size hBA hBf.out.size hlen hO7.out hr7.out
                have hO9 : Hid (RowQ w0.heap.size wA.heap.size W3 (onlyF a b (k + 1)) (.slice a5 ((onlyF a b k).length + 1) c5')) := hid (by
                  have h9 := hosucc.out
                  rw [hmt, ← hx.out] at h9
                  rw [h9]
                  exact hO8)
                have hBg := hid (hBf.out.trans hF8)
                clear hO8 hF8
                go_wp2_with (first | (at_builtin; refine wpList_append_shut rfl (.tmp 147) (.tmp 152) rfl rfl rfl hap ?_))
                refine ⟨?_, by simp [intOf]; omega⟩
                repeat (first | exact ⟨⟨k + 1, by go_num, by omega, hO9, hBg⟩, rfl⟩ | exact ⟨k + 1, by go_num, by omega, hO9, hBg⟩ | apply Exists.intro)
            · obtain rfl : k = a.length := by omega
              clear hlt hk
              have hT := hid (ht.out.below hM2.out.bel (Nat.le_refl _))
              obtain ⟨ar, cr, rfl, -, -⟩ := hO.out.1.slice
              have hrs := hid (OwnR.sl goodReq hO.out.1)
              have hOB : ReqsB (onlyF a b a.length) := ⟨by have := only_len a b a.length; omega, fun z hz => by
                obtain ⟨j, hj, hm⟩ := List.mem_filterMap.1 hz
                have hj := List.mem_range.1 hj
                cases hmt : mateF a b j with
                | some y => rw [hmt] at hm; cases hm
                | none =>
                  rw [hmt] at hm
                  injection hm with hm
                  subst hm
                  exact ha.out.2 _ (List.mem_of_getElem? (at_rq hj))⟩
              replace hOB := hid hOB
              go_wp2_with fail
              refine (only_any a b ha.out hb.out hKa.out hKb.out _ _ (.slice aa a.length ca) (.slice ab b.length cb) wr hT.out hM2.out.ra hM2.out.rb).mono ?_
              rintro e w5 ⟨v5, rfl, hO5, hb5⟩
              have hO5s := hid (OwnR.sl goodReq hO5)
              obtain ⟨a5, c5, rfl, -, -⟩ := hO5.slice
              clear hO5
              have hb5' := hid hb5
              have hrs5 := hid (hrs.out.below goodReq hb5)
              clear hb5
              go_wp2_with fail
              refine (reqs_any (onlyF a b a.length) (onlyF a b a.length) _ _ (.slice a5 (onlyF a b a.length).length c5) (.slice ar (onlyF a b a.length).length cr) w5 hOB.out hOB.out hO5s.out hrs5.out).mono ?_
              rintro e w6 ⟨rfl, hb6⟩
              rw [dec_true rfl]
              have hBf := hid ((hM2.out.bel.trans (hb5'.out.mono hM2.out.bel.size)))
              have hBg := hid (hBf.out.trans (hb6.mono hBf.out.size))
              clear hb6
              go_wp2_with fail
              go_ret
              exact ⟨rfl, hBg.out⟩
end Go.Proofs.YtnbhpicmflagcaaDoor
