/- retroactlaw39.small walked. -/
import Derived.Test.YtnbhpicmflagcaaDoorMatR
import Derived.Test.YtnbhpicmflagcaaDoorSumR
import Derived.Test.YtnbhpicmflagcaaDoorSlOf
import Derived.Test.YtnbhpicmflagcaaDoorEqPair
set_option linter.unusedVariables false
set_option linter.unusedSimpArgs false
namespace Go.Proofs.YtnbhpicmflagcaaDoor
open Go.RowKit
open Go.Lib (hid)
abbrev oneCs : List Value := valCs oneV (.slice none 0 0)
theorem oneR (S : Foot) (W : World) : ValR S W oneV oneCs := valR_shut (SlR.nil _ _ _ _ _)
theorem oneB : ValB oneV := ValB.mk _ (by decide) (by decide) (by decide) (fun y h => by cases h)
theorem onesB : ValsB [oneV] := ⟨by decide, fun x h => by rw [List.mem_singleton.1 h]; exact oneB⟩
theorem rAB : ReqB rA := ⟨onesB, by decide, by decide, by decide⟩
theorem rBB : ReqB rB := ⟨onesB, by decide, by decide, by decide⟩
theorem rCB : ReqB rC := ⟨⟨by decide, fun x h => by cases h⟩, by decide, by decide, by decide⟩
theorem one_sl {W : World} {b : Nat} (h : W.heap[b]? = some (.cells oneCs.toArray 44 (0, 0))) : ValsR (fun _ => True) W [oneV] (.slice (some ⟨b, 0, none⟩) 1 1) :=
  SlR.of_block (css := [oneCs]) rfl (fun cs hc => by rw [List.mem_singleton.1 hc]; rfl) (by simpa using h) trivial (fun i x cs hx hc => by
    match i, hx, hc with
    | 0, hx, hc => simp at hx hc; subst hx hc; exact oneR _ _
    | i + 1, hx, _ => simp at hx)
theorem reqs3 {W : World} {b : Nat} {x y z : Req} {cx cy cz : List Value} (hx : ReqR (fun _ => True) W x cx) (hy : ReqR (fun _ => True) W y cy) (hz : ReqR (fun _ => True) W z cz) (h : W.heap[b]? = some (.cells (cx ++ (cy ++ cz)).toArray 25 (0, 0))) :
    ReqsR (fun _ => True) W [x, y, z] (.slice (some ⟨b, 0, none⟩) 3 3) :=
  SlR.of_block (css := [cx, cy, cz]) rfl (fun cs hc => by simp at hc; rcases hc with rfl | rfl | rfl; exact goodReq.len hx; exact goodReq.len hy; exact goodReq.len hz) (by simpa using h) trivial (fun i x cs h1 h2 => by
    match i, h1, h2 with
    | 0, h1, h2 => simp at h1 h2; subst h1 h2; exact hx
    | 1, h1, h2 => simp at h1 h2; subst h1 h2; exact hy
    | 2, h1, h2 => simp at h1 h2; subst h1 h2; exact hz
    | i + 3, h1, _ => simp at h1)
theorem reqs1 {W : World} {b : Nat} {x : Req} {cx : List Value} (hx : ReqR (fun _ => True) W x cx) (h : W.heap[b]? = some (.cells cx.toArray 25 (0, 0))) : ReqsR (fun _ => True) W [x] (.slice (some ⟨b, 0, none⟩) 1 1) :=
  SlR.of_block (css := [cx]) rfl (fun cs hc => by rw [List.mem_singleton.1 hc]; exact goodReq.len hx) (by simpa using h) trivial (fun i y cs h1 h2 => by
    match i, h1, h2 with
    | 0, h1, h2 => simp at h1 h2; subst h1 h2; exact hx
    | i + 1, h1, _ => simp at h1)
abbrev csA (n : Nat) : List Value := reqCs rA (.slice (some ⟨n + 1, 0, none⟩) 1 1)
abbrev csB (n : Nat) : List Value := reqCs rB (.slice (some ⟨n + 1 + 1 + 1, 0, none⟩) 1 1)
abbrev csC : List Value := reqCs rC (.slice none 0 0)
/-- small's memory -/
structure Sm (n : Nat) (W : World) : Prop where
  h0 : W.heap[n]? = some (.cells oneCs.toArray 44 (0, 0))
  h1 : W.heap[n + 1]? = some (.cells oneCs.toArray 44 (0, 0))
  h2 : W.heap[n + 1 + 1]? = some (.cells (csA n).toArray 25 (0, 0))
  h3 : W.heap[n + 1 + 1 + 1]? = some (.cells oneCs.toArray 44 (0, 0))
  h4 : W.heap[n + 1 + 1 + 1 + 1]? = some (.cells (csB n).toArray 25 (0, 0))
  h5 : W.heap[n + 1 + 1 + 1 + 1 + 1]? = some (.cells csC.toArray 25 (0, 0))
  h6 : W.heap[n + 1 + 1 + 1 + 1 + 1 + 1]? = some (.cells (csA n ++ (csB n ++ csC)).toArray 25 (0, 0))
  h7 : W.heap[n + 1 + 1 + 1 + 1 + 1 + 1 + 1]? = some (.cells (csC ++ (csB n ++ csA n)).toArray 25 (0, 0))
theorem Sm.lt {n : Nat} {W : World} (h : Sm n W) : n + 8 ≤ W.heap.size := lt_of_some h.h7
theorem Sm.below {n : Nat} {W W' : World} (h : Sm n W) (hb : Below W.heap.size W W') : Sm n W' := by
  have hl := h.lt
  exact ⟨below_keep hb h.h0 (by omega), below_keep hb h.h1 (by omega), below_keep hb h.h2 (by omega), below_keep hb h.h3 (by omega), below_keep hb h.h4 (by omega), below_keep hb h.h5 (by omega), below_keep hb h.h6 (by omega), below_keep hb h.h7 (by omega)⟩
theorem Sm.rA {n : Nat} {W : World} (h : Sm n W) : ReqR (fun _ => True) W rA (csA n) := reqR_shut (one_sl h.h1)
theorem Sm.rB {n : Nat} {W : World} (h : Sm n W) : ReqR (fun _ => True) W rB (csB n) := reqR_shut (one_sl h.h3)
theorem Sm.rC {n : Nat} {W : World} (h : Sm n W) : ReqR (fun _ => True) W rC csC := reqR_shut (SlR.nil _ _ _ _ _)
theorem Sm.l {n : Nat} {W : World} (h : Sm n W) : ReqsR (fun _ => True) W [Go.Proofs.YtnbhpicmflagcaaDoor.rA, Go.Proofs.YtnbhpicmflagcaaDoor.rB, Go.Proofs.YtnbhpicmflagcaaDoor.rC] (.slice (some ⟨n + 1 + 1 + 1 + 1 + 1 + 1, 0, none⟩) 3 3) := reqs3 h.rA h.rB h.rC h.h6
theorem Sm.m {n : Nat} {W : World} (h : Sm n W) : ReqsR (fun _ => True) W [Go.Proofs.YtnbhpicmflagcaaDoor.rC, Go.Proofs.YtnbhpicmflagcaaDoor.rB, Go.Proofs.YtnbhpicmflagcaaDoor.rA] (.slice (some ⟨n + 1 + 1 + 1 + 1 + 1 + 1 + 1, 0, none⟩) 3 3) := reqs3 h.rC h.rB h.rA h.h7
/-- where the memory is laid -/
def smW (w : World) : World :=
  (((((((w.alloc (.cells oneCs.toArray 44 (0, 0))).alloc (.cells oneCs.toArray 44 (0, 0))).alloc (.cells (csA w.heap.size).toArray 25 (0, 0))).alloc (.cells oneCs.toArray 44 (0, 0))).alloc (.cells (csB w.heap.size).toArray 25 (0, 0))).alloc (.cells csC.toArray 25 (0, 0))).alloc (.cells (csA w.heap.size ++ (csB w.heap.size ++ csC)).toArray 25 (0, 0))).alloc (.cells (csC ++ (csB w.heap.size ++ csA w.heap.size)).toArray 25 (0, 0))
theorem alloc8 (w : World) (o0 o1 o2 o3 o4 o5 o6 o7 : Obj) : ((((((((w.alloc o0).alloc o1).alloc o2).alloc o3).alloc o4).alloc o5).alloc o6).alloc o7).heap[w.heap.size]? = some o0 ∧ ((((((((w.alloc o0).alloc o1).alloc o2).alloc o3).alloc o4).alloc o5).alloc o6).alloc o7).heap[w.heap.size + 1]? = some o1 ∧ ((((((((w.alloc o0).alloc o1).alloc o2).alloc o3).alloc o4).alloc o5).alloc o6).alloc o7).heap[w.heap.size + 1 + 1]? = some o2 ∧ ((((((((w.alloc o0).alloc o1).alloc o2).alloc o3).alloc o4).alloc o5).alloc o6).alloc o7).heap[w.heap.size + 1 + 1 + 1]? = some o3 ∧ ((((((((w.alloc o0).alloc o1).alloc o2).alloc o3).alloc o4).alloc o5).alloc o6).alloc o7).heap[w.heap.size + 1 + 1 + 1 + 1]? = some o4 ∧ ((((((((w.alloc o0).alloc o1).alloc o2).alloc o3).alloc o4).alloc o5).alloc o6).alloc o7).heap[w.heap.size + 1 + 1 + 1 + 1 + 1]? = some o5 ∧ ((((((((w.alloc o0).alloc o1).alloc o2).alloc o3).alloc o4).alloc o5).alloc o6).alloc o7).heap[w.heap.size + 1 + 1 + 1 + 1 + 1 + 1]? = some o6 ∧ ((((((((w.alloc o0).alloc o1).alloc o2).alloc o3).alloc o4).alloc o5).alloc o6).alloc o7).heap[w.heap.size + 1 + 1 + 1 + 1 + 1 + 1 + 1]? = some o7 := by
  have h0 : ((((((((w.alloc o0).alloc o1).alloc o2).alloc o3).alloc o4).alloc o5).alloc o6).alloc o7).heap[w.heap.size]? = some o0 := heap_alloc_lt (heap_alloc_lt (heap_alloc_lt (heap_alloc_lt (heap_alloc_lt (heap_alloc_lt (heap_alloc_lt (heap_alloc_new' w o0)))))))
  have h1 : ((((((((w.alloc o0).alloc o1).alloc o2).alloc o3).alloc o4).alloc o5).alloc o6).alloc o7).heap[(w.alloc o0).heap.size]? = some o1 := heap_alloc_lt (heap_alloc_lt (heap_alloc_lt (heap_alloc_lt (heap_alloc_lt (heap_alloc_lt (heap_alloc_new' (w.alloc o0) o1))))))
  have s1 : (w.alloc o0).heap.size = w.heap.size + 1 := by simp
  rw [s1] at h1
  have h2 : ((((((((w.alloc o0).alloc o1).alloc o2).alloc o3).alloc o4).alloc o5).alloc o6).alloc o7).heap[((w.alloc o0).alloc o1).heap.size]? = some o2 := heap_alloc_lt (heap_alloc_lt (heap_alloc_lt (heap_alloc_lt (heap_alloc_lt (heap_alloc_new' ((w.alloc o0).alloc o1) o2)))))
  have s2 : ((w.alloc o0).alloc o1).heap.size = w.heap.size + 1 + 1 := by simp
  rw [s2] at h2
  have h3 : ((((((((w.alloc o0).alloc o1).alloc o2).alloc o3).alloc o4).alloc o5).alloc o6).alloc o7).heap[(((w.alloc o0).alloc o1).alloc o2).heap.size]? = some o3 := heap_alloc_lt (heap_alloc_lt (heap_alloc_lt (heap_alloc_lt (heap_alloc_new' (((w.alloc o0).alloc o1).alloc o2) o3))))
  have s3 : (((w.alloc o0).alloc o1).alloc o2).heap.size = w.heap.size + 1 + 1 + 1 := by simp
  rw [s3] at h3
  have h4 : ((((((((w.alloc o0).alloc o1).alloc o2).alloc o3).alloc o4).alloc o5).alloc o6).alloc o7).heap[((((w.alloc o0).alloc o1).alloc o2).alloc o3).heap.size]? = some o4 := heap_alloc_lt (heap_alloc_lt (heap_alloc_lt (heap_alloc_new' ((((w.alloc o0).alloc o1).alloc o2).alloc o3) o4)))
  have s4 : ((((w.alloc o0).alloc o1).alloc o2).alloc o3).heap.size = w.heap.size + 1 + 1 + 1 + 1 := by simp
  rw [s4] at h4
  have h5 : ((((((((w.alloc o0).alloc o1).alloc o2).alloc o3).alloc o4).alloc o5).alloc o6).alloc o7).heap[(((((w.alloc o0).alloc o1).alloc o2).alloc o3).alloc o4).heap.size]? = some o5 := heap_alloc_lt (heap_alloc_lt (heap_alloc_new' (((((w.alloc o0).alloc o1).alloc o2).alloc o3).alloc o4) o5))
  have s5 : (((((w.alloc o0).alloc o1).alloc o2).alloc o3).alloc o4).heap.size = w.heap.size + 1 + 1 + 1 + 1 + 1 := by simp
  rw [s5] at h5
  have h6 : ((((((((w.alloc o0).alloc o1).alloc o2).alloc o3).alloc o4).alloc o5).alloc o6).alloc o7).heap[((((((w.alloc o0).alloc o1).alloc o2).alloc o3).alloc o4).alloc o5).heap.size]? = some o6 := heap_alloc_lt (heap_alloc_new' ((((((w.alloc o0).alloc o1).alloc o2).alloc o3).alloc o4).alloc o5) o6)
  have s6 : ((((((w.alloc o0).alloc o1).alloc o2).alloc o3).alloc o4).alloc o5).heap.size = w.heap.size + 1 + 1 + 1 + 1 + 1 + 1 := by simp
  rw [s6] at h6
  have h7 : ((((((((w.alloc o0).alloc o1).alloc o2).alloc o3).alloc o4).alloc o5).alloc o6).alloc o7).heap[(((((((w.alloc o0).alloc o1).alloc o2).alloc o3).alloc o4).alloc o5).alloc o6).heap.size]? = some o7 := heap_alloc_new' (((((((w.alloc o0).alloc o1).alloc o2).alloc o3).alloc o4).alloc o5).alloc o6) o7
  have s7 : (((((((w.alloc o0).alloc o1).alloc o2).alloc o3).alloc o4).alloc o5).alloc o6).heap.size = w.heap.size + 1 + 1 + 1 + 1 + 1 + 1 + 1 := by simp
  rw [s7] at h7
  exact ⟨h0, h1, h2, h3, h4, h5, h6, h7⟩
theorem smW_sm (w : World) : Sm w.heap.size (smW w) := by
  obtain ⟨h0, h1, h2, h3, h4, h5, h6, h7⟩ := alloc8 w (.cells oneCs.toArray 44 (0, 0)) (.cells oneCs.toArray 44 (0, 0)) (.cells (csA w.heap.size).toArray 25 (0, 0)) (.cells oneCs.toArray 44 (0, 0)) (.cells (csB w.heap.size).toArray 25 (0, 0)) (.cells csC.toArray 25 (0, 0)) (.cells (csA w.heap.size ++ (csB w.heap.size ++ csC)).toArray 25 (0, 0)) (.cells (csC ++ (csB w.heap.size ++ csA w.heap.size)).toArray 25 (0, 0))
  exact ⟨h0, h1, h2, h3, h4, h5, h6, h7⟩
theorem smW_below (w : World) : Below w.heap.size w (smW w) :=
  ((((((((Below.refl _ w).alloc (Nat.le_refl _) _).alloc (by simp) _).alloc (by simp; omega) _).alloc (by simp; omega) _).alloc (by simp; omega) _).alloc (by simp; omega) _).alloc (by simp; omega) _).alloc (by simp; omega) _
theorem keysB3 : ∀ x ∈ [rA, rB, rC], (keyS x).length ≤ 1048576 := fun x h => by
  simp at h
  rcases h with rfl | rfl | rfl
  · rw [keyA]; decide
  · rw [keyB]; decide
  · show (headK rC ++ []).length ≤ _
    decide +kernel
theorem bytes_one_cell (l : List UInt8) : (Lib.byteCells l).toArray.all (·.oneCell') = true := by
  rw [List.all_toArray]
  unfold Lib.byteCells
  rw [List.all_map, List.all_eq_true]
  intro x _
  rfl
/-- the three pairs in memory -/
structure P3 (g : Nat) (W : World) : Prop where
  c0 : W.cell? ⟨g, 0, none⟩ = some (iv 0)
  c1 : W.cell? ⟨g, 1, none⟩ = some (iv 2)
  c4 : W.cell? ⟨g, 4, none⟩ = some (iv 2)
  c5 : W.cell? ⟨g, 5, none⟩ = some (iv 0)
theorem pairs3 {S : Foot} {W : World} {v : Value} (h : OwnR 40 2 PairR S W [(0, 2), (1, 1), (2, 0)] v) : ∃ g c, v = .slice (some ⟨g, 0, none⟩) 3 c ∧ g < W.heap.size ∧ P3 g W := by
  obtain ⟨xs, h1, h2, h3⟩ := h
  rcases id h1.2 with ⟨rfl, h0⟩ | ⟨g, cap, cur, rfl, _, hg, hn, _, hs, _⟩
  · cases h0
  · obtain ⟨ca, h4, h5⟩ := h3 0 (0, 2) rfl
    obtain ⟨cb, h6, h7⟩ := h3 2 (2, 0) rfl
    have h5' : ca = [iv 0, iv 2] := h5
    have h7' : cb = [iv 2, iv 0] := h7
    subst h5' h7'
    refine ⟨g, cap, rfl, lt_of_some hg, ?_, ?_, ?_, ?_⟩
    · exact (h1.cellAt 0 (by decide)).trans (h4 0 _ rfl)
    · exact (h1.cellAt 1 (by decide)).trans (h4 1 _ rfl)
    · exact (h1.cellAt 4 (by decide)).trans (h6 0 _ rfl)
    · exact (h1.cellAt 5 (by decide)).trans (h6 1 _ rfl)
theorem P3.below {g : Nat} {W W' : World} (h : P3 g W) (hg : g < W.heap.size) (hb : Below W.heap.size W W') : P3 g W' :=
  ⟨(hb.cell (p := ⟨g, 0, none⟩) hg).trans h.c0, (hb.cell (p := ⟨g, 1, none⟩) hg).trans h.c1, (hb.cell (p := ⟨g, 4, none⟩) hg).trans h.c4, (hb.cell (p := ⟨g, 5, none⟩) hg).trans h.c5⟩
set_option maxHeartbeats 8000000 in
set_option maxRecDepth 100000 in
/-- what holds while small's last line runs -/
structure SR (n g9 gd : Nat) (DC : Array Value) (w0 W : World) : Prop where
  sm : Sm n W
  p3 : P3 g9 W
  row : W.heap[gd]? = some (.cells DC 48 (0, 0))
  bel : Below w0.heap.size w0 W
theorem SR.next {n g9 gd : Nat} {DC : Array Value} {w0 W W' : World} (h : SR n g9 gd DC w0 W) (hg : g9 < w0.heap.size) (hgd : gd < w0.heap.size) (hb : Below W.heap.size W W') : SR n g9 gd DC w0 W' :=
  ⟨h.sm.below hb, h.p3.below (Nat.lt_of_lt_of_le hg h.bel.size) hb, below_keep hb h.row (Nat.lt_of_lt_of_le hgd h.bel.size), h.bel.trans (hb.mono h.bel.size)⟩
theorem dg_zero (w : World) (DC : Array Value) (h : DC = (Lib.byteCells (shaF (keyS rA))).toArray) : (Op.equalIn 10000 48 (.agg DC) (.agg #[.int .u8 0, .int .u8 0, .int .u8 0, .int .u8 0, .int .u8 0, .int .u8 0, .int .u8 0, .int .u8 0, .int .u8 0, .int .u8 0, .int .u8 0, .int .u8 0, .int .u8 0, .int .u8 0, .int .u8 0, .int .u8 0, .int .u8 0, .int .u8 0, .int .u8 0, .int .u8 0, .int .u8 0, .int .u8 0, .int .u8 0, .int .u8 0, .int .u8 0, .int .u8 0, .int .u8 0, .int .u8 0, .int .u8 0, .int .u8 0, .int .u8 0, .int .u8 0])).run Tryd.prog w = .ok false w := by
  have := dg_equal w (shaF (keyS rA)) (List.replicate 32 0) (shaF_len _) (by simp)
  rw [decide_eq_false shaA_not] at this
  rw [h]
  exact this
theorem ld_row {P : Program} {a : Act} {o : Oper} {w : World} {ty : TypeId} {x : Operand} {g : Nat} {cs : Array Value} (ho : o.op = .load ty x) (hx : a.eval x = .pointer (some ⟨g, 0, none⟩)) (hld : (loadVar ty ⟨g, 0, none⟩).run P w = .ok (.agg cs) w) :
    (execOp a.eval o).run P w = .ok (.value (.agg cs)) w := by
  unfold execOp
  simp only [ho, hx, Instr.loadAt, Instr.sureAddr, Sem.run_bind, Sem.run_pure, Result.andThen_ok, hld]
set_option maxHeartbeats 8000000 in
set_option maxRecDepth 100000 in
theorem small_any (w0 : World) (ht : TabR w0) : Calls Tryd.prog 7 #[] w0 fun e w0' => e = .returned (.bool true) ∧ Below w0.heap.size w0 w0' := by
  replace ht := hid ht
  go_enter Tryd.func7, Tryd.ntmps7
  go_wp2_with fail
  have hS8 := smW_sm w0
  have hB8 := smW_below w0
  have hl3 : ReqsB [rA, rB, rC] := ⟨by decide, fun x h => by simp at h; rcases h with rfl | rfl | rfl; exact rAB; exact rBB; exact rCB⟩
  have hm3 : ReqsB [rC, rB, rA] := ⟨by decide, fun x h => by simp at h; rcases h with rfl | rfl | rfl; exact rCB; exact rBB; exact rAB⟩
  have hm1 : ReqsB [rB] := ⟨by decide, fun x h => by simp at h; rcases h with rfl; exact rBB⟩
  refine (pairs_any [rA, rB, rC] [rC, rB, rA] hl3 hm3 keysB3 (fun x h => keysB3 x (by simp at h ⊢; rcases h with h | h | h <;> simp [h])) _ _ _ _ (smW w0) (ht.out.below hB8 (Nat.le_refl _)) hS8.l hS8.m).mono ?_
  rintro e w9 ⟨v9, rfl, hO9, hb9⟩
  have hS9 := hS8.below hb9
  have hB9 := hB8.trans (hb9.mono hB8.size)
  have hp3 : pairsF [rA, rB, rC] [rC, rB, rA] [rA, rB, rC].length = [(0, 2), (1, 1), (2, 0)] := small_pairs
  rw [hp3] at hO9
  obtain ⟨g9, c9, rfl, hg9, hr9⟩ := pairs3 hO9
  have hTab9 := hid (ht.out.below hB9 (Nat.le_refl _))
  replace hB9 := hid hB9
  clear hb9 hO9 hp3 hS8 hB8
  have hl9 := hS9.lt
  have d0 : w9.cell? ⟨w0.heap.size, 0, none⟩ = some (iv 3) := (cell_of hS9.h0).trans rfl
  have d1 : w9.cell? ⟨w0.heap.size, 1, none⟩ = some (.string ⟨#[]⟩) := (cell_of hS9.h0).trans rfl
  have d2 : w9.cell? ⟨w0.heap.size, 2, none⟩ = some (iv 1) := (cell_of hS9.h0).trans rfl
  have d3 : w9.cell? ⟨w0.heap.size, 3, none⟩ = some (iv 0) := (cell_of hS9.h0).trans rfl
  have d4 : w9.cell? ⟨w0.heap.size, 4, none⟩ = some (.string ⟨#[]⟩) := (cell_of hS9.h0).trans rfl
  have d5 : w9.cell? ⟨w0.heap.size, 5, none⟩ = some (.slice none 0 0) := (cell_of hS9.h0).trans rfl
  have hbO : Below w9.heap.size w9 (w9.alloc (.cells oneCs.toArray 44 (0, 0))) := (Below.refl _ _).alloc (Nat.le_refl _) _
  have hS9b := hid (hS9.below hbO)
  have hr9b := hr9.below hg9 hbO
  have hv9 := one_sl (heap_alloc_new' w9 (.cells oneCs.toArray 44 (0, 0)))
  have hB9b := hid (hB9.out.trans (hbO.mono hB9.out.size))
  have hT9b := hid (hTab9.out.below hbO (Nat.le_refl _))
  have hg9b := Nat.lt_of_lt_of_le hg9 hbO.size
  clear hS9 hr9 hB9 hTab9
  replace hr9b := hid hr9b
  go_wp2_with fail
  refine (find_any [rA, rB, rC] [48] [112, 97, 121] [oneV] 1 hl3 onesB _ _ _ _ (w9.alloc (.cells oneCs.toArray 44 (0, 0))) hS9b.out.l hv9).mono ?_
  rintro e w10 ⟨rfl, hb⟩
  rw [show findV (findF [rA, rB, rC] [48] [112, 97, 121] [oneV] 1) = .tuple #[iv 1, .bool true] by rw [small_find1]; rfl]
  have hS10 := hid (hS9b.out.below hb)
  have hr10 := hid (hr9b.out.below hg9b hb)
  have hg10 := Nat.lt_of_lt_of_le hg9b hb.size
  have hB10 := hid (hB9b.out.trans (hb.mono hB9b.out.size))
  have hT10 := hid (hT9b.out.below hb (Nat.le_refl _))
  clear hS9b hr9b hg9b hB9b hT9b hb hbO hv9 d0 d1 d2 d3 d4 d5 hg9 hl9
  go_wp2_with fail
  refine (find_any [rA, rB, rC] [48] [112, 97, 121] [] 0 hl3 ⟨by decide, fun x h => by cases h⟩ _ (fun _ => True) _ _ w10 hS10.out.l (SlR.nil _ _ _ _ _)).mono ?_
  rintro e w11 ⟨rfl, hb⟩
  rw [show findV (findF [rA, rB, rC] [48] [112, 97, 121] [] 0) = .tuple #[iv 0, .bool false] by rw [small_find2]; rfl]
  have hS11 := hid (hS10.out.below hb)
  have hr11 := hid (hr10.out.below hg10 hb)
  have hg11 := Nat.lt_of_lt_of_le hg10 hb.size
  have hB11 := hid (hB10.out.trans (hb.mono hB10.out.size))
  have hT11 := hid (hT10.out.below hb (Nat.le_refl _))
  clear hS10 hr10 hg10 hB10 hT10 hb
  have b0 : w11.cell? ⟨w0.heap.size + 1 + 1 + 1 + 1, 0, none⟩ = some (.string ⟨#[48]⟩) := (cell_of hS11.out.h4).trans rfl
  have b1 : w11.cell? ⟨w0.heap.size + 1 + 1 + 1 + 1, 1, none⟩ = some (.string ⟨#[112, 97, 121]⟩) := (cell_of hS11.out.h4).trans rfl
  have b2 : w11.cell? ⟨w0.heap.size + 1 + 1 + 1 + 1, 2, none⟩ = some (.slice (some ⟨w0.heap.size + 1 + 1 + 1, 0, none⟩) 1 1) := (cell_of hS11.out.h4).trans rfl
  have b3 : w11.cell? ⟨w0.heap.size + 1 + 1 + 1 + 1, 3, none⟩ = some (iv 1) := (cell_of hS11.out.h4).trans rfl
  have b4 : w11.cell? ⟨w0.heap.size + 1 + 1 + 1 + 1, 4, none⟩ = some (.string ⟨#[]⟩) := (cell_of hS11.out.h4).trans rfl
  have b5 : w11.cell? ⟨w0.heap.size + 1 + 1 + 1 + 1, 5, none⟩ = some (iv 0) := (cell_of hS11.out.h4).trans rfl
  have b6 : w11.cell? ⟨w0.heap.size + 1 + 1 + 1 + 1, 6, none⟩ = some (iv 0) := (cell_of hS11.out.h4).trans rfl
  have b7 : w11.cell? ⟨w0.heap.size + 1 + 1 + 1 + 1, 7, none⟩ = some (.bool true) := (cell_of hS11.out.h4).trans rfl
  have hbO : Below w11.heap.size w11 (w11.alloc (.cells (csB w0.heap.size).toArray 25 (0, 0))) := (Below.refl _ _).alloc (Nat.le_refl _) _
  have hS11b := hid (hS11.out.below hbO)
  have hr11b := hid (hr11.out.below hg11 hbO)
  have hv11 := reqs1 hS11b.out.rB (heap_alloc_new' w11 (.cells (csB w0.heap.size).toArray 25 (0, 0)))
  have hB11b := hid (hB11.out.trans (hbO.mono hB11.out.size))
  have hT11b := hid (hT11.out.below hbO (Nat.le_refl _))
  have hg11b := Nat.lt_of_lt_of_le hg11 hbO.size
  clear hS11 hr11 hB11 hT11
  go_wp2_with fail
  refine (only_any [rA, rB, rC] [rB] hl3 hm1 keysB3 (fun x h => keysB3 x (by simp at h ⊢; simp [h])) _ _ _ _ (w11.alloc (.cells (csB w0.heap.size).toArray 25 (0, 0))) hT11b.out hS11b.out.l hv11).mono ?_
  rintro e w12 ⟨v12, rfl, hO12, hb⟩
  obtain ⟨a12, c12, rfl, -, -⟩ := hO12.slice
  rw [show (onlyF [rA, rB, rC] [rB] [rA, rB, rC].length).length = 2 from small_only1]
  have hS12 := hid (hS11b.out.below hb)
  have hr12 := hid (hr11b.out.below hg11b hb)
  have hg12 := Nat.lt_of_lt_of_le hg11b hb.size
  have hB12 := hid (hB11b.out.trans (hb.mono hB11b.out.size))
  have hT12 := hid (hT11b.out.below hb (Nat.le_refl _))
  clear hS11b hr11b hg11b hB11b hT11b hb hbO hv11 b0 b1 b2 b3 b4 b5 b6 b7 hO12 hg11
  have b0 : w12.cell? ⟨w0.heap.size + 1 + 1, 0, none⟩ = some (.string ⟨#[48]⟩) := (cell_of hS12.out.h2).trans rfl
  have b1 : w12.cell? ⟨w0.heap.size + 1 + 1, 1, none⟩ = some (.string ⟨#[112, 97, 121]⟩) := (cell_of hS12.out.h2).trans rfl
  have b2 : w12.cell? ⟨w0.heap.size + 1 + 1, 2, none⟩ = some (.slice (some ⟨w0.heap.size + 1, 0, none⟩) 1 1) := (cell_of hS12.out.h2).trans rfl
  have b3 : w12.cell? ⟨w0.heap.size + 1 + 1, 3, none⟩ = some (iv 0) := (cell_of hS12.out.h2).trans rfl
  have b4 : w12.cell? ⟨w0.heap.size + 1 + 1, 4, none⟩ = some (.string ⟨#[]⟩) := (cell_of hS12.out.h2).trans rfl
  have b5 : w12.cell? ⟨w0.heap.size + 1 + 1, 5, none⟩ = some (iv 0) := (cell_of hS12.out.h2).trans rfl
  have b6 : w12.cell? ⟨w0.heap.size + 1 + 1, 6, none⟩ = some (iv 0) := (cell_of hS12.out.h2).trans rfl
  have b7 : w12.cell? ⟨w0.heap.size + 1 + 1, 7, none⟩ = some (.bool false) := (cell_of hS12.out.h2).trans rfl
  go_wp2_with fail
  refine (key_any rA rAB (keysB3 rA (by simp)) _ (csA w0.heap.size) w12 hT12.out hS12.out.rA).mono ?_
  rintro e w13 ⟨rfl, hb⟩
  have hS13 := hid (hS12.out.below hb)
  have hr13 := hid (hr12.out.below hg12 hb)
  have hg13 := Nat.lt_of_lt_of_le hg12 hb.size
  have hB13 := hid (hB12.out.trans (hb.mono hB12.out.size))
  have hT13 := hid (hT12.out.below hb (Nat.le_refl _))
  clear hS12 hr12 hg12 hB12 hT12 hb b0 b1 b2 b3 b4 b5 b6 b7
  go_wp2_with fail
  refine (read_hex (shaF (keyS rA)) (shaF_len _) w13).mono ?_
  rintro e w14 ⟨rfl, hb⟩
  have hS14 := hid (hS13.out.below hb)
  have hr14 := hid (hr13.out.below hg13 hb)
  have hg14 := Nat.lt_of_lt_of_le hg13 hb.size
  have hB14 := hid (hB13.out.trans (hb.mono hB13.out.size))
  have hT14 := hid (hT13.out.below hb (Nat.le_refl _))
  clear hS13 hr13 hg13 hB13 hT13 hb
  obtain ⟨DC, hDC⟩ : ∃ DC, DC = (Lib.byteCells (shaF (keyS rA))).toArray := ⟨_, rfl⟩
  have hDs : DC.size = 32 := by rw [hDC]; simp [Lib.byteCells_length, shaF_len]
  rw [show dgv (shaF (keyS rA)) = .agg DC by rw [hDC]; rfl]
  have hone : DC.all (·.oneCell') = true := by rw [hDC]; exact bytes_one_cell _
  have hz := heap_alloc_new' w14 (.cells (bcells 32 fun _ => 0) 48)
  have hbz : Below w14.heap.size w14 (w14.alloc (.cells (bcells 32 fun _ => 0) 48)) := (Below.refl _ _).alloc (Nat.le_refl _) _
  have hbs := below_setRow hbz (Nat.le_refl _) DC
  have hrow := hid (setRow_heap _ _ _ DC _ _ hz)
  replace hDC := hid hDC
  replace hDs := hid hDs
  go_wp2_with (first | (refine wpList_store_row rfl 48 (.tmp 12) (.tmp 60) rfl w14.heap.size DC rfl rfl 48 _ hz (by rw [hDs.out]; kernel_rfl) (by rw [hDs.out, arr_size]) hone ?_))
  have hS15 := hS14.out.below hbs
  have hr15 := hr14.out.below hg14 hbs
  have hg15 := Nat.lt_of_lt_of_le hg14 hbs.size
  have hB15 := hid (hB14.out.trans (hbs.mono hB14.out.size))
  have hT15 := hid (hT14.out.below hbs (Nat.le_refl _))
  have hl15 := hS15.lt
  have hgd15 : w14.heap.size < ((w14.alloc (.cells (bcells 32 fun _ => 0) 48)).setRow w14.heap.size DC).heap.size := lt_of_some hrow.out
  clear hS14 hr14 hg14 hB14 hT14 hbs hbz hz hone
  show Code.wp _ _ _ _ ((w14.alloc (.cells (bcells 32 fun _ => 0) 48)).setRow w14.heap.size DC)
  generalize ((w14.alloc (.cells (bcells 32 fun _ => 0) 48)).setRow w14.heap.size DC) = w15 at *
  obtain ⟨gd, hgd⟩ : ∃ gd, gd = w14.heap.size := ⟨_, rfl⟩
  rw [← hgd] at hrow hgd15 ⊢
  clear hgd
  clear hl15
  -- REGION
  refine wp_region_held_drew (S := SR w0.heap.size g9 gd DC w15) (by kernel_rfl) ?_ (fun hHeld => ?_)
  · exact ⟨hS15.below (Below.refl _ _).drew, hr15.below hg15 (Below.refl _ _).drew, below_keep (Below.refl _ _).drew hrow.out hgd15, (Below.refl _ _).drew⟩
  generalize w15.drew = wd at *
  refine wpAnyH_take (i := 0) (oi := ⟨_, _, _, _, _, _⟩) (v := ?_) rfl (by kernel_rfl) (by kernel_rfl) (by kernel_rfl) (fun _ _ _ h => h) (Or.inl ⟨by rfl, ?hy⟩) (by assumption) ?_
  case hy =>
    intro w hSw
    skip
    go_simp
    all_goals with_reducible rfl
  try simp only [Act.put, List.setIfInBounds_toArray, List.set_cons_zero, List.set_cons_succ]
  refine wpAnyH_take (i := 1) (oi := ⟨_, _, _, _, _, _⟩) (v := ?_) rfl (by kernel_rfl) (by kernel_rfl) (by kernel_rfl) (fun _ _ _ h => h) (Or.inl ⟨by rfl, ?hy⟩) (by assumption) ?_
  case hy =>
    intro w hSw
    skip
    go_simp
    all_goals with_reducible rfl
  try simp only [Act.put, List.setIfInBounds_toArray, List.set_cons_zero, List.set_cons_succ]
  refine wpAnyH_take (i := 2) (oi := ⟨_, _, _, _, _, _⟩) (v := ?_) rfl (by kernel_rfl) (by kernel_rfl) (by kernel_rfl) (fun _ _ _ h => h) (Or.inl ⟨by rfl, ?hy⟩) (by assumption) ?_
  case hy =>
    intro w hSw
    have c0 := hSw.p3.c0
    have c1 := hSw.p3.c1
    have c4 := hSw.p3.c4
    have c5 := hSw.p3.c5
    go_simp
    all_goals with_reducible rfl
  try simp only [Act.put, List.setIfInBounds_toArray, List.set_cons_zero, List.set_cons_succ]
  refine wpAnyH_take (i := 3) (oi := ⟨_, _, _, _, _, _⟩) (v := ?_) rfl (by kernel_rfl) (by kernel_rfl) (by kernel_rfl) (fun _ _ _ h => h) (Or.inl ⟨by rfl, ?hy⟩) (by assumption) ?_
  case hy =>
    intro w hSw
    skip
    go_simp
    all_goals with_reducible rfl
  try simp only [Act.put, List.setIfInBounds_toArray, List.set_cons_zero, List.set_cons_succ]
  refine wpAnyH_take (i := 4) (oi := ⟨_, _, _, _, _, _⟩) (v := ?_) rfl (by kernel_rfl) (by kernel_rfl) (by kernel_rfl) (fun _ _ _ h => h) (Or.inl ⟨by rfl, ?hy⟩) (by assumption) ?_
  case hy =>
    intro w hSw
    have he := fun a b c d => pr_equal w a b c d
    go_simp
    all_goals with_reducible rfl
  try simp only [Act.put, List.setIfInBounds_toArray, List.set_cons_zero, List.set_cons_succ]
  refine wpAnyH_take (i := 5) (oi := ⟨_, _, _, _, _, _⟩) (v := ?_) rfl (by kernel_rfl) (by kernel_rfl) (by kernel_rfl) (fun _ _ _ h => h) (Or.inl ⟨by rfl, ?hy⟩) (by assumption) ?_
  case hy =>
    intro w hSw
    skip
    go_simp
    all_goals with_reducible rfl
  try simp only [Act.put, List.setIfInBounds_toArray, List.set_cons_zero, List.set_cons_succ]
  refine wpAnyH_take (i := 6) (oi := ⟨_, _, _, _, _, _⟩) (v := ?_) rfl (by kernel_rfl) (by kernel_rfl) (by kernel_rfl) (fun _ _ _ h => h) (Or.inl ⟨by rfl, ?hy⟩) (by assumption) ?_
  case hy =>
    intro w hSw
    skip
    go_simp
    all_goals with_reducible rfl
  try simp only [Act.put, List.setIfInBounds_toArray, List.set_cons_zero, List.set_cons_succ]
  refine wpAnyH_take (i := 7) (oi := ⟨_, _, _, _, _, _⟩) (v := ?_) rfl (by kernel_rfl) (by kernel_rfl) (by kernel_rfl) (fun _ _ _ h => h) (Or.inl ⟨by rfl, ?hy⟩) (by assumption) ?_
  case hy =>
    intro w hSw
    skip
    go_simp
    all_goals with_reducible rfl
  try simp only [Act.put, List.setIfInBounds_toArray, List.set_cons_zero, List.set_cons_succ]
  refine wpAnyH_take (i := 8) (oi := ⟨_, _, _, _, _, _⟩) (v := ?_) rfl (by kernel_rfl) (by kernel_rfl) (by kernel_rfl) (fun _ _ _ h => h) (Or.inl ⟨by rfl, ?hy⟩) (by assumption) ?_
  case hy =>
    intro w hSw
    have c0 := hSw.p3.c0
    have c1 := hSw.p3.c1
    have c4 := hSw.p3.c4
    have c5 := hSw.p3.c5
    go_simp
    all_goals with_reducible rfl
  try simp only [Act.put, List.setIfInBounds_toArray, List.set_cons_zero, List.set_cons_succ]
  refine wpAnyH_take (i := 9) (oi := ⟨_, _, _, _, _, _⟩) (v := ?_) rfl (by kernel_rfl) (by kernel_rfl) (by kernel_rfl) (fun _ _ _ h => h) (Or.inl ⟨by rfl, ?hy⟩) (by assumption) ?_
  case hy =>
    intro w hSw
    skip
    go_simp
    all_goals with_reducible rfl
  try simp only [Act.put, List.setIfInBounds_toArray, List.set_cons_zero, List.set_cons_succ]
  refine wpAnyH_take (i := 10) (oi := ⟨_, _, _, _, _, _⟩) (v := ?_) rfl (by kernel_rfl) (by kernel_rfl) (by kernel_rfl) (fun _ _ _ h => h) (Or.inl ⟨by rfl, ?hy⟩) (by assumption) ?_
  case hy =>
    intro w hSw
    have he := fun a b c d => pr_equal w a b c d
    go_simp
    all_goals with_reducible rfl
  try simp only [Act.put, List.setIfInBounds_toArray, List.set_cons_zero, List.set_cons_succ]
  refine wpAnyH_take (i := 11) (oi := ⟨_, _, _, _, _, _⟩) (v := ?_) rfl (by kernel_rfl) (by kernel_rfl) (by kernel_rfl) (fun _ _ _ h => h) (Or.inl ⟨by rfl, ?hy⟩) (by assumption) ?_
  case hy =>
    intro w hSw
    skip
    go_simp
    all_goals with_reducible rfl
  try simp only [Act.put, List.setIfInBounds_toArray, List.set_cons_zero, List.set_cons_succ]
  refine wpAnyH_take (i := 12) (oi := ⟨_, _, _, _, _, _⟩) (v := ?_) rfl (by kernel_rfl) (by kernel_rfl) (by kernel_rfl) (fun _ _ _ h => h) (Or.inl ⟨by rfl, ?hy⟩) (by assumption) ?_
  case hy =>
    intro w hSw
    skip
    go_simp
    all_goals with_reducible rfl
  try simp only [Act.put, List.setIfInBounds_toArray, List.set_cons_zero, List.set_cons_succ]
  refine wpAnyH_take (i := 13) (oi := ⟨_, _, _, _, _, _⟩) (v := ?_) rfl (by kernel_rfl) (by kernel_rfl) (by kernel_rfl) (fun _ _ _ h => h) (Or.inl ⟨by rfl, ?hy⟩) (by assumption) ?_
  case hy =>
    intro w hSw
    skip
    go_simp
    all_goals with_reducible rfl
  try simp only [Act.put, List.setIfInBounds_toArray, List.set_cons_zero, List.set_cons_succ]
  refine wpAnyH_take (i := 14) (oi := ⟨_, _, _, _, _, _⟩) (v := ?_) rfl (by kernel_rfl) (by kernel_rfl) (by kernel_rfl) (fun _ _ _ h => h) (Or.inl ⟨by rfl, ?hy⟩) (by assumption) ?_
  case hy =>
    intro w hSw
    skip
    go_simp
    all_goals with_reducible rfl
  try simp only [Act.put, List.setIfInBounds_toArray, List.set_cons_zero, List.set_cons_succ]
  refine wpAnyH_ready (rs := [15]) (by kernel_rfl) (by simp) ?_
  refine AllReadyH.cons (o := ⟨_, _, _, _, _, _⟩) rfl (fun K hK => ?_) AllReadyH.nil
  go_simp
  go_at_call 21
  refine (only_any [rA, rB, rC] [rC, rB, rA] hl3 hm3 keysB3 (fun x h => keysB3 x (by simp at h ⊢; rcases h with h | h | h <;> simp [h])) _ _ _ _ wd (hT15.out.below hHeld.bel (Nat.le_refl _)) hHeld.sm.l hHeld.sm.m).mono ?_
  rintro e w16 ⟨v16, rfl, hO16, hb⟩
  obtain ⟨a16, c16, rfl, -, -⟩ := hO16.slice
  rw [show (onlyF [rA, rB, rC] [rC, rB, rA] [rA, rB, rC].length).length = 0 from small_only2]
  have hS16 := hHeld.next hg15 hgd15 hb
  refine hK.out _ _ ?_ (fun hHeld2 => ?_)
  · exact hS16
  clear hK K
  clear hHeld
  have hHeld := hHeld2
  clear hHeld2
  try simp only [Act.put, List.setIfInBounds_toArray, List.set_cons_zero, List.set_cons_succ]
  refine wpAnyH_take (i := 16) (oi := ⟨_, _, _, _, _, _⟩) (v := ?_) rfl (by kernel_rfl) (by kernel_rfl) (by kernel_rfl) (fun _ _ _ h => h) (Or.inl ⟨by rfl, ?hy⟩) (by assumption) ?_
  case hy =>
    intro w hSw
    skip
    go_simp
    all_goals with_reducible rfl
  try simp only [Act.put, List.setIfInBounds_toArray, List.set_cons_zero, List.set_cons_succ]
  refine wpAnyH_take (i := 17) (oi := ⟨_, _, _, _, _, _⟩) (v := ?_) rfl (by kernel_rfl) (by kernel_rfl) (by kernel_rfl) (fun _ _ _ h => h) (Or.inl ⟨by rfl, ?hy⟩) (by assumption) ?_
  case hy =>
    intro w hSw
    skip
    go_simp
    all_goals with_reducible rfl
  try simp only [Act.put, List.setIfInBounds_toArray, List.set_cons_zero, List.set_cons_succ]
  refine wpAnyH_take (i := 18) (oi := ⟨_, _, _, _, _, _⟩) (v := ?_) rfl (by kernel_rfl) (by kernel_rfl) (by kernel_rfl) (fun _ _ _ h => h) (Or.inl ⟨by rfl, ?hy⟩) (by assumption) ?_
  case hy =>
    intro w hSw
    skip
    go_simp
    all_goals with_reducible rfl
  try simp only [Act.put, List.setIfInBounds_toArray, List.set_cons_zero, List.set_cons_succ]
  refine wpAnyH_take (i := 19) (oi := ⟨_, _, _, _, _, _⟩) (v := ?_) rfl (by kernel_rfl) (by kernel_rfl) (by kernel_rfl) (fun _ _ _ h => h) (Or.inl ⟨by rfl, ?hy⟩) (by assumption) ?_
  case hy =>
    intro w hSw
    skip
    go_simp
    all_goals with_reducible rfl
  try simp only [Act.put, List.setIfInBounds_toArray, List.set_cons_zero, List.set_cons_succ]
  refine wpAnyH_take (i := 20) (oi := ⟨_, _, _, _, _, _⟩) (v := ?_) rfl (by kernel_rfl) (by kernel_rfl) (by kernel_rfl) (fun _ _ _ h => h) (Or.inl ⟨by rfl, ?hy⟩) (by assumption) ?_
  case hy =>
    intro w hSw
    skip
    go_simp
    all_goals with_reducible rfl
  try simp only [Act.put, List.setIfInBounds_toArray, List.set_cons_zero, List.set_cons_succ]
  refine wpAnyH_take (i := 21) (oi := ⟨_, _, _, _, _, _⟩) (v := ?_) rfl (by kernel_rfl) (by kernel_rfl) (by kernel_rfl) (fun _ _ _ h => h) (Or.inl ⟨by rfl, ?hy⟩) (by assumption) ?_
  case hy =>
    intro w hSw
    have d0 : w.cell? ⟨w0.heap.size, 0, none⟩ = some (iv 3) := (cell_of hSw.sm.h0).trans rfl
    have d1 : w.cell? ⟨w0.heap.size, 1, none⟩ = some (.string ⟨#[]⟩) := (cell_of hSw.sm.h0).trans rfl
    have d2 : w.cell? ⟨w0.heap.size, 2, none⟩ = some (iv 1) := (cell_of hSw.sm.h0).trans rfl
    have d3 : w.cell? ⟨w0.heap.size, 3, none⟩ = some (iv 0) := (cell_of hSw.sm.h0).trans rfl
    have d4 : w.cell? ⟨w0.heap.size, 4, none⟩ = some (.string ⟨#[]⟩) := (cell_of hSw.sm.h0).trans rfl
    have d5 : w.cell? ⟨w0.heap.size, 5, none⟩ = some (.slice none 0 0) := (cell_of hSw.sm.h0).trans rfl
    go_simp
    all_goals with_reducible rfl
  try simp only [Act.put, List.setIfInBounds_toArray, List.set_cons_zero, List.set_cons_succ]
  refine wpAnyH_ready (rs := [22]) (by kernel_rfl) (by simp) ?_
  refine AllReadyH.cons (o := ⟨_, _, _, _, _, _⟩) rfl (fun K hK => ?_) AllReadyH.nil
  go_simp
  have hO17 : Below w16.heap.size w16 (w16.alloc (.cells oneCs.toArray 44 (0, 0))) := (Below.refl _ _).alloc (Nat.le_refl _) _
  have hv17 := one_sl (heap_alloc_new' w16 (.cells oneCs.toArray 44 (0, 0)))
  have hS17 := hHeld.next hg15 hgd15 hO17
  refine hK.out _ _ ?_ (fun hHeld2 => ?_)
  · exact hS17
  clear hK K
  clear hHeld
  have hHeld := hHeld2
  clear hHeld2
  try simp only [Act.put, List.setIfInBounds_toArray, List.set_cons_zero, List.set_cons_succ]
  refine wpAnyH_ready (rs := [23]) (by kernel_rfl) (by simp) ?_
  refine AllReadyH.cons (o := ⟨_, _, _, _, _, _⟩) rfl (fun K hK => ?_) AllReadyH.nil
  go_simp
  go_at_call 13
  refine (ord_any [rA, rB, rC] [48] [112, 97, 121] [oneV] hl3 onesB _ _ _ _ (w16.alloc (.cells oneCs.toArray 44 (0, 0))) hHeld.sm.l hv17).mono ?_
  rintro e w18 ⟨rfl, hb⟩
  rw [small_ord]
  have hS18 := hHeld.next hg15 hgd15 hb
  refine hK.out _ _ ?_ (fun hHeld2 => ?_)
  · exact hS18
  clear hK K
  clear hHeld
  have hHeld := hHeld2
  clear hHeld2
  try simp only [Act.put, List.setIfInBounds_toArray, List.set_cons_zero, List.set_cons_succ]
  refine wpAnyH_take (i := 24) (oi := ⟨_, _, _, _, _, _⟩) (v := ?_) rfl (by kernel_rfl) (by kernel_rfl) (by kernel_rfl) (fun _ _ _ h => h) (Or.inl ⟨by rfl, ?hy⟩) (by assumption) ?_
  case hy =>
    intro w hSw
    skip
    go_simp
    all_goals with_reducible rfl
  try simp only [Act.put, List.setIfInBounds_toArray, List.set_cons_zero, List.set_cons_succ]
  refine wpAnyH_take (i := 25) (oi := ⟨_, _, _, _, _, _⟩) (v := ?_) rfl (by kernel_rfl) (by kernel_rfl) (by kernel_rfl) (fun _ _ _ h => h) (Or.inl ⟨by rfl, ?hy⟩) (by assumption) ?_
  case hy =>
    intro w hSw
    skip
    go_simp
    all_goals with_reducible rfl
  try simp only [Act.put, List.setIfInBounds_toArray, List.set_cons_zero, List.set_cons_succ]
  refine wpAnyH_take (i := 26) (oi := ⟨_, _, _, _, _, _⟩) (v := ?_) rfl (by kernel_rfl) (by kernel_rfl) (by kernel_rfl) (fun _ _ _ h => h) (Or.inl ⟨by rfl, ?hy⟩) (by assumption) ?_
  case hy =>
    intro w hSw
    skip
    go_simp
    all_goals with_reducible rfl
  try simp only [Act.put, List.setIfInBounds_toArray, List.set_cons_zero, List.set_cons_succ]
  refine wpAnyH_take (i := 27) (oi := ⟨_, _, _, _, _, _⟩) (v := ?_) rfl (by kernel_rfl) (by kernel_rfl) (by kernel_rfl) (fun _ _ _ h => h) (Or.inl ⟨by rfl, ?hy⟩) (by assumption) ?_
  case hy =>
    intro w hSw
    skip
    go_simp
    all_goals with_reducible rfl
  try simp only [Act.put, List.setIfInBounds_toArray, List.set_cons_zero, List.set_cons_succ]
  refine wpAnyH_take (i := 28) (oi := ⟨_, _, _, _, _, _⟩) (v := ?_) rfl (by kernel_rfl) (by kernel_rfl) (by kernel_rfl) (fun _ _ _ h => h) (Or.inl ⟨by rfl, ?hy⟩) (by assumption) ?_
  case hy =>
    intro w hSw
    skip
    go_simp
    all_goals with_reducible rfl
  try simp only [Act.put, List.setIfInBounds_toArray, List.set_cons_zero, List.set_cons_succ]
  refine wpAnyH_take (i := 29) (oi := ⟨_, _, _, _, _, _⟩) (v := ?_) rfl (by kernel_rfl) (by kernel_rfl) (by kernel_rfl) (fun _ _ _ h => h) (Or.inl ⟨by rfl, ?hy⟩) (by assumption) ?_
  case hy =>
    intro w hSw
    skip
    go_simp
    all_goals with_reducible rfl
  try simp only [Act.put, List.setIfInBounds_toArray, List.set_cons_zero, List.set_cons_succ]
  refine wpAnyH_take (i := 30) (oi := ⟨_, _, _, _, _, _⟩) (v := ?_) rfl (by kernel_rfl) (by kernel_rfl) (by kernel_rfl) (fun _ _ _ h => h) (Or.inl ⟨by rfl, ?hy⟩) (by assumption) ?_
  case hy =>
    intro w hSw
    skip
    go_simp
    all_goals with_reducible rfl
  try simp only [Act.put, List.setIfInBounds_toArray, List.set_cons_zero, List.set_cons_succ]
  refine wpAnyH_take (i := 31) (oi := ⟨_, _, _, _, _, _⟩) (v := ?_) rfl (by kernel_rfl) (by kernel_rfl) (by kernel_rfl) (fun _ _ _ h => h) (Or.inl ⟨by rfl, ?hy⟩) (by assumption) ?_
  case hy =>
    intro w hSw
    skip
    go_simp
    all_goals with_reducible rfl
  try simp only [Act.put, List.setIfInBounds_toArray, List.set_cons_zero, List.set_cons_succ]
  refine wpAnyH_take (i := 32) (oi := ⟨_, _, _, _, _, _⟩) (v := ?_) rfl (by kernel_rfl) (by kernel_rfl) (by kernel_rfl) (fun _ _ _ h => h) (Or.inl ⟨by rfl, ?hy⟩) (by assumption) ?_
  case hy =>
    intro w hSw
    skip
    go_simp
    all_goals with_reducible rfl
  try simp only [Act.put, List.setIfInBounds_toArray, List.set_cons_zero, List.set_cons_succ]
  refine wpAnyH_take (i := 33) (oi := ⟨_, _, _, _, _, _⟩) (v := ?_) rfl (by kernel_rfl) (by kernel_rfl) (by kernel_rfl) (fun _ _ _ h => h) (Or.inl ⟨by rfl, ?hy⟩) (by assumption) ?_
  case hy =>
    intro w hSw
    skip
    go_simp
    all_goals with_reducible rfl
  try simp only [Act.put, List.setIfInBounds_toArray, List.set_cons_zero, List.set_cons_succ]
  refine wpAnyH_take (i := 34) (oi := ⟨_, _, _, _, _, _⟩) (v := ?_) rfl (by kernel_rfl) (by kernel_rfl) (by kernel_rfl) (fun _ _ _ h => h) (Or.inl ⟨by rfl, ?hy⟩) (by assumption) ?_
  case hy =>
    intro w hSw
    skip
    go_simp
    all_goals with_reducible rfl
  try simp only [Act.put, List.setIfInBounds_toArray, List.set_cons_zero, List.set_cons_succ]
  refine wpAnyH_take (i := 35) (oi := ⟨_, _, _, _, _, _⟩) (v := ?_) rfl (by kernel_rfl) (by kernel_rfl) (by kernel_rfl) (fun _ _ _ h => h) (Or.inl ⟨by rfl, ?hy⟩) (by assumption) ?_
  case hy =>
    intro w hSw
    skip
    go_simp
    all_goals with_reducible rfl
  try simp only [Act.put, List.setIfInBounds_toArray, List.set_cons_zero, List.set_cons_succ]
  refine wpAnyH_take (i := 36) (oi := ⟨_, _, _, _, _, _⟩) (v := ?_) rfl (by kernel_rfl) (by kernel_rfl) (by kernel_rfl) (fun _ _ _ h => h) (Or.inl ⟨by rfl, ?hy⟩) (by assumption) ?_
  case hy =>
    intro w hSw
    skip
    go_simp
    all_goals with_reducible rfl
  try simp only [Act.put, List.setIfInBounds_toArray, List.set_cons_zero, List.set_cons_succ]
  refine wpAnyH_take (i := 37) (oi := ⟨_, _, _, _, _, _⟩) (v := ?_) rfl (by kernel_rfl) (by kernel_rfl) (by kernel_rfl) (fun _ _ _ h => h) (Or.inl ⟨by rfl, ?hy⟩) (by assumption) ?_
  case hy =>
    intro w hSw
    skip
    go_simp
    all_goals with_reducible rfl
  try simp only [Act.put, List.setIfInBounds_toArray, List.set_cons_zero, List.set_cons_succ]
  refine wpAnyH_take (i := 38) (oi := ⟨_, _, _, _, _, _⟩) (v := ?_) rfl (by kernel_rfl) (by kernel_rfl) (by kernel_rfl) (fun _ _ _ h => h) (Or.inl ⟨by rfl, ?hy⟩) (by assumption) ?_
  case hy =>
    intro w hSw
    skip
    go_simp
    all_goals with_reducible rfl
  try simp only [Act.put, List.setIfInBounds_toArray, List.set_cons_zero, List.set_cons_succ]
  refine wpAnyH_take (i := 39) (oi := ⟨_, _, _, _, _, _⟩) (v := ?_) rfl (by kernel_rfl) (by kernel_rfl) (by kernel_rfl) (fun _ _ _ h => h) (Or.inl ⟨by rfl, ?hy⟩) (by assumption) ?_
  case hy =>
    intro w hSw
    skip
    go_simp
    all_goals with_reducible rfl
  try simp only [Act.put, List.setIfInBounds_toArray, List.set_cons_zero, List.set_cons_succ]
  refine wpAnyH_take (i := 40) (oi := ⟨_, _, _, _, _, _⟩) (v := ?_) rfl (by kernel_rfl) (by kernel_rfl) (by kernel_rfl) (fun _ _ _ h => h) (Or.inl ⟨by rfl, ?hy⟩) (by assumption) ?_
  case hy =>
    intro w hSw
    skip
    go_simp
    all_goals with_reducible rfl
  try simp only [Act.put, List.setIfInBounds_toArray, List.set_cons_zero, List.set_cons_succ]
  refine wpAnyH_take (i := 41) (oi := ⟨_, _, _, _, _, _⟩) (v := ?_) rfl (by kernel_rfl) (by kernel_rfl) (by kernel_rfl) (fun _ _ _ h => h) (Or.inl ⟨by rfl, ?hy⟩) (by assumption) ?_
  case hy =>
    intro w hSw
    have hld := run_loadVar_row (P := Tryd.prog) w gd 48 48 DC (0, 0) _ hSw.row Tryd.underlying48 rfl (by rw [hDs.out]; kernel_rfl)
    skip
    refine ld_row (x := .tmp 12) ?_ ?_ hld
    · rfl
    · rfl
  try simp only [Act.put, List.setIfInBounds_toArray, List.set_cons_zero, List.set_cons_succ]
  refine wpAnyH_take (i := 42) (oi := ⟨_, _, _, _, _, _⟩) (v := ?_) rfl (by kernel_rfl) (by kernel_rfl) (by kernel_rfl) (fun _ _ _ h => h) (Or.inl ⟨by rfl, ?hy⟩) (by assumption) ?_
  case hy =>
    intro w hSw
    skip
    go_simp
    all_goals with_reducible rfl
  try simp only [Act.put, List.setIfInBounds_toArray, List.set_cons_zero, List.set_cons_succ]
  refine wpAnyH_take (i := 43) (oi := ⟨_, _, _, _, _, _⟩) (v := ?_) rfl (by kernel_rfl) (by kernel_rfl) (by kernel_rfl) (fun _ _ _ h => h) (Or.inl ⟨by rfl, ?hy⟩) (by assumption) ?_
  case hy =>
    intro w hSw
    have he := dg_zero w DC hDC.out
    go_simp
    all_goals with_reducible rfl
  try simp only [Act.put, List.setIfInBounds_toArray, List.set_cons_zero, List.set_cons_succ]
  refine wpAnyH_take (i := 44) (oi := ⟨_, _, _, _, _, _⟩) (v := ?_) rfl (by kernel_rfl) (by kernel_rfl) (by kernel_rfl) (fun _ _ _ h => h) (Or.inl ⟨by rfl, ?hy⟩) (by assumption) ?_
  case hy =>
    intro w hSw
    skip
    go_simp
    all_goals with_reducible rfl
  try simp only [Act.put, List.setIfInBounds_toArray, List.set_cons_zero, List.set_cons_succ]
  refine wpAnyH_take (i := 45) (oi := ⟨_, _, _, _, _, _⟩) (v := ?_) rfl (by kernel_rfl) (by kernel_rfl) (by kernel_rfl) (fun _ _ _ h => h) (Or.inl ⟨by rfl, ?hy⟩) (by assumption) ?_
  case hy =>
    intro w hSw
    skip
    go_simp
    all_goals with_reducible rfl
  try simp only [Act.put, List.setIfInBounds_toArray, List.set_cons_zero, List.set_cons_succ]
  refine wpAnyH_take (i := 46) (oi := ⟨_, _, _, _, _, _⟩) (v := ?_) rfl (by kernel_rfl) (by kernel_rfl) (by kernel_rfl) (fun _ _ _ h => h) (Or.inl ⟨by rfl, ?hy⟩) (by assumption) ?_
  case hy =>
    intro w hSw
    have b0 : w.cell? ⟨w0.heap.size + 1 + 1, 0, none⟩ = some (.string ⟨#[48]⟩) := (cell_of hSw.sm.h2).trans rfl
    have b1 : w.cell? ⟨w0.heap.size + 1 + 1, 1, none⟩ = some (.string ⟨#[112, 97, 121]⟩) := (cell_of hSw.sm.h2).trans rfl
    have b2 : w.cell? ⟨w0.heap.size + 1 + 1, 2, none⟩ = some (.slice (some ⟨w0.heap.size + 1, 0, none⟩) 1 1) := (cell_of hSw.sm.h2).trans rfl
    have b3 : w.cell? ⟨w0.heap.size + 1 + 1, 3, none⟩ = some (iv 0) := (cell_of hSw.sm.h2).trans rfl
    have b4 : w.cell? ⟨w0.heap.size + 1 + 1, 4, none⟩ = some (.string ⟨#[]⟩) := (cell_of hSw.sm.h2).trans rfl
    have b5 : w.cell? ⟨w0.heap.size + 1 + 1, 5, none⟩ = some (iv 0) := (cell_of hSw.sm.h2).trans rfl
    have b6 : w.cell? ⟨w0.heap.size + 1 + 1, 6, none⟩ = some (iv 0) := (cell_of hSw.sm.h2).trans rfl
    have b7 : w.cell? ⟨w0.heap.size + 1 + 1, 7, none⟩ = some (.bool false) := (cell_of hSw.sm.h2).trans rfl
    go_simp
    all_goals with_reducible rfl
  try simp only [Act.put, List.setIfInBounds_toArray, List.set_cons_zero, List.set_cons_succ]
  refine wpAnyH_take (i := 48) (oi := ⟨_, _, _, _, _, _⟩) (v := ?_) rfl (by kernel_rfl) (by kernel_rfl) (by kernel_rfl) (fun _ _ _ h => h) (Or.inl ⟨by rfl, ?hy⟩) (by assumption) ?_
  case hy =>
    intro w hSw
    have b0 : w.cell? ⟨w0.heap.size + 1 + 1 + 1 + 1, 0, none⟩ = some (.string ⟨#[48]⟩) := (cell_of hSw.sm.h4).trans rfl
    have b1 : w.cell? ⟨w0.heap.size + 1 + 1 + 1 + 1, 1, none⟩ = some (.string ⟨#[112, 97, 121]⟩) := (cell_of hSw.sm.h4).trans rfl
    have b2 : w.cell? ⟨w0.heap.size + 1 + 1 + 1 + 1, 2, none⟩ = some (.slice (some ⟨w0.heap.size + 1 + 1 + 1, 0, none⟩) 1 1) := (cell_of hSw.sm.h4).trans rfl
    have b3 : w.cell? ⟨w0.heap.size + 1 + 1 + 1 + 1, 3, none⟩ = some (iv 1) := (cell_of hSw.sm.h4).trans rfl
    have b4 : w.cell? ⟨w0.heap.size + 1 + 1 + 1 + 1, 4, none⟩ = some (.string ⟨#[]⟩) := (cell_of hSw.sm.h4).trans rfl
    have b5 : w.cell? ⟨w0.heap.size + 1 + 1 + 1 + 1, 5, none⟩ = some (iv 0) := (cell_of hSw.sm.h4).trans rfl
    have b6 : w.cell? ⟨w0.heap.size + 1 + 1 + 1 + 1, 6, none⟩ = some (iv 0) := (cell_of hSw.sm.h4).trans rfl
    have b7 : w.cell? ⟨w0.heap.size + 1 + 1 + 1 + 1, 7, none⟩ = some (.bool true) := (cell_of hSw.sm.h4).trans rfl
    go_simp
    all_goals with_reducible rfl
  try simp only [Act.put, List.setIfInBounds_toArray, List.set_cons_zero, List.set_cons_succ]
  obtain ⟨kA, hkA⟩ : ∃ kA, keyF rA = kA := ⟨_, rfl⟩
  obtain ⟨kB, hkB⟩ : ∃ kB, keyF rB = kB := ⟨_, rfl⟩
  have hkd := keys_differ
  rw [hkA, hkB] at hkd
  replace hkA := hid hkA
  replace hkB := hid hkB
  have hkd1 : (kA == kB) = false := beq_eq_false_iff_ne.2 hkd
  have hkd2 : (kA != kB) = true := bne_iff_ne.2 hkd
  refine wpAnyH_ready (rs := [47]) (by kernel_rfl) (by simp) ?_
  refine AllReadyH.cons (o := ⟨_, _, _, _, _, _⟩) rfl (fun K hK => ?_) AllReadyH.nil
  go_simp
  go_at_call 11
  refine (key_any rA rAB (keysB3 rA (by simp)) _ (csA w0.heap.size) w18 (hT15.out.below hHeld.bel (Nat.le_refl _)) hHeld.sm.rA).mono ?_
  rintro e w19 ⟨rfl, hb⟩
  rw [hkA.out]
  have hS19 := hHeld.next hg15 hgd15 hb
  refine hK.out _ _ ?_ (fun hHeld2 => ?_)
  · exact hS19
  clear hK K
  clear hHeld
  have hHeld := hHeld2
  clear hHeld2
  try simp only [Act.put, List.setIfInBounds_toArray, List.set_cons_zero, List.set_cons_succ]
  refine wpAnyH_ready (rs := [49]) (by kernel_rfl) (by simp) ?_
  refine AllReadyH.cons (o := ⟨_, _, _, _, _, _⟩) rfl (fun K hK => ?_) AllReadyH.nil
  go_simp
  go_at_call 11
  refine (key_any rB rBB (keysB3 rB (by simp)) _ (csB w0.heap.size) w19 (hT15.out.below hHeld.bel (Nat.le_refl _)) hHeld.sm.rB).mono ?_
  rintro e w20 ⟨rfl, hb⟩
  rw [hkB.out]
  have hS20 := hHeld.next hg15 hgd15 hb
  refine hK.out _ _ ?_ (fun hHeld2 => ?_)
  · exact hS20
  clear hK K
  clear hHeld
  have hHeld := hHeld2
  clear hHeld2
  try simp only [Act.put, List.setIfInBounds_toArray, List.set_cons_zero, List.set_cons_succ]
  refine wpAnyH_take (i := 50) (oi := ⟨_, _, _, _, _, _⟩) (v := ?_) rfl (by kernel_rfl) (by kernel_rfl) (by kernel_rfl) (fun _ _ _ h => h) (Or.inl ⟨by rfl, ?hy⟩) (by assumption) ?_
  case hy =>
    intro w hSw
    skip
    go_simp
    all_goals with_reducible rfl
  try simp only [Act.put, List.setIfInBounds_toArray, List.set_cons_zero, List.set_cons_succ]
  refine wpAnyH_take (i := 51) (oi := ⟨_, _, _, _, _, _⟩) (v := ?_) rfl (by kernel_rfl) (by kernel_rfl) (by kernel_rfl) (fun _ _ _ h => h) (Or.inl ⟨by rfl, ?hy⟩) (by assumption) ?_
  case hy =>
    intro w hSw
    skip
    go_simp
    all_goals with_reducible rfl
  try simp only [Act.put, List.setIfInBounds_toArray, List.set_cons_zero, List.set_cons_succ]
  refine wpAnyH_take (i := 52) (oi := ⟨_, _, _, _, _, _⟩) (v := ?_) rfl (by kernel_rfl) (by kernel_rfl) (by kernel_rfl) (fun _ _ _ h => h) (Or.inl ⟨by rfl, ?hy⟩) (by assumption) ?_
  case hy =>
    intro w hSw
    skip
    go_simp
    all_goals with_reducible rfl
  try simp only [Act.put, List.setIfInBounds_toArray, List.set_cons_zero, List.set_cons_succ]
  refine wpAnyH_take (i := 53) (oi := ⟨_, _, _, _, _, _⟩) (v := ?_) rfl (by kernel_rfl) (by kernel_rfl) (by kernel_rfl) (fun _ _ _ h => h) (Or.inl ⟨by rfl, ?hy⟩) (by assumption) ?_
  case hy =>
    intro w hSw
    have b0 : w.cell? ⟨w0.heap.size + 1 + 1, 0, none⟩ = some (.string ⟨#[48]⟩) := (cell_of hSw.sm.h2).trans rfl
    have b1 : w.cell? ⟨w0.heap.size + 1 + 1, 1, none⟩ = some (.string ⟨#[112, 97, 121]⟩) := (cell_of hSw.sm.h2).trans rfl
    have b2 : w.cell? ⟨w0.heap.size + 1 + 1, 2, none⟩ = some (.slice (some ⟨w0.heap.size + 1, 0, none⟩) 1 1) := (cell_of hSw.sm.h2).trans rfl
    have b3 : w.cell? ⟨w0.heap.size + 1 + 1, 3, none⟩ = some (iv 0) := (cell_of hSw.sm.h2).trans rfl
    have b4 : w.cell? ⟨w0.heap.size + 1 + 1, 4, none⟩ = some (.string ⟨#[]⟩) := (cell_of hSw.sm.h2).trans rfl
    have b5 : w.cell? ⟨w0.heap.size + 1 + 1, 5, none⟩ = some (iv 0) := (cell_of hSw.sm.h2).trans rfl
    have b6 : w.cell? ⟨w0.heap.size + 1 + 1, 6, none⟩ = some (iv 0) := (cell_of hSw.sm.h2).trans rfl
    have b7 : w.cell? ⟨w0.heap.size + 1 + 1, 7, none⟩ = some (.bool false) := (cell_of hSw.sm.h2).trans rfl
    go_simp
    all_goals with_reducible rfl
  try simp only [Act.put, List.setIfInBounds_toArray, List.set_cons_zero, List.set_cons_succ]
  refine wpAnyH_take (i := 54) (oi := ⟨_, _, _, _, _, _⟩) (v := ?_) rfl (by kernel_rfl) (by kernel_rfl) (by kernel_rfl) (fun _ _ _ h => h) (Or.inl ⟨by rfl, ?hy⟩) (by assumption) ?_
  case hy =>
    intro w hSw
    have b0 : w.cell? ⟨w0.heap.size + 1 + 1 + 1 + 1, 0, none⟩ = some (.string ⟨#[48]⟩) := (cell_of hSw.sm.h4).trans rfl
    have b1 : w.cell? ⟨w0.heap.size + 1 + 1 + 1 + 1, 1, none⟩ = some (.string ⟨#[112, 97, 121]⟩) := (cell_of hSw.sm.h4).trans rfl
    have b2 : w.cell? ⟨w0.heap.size + 1 + 1 + 1 + 1, 2, none⟩ = some (.slice (some ⟨w0.heap.size + 1 + 1 + 1, 0, none⟩) 1 1) := (cell_of hSw.sm.h4).trans rfl
    have b3 : w.cell? ⟨w0.heap.size + 1 + 1 + 1 + 1, 3, none⟩ = some (iv 1) := (cell_of hSw.sm.h4).trans rfl
    have b4 : w.cell? ⟨w0.heap.size + 1 + 1 + 1 + 1, 4, none⟩ = some (.string ⟨#[]⟩) := (cell_of hSw.sm.h4).trans rfl
    have b5 : w.cell? ⟨w0.heap.size + 1 + 1 + 1 + 1, 5, none⟩ = some (iv 0) := (cell_of hSw.sm.h4).trans rfl
    have b6 : w.cell? ⟨w0.heap.size + 1 + 1 + 1 + 1, 6, none⟩ = some (iv 0) := (cell_of hSw.sm.h4).trans rfl
    have b7 : w.cell? ⟨w0.heap.size + 1 + 1 + 1 + 1, 7, none⟩ = some (.bool true) := (cell_of hSw.sm.h4).trans rfl
    go_simp
    all_goals with_reducible rfl
  try simp only [Act.put, List.setIfInBounds_toArray, List.set_cons_zero, List.set_cons_succ]
  refine wpAnyH_ready (rs := [55]) (by kernel_rfl) (by simp) ?_
  refine AllReadyH.cons (o := ⟨_, _, _, _, _, _⟩) rfl (fun K hK => ?_) AllReadyH.nil
  go_simp
  go_at_call 15
  refine (alike_any rA rB rAB rBB _ _ (csA w0.heap.size) (csB w0.heap.size) w20 hHeld.sm.rA hHeld.sm.rB).mono ?_
  rintro e w21 ⟨rfl, hb⟩
  rw [show dec (AlikeP rA rB) = false from aAB]
  have hS21 := hHeld.next hg15 hgd15 hb
  refine hK.out _ _ ?_ (fun hHeld2 => ?_)
  · exact hS21
  clear hK K
  clear hHeld
  have hHeld := hHeld2
  clear hHeld2
  try simp only [Act.put, List.setIfInBounds_toArray, List.set_cons_zero, List.set_cons_succ]
  refine wpAnyH_take (i := 56) (oi := ⟨_, _, _, _, _, _⟩) (v := ?_) rfl (by kernel_rfl) (by kernel_rfl) (by kernel_rfl) (fun _ _ _ h => h) (Or.inl ⟨by rfl, ?hy⟩) (by assumption) ?_
  case hy =>
    intro w hSw
    skip
    go_simp
    all_goals with_reducible rfl
  try simp only [Act.put, List.setIfInBounds_toArray, List.set_cons_zero, List.set_cons_succ]
  refine wpAnyH_take (i := 57) (oi := ⟨_, _, _, _, _, _⟩) (v := ?_) rfl (by kernel_rfl) (by kernel_rfl) (by kernel_rfl) (fun _ _ _ h => h) (Or.inl ⟨by rfl, ?hy⟩) (by assumption) ?_
  case hy =>
    intro w hSw
    skip
    go_simp
    all_goals with_reducible rfl
  try simp only [Act.put, List.setIfInBounds_toArray, List.set_cons_zero, List.set_cons_succ]
  refine wpAnyH_take (i := 58) (oi := ⟨_, _, _, _, _, _⟩) (v := ?_) rfl (by kernel_rfl) (by kernel_rfl) (by kernel_rfl) (fun _ _ _ h => h) (Or.inl ⟨by rfl, ?hy⟩) (by assumption) ?_
  case hy =>
    intro w hSw
    skip
    go_simp
    all_goals with_reducible rfl
  try simp only [Act.put, List.setIfInBounds_toArray, List.set_cons_zero, List.set_cons_succ]
  refine wpAnyH_take (i := 59) (oi := ⟨_, _, _, _, _, _⟩) (v := ?_) rfl (by kernel_rfl) (by kernel_rfl) (by kernel_rfl) (fun _ _ _ h => h) (Or.inl ⟨by rfl, ?hy⟩) (by assumption) ?_
  case hy =>
    intro w hSw
    have b0 : w.cell? ⟨w0.heap.size + 1 + 1 + 1 + 1, 0, none⟩ = some (.string ⟨#[48]⟩) := (cell_of hSw.sm.h4).trans rfl
    have b1 : w.cell? ⟨w0.heap.size + 1 + 1 + 1 + 1, 1, none⟩ = some (.string ⟨#[112, 97, 121]⟩) := (cell_of hSw.sm.h4).trans rfl
    have b2 : w.cell? ⟨w0.heap.size + 1 + 1 + 1 + 1, 2, none⟩ = some (.slice (some ⟨w0.heap.size + 1 + 1 + 1, 0, none⟩) 1 1) := (cell_of hSw.sm.h4).trans rfl
    have b3 : w.cell? ⟨w0.heap.size + 1 + 1 + 1 + 1, 3, none⟩ = some (iv 1) := (cell_of hSw.sm.h4).trans rfl
    have b4 : w.cell? ⟨w0.heap.size + 1 + 1 + 1 + 1, 4, none⟩ = some (.string ⟨#[]⟩) := (cell_of hSw.sm.h4).trans rfl
    have b5 : w.cell? ⟨w0.heap.size + 1 + 1 + 1 + 1, 5, none⟩ = some (iv 0) := (cell_of hSw.sm.h4).trans rfl
    have b6 : w.cell? ⟨w0.heap.size + 1 + 1 + 1 + 1, 6, none⟩ = some (iv 0) := (cell_of hSw.sm.h4).trans rfl
    have b7 : w.cell? ⟨w0.heap.size + 1 + 1 + 1 + 1, 7, none⟩ = some (.bool true) := (cell_of hSw.sm.h4).trans rfl
    go_simp
    all_goals with_reducible rfl
  try simp only [Act.put, List.setIfInBounds_toArray, List.set_cons_zero, List.set_cons_succ]
  refine wpAnyH_take (i := 60) (oi := ⟨_, _, _, _, _, _⟩) (v := ?_) rfl (by kernel_rfl) (by kernel_rfl) (by kernel_rfl) (fun _ _ _ h => h) (Or.inl ⟨by rfl, ?hy⟩) (by assumption) ?_
  case hy =>
    intro w hSw
    have b0 : w.cell? ⟨w0.heap.size + 1 + 1 + 1 + 1, 0, none⟩ = some (.string ⟨#[48]⟩) := (cell_of hSw.sm.h4).trans rfl
    have b1 : w.cell? ⟨w0.heap.size + 1 + 1 + 1 + 1, 1, none⟩ = some (.string ⟨#[112, 97, 121]⟩) := (cell_of hSw.sm.h4).trans rfl
    have b2 : w.cell? ⟨w0.heap.size + 1 + 1 + 1 + 1, 2, none⟩ = some (.slice (some ⟨w0.heap.size + 1 + 1 + 1, 0, none⟩) 1 1) := (cell_of hSw.sm.h4).trans rfl
    have b3 : w.cell? ⟨w0.heap.size + 1 + 1 + 1 + 1, 3, none⟩ = some (iv 1) := (cell_of hSw.sm.h4).trans rfl
    have b4 : w.cell? ⟨w0.heap.size + 1 + 1 + 1 + 1, 4, none⟩ = some (.string ⟨#[]⟩) := (cell_of hSw.sm.h4).trans rfl
    have b5 : w.cell? ⟨w0.heap.size + 1 + 1 + 1 + 1, 5, none⟩ = some (iv 0) := (cell_of hSw.sm.h4).trans rfl
    have b6 : w.cell? ⟨w0.heap.size + 1 + 1 + 1 + 1, 6, none⟩ = some (iv 0) := (cell_of hSw.sm.h4).trans rfl
    have b7 : w.cell? ⟨w0.heap.size + 1 + 1 + 1 + 1, 7, none⟩ = some (.bool true) := (cell_of hSw.sm.h4).trans rfl
    go_simp
    all_goals with_reducible rfl
  try simp only [Act.put, List.setIfInBounds_toArray, List.set_cons_zero, List.set_cons_succ]
  refine wpAnyH_ready (rs := [61]) (by kernel_rfl) (by simp) ?_
  refine AllReadyH.cons (o := ⟨_, _, _, _, _, _⟩) rfl (fun K hK => ?_) AllReadyH.nil
  go_simp
  go_at_call 15
  refine (alike_any rB rB rBB rBB _ _ (csB w0.heap.size) (csB w0.heap.size) w21 hHeld.sm.rB hHeld.sm.rB).mono ?_
  rintro e w22 ⟨rfl, hb⟩
  rw [show dec (AlikeP rB rB) = true from aBB]
  have hS22 := hHeld.next hg15 hgd15 hb
  refine hK.out _ _ ?_ (fun hHeld2 => ?_)
  · exact hS22
  clear hK K
  clear hHeld
  have hHeld := hHeld2
  clear hHeld2
  try simp only [Act.put, List.setIfInBounds_toArray, List.set_cons_zero, List.set_cons_succ]
  refine wpAnyH_take (i := 62) (oi := ⟨_, _, _, _, _, _⟩) (v := ?_) rfl (by kernel_rfl) (by kernel_rfl) (by kernel_rfl) (fun _ _ _ h => h) (Or.inl ⟨by rfl, ?hy⟩) (by assumption) ?_
  case hy =>
    intro w hSw
    skip
    go_simp
    all_goals with_reducible rfl
  try simp only [Act.put, List.setIfInBounds_toArray, List.set_cons_zero, List.set_cons_succ]
  refine wpAnyH_take (i := 63) (oi := ⟨_, _, _, _, _, _⟩) (v := ?_) rfl (by kernel_rfl) (by kernel_rfl) (by kernel_rfl) (fun _ _ _ h => h) (Or.inl ⟨by rfl, ?hy⟩) (by assumption) ?_
  case hy =>
    intro w hSw
    skip
    go_simp
    all_goals with_reducible rfl
  try simp only [Act.put, List.setIfInBounds_toArray, List.set_cons_zero, List.set_cons_succ]
  refine wpAnyH_done (by kernel_rfl) ?_ _
  have hB22 := hid (hB15.out.trans (hHeld.bel.mono hB15.out.size))
  clear hHeld
  go_wp2_with fail
  go_ret
  exact ⟨rfl, hB22.out⟩
end Go.Proofs.YtnbhpicmflagcaaDoor
