/- RVD: RVc, RVd, RVe, RVf, in one text. -/
import Derived.Test.YtnbhpicmflagcaaDoorRVA
import Derived.Deep.CutBlock
import Derived.Test.YtnbhpicmflagcaaDoorMatF
import Derived.Test.YtnbhpicmflagcaaDoorRShA
import Derived.Test.YtnbhpicmflagcaaDoorMatK
import Derived.Deep.RegionHeld3
set_option linter.unusedVariables false
namespace Go.Proofs.YtnbhpicmflagcaaDoor
open Go.RowKit
open Go.Lib (hid)
def rkids (kd : Int) (len : Nat) : Bool := if kd = 6 ∨ kd = 7 ∨ kd = 9 then decide (len ≤ 16384) else true
def rnodeF (x : Val) : Bool := nodeF x && rkids x.kind x.l.length
/-- what stands in the two blocks when the node is compared -/
structure NdM (B : Nat) (kd : Int) (t : List UInt8) (n m : Int) (s : List UInt8) (v : Value) (T : List UInt8) (N M : Int) (S : List UInt8) (w0 w : World) : Prop where
  box : w.heap[B]? = some (.cells #[iv kd, sv t, iv n, iv m, sv s, v] 44 (0, 0))
  cmp : w.heap[B + 1]? = some (.cells #[iv kd, sv T, iv N, iv M, sv S, .slice none 0 0] 44 (0, 0))
  bel : Below B w0 w
theorem bself {α : Type} [BEq α] [LawfulBEq α] (x : α) : (x == x) = true := beq_self_eq_true x
theorem bsym {α : Type} [BEq α] [LawfulBEq α] (x y : α) : (x == y) = (y == x) := by rw [Bool.eq_iff_iff, beq_iff_eq, beq_iff_eq]; exact ⟨Eq.symm, Eq.symm⟩
theorem ble0 (n : Nat) : decide (n ≤ 0) = (n == 0) := by rw [Bool.eq_iff_iff]; simp
section
variable {B : Nat} {kd n m N M : Int} {t s T S : List UInt8} {v : Value} {w0 w w' : World}
theorem NdM.base (w : World) : NdM w.heap.size kd t n m s v T N M S w ((w.alloc (.cells #[iv kd, sv t, iv n, iv m, sv s, v] 44)).alloc (.cells #[iv kd, sv T, iv N, iv M, sv S, .slice none 0 0] 44)) := by
  have e : (w.alloc (.cells #[iv kd, sv t, iv n, iv m, sv s, v] 44)).heap.size = w.heap.size + 1 := by simp
  refine ⟨(Below.heap_alloc _ _ _ (by simp)).trans (heap_alloc_new' _ _), ?_, ((Below.refl _ w).alloc (Nat.le_refl _) _).alloc (by simp) _⟩
  have := heap_alloc_new' (w.alloc (.cells #[iv kd, sv t, iv n, iv m, sv s, v] 44)) (.cells #[iv kd, sv T, iv N, iv M, sv S, .slice none 0 0] 44)
  rw [e] at this
  exact this
theorem NdM.setT (h : NdM B kd t n m s v T N M S w0 w) (x : List UInt8) : NdM B kd t n m s v x N M S w0 (w.setCell ⟨B + 1, 1, none⟩ (sv x)) :=
  ⟨(heap_setCell_other _ (by omega)).trans h.box, heap_setCell_same h.cmp _, h.bel.setCell (by show B ≤ B + 1; omega) _⟩
theorem NdM.setN (h : NdM B kd t n m s v T N M S w0 w) (x : Int) : NdM B kd t n m s v T x M S w0 (w.setCell ⟨B + 1, 2, none⟩ (iv x)) :=
  ⟨(heap_setCell_other _ (by omega)).trans h.box, heap_setCell_same h.cmp _, h.bel.setCell (by show B ≤ B + 1; omega) _⟩
theorem NdM.setM (h : NdM B kd t n m s v T N M S w0 w) (x : Int) : NdM B kd t n m s v T N x S w0 (w.setCell ⟨B + 1, 3, none⟩ (iv x)) :=
  ⟨(heap_setCell_other _ (by omega)).trans h.box, heap_setCell_same h.cmp _, h.bel.setCell (by show B ≤ B + 1; omega) _⟩
theorem NdM.setS (h : NdM B kd t n m s v T N M S w0 w) (x : List UInt8) : NdM B kd t n m s v T N M x w0 (w.setCell ⟨B + 1, 4, none⟩ (sv x)) :=
  ⟨(heap_setCell_other _ (by omega)).trans h.box, heap_setCell_same h.cmp _, h.bel.setCell (by show B ≤ B + 1; omega) _⟩
theorem NdM.lt (h : NdM B kd t n m s v T N M S w0 w) : B + 1 < w.heap.size := lt_of_some h.cmp
theorem NdM.below (h : NdM B kd t n m s v T N M S w0 w) (hb : Below w.heap.size w w') : NdM B kd t n m s v T N M S w0 w' := by
  have := h.lt
  exact ⟨below_keep hb h.box (by omega), below_keep hb h.cmp h.lt, h.bel.trans (hb.mono (by omega))⟩
end
set_option maxHeartbeats 1000000 in
set_option maxRecDepth 100000 in
theorem rnode_any (x : Val) (hx : ValB x) (S : Foot) (cs : List Value) (w : World) (hR : ValR S w x cs) : Calls Tryd.prog 74 #[.agg cs.toArray] w fun e w' => e = .returned (.bool (rnodeF x)) ∧ Below w.heap.size w w' := by
  obtain ⟨a, c, rfl, -⟩ := valR_open hR
  obtain ⟨res, hres⟩ : ∃ res, rnodeF x = res := ⟨_, rfl⟩
  rw [hres]
  cases hx with
  | mk x b1 b2 b3 b4 =>
  have hty := hid (fun W => r12upper_any x.t W b2)
  have hpa := hid (fun W => rpath_any x.s W b3)
  unfold rnodeF nodeF at hres
  obtain ⟨kd, t, n, m, s, l⟩ := x
  simp only [Val.kind, Val.t, Val.n, Val.m, Val.s, Val.l, valCs] at *
  clear b4 hR
  generalize typeF t = ty at *
  replace hres := hid hres
  have hbase := hid (NdM.base (kd := kd) (t := t) (n := n) (m := m) (s := s) (v := .slice a l.length c) (T := []) (N := 0) (M := 0) (S := []) w)
  go_enter Tryd.func74, Tryd.ntmps74
  go_upto_block 0 with (fail)
  go_cut [4, 5] from 11 to 125 (fun kv ov wx => ∃ (K : Nat) (O : Bool) (T : List UInt8) (N M : Int) (S' : List UInt8), kv = iv K ∧ ov = .bool O ∧ Hid (NdM w.heap.size kd t n m s (.slice a l.length c) T N M S' w wx) ∧ Hid ((O && decide (l.length ≤ K) && T == t && N == n && M == m && S' == s) = res))
  case first =>
    by_cases k1 : kd = 1
    · subst k1
      have hN := hid (NdM.base (kd := 1) (t := t) (n := n) (m := m) (s := s) (v := .slice a l.length c) (T := []) (N := 0) (M := 0) (S := []) w)
      have hq : Hid ((true && decide (l.length ≤ 0) && [] == t && 0 == n && 0 == m && [] == s) = res) := hid (by rw [← hres.out]; show _ = ((t == [] && n == 0 && (m == 0 && s == []) && (l.length == 0)) && true); rw [bsym [] t, bsym 0 n, bsym 0 m, bsym [] s, ble0 l.length]; cases (t == []) <;> cases (n == 0) <;> cases (m == 0) <;> cases (s == []) <;> cases (l.length == 0) <;> rfl)
      have hq2 := hq
      clear hq
      go_wp2_with fail
      go_meet
      exact ⟨0, true, [], 0, 0, [], rfl, rfl, hN, hq2⟩
    by_cases k2 : kd = 2
    · subst k2
      have hN := hid (NdM.base (kd := 2) (t := t) (n := n) (m := m) (s := s) (v := .slice a l.length c) (T := []) (N := n) (M := 0) (S := []) w)
      have hq : Hid (((n == 0 || n == 1) && decide (l.length ≤ 0) && [] == t && n == n && 0 == m && [] == s) = res) := hid (by rw [← hres.out]; show _ = ((t == [] && (n == 0 || n == 1) && (m == 0 && s == []) && (l.length == 0)) && true); rw [bsym [] t, bself n, bsym 0 m, bsym [] s, ble0 l.length]; cases (t == []) <;> cases (n == 0) <;> cases (m == 0) <;> cases (s == []) <;> cases (l.length == 0) <;> cases (n == 1) <;> rfl)
      obtain ⟨z0, hz0⟩ : ∃ z, (n == 0) = z := ⟨_, rfl⟩
      rw [hz0] at hq
      obtain ⟨z1, hz1⟩ : ∃ z, (n == 1) = z := ⟨_, rfl⟩
      rw [hz1] at hq
      cases z0 <;> cases z1
      all_goals
        go_wp2_with fail
        go_meet
        exact ⟨0, _, [], n, 0, [], rfl, rfl, hN, hq⟩
    by_cases k3 : kd = 3
    · subst k3
      have hN := hid (NdM.base (kd := 3) (t := t) (n := n) (m := m) (s := s) (v := .slice a l.length c) (T := []) (N := n) (M := 0) (S := []) w)
      have hq : Hid ((rangeB n && decide (l.length ≤ 0) && [] == t && n == n && 0 == m && [] == s) = res) := hid (by rw [← hres.out]; show _ = ((t == [] && rangeB n && (m == 0 && s == []) && (l.length == 0)) && true); rw [bsym [] t, bself n, bsym 0 m, bsym [] s, ble0 l.length]; cases (t == []) <;> cases (m == 0) <;> cases (s == []) <;> cases (l.length == 0) <;> cases rangeB n <;> rfl)
      obtain ⟨z0, hz0⟩ : ∃ z, rangeB n = z := ⟨_, rfl⟩
      rw [hz0] at hq
      replace hz0 := hid hz0
      cases z0
      all_goals
        go_wp2_with fail
        with_reducible refine (r12in_any _ _).mono ?_
        rintro e w2 ⟨rfl, hb2⟩
        rw [hz0.out]
        replace hN := hid (hN.out.below hb2)
        have hbx := hN.out.box
        have c0 : w2.cell? ⟨w.heap.size, 0, none⟩ = some (iv 3) := (cell_of (i := 0) hbx).trans rfl
        have c1 : w2.cell? ⟨w.heap.size, 1, none⟩ = some (sv t) := (cell_of (i := 1) hbx).trans rfl
        have c2 : w2.cell? ⟨w.heap.size, 2, none⟩ = some (iv n) := (cell_of (i := 2) hbx).trans rfl
        have c3 : w2.cell? ⟨w.heap.size, 3, none⟩ = some (iv m) := (cell_of (i := 3) hbx).trans rfl
        have c4 : w2.cell? ⟨w.heap.size, 4, none⟩ = some (sv s) := (cell_of (i := 4) hbx).trans rfl
        clear hbx
        clear hb2
        go_wp2_with fail
        go_meet
        exact ⟨0, _, [], n, 0, [], rfl, rfl, hN, hq⟩
    by_cases k4 : kd = 4
    · subst k4
      have hN := hid (NdM.base (kd := 4) (t := t) (n := n) (m := m) (s := s) (v := .slice a l.length c) (T := []) (N := 0) (M := 0) (S := s) w)
      have hq : Hid ((decide (s.length ≤ 4096) && decide (l.length ≤ 0) && [] == t && 0 == n && 0 == m && s == s) = res) := hid (by rw [← hres.out]; show _ = ((t == [] && n == 0 && m == 0 && decide (s.length ≤ 4096) && (l.length == 0)) && true); rw [bsym [] t, bsym 0 n, bsym 0 m, bself s, ble0 l.length]; cases (t == []) <;> cases (n == 0) <;> cases (m == 0) <;> cases (l.length == 0) <;> cases decide (s.length ≤ 4096) <;> rfl)
      obtain ⟨z0, hz0⟩ : ∃ z, decide (s.length ≤ 4096) = z := ⟨_, rfl⟩
      rw [hz0] at hq
      have hy0 : decide ((s.length : Int) ≤ 4096) = z0 := by rw [← hz0]; exact decide_eq_decide.2 (by omega)
      cases z0
      all_goals
        go_wp2_with fail
        go_meet
        exact ⟨0, _, [], 0, 0, s, rfl, rfl, hN, hq⟩
    by_cases k5 : kd = 5
    · subst k5
      have hN := hid (NdM.base (kd := 5) (t := t) (n := n) (m := m) (s := s) (v := .slice a l.length c) (T := []) (N := 0) (M := 0) (S := []) w)
      have hq : Hid ((true && decide (l.length ≤ 4096) && [] == t && 0 == n && 0 == m && [] == s) = res) := hid (by rw [← hres.out]; show _ = ((t == [] && n == 0 && (m == 0 && s == []) && decide (l.length ≤ 4096)) && true); rw [bsym [] t, bsym 0 n, bsym 0 m, bsym [] s]; cases (t == []) <;> cases (n == 0) <;> cases (m == 0) <;> cases (s == []) <;> cases decide (l.length ≤ 4096) <;> rfl)
      have hq2 := hq
      clear hq
      go_wp2_with fail
      go_meet
      exact ⟨4096, true, [], 0, 0, [], rfl, rfl, hN, hq2⟩
    by_cases k6 : kd = 6
    · subst k6
      have hN := hid (NdM.base (kd := 6) (t := t) (n := n) (m := m) (s := s) (v := .slice a l.length c) (T := t) (N := 0) (M := 0) (S := []) w)
      have hq : Hid ((ty && decide (l.length ≤ 16384) && t == t && 0 == n && 0 == m && [] == s) = res) := hid (by rw [← hres.out]; show _ = ((ty && n == 0 && (m == 0 && s == [])) && decide (l.length ≤ 16384)); rw [bself t, bsym 0 n, bsym 0 m, bsym [] s]; cases (n == 0) <;> cases (m == 0) <;> cases (s == []) <;> cases decide (l.length ≤ 16384) <;> cases ty <;> rfl)
      cases ty
      all_goals
        go_wp2_with fail
        with_reducible refine (hty.out _).mono ?_
        rintro e w2 ⟨rfl, hb2⟩
        replace hN := hid (hN.out.below hb2)
        have hbx := hN.out.box
        have c0 : w2.cell? ⟨w.heap.size, 0, none⟩ = some (iv 6) := (cell_of (i := 0) hbx).trans rfl
        have c1 : w2.cell? ⟨w.heap.size, 1, none⟩ = some (sv t) := (cell_of (i := 1) hbx).trans rfl
        have c2 : w2.cell? ⟨w.heap.size, 2, none⟩ = some (iv n) := (cell_of (i := 2) hbx).trans rfl
        have c3 : w2.cell? ⟨w.heap.size, 3, none⟩ = some (iv m) := (cell_of (i := 3) hbx).trans rfl
        have c4 : w2.cell? ⟨w.heap.size, 4, none⟩ = some (sv s) := (cell_of (i := 4) hbx).trans rfl
        clear hbx
        clear hb2
        go_wp2_with fail
        go_meet
        exact ⟨16384, _, t, 0, 0, [], rfl, rfl, hN, hq⟩
    by_cases k7 : kd = 7
    · subst k7
      have hN := hid (NdM.base (kd := 7) (t := t) (n := n) (m := m) (s := s) (v := .slice a l.length c) (T := t) (N := n) (M := 0) (S := []) w)
      have hq : Hid (((ty && decide (0 ≤ n) && decide (n ≤ 4096)) && decide (l.length ≤ 16384) && t == t && n == n && 0 == m && [] == s) = res) := hid (by rw [← hres.out]; show _ = ((ty && decide (0 ≤ n) && decide (n ≤ 4096) && (m == 0 && s == [])) && decide (l.length ≤ 16384)); rw [bself t, bself n, bsym 0 m, bsym [] s]; cases (m == 0) <;> cases (s == []) <;> cases decide (l.length ≤ 16384) <;> cases ty <;> cases decide (0 ≤ n) <;> cases decide (n ≤ 4096) <;> rfl)
      obtain ⟨z1, hz1⟩ : ∃ z, decide (0 ≤ n) = z := ⟨_, rfl⟩
      rw [hz1] at hq
      obtain ⟨z2, hz2⟩ : ∃ z, decide (n ≤ 4096) = z := ⟨_, rfl⟩
      rw [hz2] at hq
      cases ty <;> cases z1 <;> cases z2
      all_goals
        go_wp2_with fail
        with_reducible refine (hty.out _).mono ?_
        rintro e w2 ⟨rfl, hb2⟩
        replace hN := hid (hN.out.below hb2)
        have hbx := hN.out.box
        have c0 : w2.cell? ⟨w.heap.size, 0, none⟩ = some (iv 7) := (cell_of (i := 0) hbx).trans rfl
        have c1 : w2.cell? ⟨w.heap.size, 1, none⟩ = some (sv t) := (cell_of (i := 1) hbx).trans rfl
        have c2 : w2.cell? ⟨w.heap.size, 2, none⟩ = some (iv n) := (cell_of (i := 2) hbx).trans rfl
        have c3 : w2.cell? ⟨w.heap.size, 3, none⟩ = some (iv m) := (cell_of (i := 3) hbx).trans rfl
        have c4 : w2.cell? ⟨w.heap.size, 4, none⟩ = some (sv s) := (cell_of (i := 4) hbx).trans rfl
        clear hbx
        clear hb2
        go_wp2_with fail
        go_meet
        exact ⟨16384, _, t, n, 0, [], rfl, rfl, hN, hq⟩
    by_cases k8 : kd = 8
    · subst k8
      have hN := hid (NdM.base (kd := 8) (t := t) (n := n) (m := m) (s := s) (v := .slice a l.length c) (T := t) (N := 0) (M := 0) (S := s) w)
      have hq : Hid (((ty && pathF s) && decide (l.length ≤ 0) && t == t && 0 == n && 0 == m && s == s) = res) := hid (by rw [← hres.out]; show _ = ((ty && n == 0 && m == 0 && pathF s && (l.length == 0)) && true); rw [bself t, bsym 0 n, bsym 0 m, bself s, ble0 l.length]; cases (n == 0) <;> cases (m == 0) <;> cases (l.length == 0) <;> cases ty <;> cases pathF s <;> rfl)
      obtain ⟨z1, hz1⟩ : ∃ z, pathF s = z := ⟨_, rfl⟩
      rw [hz1] at hq
      replace hz1 := hid hz1
      cases ty <;> cases z1
      all_goals
        go_wp2_with fail
        with_reducible refine (hty.out _).mono ?_
        rintro e w2 ⟨rfl, hb2⟩
        replace hN := hid (hN.out.below hb2)
        have hbx := hN.out.box
        have c0 : w2.cell? ⟨w.heap.size, 0, none⟩ = some (iv 8) := (cell_of (i := 0) hbx).trans rfl
        have c1 : w2.cell? ⟨w.heap.size, 1, none⟩ = some (sv t) := (cell_of (i := 1) hbx).trans rfl
        have c2 : w2.cell? ⟨w.heap.size, 2, none⟩ = some (iv n) := (cell_of (i := 2) hbx).trans rfl
        have c3 : w2.cell? ⟨w.heap.size, 3, none⟩ = some (iv m) := (cell_of (i := 3) hbx).trans rfl
        have c4 : w2.cell? ⟨w.heap.size, 4, none⟩ = some (sv s) := (cell_of (i := 4) hbx).trans rfl
        clear hbx
        clear hb2
        go_wp2_with fail
        first
          | (go_meet
             exact ⟨0, _, t, 0, 0, s, rfl, rfl, hN, hq⟩)
          | (with_reducible refine (hpa.out _).mono ?_
             rintro e w3 ⟨rfl, hb3⟩
             rw [hz1.out]
             replace hN := hid (hN.out.below hb3)
             have hbx := hN.out.box
             have d0 : w3.cell? ⟨w.heap.size, 0, none⟩ = some (iv 8) := (cell_of (i := 0) hbx).trans rfl
             have d1 : w3.cell? ⟨w.heap.size, 1, none⟩ = some (sv t) := (cell_of (i := 1) hbx).trans rfl
             have d2 : w3.cell? ⟨w.heap.size, 2, none⟩ = some (iv n) := (cell_of (i := 2) hbx).trans rfl
             have d3 : w3.cell? ⟨w.heap.size, 3, none⟩ = some (iv m) := (cell_of (i := 3) hbx).trans rfl
             have d4 : w3.cell? ⟨w.heap.size, 4, none⟩ = some (sv s) := (cell_of (i := 4) hbx).trans rfl
             clear hbx
             clear hb3
             go_wp2_with fail
             go_meet
             exact ⟨0, _, t, 0, 0, s, rfl, rfl, hN, hq⟩)
    by_cases k9 : kd = 9
    · subst k9
      have hN := hid (NdM.base (kd := 9) (t := t) (n := n) (m := m) (s := s) (v := .slice a l.length c) (T := []) (N := n) (M := 0) (S := []) w)
      have hq : Hid (((decide (0 ≤ n) && decide (n ≤ 9007199254740992)) && decide (l.length ≤ 16384) && [] == t && n == n && 0 == m && [] == s) = res) := hid (by rw [← hres.out]; show _ = ((t == [] && decide (0 ≤ n) && decide (n ≤ 9007199254740992) && (m == 0 && s == [])) && decide (l.length ≤ 16384)); rw [bsym [] t, bself n, bsym 0 m, bsym [] s]; cases (t == []) <;> cases (m == 0) <;> cases (s == []) <;> cases decide (l.length ≤ 16384) <;> cases decide (0 ≤ n) <;> cases decide (n ≤ 9007199254740992) <;> rfl)
      obtain ⟨z0, hz0⟩ : ∃ z, decide (0 ≤ n) = z := ⟨_, rfl⟩
      rw [hz0] at hq
      obtain ⟨z1, hz1⟩ : ∃ z, decide (n ≤ 9007199254740992) = z := ⟨_, rfl⟩
      rw [hz1] at hq
      cases z0 <;> cases z1
      all_goals
        go_wp2_with fail
        go_meet
        exact ⟨16384, _, [], n, 0, [], rfl, rfl, hN, hq⟩
    by_cases k10 : kd = 10
    · subst k10
      have hN := hid (NdM.base (kd := 10) (t := t) (n := n) (m := m) (s := s) (v := .slice a l.length c) (T := []) (N := n) (M := m) (S := []) w)
      have hq : Hid (((rangeB n && rangeB m && decide (n < m)) && decide (l.length ≤ 0) && [] == t && n == n && m == m && [] == s) = res) := hid (by rw [← hres.out]; show _ = ((t == [] && rangeB n && rangeB m && decide (n < m) && s == [] && (l.length == 0)) && true); rw [bsym [] t, bself n, bself m, bsym [] s, ble0 l.length]; cases (t == []) <;> cases (s == []) <;> cases (l.length == 0) <;> cases rangeB n <;> cases rangeB m <;> cases decide (n < m) <;> rfl)
      obtain ⟨z0, hz0⟩ : ∃ z, rangeB n = z := ⟨_, rfl⟩
      rw [hz0] at hq
      replace hz0 := hid hz0
      obtain ⟨z1, hz1⟩ : ∃ z, rangeB m = z := ⟨_, rfl⟩
      rw [hz1] at hq
      replace hz1 := hid hz1
      obtain ⟨z2, hz2⟩ : ∃ z, decide (n < m) = z := ⟨_, rfl⟩
      rw [hz2] at hq
      cases z0 <;> cases z1 <;> cases z2
      all_goals
        go_wp2_with fail
        with_reducible refine (r12in_any _ _).mono ?_
        rintro e w2 ⟨rfl, hb2⟩
        rw [hz0.out]
        replace hN := hid (hN.out.below hb2)
        have hbx := hN.out.box
        have c0 : w2.cell? ⟨w.heap.size, 0, none⟩ = some (iv 10) := (cell_of (i := 0) hbx).trans rfl
        have c1 : w2.cell? ⟨w.heap.size, 1, none⟩ = some (sv t) := (cell_of (i := 1) hbx).trans rfl
        have c2 : w2.cell? ⟨w.heap.size, 2, none⟩ = some (iv n) := (cell_of (i := 2) hbx).trans rfl
        have c3 : w2.cell? ⟨w.heap.size, 3, none⟩ = some (iv m) := (cell_of (i := 3) hbx).trans rfl
        have c4 : w2.cell? ⟨w.heap.size, 4, none⟩ = some (sv s) := (cell_of (i := 4) hbx).trans rfl
        clear hbx
        clear hb2
        go_wp2_with fail
        first
          | (go_meet
             exact ⟨0, _, [], n, m, [], rfl, rfl, hN, hq⟩)
          | (with_reducible refine (r12in_any _ _).mono ?_
             rintro e w3 ⟨rfl, hb3⟩
             rw [hz1.out]
             replace hN := hid (hN.out.below hb3)
             have hbx := hN.out.box
             have d0 : w3.cell? ⟨w.heap.size, 0, none⟩ = some (iv 10) := (cell_of (i := 0) hbx).trans rfl
             have d1 : w3.cell? ⟨w.heap.size, 1, none⟩ = some (sv t) := (cell_of (i := 1) hbx).trans rfl
             have d2 : w3.cell? ⟨w.heap.size, 2, none⟩ = some (iv n) := (cell_of (i := 2) hbx).trans rfl
             have d3 : w3.cell? ⟨w.heap.size, 3, none⟩ = some (iv m) := (cell_of (i := 3) hbx).trans rfl
             have d4 : w3.cell? ⟨w.heap.size, 4, none⟩ = some (sv s) := (cell_of (i := 4) hbx).trans rfl
             clear hbx
             clear hb3
             go_wp2_with fail
             go_meet
             exact ⟨0, _, [], n, m, [], rfl, rfl, hN, hq⟩)
    have hq : Hid ((false && decide (l.length ≤ 0) && [] == t && 0 == n && 0 == m && [] == s) = res) := hid (by rw [← hres.out]; unfold nodeC; rw [if_neg k1, if_neg k2, if_neg k3, if_neg k4, if_neg k5, if_neg k6, if_neg k7, if_neg k8, if_neg k9, if_neg k10]; simp)
    go_wp2_with fail
    go_meet
    exact ⟨0, false, [], 0, 0, [], rfl, rfl, hbase, hq⟩
  case rest =>
    obtain ⟨K, O, T, N, M, S', rfl, rfl, hN, hq⟩ := hcut
    have hbx := hN.out.box
    have hcm := hN.out.cmp
    have c1 : wc.cell? ⟨w.heap.size, 1, none⟩ = some (sv t) := (cell_of (i := 1) hbx).trans rfl
    have c2 : wc.cell? ⟨w.heap.size, 2, none⟩ = some (iv n) := (cell_of (i := 2) hbx).trans rfl
    have c3 : wc.cell? ⟨w.heap.size, 3, none⟩ = some (iv m) := (cell_of (i := 3) hbx).trans rfl
    have c4 : wc.cell? ⟨w.heap.size, 4, none⟩ = some (sv s) := (cell_of (i := 4) hbx).trans rfl
    have c5 : wc.cell? ⟨w.heap.size, 5, none⟩ = some (.slice a l.length c) := (cell_of (i := 5) hbx).trans rfl
    have d1 : wc.cell? ⟨w.heap.size + 1, 1, none⟩ = some (sv T) := (cell_of (i := 1) hcm).trans rfl
    have d2 : wc.cell? ⟨w.heap.size + 1, 2, none⟩ = some (iv N) := (cell_of (i := 2) hcm).trans rfl
    have d3 : wc.cell? ⟨w.heap.size + 1, 3, none⟩ = some (iv M) := (cell_of (i := 3) hcm).trans rfl
    have d4 : wc.cell? ⟨w.heap.size + 1, 4, none⟩ = some (sv S') := (cell_of (i := 4) hcm).trans rfl
    obtain ⟨z1, hz1⟩ : ∃ z, decide (l.length ≤ K) = z := ⟨_, rfl⟩
    obtain ⟨z2, hz2⟩ : ∃ z, (T == t) = z := ⟨_, rfl⟩
    obtain ⟨z3, hz3⟩ : ∃ z, (N == n) = z := ⟨_, rfl⟩
    obtain ⟨z4, hz4⟩ : ∃ z, (M == m) = z := ⟨_, rfl⟩
    obtain ⟨z5, hz5⟩ : ∃ z, (S' == s) = z := ⟨_, rfl⟩
    have hz1i : decide ((l.length : Int) ≤ (K : Int)) = z1 := by rw [← hz1]; exact decide_eq_decide.2 (by omega)
    rw [hz1, hz2, hz3, hz4, hz5] at hq
    have hB := hid hN.out.bel
    clear hbx hcm hN hbase hty hpa hres
    have hfalse : ∀ b, (false && b) = false := fun _ => rfl
    cases O with
    | false =>
      have hf := hid (show false = res from hq.out)
      clear hq
      go_wp2_with fail
      go_ret
      exact ⟨by rw [← hf.out]; rfl, hB.out⟩
    | true =>
      cases z1 with
      | false =>
        have hf := hid (show false = res by have := hq.out; simpa using this)
        clear hq
        go_wp2_with fail
        go_ret
        exact ⟨by rw [← hf.out]; rfl, hB.out⟩
      | true =>
        cases z2 with
        | false =>
          have hf := hid (show false = res by have := hq.out; simpa using this)
          clear hq
          go_wp2_with fail
          go_ret
          exact ⟨by rw [← hf.out]; rfl, hB.out⟩
        | true =>
          cases z3 with
          | false =>
            have hf := hid (show false = res by have := hq.out; simpa using this)
            clear hq
            go_wp2_with fail
            go_ret
            exact ⟨by rw [← hf.out]; rfl, hB.out⟩
          | true =>
            cases z4 with
            | false =>
              have hf := hid (show false = res by have := hq.out; simpa using this)
              clear hq
              go_wp2_with fail
              go_ret
              exact ⟨by rw [← hf.out]; rfl, hB.out⟩
            | true =>
              cases z5 with
              | false =>
                have hf := hid (show false = res by have := hq.out; simpa using this)
                clear hq
                go_wp2_with fail
                go_ret
                exact ⟨by rw [← hf.out]; rfl, hB.out⟩
              | true =>
                have hf := hid (show true = res from hq.out)
                clear hq
                go_wp2_with fail
                go_ret
                exact ⟨by rw [← hf.out]; rfl, hB.out⟩
end Go.Proofs.YtnbhpicmflagcaaDoor
namespace Go.Proofs.YtnbhpicmflagcaaDoor
open Go.RowKit
open Go.Lib (hid)
def nodG : Nat → Val → Nat
  | 0, _ => 1
  | f + 1, x => 1 + (x.l.map (nodG f)).sum
noncomputable def nodN (x : Val) : Nat := nodG (SizeOf.sizeOf x) x
def nsG : Nat → Val → Bool
  | 0, _ => false
  | f + 1, x => x.l.all (nsG f) && rnodeF x
noncomputable def nsF (x : Val) : Bool := nsG (SizeOf.sizeOf x) x
theorem nodG_eq : ∀ (f g : Nat) (x : Val), SizeOf.sizeOf x ≤ f → SizeOf.sizeOf x ≤ g → nodG f x = nodG g x
  | 0, _, x, h, _ => by cases x; simp at h
  | _ + 1, 0, x, _, h => by cases x; simp at h
  | f + 1, g + 1, x, hf, hg => by
    simp only [nodG]
    rw [List.map_congr_left (g := nodG g) fun y hy => by
      have := val_mem_lt hy
      exact nodG_eq f g y (by omega) (by omega)]
theorem nodN_eq (x : Val) : nodN x = 1 + (x.l.map nodN).sum := by
  obtain ⟨f, hf⟩ : ∃ f, SizeOf.sizeOf x = f + 1 := ⟨SizeOf.sizeOf x - 1, by cases x; simp; omega⟩
  rw [show nodN x = nodG (f + 1) x by unfold nodN; rw [hf]]
  simp only [nodG]
  rw [List.map_congr_left (g := nodN) fun y hy => by
    have := val_mem_lt hy
    exact nodG_eq _ _ y (by omega) (Nat.le_refl _)]
theorem all_congr {α : Type} {p q : α → Bool} : ∀ (l : List α), (∀ y ∈ l, p y = q y) → l.all p = l.all q
  | [], _ => rfl
  | a :: r, h => by rw [List.all_cons, List.all_cons, h a (by simp), all_congr r fun y hy => h y (by simp [hy])]
theorem nsG_eq : ∀ (f g : Nat) (x : Val), SizeOf.sizeOf x ≤ f → SizeOf.sizeOf x ≤ g → nsG f x = nsG g x
  | 0, _, x, h, _ => by cases x; simp at h
  | _ + 1, 0, x, _, h => by cases x; simp at h
  | f + 1, g + 1, x, hf, hg => by
    simp only [nsG]
    rw [all_congr (q := nsG g) x.l fun y hy => by
      have := val_mem_lt hy
      exact nsG_eq f g y (by omega) (by omega)]
theorem nsF_eq (x : Val) : nsF x = (x.l.all nsF && rnodeF x) := by
  obtain ⟨f, hf⟩ : ∃ f, SizeOf.sizeOf x = f + 1 := ⟨SizeOf.sizeOf x - 1, by cases x; simp; omega⟩
  rw [show nsF x = nsG (f + 1) x by unfold nsF; rw [hf]]
  simp only [nsG]
  rw [all_congr (q := nsF) x.l fun y hy => by
    have := val_mem_lt hy
    exact nsG_eq _ _ y (by omega) (Nat.le_refl _)]
theorem venc_pos (n : Nat) : 1 ≤ (venc n).length := by unfold venc vencF; split <;> simp
theorem tenc_pos (s : List UInt8) : 1 ≤ (tenc s).length := by
  have := venc_pos s.length
  unfold tenc; rw [List.length_append]; omega
theorem sum_le_flat {α : Type} {n : α → Nat} {e : α → List UInt8} : ∀ (l : List α), (∀ y ∈ l, n y ≤ (e y).length) → (l.map n).sum ≤ ((l.map e).flatten).length
  | [], _ => by simp
  | a :: r, h => by
    simp only [List.map_cons, List.sum_cons, List.flatten_cons, List.length_append]
    have := h a (by simp)
    have := sum_le_flat r fun y hy => h y (by simp [hy])
    omega
theorem nod_le : ∀ (n : Nat) (x : Val), SizeOf.sizeOf x < n → nodN x ≤ (encF x).length
  | 0, _, h => by omega
  | n + 1, x, h => by
    rw [nodN_eq, encF_eq, List.length_append]
    have h1 : 1 ≤ (headF x).length := by unfold headF; simp only [List.length_append]; have := tenc_pos x.t; omega
    have h2 := sum_le_flat (n := nodN) (e := encF) x.l fun y hy => nod_le n y (by have := val_mem_lt hy; omega)
    omega
def anG : Nat → Val → Bool
  | 0, _ => false
  | f + 1, x => x.l.all (anG f) && nodeF x
noncomputable def anF (x : Val) : Bool := anG (SizeOf.sizeOf x) x
theorem anG_eq : ∀ (f g : Nat) (x : Val), SizeOf.sizeOf x ≤ f → SizeOf.sizeOf x ≤ g → anG f x = anG g x
  | 0, _, x, h, _ => by cases x; simp at h
  | _ + 1, 0, x, _, h => by cases x; simp at h
  | f + 1, g + 1, x, hf, hg => by
    simp only [anG]
    rw [all_congr (q := anG g) x.l fun y hy => by
      have := val_mem_lt hy
      exact anG_eq f g y (by omega) (by omega)]
theorem anF_eq (x : Val) : anF x = (x.l.all anF && nodeF x) := by
  obtain ⟨f, hf⟩ : ∃ f, SizeOf.sizeOf x = f + 1 := ⟨SizeOf.sizeOf x - 1, by cases x; simp; omega⟩
  rw [show anF x = anG (f + 1) x by unfold anF; rw [hf]]
  simp only [anG]
  rw [all_congr (q := anF) x.l fun y hy => by
    have := val_mem_lt hy
    exact anG_eq _ _ y (by omega) (Nat.le_refl _)]
theorem fold_spec : ∀ (l : List Val), (∀ y ∈ l, ∀ left, vldF y left = if anF y = true ∧ nodN y ≤ left then some (left - nodN y) else none) → ∀ left, l.foldl (fun o y => o.bind (vldF y)) (some left) = if l.all anF = true ∧ (l.map nodN).sum ≤ left then some (left - (l.map nodN).sum) else none
  | [], _, left => by simp
  | a :: r, H, left => by
    rw [List.foldl_cons, show (some left : Option Nat).bind (vldF a) = vldF a left from rfl, H a (by simp) left]
    rw [List.all_cons, List.map_cons, List.sum_cons]
    by_cases h1 : anF a = true ∧ nodN a ≤ left
    · rw [if_pos h1, fold_spec r (fun y hy => H y (by simp [hy])) (left - nodN a)]
      rw [h1.1, Bool.true_and]
      by_cases h2 : r.all anF = true ∧ (r.map nodN).sum ≤ left - nodN a
      · rw [if_pos h2, if_pos ⟨h2.1, by omega⟩]
        congr 1; omega
      · rw [if_neg h2, if_neg (fun h => h2 ⟨h.1, by omega⟩)]
    · rw [if_neg h1, foldl_none]
      rw [if_neg (fun h => h1 ⟨by have := h.1; rw [Bool.and_eq_true] at this; exact this.1, by omega⟩)]
theorem vld_spec : ∀ (n : Nat) (x : Val), SizeOf.sizeOf x < n → ∀ left, vldF x left = if anF x = true ∧ nodN x ≤ left then some (left - nodN x) else none
  | 0, _, h => by omega
  | n + 1, x, h => by
    intro left
    have hs := fold_spec x.l (fun y hy => vld_spec n y (by have := val_mem_lt hy; omega)) (left - 1)
    rw [vldF_eq, nodN_eq, anF_eq]
    by_cases h0 : left = 0
    · rw [if_pos h0, if_neg (fun h => by omega)]
    · rw [if_neg h0]
      by_cases h1 : nodeF x = true
      · rw [if_pos h1, hs, h1, Bool.and_true]
        by_cases h2 : x.l.all anF = true ∧ (x.l.map nodN).sum ≤ left - 1
        · rw [if_pos h2, if_pos ⟨h2.1, by omega⟩]
          congr 1; omega
        · rw [if_neg h2, if_neg (fun h => h2 ⟨h.1, by omega⟩)]
      · rw [if_neg h1, if_neg (fun h => h1 (by have := h.1; rw [Bool.and_eq_true] at this; exact this.2))]
theorem len_le_sum : ∀ (l : List Val), l.length ≤ (l.map nodN).sum
  | [] => by simp
  | a :: r => by
    have := len_le_sum r
    rw [List.map_cons, List.sum_cons, List.length_cons, nodN_eq]
    omega
theorem mem_le_sum : ∀ (l : List Val) (y : Val), y ∈ l → nodN y ≤ (l.map nodN).sum
  | a :: r, y, h => by
    rw [List.map_cons, List.sum_cons]
    rcases List.mem_cons.1 h with rfl | h
    · omega
    · have := mem_le_sum r y h; omega
theorem ns_an : ∀ (n : Nat) (x : Val), SizeOf.sizeOf x < n → nodN x ≤ 16384 → nsF x = anF x
  | 0, _, h, _ => by omega
  | n + 1, x, h, h2 => by
    rw [nodN_eq] at h2
    rw [nsF_eq, anF_eq, all_congr (q := anF) x.l fun y hy => ns_an n y (by have := val_mem_lt hy; omega) (by have := mem_le_sum x.l y hy; omega)]
    congr 1
    unfold rnodeF rkids
    have hl := len_le_sum x.l
    rw [decide_eq_true (show x.l.length ≤ 16384 by omega)]
    split <;> simp
theorem right_spec (x : Val) : rightF x = (decide (nodN x ≤ 16384) && nsF x) := by
  unfold rightF
  rw [vld_spec _ x (Nat.lt_succ_self _)]
  by_cases h : nodN x ≤ 16384
  · rw [decide_eq_true h, Bool.true_and, ns_an _ x (Nat.lt_succ_self _) h]
    by_cases h2 : anF x = true
    · rw [if_pos ⟨h2, h⟩, h2]; rfl
    · rw [if_neg (fun e => h2 e.1)]
      have : anF x = false := by simpa using h2
      rw [this]; rfl
  · rw [decide_eq_false h, if_neg (fun e => h e.2)]; rfl
theorem nod_next {l : List Val} {k : Nat} {y : Val} (h : l[k]? = some y) : ((l.take (k + 1)).map nodN).sum = ((l.take k).map nodN).sum + nodN y := by
  rw [List.take_add_one, h]
  simp
theorem nod_take (l : List Val) (k : Nat) : ((l.take k).map nodN).sum ≤ (l.map nodN).sum := by
  have := List.take_append_drop k l
  have h2 : (l.map nodN).sum = ((l.take k ++ l.drop k).map nodN).sum := by rw [this]
  rw [h2, List.map_append, List.sum_append]; omega
set_option maxHeartbeats 1000000 in
set_option maxRecDepth 100000 in
theorem nodes_of (x : Val) (hx : ValB x) (hb : nodN x ≤ 1000000000) (S : Foot) (cs : List Value) (w : World) (hR : ValR S w x cs)
    (ih : ∀ y ∈ x.l, nodN y ≤ 1000000000 → ∀ (cs : List Value) (W : World), ValR (fun q => q < w.heap.size) W y cs → Calls Tryd.prog 66 #[.agg cs.toArray] W fun e w' => e = .returned (iv (nodN y)) ∧ Below W.heap.size W w') :
    Calls Tryd.prog 66 #[.agg cs.toArray] w fun e w' => e = .returned (iv (nodN x)) ∧ Below w.heap.size w w' := by
  have hlen := hx.len
  obtain ⟨a, c, rfl, hL⟩ := valR_open hR
  have hLw := hid (hL.mono goodVal (T := fun q => q < w.heap.size) fun q hq _ => hq)
  have hnx := nodN_eq x
  generalize hl : x.l = l at *
  obtain ⟨R, hRe⟩ : ∃ R, R = nodN x := ⟨_, rfl⟩
  rw [← hRe] at hnx hb ⊢
  replace hRe := hid hRe
  have hrow := hid (heap_alloc_new' w (.cells (valCs x (.slice a l.length c)).toArray 44))
  have hB0 := hid ((Below.refl w.heap.size w).alloc (Nat.le_refl _) (.cells (valCs x (.slice a l.length c)).toArray 44))
  replace ih := hid ih
  clear hL hR hx
  replace hl := hid hl
  go_enter Tryd.func66, Tryd.ntmps66
  go_wp2_with fail
  go_loopw [3, 4] (fun n i wr => ∃ k : Nat, i = .int .i64 k ∧ n = iv ((1 + ((l.take k).map nodN).sum : Nat) : Int) ∧ k ≤ l.length ∧ Hid (wr.heap[w.heap.size]? = some (.cells (valCs x (.slice a l.length c)).toArray 44 (0, 0)) ∧ w.heap.size < wr.heap.size) ∧ Hid (Below w.heap.size w wr)) (fun _ i _ => l.length - (intOf i).toNat)
  case atStart => exact ⟨0, rfl, by simp, Nat.zero_le _, hid ⟨hrow.out, by simp⟩, hB0⟩
  case round =>
    clear hrow hB0
    obtain ⟨k, rfl, rfl, hk, hrow, hB⟩ := hrel
    have c5 : wr.cell? ⟨w.heap.size, 5, none⟩ = some (.slice a l.length c) := (cell_of (i := 5) hrow.out.1).trans rfl
    by_cases hlt : k < l.length
    · have q1 : decide ((k : Int) < (l.length : Int)) = true := decide_eq_true (by omega)
      obtain ⟨y, hy⟩ : ∃ y, l[k]? = some y := ⟨_, List.getElem?_eq_getElem hlt⟩
      have hym := List.mem_of_getElem? hy
      obtain ⟨g, o, cs, hidx, hS, hg, hc, hr⟩ := (hLw.out.below goodVal hB.out).at (P := Tryd.prog) (t := 23) (by kernel_rfl) (fun _ => by kernel_rfl) hy
      have hyn : nodN y ≤ (l.map nodN).sum := mem_le_sum l y hym
      have hcall := hid (ih.out y hym (by omega) cs wr hr)
      have hsum := nod_next hy
      have hst := nod_take l (k + 1)
      obtain ⟨a1, k1, rfl, -⟩ := valR_open hr
      have e0 := hc 0 _ rfl
      have e1 := hc 1 _ rfl
      have e2 := hc 2 _ rfl
      have e3 := hc 3 _ rfl
      have e4 := hc 4 _ rfl
      have e5 := hc 5 _ rfl
      rw [Nat.add_zero] at e0
      rw [hsum] at hst
      obtain ⟨A, hA⟩ : ∃ A, A = ((l.take k).map nodN).sum := ⟨_, rfl⟩
      obtain ⟨ny, hny⟩ : ∃ ny, ny = nodN y := ⟨_, rfl⟩
      rw [← hA, ← hny] at hst hsum
      rw [← hny] at hcall
      rw [← hA]
      have hw1 : IntKind.i64.wrap (((1 + A : Nat) : Int) + (ny : Int)) = ((1 + (A + ny) : Nat) : Int) := by rw [IntKind.wrap_i64]; omega
      have hw1' : IntKind.i64.wrap (1 + (A : Int) + (ny : Int)) = ((1 + (A + ny) : Nat) : Int) := by rw [IntKind.wrap_i64]; omega
      replace hsum := hid hsum
      replace hA := hid hA
      replace hny := hid hny
      clear hc hr hst hyn hym hy hnx
      go_wp2_with fail
      with_reducible refine hcall.out.mono ?_
      rintro e w2 ⟨rfl, hb2⟩
      have hrow2 := hid (⟨below_keep hb2 hrow.out.1 hrow.out.2, Nat.lt_of_lt_of_le hrow.out.2 hb2.size⟩ : w2.heap[w.heap.size]? = some (.cells (valCs x (.slice a l.length c)).toArray 44 (0, 0)) ∧ w.heap.size < w2.heap.size)
      have hB2 := hid (hB.out.trans (hb2.mono hB.out.size))
      clear hb2 hcall e0 e1 e2 e3 e4 e5 hidx c5
      go_wp2_with fail
      refine ⟨?_, by simp [intOf]; omega⟩
      repeat (first | exact ⟨⟨k + 1, rfl, by rw [hsum.out]; push_cast; rfl, by omega, hrow2, hB2⟩, rfl⟩ | exact ⟨k + 1, rfl, by rw [hsum.out]; push_cast; rfl, by omega, hrow2, hB2⟩ | exact ⟨k + 1, by go_num, by rw [hsum.out]; push_cast; rfl, by omega, hrow2, hB2⟩ | apply Exists.intro)
    · have hkl : k = l.length := by omega
      subst hkl
      rw [List.take_length]
      have hfin : (1 + (l.map nodN).sum : Nat) = R := hnx.symm
      rw [hfin]
      have q1 : decide ((l.length : Int) < (l.length : Int)) = false := decide_eq_false (by omega)
      clear hfin hnx
      go_wp2_with fail
      go_ret
      exact ⟨rfl, hB.out⟩
end Go.Proofs.YtnbhpicmflagcaaDoor
namespace Go.Proofs.YtnbhpicmflagcaaDoor
open Go.RowKit
open Go.Lib (hid)
theorem rNodes_any (x : Val) (hx : ValB x) (hb : nodN x ≤ 1000000000) (S : Foot) (cs : List Value) (w : World) (hR : ValR S w x cs) :
    Calls Tryd.prog 66 #[.agg cs.toArray] w fun e w' => e = .returned (iv (nodN x)) ∧ Below w.heap.size w w' := by
  suffices h : ∀ n (x : Val), SizeOf.sizeOf x < n → ValB x → nodN x ≤ 1000000000 → ∀ (S : Foot) (cs : List Value) (w : World), ValR S w x cs → Calls Tryd.prog 66 #[.agg cs.toArray] w fun e w' => e = .returned (iv (nodN x)) ∧ Below w.heap.size w w' from h _ x (Nat.lt_succ_self _) hx hb S cs w hR
  intro n
  induction n with
  | zero => intro x h; omega
  | succ n ih =>
    intro x hn hx hb S cs w hR
    refine nodes_of x hx hb S cs w hR (fun y hy hyb cs W hr => ih y ?_ (hx.mem hy) hyb _ cs W hr)
    have := val_mem_lt hy
    omega
set_option maxHeartbeats 1000000 in
set_option maxRecDepth 100000 in
theorem nodesB_of (x : Val) (hx : ValB x) (S : Foot) (cs : List Value) (w : World) (hR : ValR S w x cs)
    (ih : ∀ y ∈ x.l, ∀ (cs : List Value) (W : World), ValR (fun q => q < w.heap.size) W y cs → Calls Tryd.prog 67 #[.agg cs.toArray] W fun e w' => e = .returned (.bool (nsF y)) ∧ Below W.heap.size W w') :
    Calls Tryd.prog 67 #[.agg cs.toArray] w fun e w' => e = .returned (.bool (nsF x)) ∧ Below w.heap.size w w' := by
  have hlen := hx.len
  have hnode := hid (fun cs (W : World) (h : ValR (fun q => q < w.heap.size) W x cs) => rnode_any x hx _ cs W h)
  obtain ⟨a, c, rfl, hL⟩ := valR_open hR
  have hRw := hid (goodVal.mono hR (T := fun q => q < w.heap.size) fun q hq _ => hq)
  have hLw := hid (hL.mono goodVal (T := fun q => q < w.heap.size) fun q hq _ => hq)
  have hnx := nsF_eq x
  obtain ⟨R, hRe⟩ : ∃ R, R = nsF x := ⟨_, rfl⟩
  rw [← hRe] at hnx ⊢
  replace hRe := hid hRe
  generalize hl : x.l = l at *
  have hrow := hid (heap_alloc_new' w (.cells (valCs x (.slice a l.length c)).toArray 44))
  have hB0 := hid ((Below.refl w.heap.size w).alloc (Nat.le_refl _) (.cells (valCs x (.slice a l.length c)).toArray 44))
  replace ih := hid ih
  replace hnx := hid hnx
  clear hL hR hx
  replace hl := hid hl
  go_enter Tryd.func67, Tryd.ntmps67
  go_wp2_with fail
  go_loopw [3] (fun i wr => ∃ k : Nat, i = .int .i64 k ∧ k ≤ l.length ∧ Hid (∀ j y, j < k → l[j]? = some y → nsF y = true) ∧ Hid (wr.heap[w.heap.size]? = some (.cells (valCs x (.slice a l.length c)).toArray 44 (0, 0)) ∧ w.heap.size < wr.heap.size) ∧ Hid (Below w.heap.size w wr)) (fun i _ => l.length - (intOf i).toNat)
  case atStart => exact ⟨0, rfl, Nat.zero_le _, hid (fun j y h => absurd h (by omega)), hid ⟨hrow.out, by simp⟩, hB0⟩
  case round =>
    clear hrow hB0
    obtain ⟨k, rfl, hk, hok, hrow, hB⟩ := hrel
    have c0 : wr.cell? ⟨w.heap.size, 0, none⟩ = some (iv x.kind) := (cell_of (i := 0) hrow.out.1).trans rfl
    have c1 : wr.cell? ⟨w.heap.size, 1, none⟩ = some (sv x.t) := (cell_of (i := 1) hrow.out.1).trans rfl
    have c2 : wr.cell? ⟨w.heap.size, 2, none⟩ = some (iv x.n) := (cell_of (i := 2) hrow.out.1).trans rfl
    have c3 : wr.cell? ⟨w.heap.size, 3, none⟩ = some (iv x.m) := (cell_of (i := 3) hrow.out.1).trans rfl
    have c4 : wr.cell? ⟨w.heap.size, 4, none⟩ = some (sv x.s) := (cell_of (i := 4) hrow.out.1).trans rfl
    have c5 : wr.cell? ⟨w.heap.size, 5, none⟩ = some (.slice a l.length c) := (cell_of (i := 5) hrow.out.1).trans rfl
    by_cases hlt : k < l.length
    · have q1 : decide ((k : Int) < (l.length : Int)) = true := decide_eq_true (by omega)
      obtain ⟨y, hy⟩ : ∃ y, l[k]? = some y := ⟨_, List.getElem?_eq_getElem hlt⟩
      have hym := List.mem_of_getElem? hy
      obtain ⟨g, o, cs, hidx, hS, hg, hc, hr⟩ := (hLw.out.below goodVal hB.out).at (P := Tryd.prog) (t := 23) (by kernel_rfl) (fun _ => by kernel_rfl) hy
      have hcall := hid (ih.out y hym cs wr hr)
      have hnext := hid (fun h : nsF y = true => hit_nextT hy h hok.out)
      have hfail := hid (fun h : nsF y = false => (hnx.out.trans (by rw [show l.all nsF = false from List.all_eq_false.2 ⟨y, hym, by simp [h]⟩]; rfl) : R = false))
      obtain ⟨a1, k1, rfl, -⟩ := valR_open hr
      have e0 := hc 0 _ rfl
      have e1 := hc 1 _ rfl
      have e2 := hc 2 _ rfl
      have e3 := hc 3 _ rfl
      have e4 := hc 4 _ rfl
      have e5 := hc 5 _ rfl
      rw [Nat.add_zero] at e0
      obtain ⟨z, hz⟩ : ∃ z, nsF y = z := ⟨_, rfl⟩
      rw [hz] at hcall hnext hfail
      replace hz := hid hz
      clear hc hr hym hy hok c0 c1 c2 c3 c4
      go_wp2_with fail
      with_reducible refine hcall.out.mono ?_
      rintro e w2 ⟨rfl, hb2⟩
      have hrow2 := hid (⟨below_keep hb2 hrow.out.1 hrow.out.2, Nat.lt_of_lt_of_le hrow.out.2 hb2.size⟩ : w2.heap[w.heap.size]? = some (.cells (valCs x (.slice a l.length c)).toArray 44 (0, 0)) ∧ w.heap.size < w2.heap.size)
      have hB2 := hid (hB.out.trans (hb2.mono hB.out.size))
      clear hb2 hcall e0 e1 e2 e3 e4 e5 hidx c5
      cases z with
      | true =>
        have hok2 := hid (hnext.out rfl)
        clear hnext hfail
        go_wp2_with fail
        refine ⟨?_, by simp [intOf]; omega⟩
        repeat (first | exact ⟨⟨k + 1, rfl, by omega, hok2, hrow2, hB2⟩, rfl⟩ | exact ⟨k + 1, rfl, by omega, hok2, hrow2, hB2⟩ | exact ⟨k + 1, by go_num, by omega, hok2, hrow2, hB2⟩ | apply Exists.intro)
      | false =>
        have hfin := hid (hfail.out rfl)
        clear hnext hfail
        go_wp2_with fail
        go_ret
        exact ⟨by rw [hfin.out]; rfl, hB2.out⟩
    · have hkl : k = l.length := by omega
      subst hkl
      have q1 : decide ((l.length : Int) < (l.length : Int)) = false := decide_eq_false (by omega)
      have hall : l.all nsF = true := List.all_eq_true.2 fun y hy => by
        obtain ⟨j, hj⟩ := List.getElem?_of_mem hy
        exact hok.out j y (List.getElem?_eq_some_iff.1 hj).1 hj
      have hfin := hid (show R = rnodeF x from hnx.out.trans (by rw [hall]; rfl))
      have hcall := hid (hnode.out _ wr (goodVal.below hRw.out hB.out))
      clear hall hok hnx
      go_wp2_with fail
      with_reducible refine hcall.out.mono ?_
      rintro e w2 ⟨rfl, hb2⟩
      have hB2 := hid (hB.out.trans (hb2.mono hB.out.size))
      clear hb2 hcall hrow c0 c1 c2 c3 c4 c5
      go_wp2_with fail
      go_ret
      exact ⟨by rw [hfin.out]; rfl, hB2.out⟩
theorem rnodes_any (x : Val) (hx : ValB x) (S : Foot) (cs : List Value) (w : World) (hR : ValR S w x cs) :
    Calls Tryd.prog 67 #[.agg cs.toArray] w fun e w' => e = .returned (.bool (nsF x)) ∧ Below w.heap.size w w' := by
  suffices h : ∀ n (x : Val), SizeOf.sizeOf x < n → ValB x → ∀ (S : Foot) (cs : List Value) (w : World), ValR S w x cs → Calls Tryd.prog 67 #[.agg cs.toArray] w fun e w' => e = .returned (.bool (nsF x)) ∧ Below w.heap.size w w' from h _ x (Nat.lt_succ_self _) hx S cs w hR
  intro n
  induction n with
  | zero => intro x h; omega
  | succ n ih =>
    intro x hn hx S cs w hR
    refine nodesB_of x hx S cs w hR (fun y hy cs W hr => ih y ?_ (hx.mem hy) _ cs W hr)
    have := val_mem_lt hy
    omega
set_option maxHeartbeats 1000000 in
set_option maxRecDepth 100000 in
theorem rright_any (x : Val) (hx : ValB x) (hb : nodN x ≤ 1000000000) (S : Foot) (cs : List Value) (w : World) (hR : ValR S w x cs) :
    Calls Tryd.prog 53 #[.agg cs.toArray] w fun e w' => e = .returned (.bool (rightF x)) ∧ Below w.heap.size w w' := by
  have h1 := hid (fun (W : World) (h : Below w.heap.size w W) => rNodes_any x hx hb S cs W (goodVal.below hR h))
  have h2 := hid (fun (W : World) (h : Below w.heap.size w W) => rnodes_any x hx S cs W (goodVal.below hR h))
  have hs := right_spec x
  obtain ⟨a, c, rfl, -⟩ := valR_open hR
  have hrow := hid (heap_alloc_new' w (.cells (valCs x (.slice a x.l.length c)).toArray 44))
  have hB0 := hid ((Below.refl w.heap.size w).alloc (Nat.le_refl _) (.cells (valCs x (.slice a x.l.length c)).toArray 44))
  obtain ⟨R, hRe⟩ : ∃ R, R = rightF x := ⟨_, rfl⟩
  rw [← hRe] at hs ⊢
  replace hRe := hid hRe
  replace hs := hid hs
  obtain ⟨n, hn⟩ : ∃ n, n = nodN x := ⟨_, rfl⟩
  rw [← hn] at h1 hs
  replace hn := hid hn
  have hc1 := hid (h1.out _ hB0.out)
  clear hR h1
  go_enter Tryd.func53, Tryd.ntmps53
  go_wp2_with fail
  with_reducible refine hc1.out.mono ?_
  rintro e w1 ⟨rfl, hb1⟩
  have hr1 := below_keep hb1 hrow.out (by simp)
  have c0 : w1.cell? ⟨w.heap.size, 0, none⟩ = some (iv x.kind) := (cell_of (i := 0) hr1).trans rfl
  have c1 : w1.cell? ⟨w.heap.size, 1, none⟩ = some (sv x.t) := (cell_of (i := 1) hr1).trans rfl
  have c2 : w1.cell? ⟨w.heap.size, 2, none⟩ = some (iv x.n) := (cell_of (i := 2) hr1).trans rfl
  have c3 : w1.cell? ⟨w.heap.size, 3, none⟩ = some (iv x.m) := (cell_of (i := 3) hr1).trans rfl
  have c4 : w1.cell? ⟨w.heap.size, 4, none⟩ = some (sv x.s) := (cell_of (i := 4) hr1).trans rfl
  have c5 : w1.cell? ⟨w.heap.size, 5, none⟩ = some (.slice a x.l.length c) := (cell_of (i := 5) hr1).trans rfl
  have hB1 := hid (hB0.out.trans (hb1.mono hB0.out.size))
  clear hr1 hb1 hc1
  by_cases h : n ≤ 16384
  · have q1 : decide ((n : Int) ≤ 16384) = true := decide_eq_true (by omega)
    have hc2 := hid (h2.out w1 hB1.out)
    have hf : Hid (R = nsF x) := hid (by rw [hs.out, decide_eq_true h, Bool.true_and])
    go_wp2_with fail
    with_reducible refine hc2.out.mono ?_
    rintro e w2 ⟨rfl, hb2⟩
    clear hc2 h2
    go_wp2_with fail
    go_ret
    exact ⟨by rw [hf.out]; rfl, hB1.out.trans (hb2.mono hB1.out.size)⟩
  · have q1 : decide ((n : Int) ≤ 16384) = false := decide_eq_false (by omega)
    have hf : Hid (R = false) := hid (by rw [hs.out, decide_eq_false h, Bool.false_and])
    go_wp2_with fail
    go_ret
    exact ⟨by rw [hf.out]; rfl, hB1.out⟩
end Go.Proofs.YtnbhpicmflagcaaDoor
namespace Go.Proofs.YtnbhpicmflagcaaDoor
open Go.RowKit
open Go.Lib (hid)
theorem mem_flat {α : Type} {e : α → List UInt8} : ∀ {l : List α} {y : α}, y ∈ l → (e y).length ≤ ((l.map e).flatten).length
  | a :: r, y, h => by
    rw [List.map_cons, List.flatten_cons, List.length_append]
    rcases List.mem_cons.1 h with rfl | h
    · omega
    · have := mem_flat (e := e) h; omega
theorem flat_next {α : Type} {e : α → List UInt8} {l : List α} {k : Nat} {y : α} (h : l[k]? = some y) : ((l.take (k + 1)).map e).flatten = ((l.take k).map e).flatten ++ e y := by
  rw [List.take_add_one, h]
  simp
theorem flat_take {α : Type} {e : α → List UInt8} (l : List α) (k : Nat) : (((l.take k).map e).flatten).length ≤ ((l.map e).flatten).length := by
  have := List.take_append_drop k l
  have h2 : ((l.map e).flatten).length = (((l.take k ++ l.drop k).map e).flatten).length := by rw [this]
  rw [h2, List.map_append, List.flatten_append, List.length_append]; omega
/-- the cells of a value in a block -/
def VRow (B : Nat) (x : Val) (v : Value) (w : World) : Prop := w.cell? ⟨B, 0, none⟩ = some (iv x.kind) ∧ w.cell? ⟨B, 1, none⟩ = some (sv x.t) ∧ w.cell? ⟨B, 2, none⟩ = some (iv x.n) ∧ w.cell? ⟨B, 3, none⟩ = some (iv x.m) ∧ w.cell? ⟨B, 4, none⟩ = some (sv x.s) ∧ w.cell? ⟨B, 5, none⟩ = some v
theorem VRow.below {B : Nat} {x : Val} {v : Value} {w w' : World} (h : VRow B x v w) (hB : B < w.heap.size) (hb : Below w.heap.size w w') : VRow B x v w' :=
  ⟨(hb.cell (p := ⟨B, 0, none⟩) hB).trans h.1, (hb.cell (p := ⟨B, 1, none⟩) hB).trans h.2.1, (hb.cell (p := ⟨B, 2, none⟩) hB).trans h.2.2.1, (hb.cell (p := ⟨B, 3, none⟩) hB).trans h.2.2.2.1, (hb.cell (p := ⟨B, 4, none⟩) hB).trans h.2.2.2.2.1, (hb.cell (p := ⟨B, 5, none⟩) hB).trans h.2.2.2.2.2⟩
theorem VRow.of {B : Nat} {x : Val} {v : Value} {w : World} (h : w.heap[B]? = some (.cells (valCs x v).toArray 44 (0, 0))) : VRow B x v w :=
  ⟨(cell_of (i := 0) h).trans rfl, (cell_of (i := 1) h).trans rfl, (cell_of (i := 2) h).trans rfl, (cell_of (i := 3) h).trans rfl, (cell_of (i := 4) h).trans rfl, (cell_of (i := 5) h).trans rfl⟩
set_option maxHeartbeats 2000000 in
set_option maxRecDepth 100000 in
theorem bytes_of (x : Val) (hx : ValB x) (hb : (encF x).length ≤ 1000000000) (hn : anF x = true) (S : Foot) (cs : List Value) (w : World) (hR : ValR S w x cs)
    (ih : ∀ y ∈ x.l, (encF y).length ≤ 1000000000 → anF y = true → ∀ (cs : List Value) (W : World), ValR (fun q => q < w.heap.size) W y cs → Calls Tryd.prog 54 #[.agg cs.toArray] W fun e w' => e = .returned (sv (encF y)) ∧ Below W.heap.size W w') :
    Calls Tryd.prog 54 #[.agg cs.toArray] w fun e w' => e = .returned (sv (encF x)) ∧ Below w.heap.size w w' := by
  have hlen := hx.len
  rw [anF_eq, Bool.and_eq_true] at hn
  have hk : x.kind ≤ 9223372036854775807 := by have := node_kind hn.2; omega
  replace hn := hid hn.1
  have htl : x.t.length ≤ 1048576 := by cases hx; assumption
  have hsl : x.s.length ≤ 1048576 := by cases hx; assumption
  obtain ⟨a, c, rfl, hL⟩ := valR_open hR
  have hLw := hid (hL.mono goodVal (T := fun q => q < w.heap.size) fun q hq _ => hq)
  have hen := encF_eq x
  obtain ⟨R, hRe⟩ : ∃ R, R = encF x := ⟨_, rfl⟩
  rw [← hRe] at hen hb ⊢
  replace hRe := hid hRe
  have hbl : (headF x).length + ((x.l.map encF).flatten).length ≤ 1000000000 := by rw [hen, List.length_append] at hb; exact hb
  have hc1 := hid (fun W => rnum_any x.kind W hk)
  have hc2 := hid (fun W => rtext_any x.t W (by omega))
  have hc3 := hid (fun W => rint_any x.n W)
  have hc4 := hid (fun W => rint_any x.m W)
  have hc5 := hid (fun W => rtext_any x.s W (by omega))
  have hc6 := hid (fun W => rnum_any (x.l.length : Int) W (by omega))
  have hH : headF x = nenc x.kind ++ tenc x.t ++ ienc x.n ++ ienc x.m ++ tenc x.s ++ nenc x.l.length := rfl
  generalize hA1 : nenc x.kind = A1 at *
  generalize hA2 : tenc x.t = A2 at *
  generalize hA3 : ienc x.n = A3 at *
  generalize hA4 : ienc x.m = A4 at *
  generalize hA5 : tenc x.s = A5 at *
  generalize hA6 : nenc x.l.length = A6 at *
  have hHl : A1.length + A2.length + A3.length + A4.length + A5.length + A6.length = (headF x).length := by rw [hH]; simp only [List.length_append]
  have s1 : ¬ 9223372036854775807 < A1.length + A2.length := by omega
  have s2 : ¬ 9223372036854775807 < A1.length + A2.length + A3.length := by omega
  have s3 : ¬ 9223372036854775807 < A1.length + A2.length + A3.length + A4.length := by omega
  have s4 : ¬ 9223372036854775807 < A1.length + A2.length + A3.length + A4.length + A5.length := by omega
  have s5 : ¬ 9223372036854775807 < A1.length + A2.length + A3.length + A4.length + A5.length + A6.length := by omega
  clear hA1 hA2 hA3 hA4 hA5 hA6 hHl
  generalize hl : x.l = l at *
  have hrow0 := heap_alloc_new' w (.cells (valCs x (.slice a l.length c)).toArray 44)
  have hB0 := hid ((Below.refl w.heap.size w).alloc (Nat.le_refl _) (.cells (valCs x (.slice a l.length c)).toArray 44))
  have hsz : (w.alloc (.cells (valCs x (.slice a l.length c)).toArray 44)).heap.size = w.heap.size + 1 := by simp
  have hv0 := VRow.of hrow0
  have hv1 : VRow w.heap.size x (.slice a l.length c) (w.alloc (.cells (valCs x (.slice a l.length c)).toArray 44)).drew := hv0
  have hBd := hid hB0.out.drew
  clear hrow0 hv0
  replace ih := hid ih
  replace hen := hid hen
  replace hl := hid hl
  replace hH := hid hH
  clear hL hR hx
  have hl0 : w.heap.size < (w.alloc (.cells (valCs x (.slice a l.length c)).toArray 44)).drew.heap.size := by simp
  go_enter Tryd.func54, Tryd.ntmps54
  go_wp2_with fail
  refine wp_region_held_drew (S := fun w' => VRow w.heap.size x (.slice a l.length c) w') (by kernel_rfl) ?_ (fun hHeld => ?_)
  · exact hv1
  refine wpAnyH_take (i := 0) (oi := ⟨_, _, _, _, _, _⟩) (v := ?_) rfl (by as_aux_lemma => kernel_rfl) (by as_aux_lemma => kernel_rfl) (by as_aux_lemma => kernel_rfl) (fun _ _ _ h => h) (Or.inl ⟨by rfl, ?hy⟩) (by assumption) ?_
  case hy =>
    intro w hSw
    obtain ⟨e0, e1, e2, e3, e4, e5⟩ := hSw
    go_simp
    all_goals with_reducible rfl
  try simp only [Act.put, List.setIfInBounds_toArray, List.set_cons_zero, List.set_cons_succ]
  refine wpAnyH_take (i := 1) (oi := ⟨_, _, _, _, _, _⟩) (v := ?_) rfl (by as_aux_lemma => kernel_rfl) (by as_aux_lemma => kernel_rfl) (by as_aux_lemma => kernel_rfl) (fun _ _ _ h => h) (Or.inl ⟨by rfl, ?hy⟩) (by assumption) ?_
  case hy =>
    intro w hSw
    obtain ⟨e0, e1, e2, e3, e4, e5⟩ := hSw
    go_simp
    all_goals with_reducible rfl
  try simp only [Act.put, List.setIfInBounds_toArray, List.set_cons_zero, List.set_cons_succ]
  refine wpAnyH_take (i := 3) (oi := ⟨_, _, _, _, _, _⟩) (v := ?_) rfl (by as_aux_lemma => kernel_rfl) (by as_aux_lemma => kernel_rfl) (by as_aux_lemma => kernel_rfl) (fun _ _ _ h => h) (Or.inl ⟨by rfl, ?hy⟩) (by assumption) ?_
  case hy =>
    intro w hSw
    obtain ⟨e0, e1, e2, e3, e4, e5⟩ := hSw
    go_simp
    all_goals with_reducible rfl
  try simp only [Act.put, List.setIfInBounds_toArray, List.set_cons_zero, List.set_cons_succ]
  refine wpAnyH_take (i := 4) (oi := ⟨_, _, _, _, _, _⟩) (v := ?_) rfl (by as_aux_lemma => kernel_rfl) (by as_aux_lemma => kernel_rfl) (by as_aux_lemma => kernel_rfl) (fun _ _ _ h => h) (Or.inl ⟨by rfl, ?hy⟩) (by assumption) ?_
  case hy =>
    intro w hSw
    obtain ⟨e0, e1, e2, e3, e4, e5⟩ := hSw
    go_simp
    all_goals with_reducible rfl
  try simp only [Act.put, List.setIfInBounds_toArray, List.set_cons_zero, List.set_cons_succ]
  refine wpAnyH_take (i := 7) (oi := ⟨_, _, _, _, _, _⟩) (v := ?_) rfl (by as_aux_lemma => kernel_rfl) (by as_aux_lemma => kernel_rfl) (by as_aux_lemma => kernel_rfl) (fun _ _ _ h => h) (Or.inl ⟨by rfl, ?hy⟩) (by assumption) ?_
  case hy =>
    intro w hSw
    obtain ⟨e0, e1, e2, e3, e4, e5⟩ := hSw
    go_simp
    all_goals with_reducible rfl
  try simp only [Act.put, List.setIfInBounds_toArray, List.set_cons_zero, List.set_cons_succ]
  refine wpAnyH_take (i := 8) (oi := ⟨_, _, _, _, _, _⟩) (v := ?_) rfl (by as_aux_lemma => kernel_rfl) (by as_aux_lemma => kernel_rfl) (by as_aux_lemma => kernel_rfl) (fun _ _ _ h => h) (Or.inl ⟨by rfl, ?hy⟩) (by assumption) ?_
  case hy =>
    intro w hSw
    obtain ⟨e0, e1, e2, e3, e4, e5⟩ := hSw
    go_simp
    all_goals with_reducible rfl
  try simp only [Act.put, List.setIfInBounds_toArray, List.set_cons_zero, List.set_cons_succ]
  refine wpAnyH_take (i := 11) (oi := ⟨_, _, _, _, _, _⟩) (v := ?_) rfl (by as_aux_lemma => kernel_rfl) (by as_aux_lemma => kernel_rfl) (by as_aux_lemma => kernel_rfl) (fun _ _ _ h => h) (Or.inl ⟨by rfl, ?hy⟩) (by assumption) ?_
  case hy =>
    intro w hSw
    obtain ⟨e0, e1, e2, e3, e4, e5⟩ := hSw
    go_simp
    all_goals with_reducible rfl
  try simp only [Act.put, List.setIfInBounds_toArray, List.set_cons_zero, List.set_cons_succ]
  refine wpAnyH_take (i := 12) (oi := ⟨_, _, _, _, _, _⟩) (v := ?_) rfl (by as_aux_lemma => kernel_rfl) (by as_aux_lemma => kernel_rfl) (by as_aux_lemma => kernel_rfl) (fun _ _ _ h => h) (Or.inl ⟨by rfl, ?hy⟩) (by assumption) ?_
  case hy =>
    intro w hSw
    obtain ⟨e0, e1, e2, e3, e4, e5⟩ := hSw
    go_simp
    all_goals with_reducible rfl
  try simp only [Act.put, List.setIfInBounds_toArray, List.set_cons_zero, List.set_cons_succ]
  refine wpAnyH_take (i := 15) (oi := ⟨_, _, _, _, _, _⟩) (v := ?_) rfl (by as_aux_lemma => kernel_rfl) (by as_aux_lemma => kernel_rfl) (by as_aux_lemma => kernel_rfl) (fun _ _ _ h => h) (Or.inl ⟨by rfl, ?hy⟩) (by assumption) ?_
  case hy =>
    intro w hSw
    obtain ⟨e0, e1, e2, e3, e4, e5⟩ := hSw
    go_simp
    all_goals with_reducible rfl
  try simp only [Act.put, List.setIfInBounds_toArray, List.set_cons_zero, List.set_cons_succ]
  refine wpAnyH_take (i := 16) (oi := ⟨_, _, _, _, _, _⟩) (v := ?_) rfl (by as_aux_lemma => kernel_rfl) (by as_aux_lemma => kernel_rfl) (by as_aux_lemma => kernel_rfl) (fun _ _ _ h => h) (Or.inl ⟨by rfl, ?hy⟩) (by assumption) ?_
  case hy =>
    intro w hSw
    obtain ⟨e0, e1, e2, e3, e4, e5⟩ := hSw
    go_simp
    all_goals with_reducible rfl
  try simp only [Act.put, List.setIfInBounds_toArray, List.set_cons_zero, List.set_cons_succ]
  refine wpAnyH_take (i := 19) (oi := ⟨_, _, _, _, _, _⟩) (v := ?_) rfl (by as_aux_lemma => kernel_rfl) (by as_aux_lemma => kernel_rfl) (by as_aux_lemma => kernel_rfl) (fun _ _ _ h => h) (Or.inl ⟨by rfl, ?hy⟩) (by assumption) ?_
  case hy =>
    intro w hSw
    obtain ⟨e0, e1, e2, e3, e4, e5⟩ := hSw
    go_simp
    all_goals with_reducible rfl
  try simp only [Act.put, List.setIfInBounds_toArray, List.set_cons_zero, List.set_cons_succ]
  refine wpAnyH_take (i := 20) (oi := ⟨_, _, _, _, _, _⟩) (v := ?_) rfl (by as_aux_lemma => kernel_rfl) (by as_aux_lemma => kernel_rfl) (by as_aux_lemma => kernel_rfl) (fun _ _ _ h => h) (Or.inl ⟨by rfl, ?hy⟩) (by assumption) ?_
  case hy =>
    intro w hSw
    obtain ⟨e0, e1, e2, e3, e4, e5⟩ := hSw
    go_simp
    all_goals with_reducible rfl
  try simp only [Act.put, List.setIfInBounds_toArray, List.set_cons_zero, List.set_cons_succ]
  refine wpAnyH_take (i := 21) (oi := ⟨_, _, _, _, _, _⟩) (v := ?_) rfl (by as_aux_lemma => kernel_rfl) (by as_aux_lemma => kernel_rfl) (by as_aux_lemma => kernel_rfl) (fun _ _ _ h => h) (Or.inl ⟨by rfl, ?hy⟩) (by assumption) ?_
  case hy =>
    intro w hSw
    obtain ⟨e0, e1, e2, e3, e4, e5⟩ := hSw
    go_simp
    all_goals with_reducible rfl
  try simp only [Act.put, List.setIfInBounds_toArray, List.set_cons_zero, List.set_cons_succ]
  refine wpAnyH_ready (rs := [2]) (by as_aux_lemma => kernel_rfl) (by simp) ?_
  refine AllReadyH.cons (o := ⟨_, _, _, _, _, _⟩) rfl (fun K hK => ?_) AllReadyH.nil
  go_simp
  go_at_call 38
  with_reducible refine (hc1.out _).mono ?_
  rintro e w1 ⟨rfl, hb1⟩
  have v1 := hv1.below hl0 hb1
  have l1 := Nat.lt_of_lt_of_le hl0 hb1.size
  have g1 := hid (hBd.out.trans (hb1.mono hBd.out.size))
  clear hb1
  refine hK.out _ _ ?_ (fun hHeld2 => ?_)
  · exact v1
  clear hK K hHeld
  have hHeld := hHeld2
  clear hHeld2
  try simp only [Act.put, List.setIfInBounds_toArray, List.set_cons_zero, List.set_cons_succ]
  refine wpAnyH_ready (rs := [5]) (by as_aux_lemma => kernel_rfl) (by simp) ?_
  refine AllReadyH.cons (o := ⟨_, _, _, _, _, _⟩) rfl (fun K hK => ?_) AllReadyH.nil
  go_simp
  go_at_call 36
  with_reducible refine (hc2.out _).mono ?_
  rintro e w2 ⟨rfl, hb2⟩
  have v2 := v1.below l1 hb2
  have l2 := Nat.lt_of_lt_of_le l1 hb2.size
  have g2 := hid (g1.out.trans (hb2.mono g1.out.size))
  clear hb2
  refine hK.out _ _ ?_ (fun hHeld2 => ?_)
  · exact v2
  clear hK K hHeld
  have hHeld := hHeld2
  clear hHeld2
  try simp only [Act.put, List.setIfInBounds_toArray, List.set_cons_zero, List.set_cons_succ]
  refine wpAnyH_take (i := 6) (oi := ⟨_, _, _, _, _, _⟩) (v := ?_) rfl (by as_aux_lemma => kernel_rfl) (by as_aux_lemma => kernel_rfl) (by as_aux_lemma => kernel_rfl) (fun _ _ _ h => h) (Or.inl ⟨by rfl, ?hy⟩) (by assumption) ?_
  case hy =>
    intro w hSw
    obtain ⟨e0, e1, e2, e3, e4, e5⟩ := hSw
    go_simp
    all_goals with_reducible rfl
  try simp only [Act.put, List.setIfInBounds_toArray, List.set_cons_zero, List.set_cons_succ]
  refine wpAnyH_ready (rs := [9]) (by as_aux_lemma => kernel_rfl) (by simp) ?_
  refine AllReadyH.cons (o := ⟨_, _, _, _, _, _⟩) rfl (fun K hK => ?_) AllReadyH.nil
  go_simp
  go_at_call 37
  with_reducible refine (hc3.out _).mono ?_
  rintro e w3 ⟨rfl, hb3⟩
  have v3 := v2.below l2 hb3
  have l3 := Nat.lt_of_lt_of_le l2 hb3.size
  have g3 := hid (g2.out.trans (hb3.mono g2.out.size))
  clear hb3
  refine hK.out _ _ ?_ (fun hHeld2 => ?_)
  · exact v3
  clear hK K hHeld
  have hHeld := hHeld2
  clear hHeld2
  try simp only [Act.put, List.setIfInBounds_toArray, List.set_cons_zero, List.set_cons_succ]
  refine wpAnyH_take (i := 10) (oi := ⟨_, _, _, _, _, _⟩) (v := ?_) rfl (by as_aux_lemma => kernel_rfl) (by as_aux_lemma => kernel_rfl) (by as_aux_lemma => kernel_rfl) (fun _ _ _ h => h) (Or.inl ⟨by rfl, ?hy⟩) (by assumption) ?_
  case hy =>
    intro w hSw
    obtain ⟨e0, e1, e2, e3, e4, e5⟩ := hSw
    go_simp
    all_goals with_reducible rfl
  try simp only [Act.put, List.setIfInBounds_toArray, List.set_cons_zero, List.set_cons_succ]
  refine wpAnyH_ready (rs := [13]) (by as_aux_lemma => kernel_rfl) (by simp) ?_
  refine AllReadyH.cons (o := ⟨_, _, _, _, _, _⟩) rfl (fun K hK => ?_) AllReadyH.nil
  go_simp
  go_at_call 37
  with_reducible refine (hc4.out _).mono ?_
  rintro e w4 ⟨rfl, hb4⟩
  have v4 := v3.below l3 hb4
  have l4 := Nat.lt_of_lt_of_le l3 hb4.size
  have g4 := hid (g3.out.trans (hb4.mono g3.out.size))
  clear hb4
  refine hK.out _ _ ?_ (fun hHeld2 => ?_)
  · exact v4
  clear hK K hHeld
  have hHeld := hHeld2
  clear hHeld2
  try simp only [Act.put, List.setIfInBounds_toArray, List.set_cons_zero, List.set_cons_succ]
  refine wpAnyH_take (i := 14) (oi := ⟨_, _, _, _, _, _⟩) (v := ?_) rfl (by as_aux_lemma => kernel_rfl) (by as_aux_lemma => kernel_rfl) (by as_aux_lemma => kernel_rfl) (fun _ _ _ h => h) (Or.inl ⟨by rfl, ?hy⟩) (by assumption) ?_
  case hy =>
    intro w hSw
    obtain ⟨e0, e1, e2, e3, e4, e5⟩ := hSw
    go_simp
    all_goals with_reducible rfl
  try simp only [Act.put, List.setIfInBounds_toArray, List.set_cons_zero, List.set_cons_succ]
  refine wpAnyH_ready (rs := [17]) (by as_aux_lemma => kernel_rfl) (by simp) ?_
  refine AllReadyH.cons (o := ⟨_, _, _, _, _, _⟩) rfl (fun K hK => ?_) AllReadyH.nil
  go_simp
  go_at_call 36
  with_reducible refine (hc5.out _).mono ?_
  rintro e w5 ⟨rfl, hb5⟩
  have v5 := v4.below l4 hb5
  have l5 := Nat.lt_of_lt_of_le l4 hb5.size
  have g5 := hid (g4.out.trans (hb5.mono g4.out.size))
  clear hb5
  refine hK.out _ _ ?_ (fun hHeld2 => ?_)
  · exact v5
  clear hK K hHeld
  have hHeld := hHeld2
  clear hHeld2
  try simp only [Act.put, List.setIfInBounds_toArray, List.set_cons_zero, List.set_cons_succ]
  refine wpAnyH_take (i := 18) (oi := ⟨_, _, _, _, _, _⟩) (v := ?_) rfl (by as_aux_lemma => kernel_rfl) (by as_aux_lemma => kernel_rfl) (by as_aux_lemma => kernel_rfl) (fun _ _ _ h => h) (Or.inl ⟨by rfl, ?hy⟩) (by assumption) ?_
  case hy =>
    intro w hSw
    obtain ⟨e0, e1, e2, e3, e4, e5⟩ := hSw
    go_simp
    all_goals with_reducible rfl
  try simp only [Act.put, List.setIfInBounds_toArray, List.set_cons_zero, List.set_cons_succ]
  refine wpAnyH_ready (rs := [22]) (by as_aux_lemma => kernel_rfl) (by simp) ?_
  refine AllReadyH.cons (o := ⟨_, _, _, _, _, _⟩) rfl (fun K hK => ?_) AllReadyH.nil
  go_simp
  go_at_call 38
  with_reducible refine (hc6.out _).mono ?_
  rintro e w6 ⟨rfl, hb6⟩
  have v6 := v5.below l5 hb6
  have l6 := Nat.lt_of_lt_of_le l5 hb6.size
  have g6 := hid (g5.out.trans (hb6.mono g5.out.size))
  clear hb6
  refine hK.out _ _ ?_ (fun hHeld2 => ?_)
  · exact v6
  clear hK K hHeld
  have hHeld := hHeld2
  clear hHeld2
  try simp only [Act.put, List.setIfInBounds_toArray, List.set_cons_zero, List.set_cons_succ]
  refine wpAnyH_take (i := 23) (oi := ⟨_, _, _, _, _, _⟩) (v := ?_) rfl (by as_aux_lemma => kernel_rfl) (by as_aux_lemma => kernel_rfl) (by as_aux_lemma => kernel_rfl) (fun _ _ _ h => h) (Or.inl ⟨by rfl, ?hy⟩) (by assumption) ?_
  case hy =>
    intro w hSw
    obtain ⟨e0, e1, e2, e3, e4, e5⟩ := hSw
    go_simp
    all_goals with_reducible rfl
  try simp only [Act.put, List.setIfInBounds_toArray, List.set_cons_zero, List.set_cons_succ]
  refine wpAnyH_take (i := 24) (oi := ⟨_, _, _, _, _, _⟩) (v := ?_) rfl (by as_aux_lemma => kernel_rfl) (by as_aux_lemma => kernel_rfl) (by as_aux_lemma => kernel_rfl) (fun _ _ _ h => h) (Or.inl ⟨by rfl, ?hy⟩) (by assumption) ?_
  case hy =>
    intro w hSw
    obtain ⟨e0, e1, e2, e3, e4, e5⟩ := hSw
    go_simp
    all_goals with_reducible rfl
  try simp only [Act.put, List.setIfInBounds_toArray, List.set_cons_zero, List.set_cons_succ]
  refine wpAnyH_done (by as_aux_lemma => kernel_rfl) ?_ _
  clear hc1 hc2 hc3 hc4 hc5 hc6 hv1 v1 v2 v3 v4 v5 s1 s2 s3 s4 s5
  go_wp2_with fail
  have hr6 := hid v6
  have hl6 := l6
  have hs0 : Value.string (({ data := A1.toArray } : ByteArray) ++ { data := A2.toArray } ++ { data := A3.toArray } ++ { data := A4.toArray } ++ { data := A5.toArray } ++ { data := A6.toArray }) = sv (headF x) := by
    rw [hH.out]; simp [ByteArray.mk_append_mk]
  rw [hs0]
  obtain ⟨Hd, hHd⟩ : ∃ Hd, Hd = headF x := ⟨_, rfl⟩
  rw [← hHd] at hbl hen ⊢
  replace hHd := hid hHd
  clear hs0 v6 hH
  go_loopw [3, 4] (fun u i wr => ∃ k : Nat, i = .int .i64 k ∧ u = sv (Hd ++ ((l.take k).map encF).flatten) ∧ k ≤ l.length ∧ Hid (VRow w.heap.size x (.slice a l.length c) wr) ∧ w.heap.size < wr.heap.size ∧ Hid (Below w.heap.size w wr)) (fun _ i _ => l.length - (intOf i).toNat)
  case atStart => exact ⟨0, rfl, by simp, Nat.zero_le _, hr6, hl6, g6⟩
  case round =>
    clear hr6 hl6 g1 g2 g3 g4 g5 g6 hl0 l1 l2 l3 l4 l5 l6 hB0 hBd hsz
    obtain ⟨k, rfl, rfl, hk, hrow, hlw, hB⟩ := hrel
    have c5 := hrow.out.2.2.2.2.2
    by_cases hlt : k < l.length
    · have q1 : decide ((k : Int) < (l.length : Int)) = true := decide_eq_true (by omega)
      obtain ⟨y, hy⟩ : ∃ y, l[k]? = some y := ⟨_, List.getElem?_eq_getElem hlt⟩
      have hym := List.mem_of_getElem? hy
      obtain ⟨g, o, cs, hidx, hS, hg, hc, hr⟩ := (hLw.out.below goodVal hB.out).at (P := Tryd.prog) (t := 23) (by kernel_rfl) (fun _ => by kernel_rfl) hy
      have hyl := mem_flat (e := encF) hym
      have hft := flat_take (e := encF) l (k + 1)
      have hfn := flat_next (e := encF) hy
      have hcall := hid (ih.out y hym (by omega) (List.all_eq_true.1 hn.out y hym) cs wr hr)
      obtain ⟨a1, k1, rfl, -⟩ := valR_open hr
      have e0 := hc 0 _ rfl
      have e1 := hc 1 _ rfl
      have e2 := hc 2 _ rfl
      have e3 := hc 3 _ rfl
      have e4 := hc 4 _ rfl
      have e5 := hc 5 _ rfl
      rw [Nat.add_zero] at e0
      rw [hfn, List.length_append] at hft
      obtain ⟨P, hP⟩ : ∃ P, P = Hd ++ ((l.take k).map encF).flatten := ⟨_, rfl⟩
      have hPl : P.length = Hd.length + (((l.take k).map encF).flatten).length := by rw [hP, List.length_append]
      obtain ⟨E, hE⟩ : ∃ E, E = encF y := ⟨_, rfl⟩
      have hPE : Hd ++ ((l.take (k + 1)).map encF).flatten = P ++ E := by rw [hfn, hP, hE, List.append_assoc]
      rw [← hE] at hcall hft
      have sb : ¬ 9223372036854775807 < P.length + E.length := by omega
      rw [← hP]
      replace hPE := hid hPE
      replace hP := hid hP
      replace hE := hid hE
      clear hc hr hft hyl hym hy hfn hPl
      go_wp2_with fail
      with_reducible refine hcall.out.mono ?_
      rintro e w2 ⟨rfl, hb2⟩
      have hrow2 := hid (hrow.out.below hlw hb2)
      have hlw2 := Nat.lt_of_lt_of_le hlw hb2.size
      have hB2 := hid (hB.out.trans (hb2.mono hB.out.size))
      clear hb2 hcall e0 e1 e2 e3 e4 e5 hidx c5
      go_wp2_with fail
      refine ⟨?_, by simp [intOf]; omega⟩
      repeat (first | exact ⟨⟨k + 1, rfl, by rw [hPE.out]; simp [ByteArray.mk_append_mk], by omega, hrow2, hlw2, hB2⟩, rfl⟩ | exact ⟨k + 1, by go_num, by rw [hPE.out]; simp [ByteArray.mk_append_mk], by omega, hrow2, hlw2, hB2⟩ | apply Exists.intro)
    · have hkl : k = l.length := by omega
      subst hkl
      rw [List.take_length]
      have q1 : decide ((l.length : Int) < (l.length : Int)) = false := decide_eq_false (by omega)
      have hfin : Hd ++ (l.map encF).flatten = R := hen.out.symm
      rw [hfin]
      clear hfin
      go_wp2_with fail
      go_ret
      exact ⟨rfl, hB.out⟩
theorem rbytes0_any (x : Val) (hx : ValB x) (hb : (encF x).length ≤ 1000000000) (hn : anF x = true) (S : Foot) (cs : List Value) (w : World) (hR : ValR S w x cs) :
    Calls Tryd.prog 54 #[.agg cs.toArray] w fun e w' => e = .returned (sv (encF x)) ∧ Below w.heap.size w w' := by
  suffices h : ∀ n (x : Val), SizeOf.sizeOf x < n → ValB x → (encF x).length ≤ 1000000000 → anF x = true → ∀ (S : Foot) (cs : List Value) (w : World), ValR S w x cs → Calls Tryd.prog 54 #[.agg cs.toArray] w fun e w' => e = .returned (sv (encF x)) ∧ Below w.heap.size w w' from h _ x (Nat.lt_succ_self _) hx hb hn S cs w hR
  intro n
  induction n with
  | zero => intro x h; omega
  | succ n ih =>
    intro x hs hx hb hn S cs w hR
    refine bytes_of x hx hb hn S cs w hR (fun y hy hyb hyn cs W hr => ih y ?_ (hx.mem hy) hyb hyn _ cs W hr)
    have := val_mem_lt hy
    omega
theorem right_an {x : Val} (h : rightF x = true) : anF x = true := by
  unfold rightF at h
  rw [vld_spec _ x (Nat.lt_succ_self _)] at h
  by_cases h2 : anF x = true ∧ nodN x ≤ 16384
  · exact h2.1
  · rw [if_neg h2] at h; cases h
set_option maxHeartbeats 1000000 in
set_option maxRecDepth 100000 in
theorem rBytes_any (x : Val) (hx : ValB x) (hb : (encF x).length ≤ 1000000000) (S : Foot) (cs : List Value) (w : World) (hR : ValR S w x cs) :
    Calls Tryd.prog 39 #[.agg cs.toArray] w fun e w' => e = .returned (sv (bytesF x)) ∧ Below w.heap.size w w' := by
  have hnd : nodN x ≤ 1000000000 := Nat.le_trans (nod_le _ x (Nat.lt_succ_self _)) hb
  have h1 := hid (fun (W : World) (h : Below w.heap.size w W) => rright_any x hx hnd S cs W (goodVal.below hR h))
  have h2 := hid (fun (W : World) (h : Below w.heap.size w W) (hn : anF x = true) => rbytes0_any x hx hb hn S cs W (goodVal.below hR h))
  have hbf : bytesF x = if rightF x then encF x else [] := rfl
  obtain ⟨a, c, rfl, -⟩ := valR_open hR
  have hrow := hid (heap_alloc_new' w (.cells (valCs x (.slice a x.l.length c)).toArray 44))
  have hB0 := hid ((Below.refl w.heap.size w).alloc (Nat.le_refl _) (.cells (valCs x (.slice a x.l.length c)).toArray 44))
  obtain ⟨R, hRe⟩ : ∃ R, R = bytesF x := ⟨_, rfl⟩
  rw [← hRe] at hbf ⊢
  replace hRe := hid hRe
  have hc1 := hid (h1.out _ hB0.out)
  have hra : rightF x = true → anF x = true := right_an
  obtain ⟨z, hz⟩ : ∃ z, rightF x = z := ⟨_, rfl⟩
  rw [hz] at hc1 hbf hra
  replace hbf := hid hbf
  replace hz := hid hz
  replace hra := hid hra
  clear hR h1
  go_enter Tryd.func39, Tryd.ntmps39
  go_wp2_with fail
  with_reducible refine hc1.out.mono ?_
  rintro e w1 ⟨rfl, hb1⟩
  have hr1 := VRow.of (below_keep hb1 hrow.out (by simp))
  obtain ⟨c0, c1, c2, c3, c4, c5⟩ := hr1
  have hB1 := hid (hB0.out.trans (hb1.mono hB0.out.size))
  clear hb1 hc1
  cases z with
  | true =>
    have hc2 := hid (h2.out w1 hB1.out (hra.out rfl))
    have hf : Hid (R = encF x) := hid hbf.out
    go_wp2_with fail
    with_reducible refine hc2.out.mono ?_
    rintro e w2 ⟨rfl, hb2⟩
    clear hc2 h2
    go_wp2_with fail
    go_ret
    exact ⟨by rw [hf.out]; rfl, hB1.out.trans (hb2.mono hB1.out.size)⟩
  | false =>
    have hf : Hid (R = []) := hid hbf.out
    go_wp2_with fail
    go_ret
    exact ⟨by rw [hf.out]; rfl, hB1.out⟩
/-- the cells of a request in a block -/
def QRow (B : Nat) (x : Req) (v : Value) (w : World) : Prop := w.cell? ⟨B, 0, none⟩ = some (sv x.path) ∧ w.cell? ⟨B, 1, none⟩ = some (sv x.name) ∧ w.cell? ⟨B, 2, none⟩ = some v ∧ w.cell? ⟨B, 3, none⟩ = some (iv x.ord)
theorem QRow.below {B : Nat} {x : Req} {v : Value} {w w' : World} (h : QRow B x v w) (hB : B < w.heap.size) (hb : Below w.heap.size w w') : QRow B x v w' :=
  ⟨(hb.cell (p := ⟨B, 0, none⟩) hB).trans h.1, (hb.cell (p := ⟨B, 1, none⟩) hB).trans h.2.1, (hb.cell (p := ⟨B, 2, none⟩) hB).trans h.2.2.1, (hb.cell (p := ⟨B, 3, none⟩) hB).trans h.2.2.2⟩
theorem QRow.of {B : Nat} {x : Req} {v : Value} {w : World} (h : w.heap[B]? = some (.cells (reqCs x v).toArray 25 (0, 0))) : QRow B x v w :=
  ⟨(cell_of (i := 0) h).trans rfl, (cell_of (i := 1) h).trans rfl, (cell_of (i := 2) h).trans rfl, (cell_of (i := 3) h).trans rfl⟩
set_option maxHeartbeats 2000000 in
set_option maxRecDepth 100000 in
theorem rkey_any (x : Req) (hx : ReqB x) (hK : (keyS x).length ≤ 1048576) (hF : ∀ y ∈ x.args, (encF y).length ≤ 1000000000) (S : Foot) (cs : List Value) (w : World) (hR : ReqR S w x cs) :
    Calls Tryd.prog 12 #[.agg cs.toArray] w fun e w' => e = .returned (sv (keyF x)) ∧ Below w.heap.size w w' := by
  obtain ⟨a, c, rfl, hL⟩ := hR
  obtain ⟨hB1, hB2, hB3, -⟩ := hx
  have hlen := hB1.1
  have hLw := hid (hL.mono goodVal (T := fun q => q < w.heap.size) fun q hq _ => hq)
  have hen : keyS x = headK x ++ (x.args.map argF).flatten := rfl
  have hkf : keyF x = hexF (shaF (keyS x)) := rfl
  obtain ⟨R, hRe⟩ : ∃ R, R = keyF x := ⟨_, rfl⟩
  rw [← hRe] at hkf ⊢
  replace hRe := hid hRe
  obtain ⟨KS, hKS⟩ : ∃ KS, KS = keyS x := ⟨_, rfl⟩
  rw [← hKS] at hK hen hkf
  replace hKS := hid hKS
  have hbl : (headK x).length + ((x.args.map argF).flatten).length ≤ 1048576 := by rw [hen, List.length_append] at hK; exact hK
  have hc1 := hid (fun W => rtext_any x.path W (by omega))
  have hc2 := hid (fun W => rtext_any x.name W (by omega))
  have hc3 := hid (fun W => rint_any x.ord W)
  have hc4 := hid (fun W => rnum_any (x.args.length : Int) W (by omega))
  have hH : headK x = tenc x.path ++ tenc x.name ++ ienc x.ord ++ nenc x.args.length := rfl
  generalize hA1 : tenc x.path = A1 at *
  generalize hA2 : tenc x.name = A2 at *
  generalize hA3 : ienc x.ord = A3 at *
  generalize hA4 : nenc x.args.length = A4 at *
  have hHl : A1.length + A2.length + A3.length + A4.length = (headK x).length := by rw [hH]; simp only [List.length_append]
  have s1 : ¬ 9223372036854775807 < A1.length + A2.length := by omega
  have s2 : ¬ 9223372036854775807 < A1.length + A2.length + A3.length := by omega
  have s3 : ¬ 9223372036854775807 < A1.length + A2.length + A3.length + A4.length := by omega
  clear hA1 hA2 hA3 hA4 hHl
  generalize hl : x.args = l at *
  have hrow0 := heap_alloc_new' w (.cells (reqCs x (.slice a l.length c)).toArray 25)
  have hB0 := hid ((Below.refl w.heap.size w).alloc (Nat.le_refl _) (.cells (reqCs x (.slice a l.length c)).toArray 25))
  have hv1 : QRow w.heap.size x (.slice a l.length c) (w.alloc (.cells (reqCs x (.slice a l.length c)).toArray 25)).drew := QRow.of hrow0
  have hBd := hid hB0.out.drew
  have hl0 : w.heap.size < (w.alloc (.cells (reqCs x (.slice a l.length c)).toArray 25)).drew.heap.size := by simp
  clear hrow0 hL
  replace hen := hid hen
  replace hl := hid hl
  replace hH := hid hH
  replace hkf := hid hkf
  replace hB1 := hid hB1
  replace hF := hid hF
  go_enter Tryd.func12, Tryd.ntmps12
  go_wp2_with fail
  refine wp_region_held_drew (S := fun w' => QRow w.heap.size x (.slice a l.length c) w') (by kernel_rfl) ?_ (fun hHeld => ?_)
  · exact hv1
  refine wpAnyH_take (i := 0) (oi := ⟨_, _, _, _, _, _⟩) (v := ?_) rfl (by as_aux_lemma => kernel_rfl) (by as_aux_lemma => kernel_rfl) (by as_aux_lemma => kernel_rfl) (fun _ _ _ h => h) (Or.inl ⟨by rfl, ?hy⟩) (by assumption) ?_
  case hy =>
    intro w hSw
    obtain ⟨e0, e1, e2, e3⟩ := hSw
    go_simp
    all_goals with_reducible rfl
  try simp only [Act.put, List.setIfInBounds_toArray, List.set_cons_zero, List.set_cons_succ]
  refine wpAnyH_take (i := 1) (oi := ⟨_, _, _, _, _, _⟩) (v := ?_) rfl (by as_aux_lemma => kernel_rfl) (by as_aux_lemma => kernel_rfl) (by as_aux_lemma => kernel_rfl) (fun _ _ _ h => h) (Or.inl ⟨by rfl, ?hy⟩) (by assumption) ?_
  case hy =>
    intro w hSw
    obtain ⟨e0, e1, e2, e3⟩ := hSw
    go_simp
    all_goals with_reducible rfl
  try simp only [Act.put, List.setIfInBounds_toArray, List.set_cons_zero, List.set_cons_succ]
  refine wpAnyH_take (i := 3) (oi := ⟨_, _, _, _, _, _⟩) (v := ?_) rfl (by as_aux_lemma => kernel_rfl) (by as_aux_lemma => kernel_rfl) (by as_aux_lemma => kernel_rfl) (fun _ _ _ h => h) (Or.inl ⟨by rfl, ?hy⟩) (by assumption) ?_
  case hy =>
    intro w hSw
    obtain ⟨e0, e1, e2, e3⟩ := hSw
    go_simp
    all_goals with_reducible rfl
  try simp only [Act.put, List.setIfInBounds_toArray, List.set_cons_zero, List.set_cons_succ]
  refine wpAnyH_take (i := 4) (oi := ⟨_, _, _, _, _, _⟩) (v := ?_) rfl (by as_aux_lemma => kernel_rfl) (by as_aux_lemma => kernel_rfl) (by as_aux_lemma => kernel_rfl) (fun _ _ _ h => h) (Or.inl ⟨by rfl, ?hy⟩) (by assumption) ?_
  case hy =>
    intro w hSw
    obtain ⟨e0, e1, e2, e3⟩ := hSw
    go_simp
    all_goals with_reducible rfl
  try simp only [Act.put, List.setIfInBounds_toArray, List.set_cons_zero, List.set_cons_succ]
  refine wpAnyH_take (i := 7) (oi := ⟨_, _, _, _, _, _⟩) (v := ?_) rfl (by as_aux_lemma => kernel_rfl) (by as_aux_lemma => kernel_rfl) (by as_aux_lemma => kernel_rfl) (fun _ _ _ h => h) (Or.inl ⟨by rfl, ?hy⟩) (by assumption) ?_
  case hy =>
    intro w hSw
    obtain ⟨e0, e1, e2, e3⟩ := hSw
    go_simp
    all_goals with_reducible rfl
  try simp only [Act.put, List.setIfInBounds_toArray, List.set_cons_zero, List.set_cons_succ]
  refine wpAnyH_take (i := 8) (oi := ⟨_, _, _, _, _, _⟩) (v := ?_) rfl (by as_aux_lemma => kernel_rfl) (by as_aux_lemma => kernel_rfl) (by as_aux_lemma => kernel_rfl) (fun _ _ _ h => h) (Or.inl ⟨by rfl, ?hy⟩) (by assumption) ?_
  case hy =>
    intro w hSw
    obtain ⟨e0, e1, e2, e3⟩ := hSw
    go_simp
    all_goals with_reducible rfl
  try simp only [Act.put, List.setIfInBounds_toArray, List.set_cons_zero, List.set_cons_succ]
  refine wpAnyH_take (i := 11) (oi := ⟨_, _, _, _, _, _⟩) (v := ?_) rfl (by as_aux_lemma => kernel_rfl) (by as_aux_lemma => kernel_rfl) (by as_aux_lemma => kernel_rfl) (fun _ _ _ h => h) (Or.inl ⟨by rfl, ?hy⟩) (by assumption) ?_
  case hy =>
    intro w hSw
    obtain ⟨e0, e1, e2, e3⟩ := hSw
    go_simp
    all_goals with_reducible rfl
  try simp only [Act.put, List.setIfInBounds_toArray, List.set_cons_zero, List.set_cons_succ]
  refine wpAnyH_take (i := 12) (oi := ⟨_, _, _, _, _, _⟩) (v := ?_) rfl (by as_aux_lemma => kernel_rfl) (by as_aux_lemma => kernel_rfl) (by as_aux_lemma => kernel_rfl) (fun _ _ _ h => h) (Or.inl ⟨by rfl, ?hy⟩) (by assumption) ?_
  case hy =>
    intro w hSw
    obtain ⟨e0, e1, e2, e3⟩ := hSw
    go_simp
    all_goals with_reducible rfl
  try simp only [Act.put, List.setIfInBounds_toArray, List.set_cons_zero, List.set_cons_succ]
  refine wpAnyH_take (i := 13) (oi := ⟨_, _, _, _, _, _⟩) (v := ?_) rfl (by as_aux_lemma => kernel_rfl) (by as_aux_lemma => kernel_rfl) (by as_aux_lemma => kernel_rfl) (fun _ _ _ h => h) (Or.inl ⟨by rfl, ?hy⟩) (by assumption) ?_
  case hy =>
    intro w hSw
    obtain ⟨e0, e1, e2, e3⟩ := hSw
    go_simp
    all_goals with_reducible rfl
  try simp only [Act.put, List.setIfInBounds_toArray, List.set_cons_zero, List.set_cons_succ]
  refine wpAnyH_ready (rs := [2]) (by as_aux_lemma => kernel_rfl) (by simp) ?_
  refine AllReadyH.cons (o := ⟨_, _, _, _, _, _⟩) rfl (fun K hK => ?_) AllReadyH.nil
  go_simp
  go_at_call 36
  with_reducible refine (hc1.out _).mono ?_
  rintro e w1 ⟨rfl, hb1⟩
  have v1 := hv1.below hl0 hb1
  have l1 := Nat.lt_of_lt_of_le hl0 hb1.size
  have g1 := hid (hBd.out.trans (hb1.mono hBd.out.size))
  clear hb1
  refine hK.out _ _ ?_ (fun hHeld2 => ?_)
  · exact v1
  clear hK K hHeld
  have hHeld := hHeld2
  clear hHeld2
  try simp only [Act.put, List.setIfInBounds_toArray, List.set_cons_zero, List.set_cons_succ]
  refine wpAnyH_ready (rs := [5]) (by as_aux_lemma => kernel_rfl) (by simp) ?_
  refine AllReadyH.cons (o := ⟨_, _, _, _, _, _⟩) rfl (fun K hK => ?_) AllReadyH.nil
  go_simp
  go_at_call 36
  with_reducible refine (hc2.out _).mono ?_
  rintro e w2 ⟨rfl, hb2⟩
  have v2 := v1.below l1 hb2
  have l2 := Nat.lt_of_lt_of_le l1 hb2.size
  have g2 := hid (g1.out.trans (hb2.mono g1.out.size))
  clear hb2
  refine hK.out _ _ ?_ (fun hHeld2 => ?_)
  · exact v2
  clear hK K hHeld
  have hHeld := hHeld2
  clear hHeld2
  try simp only [Act.put, List.setIfInBounds_toArray, List.set_cons_zero, List.set_cons_succ]
  refine wpAnyH_take (i := 6) (oi := ⟨_, _, _, _, _, _⟩) (v := ?_) rfl (by as_aux_lemma => kernel_rfl) (by as_aux_lemma => kernel_rfl) (by as_aux_lemma => kernel_rfl) (fun _ _ _ h => h) (Or.inl ⟨by rfl, ?hy⟩) (by assumption) ?_
  case hy =>
    intro w hSw
    obtain ⟨e0, e1, e2, e3⟩ := hSw
    go_simp
    all_goals with_reducible rfl
  try simp only [Act.put, List.setIfInBounds_toArray, List.set_cons_zero, List.set_cons_succ]
  refine wpAnyH_ready (rs := [9]) (by as_aux_lemma => kernel_rfl) (by simp) ?_
  refine AllReadyH.cons (o := ⟨_, _, _, _, _, _⟩) rfl (fun K hK => ?_) AllReadyH.nil
  go_simp
  go_at_call 37
  with_reducible refine (hc3.out _).mono ?_
  rintro e w3 ⟨rfl, hb3⟩
  have v3 := v2.below l2 hb3
  have l3 := Nat.lt_of_lt_of_le l2 hb3.size
  have g3 := hid (g2.out.trans (hb3.mono g2.out.size))
  clear hb3
  refine hK.out _ _ ?_ (fun hHeld2 => ?_)
  · exact v3
  clear hK K hHeld
  have hHeld := hHeld2
  clear hHeld2
  try simp only [Act.put, List.setIfInBounds_toArray, List.set_cons_zero, List.set_cons_succ]
  refine wpAnyH_take (i := 10) (oi := ⟨_, _, _, _, _, _⟩) (v := ?_) rfl (by as_aux_lemma => kernel_rfl) (by as_aux_lemma => kernel_rfl) (by as_aux_lemma => kernel_rfl) (fun _ _ _ h => h) (Or.inl ⟨by rfl, ?hy⟩) (by assumption) ?_
  case hy =>
    intro w hSw
    obtain ⟨e0, e1, e2, e3⟩ := hSw
    go_simp
    all_goals with_reducible rfl
  try simp only [Act.put, List.setIfInBounds_toArray, List.set_cons_zero, List.set_cons_succ]
  refine wpAnyH_ready (rs := [14]) (by as_aux_lemma => kernel_rfl) (by simp) ?_
  refine AllReadyH.cons (o := ⟨_, _, _, _, _, _⟩) rfl (fun K hK => ?_) AllReadyH.nil
  go_simp
  go_at_call 38
  with_reducible refine (hc4.out _).mono ?_
  rintro e w4 ⟨rfl, hb4⟩
  have v4 := v3.below l3 hb4
  have l4 := Nat.lt_of_lt_of_le l3 hb4.size
  have g4 := hid (g3.out.trans (hb4.mono g3.out.size))
  clear hb4
  refine hK.out _ _ ?_ (fun hHeld2 => ?_)
  · exact v4
  clear hK K hHeld
  have hHeld := hHeld2
  clear hHeld2
  try simp only [Act.put, List.setIfInBounds_toArray, List.set_cons_zero, List.set_cons_succ]
  refine wpAnyH_take (i := 15) (oi := ⟨_, _, _, _, _, _⟩) (v := ?_) rfl (by as_aux_lemma => kernel_rfl) (by as_aux_lemma => kernel_rfl) (by as_aux_lemma => kernel_rfl) (fun _ _ _ h => h) (Or.inl ⟨by rfl, ?hy⟩) (by assumption) ?_
  case hy =>
    intro w hSw
    obtain ⟨e0, e1, e2, e3⟩ := hSw
    go_simp
    all_goals with_reducible rfl
  try simp only [Act.put, List.setIfInBounds_toArray, List.set_cons_zero, List.set_cons_succ]
  refine wpAnyH_take (i := 16) (oi := ⟨_, _, _, _, _, _⟩) (v := ?_) rfl (by as_aux_lemma => kernel_rfl) (by as_aux_lemma => kernel_rfl) (by as_aux_lemma => kernel_rfl) (fun _ _ _ h => h) (Or.inl ⟨by rfl, ?hy⟩) (by assumption) ?_
  case hy =>
    intro w hSw
    obtain ⟨e0, e1, e2, e3⟩ := hSw
    go_simp
    all_goals with_reducible rfl
  try simp only [Act.put, List.setIfInBounds_toArray, List.set_cons_zero, List.set_cons_succ]
  refine wpAnyH_done (by as_aux_lemma => kernel_rfl) ?_ _
  clear hc1 hc2 hc3 hc4 hv1 v1 v2 v3 s1 s2 s3
  go_wp2_with fail
  have hr6 := hid v4
  have hl6 := l4
  have hs0 : Value.string (({ data := A1.toArray } : ByteArray) ++ { data := A2.toArray } ++ { data := A3.toArray } ++ { data := A4.toArray }) = sv (headK x) := by
    rw [hH.out]; simp [ByteArray.mk_append_mk]
  rw [hs0]
  obtain ⟨Hd, hHd⟩ : ∃ Hd, Hd = headK x := ⟨_, rfl⟩
  rw [← hHd] at hbl hen ⊢
  replace hHd := hid hHd
  clear hs0 v4 hH
  go_loopw [3, 4] (fun u i wr => ∃ k : Nat, i = .int .i64 k ∧ u = sv (Hd ++ ((l.take k).map argF).flatten) ∧ k ≤ l.length ∧ Hid (QRow w.heap.size x (.slice a l.length c) wr) ∧ w.heap.size < wr.heap.size ∧ Hid (Below w.heap.size w wr)) (fun _ i _ => l.length - (intOf i).toNat)
  case atStart => exact ⟨0, rfl, by simp, Nat.zero_le _, hr6, hl6, g4⟩
  case round =>
    clear hr6 hl6 g1 g2 g3 g4 hl0 l1 l2 l3 l4 hB0 hBd
    obtain ⟨k, rfl, rfl, hk, hrow, hlw, hB⟩ := hrel
    have c2 := hrow.out.2.2.1
    by_cases hlt : k < l.length
    · have q1 : decide ((k : Int) < (l.length : Int)) = true := decide_eq_true (by omega)
      obtain ⟨y, hy⟩ : ∃ y, l[k]? = some y := ⟨_, List.getElem?_eq_getElem hlt⟩
      have hym := List.mem_of_getElem? hy
      obtain ⟨g, o, cs, hidx, hS, hg, hc, hr⟩ := (hLw.out.below goodVal hB.out).at (P := Tryd.prog) (t := 23) (by kernel_rfl) (fun _ => by kernel_rfl) hy
      have hyl := mem_flat (e := argF) hym
      have hft := flat_take (e := argF) l (k + 1)
      have hfn := flat_next (e := argF) hy
      have hcall := hid (rBytes_any y (hB1.out.2 y hym) (hF.out y hym) _ cs wr hr)
      obtain ⟨a1, k1, rfl, -⟩ := valR_open hr
      have e0 := hc 0 _ rfl
      have e1 := hc 1 _ rfl
      have e2 := hc 2 _ rfl
      have e3 := hc 3 _ rfl
      have e4 := hc 4 _ rfl
      have e5 := hc 5 _ rfl
      rw [Nat.add_zero] at e0
      rw [hfn, List.length_append] at hft
      obtain ⟨P, hP⟩ : ∃ P, P = Hd ++ ((l.take k).map argF).flatten := ⟨_, rfl⟩
      have hPl : P.length = Hd.length + (((l.take k).map argF).flatten).length := by rw [hP, List.length_append]
      have hE : argF y = tenc (bytesF y) := rfl
      have hby : (bytesF y).length ≤ (argF y).length := by rw [hE]; unfold tenc; rw [List.length_append]; omega
      have hcall2 := hid (fun W => rtext_any (bytesF y) W (by omega))
      rw [hE] at hft hfn
      obtain ⟨E, hEE⟩ : ∃ E, E = tenc (bytesF y) := ⟨_, rfl⟩
      rw [← hEE] at hcall2 hft hfn
      have hPE : Hd ++ ((l.take (k + 1)).map argF).flatten = P ++ E := by rw [hfn, hP, List.append_assoc]
      have sb : ¬ 9223372036854775807 < P.length + E.length := by omega
      rw [← hP]
      generalize bytesF y = by' at *
      replace hPE := hid hPE
      replace hP := hid hP
      replace hEE := hid hEE
      clear hc hr hft hyl hym hy hfn hPl hE hby
      go_wp2_with fail
      with_reducible refine hcall.out.mono ?_
      rintro e w2 ⟨rfl, hb2⟩
      go_wp2_with fail
      with_reducible refine (hcall2.out _).mono ?_
      rintro e w3 ⟨rfl, hb3⟩
      have hb23 := hb2.trans (hb3.mono hb2.size)
      have hrow2 := hid (hrow.out.below hlw hb23)
      have hlw2 := Nat.lt_of_lt_of_le hlw hb23.size
      have hB2 := hid (hB.out.trans (hb23.mono hB.out.size))
      clear hb2 hb3 hb23 hcall hcall2 e0 e1 e2 e3 e4 e5 hidx c2
      go_wp2_with fail
      refine ⟨?_, by simp [intOf]; omega⟩
      repeat (first | exact ⟨⟨k + 1, rfl, by rw [hPE.out]; simp [ByteArray.mk_append_mk], by omega, hrow2, hlw2, hB2⟩, rfl⟩ | exact ⟨k + 1, by go_num, by rw [hPE.out]; simp [ByteArray.mk_append_mk], by omega, hrow2, hlw2, hB2⟩ | apply Exists.intro)
    · have hkl : k = l.length := by omega
      subst hkl
      rw [List.take_length]
      have q1 : decide ((l.length : Int) < (l.length : Int)) = false := decide_eq_false (by omega)
      have hfin : Hd ++ (l.map argF).flatten = KS := hen.out.symm
      rw [hfin]
      have hsh := hid (fun W => rsha_any KS W hK)
      have hhx := hid (fun W => rhex_any (shaF KS) (by simp [shaF]) W)
      rw [← hkf.out] at hhx
      generalize shaF KS = D at *
      clear hfin
      go_wp2_with fail
      with_reducible refine (hsh.out _).mono ?_
      rintro e w2 ⟨rfl, hb2⟩
      go_wp2_with fail
      with_reducible refine (hhx.out _).mono ?_
      rintro e w3 ⟨rfl, hb3⟩
      go_wp2_with fail
      go_ret
      exact ⟨rfl, (hB.out.trans (hb2.mono hB.out.size)).trans (hb3.mono (Nat.le_trans hB.out.size hb2.size))⟩
end Go.Proofs.YtnbhpicmflagcaaDoor
