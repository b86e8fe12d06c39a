/- value.node. -/
import Derived.Test.YtnbhpicmflagcaaDoorMatC
import Derived.Deep.DeepCutAuto
set_option linter.unusedVariables false
set_option linter.unusedSimpArgs false
namespace Go.Proofs.YtnbhpicmflagcaaDoor
open Go.RowKit
open Go.Lib (hid)
def nodeC (kd : Int) (t : List UInt8) (n m : Int) (s : List UInt8) (sl len : Nat) (ty plain leaf : Bool) : Bool :=
  if kd = 1 then t == [] && n == 0 && plain && leaf
  else if kd = 2 then t == [] && (n == 0 || n == 1) && plain && leaf
  else if kd = 3 then t == [] && rangeB n && plain && leaf
  else if kd = 4 then t == [] && n == 0 && m == 0 && decide (sl ≤ 4096) && leaf
  else if kd = 5 then t == [] && n == 0 && plain && decide (len ≤ 4096)
  else if kd = 6 then ty && n == 0 && plain
  else if kd = 7 then ty && decide (0 ≤ n) && decide (n ≤ 4096) && plain
  else if kd = 8 then ty && n == 0 && m == 0 && pathF s && leaf
  else if kd = 9 then t == [] && decide (0 ≤ n) && decide (n ≤ 9007199254740992) && plain
  else if kd = 10 then t == [] && rangeB n && rangeB m && decide (n < m) && s == [] && leaf
  else false
def nodeF (x : Val) : Bool := nodeC x.kind x.t x.n x.m x.s x.s.length x.l.length (typeF x.t) (x.m == 0 && x.s == []) (x.l.length == 0)
set_option maxHeartbeats 4000000 in
set_option maxRecDepth 100000 in
theorem node_any (x : Val) (hx : ValB x) (S : Foot) (cs : List Value) (w : World) (hR : ValR S w x cs) : Calls Tryd.prog 46 #[.agg cs.toArray] w fun e w' => e = .returned (.bool (nodeF x)) ∧ Below w.heap.size w w' := by
  obtain ⟨a, c, rfl, -⟩ := valR_open hR
  obtain ⟨res, hres⟩ : ∃ res, nodeF x = res := ⟨_, rfl⟩
  rw [hres]
  cases hx with
  | mk x b1 b2 b3 b4 =>
  have hty := hid (fun W => type_any x.t W b2)
  have hpa := hid (fun W => path_any x.s W b3)
  unfold nodeF at hres
  obtain ⟨kd, t, n, m, s, l⟩ := x
  simp only [Val.kind, Val.t, Val.n, Val.m, Val.s, Val.l, valCs] at *
  clear b4 hR
  generalize typeF t = ty at *
  obtain ⟨lf, hlf⟩ : ∃ lf, lf = (l.length == 0) := ⟨_, rfl⟩
  obtain ⟨pl, hpl⟩ : ∃ pl, pl = (m == 0 && s == []) := ⟨_, rfl⟩
  rw [← hpl, ← hlf] at hres
  replace hlf := hid hlf
  replace hres := hid hres
  go_enter Tryd.func46, Tryd.ntmps46
  go_wp2_with fail
  refine (hty.out _).mono ?_
  rintro e w1 ⟨rfl, hb1⟩
  have hB1 : Below w.heap.size w w1 := (((Below.refl _ w).alloc (Nat.le_refl _) _).trans (hb1.mono (by simp)))
  have hlt : w.heap.size < w1.heap.size := Nat.lt_of_lt_of_le (by simp) hb1.size
  have hrow := (hb1.block w.heap.size (by simp)).trans (heap_alloc_new' _ _)
  have c0 : w1.cell? ⟨w.heap.size, 0, none⟩ = some (iv kd) := (cell_of (i := 0) hrow).trans rfl
  have c1 : w1.cell? ⟨w.heap.size, 1, none⟩ = some (sv t) := (cell_of (i := 1) hrow).trans rfl
  have c2 : w1.cell? ⟨w.heap.size, 2, none⟩ = some (iv n) := (cell_of (i := 2) hrow).trans rfl
  have c3 : w1.cell? ⟨w.heap.size, 3, none⟩ = some (iv m) := (cell_of (i := 3) hrow).trans rfl
  have c4 : w1.cell? ⟨w.heap.size, 4, none⟩ = some (sv s) := (cell_of (i := 4) hrow).trans rfl
  have c5 : w1.cell? ⟨w.heap.size, 5, none⟩ = some (.slice a l.length c) := (cell_of (i := 5) hrow).trans rfl
  clear hrow hty
  go_upto_region 2 with (fail)
  go_cut [4] (fun p wx => p = .bool pl ∧ wx = w1)
  case first =>
    replace hpl := hid hpl
    by_cases e1 : m = 0
    · have f1 : (m == 0) = true := by simpa using e1
      by_cases e2 : s = []
      · have f2 : (s == []) = true := by simpa using e2
        go_wp2_with fail
        go_meet
        exact ⟨by rw [hpl.out, f1, f2]; rfl, rfl⟩
      · have f2 : (s == []) = false := by simpa using e2
        go_wp2_with fail
        go_meet
        exact ⟨by rw [hpl.out, f1, f2]; rfl, rfl⟩
    · have f1 : (m == 0) = false := by simpa using e1
      go_wp2_with fail
      go_meet
      exact ⟨by rw [hpl.out, f1]; rfl, rfl⟩
  case rest =>
    obtain ⟨rfl, rfl⟩ := hcut
    replace hpl := hid hpl
    have hle : ((l.length : Int) == 0) = lf := by rw [hlf.out]; rw [Bool.eq_iff_iff]; simp
    clear hlt hb1
    replace hB1 := hid hB1
    by_cases k1 : kd = 1
    · subst k1
      replace hres := hid (show (t == [] && n == 0 && pl && lf) = res from hres.out)
      go_wp2_with fail
      all_goals
        go_ret
        refine ⟨?_, by exact hB1.out⟩
        rw [← hres.out]
        simp_all <;> try (intros; omega)
    by_cases k2 : kd = 2
    · subst k2
      replace hres := hid (show (t == [] && (n == 0 || n == 1) && pl && lf) = res from hres.out)
      go_wp2_with fail
      all_goals
        go_ret
        refine ⟨?_, by exact hB1.out⟩
        rw [← hres.out]
        simp_all <;> try (intros; omega)
    by_cases k3 : kd = 3
    · subst k3
      replace hres := hid (show (t == [] && rangeB n && pl && lf) = res from hres.out)
      go_wp2_with (go_at_call 60; refine (range_any _ _).mono ?_; rintro e w2 ⟨rfl, rfl⟩)
      all_goals
        go_ret
        refine ⟨?_, by exact hB1.out⟩
        rw [← hres.out]
        simp_all <;> try (intros; omega)
    by_cases k4 : kd = 4
    · subst k4
      replace hres := hid (show (t == [] && n == 0 && m == 0 && decide (s.length ≤ 4096) && lf) = res from hres.out)
      go_wp2_with fail
      all_goals
        go_ret
        refine ⟨?_, by exact hB1.out⟩
        rw [← hres.out]
        simp_all <;> try (intros; omega)
    by_cases k5 : kd = 5
    · subst k5
      replace hres := hid (show (t == [] && n == 0 && pl && decide (l.length ≤ 4096)) = res from hres.out)
      go_wp2_with fail
      all_goals
        go_ret
        refine ⟨?_, by exact hB1.out⟩
        rw [← hres.out]
        simp_all <;> try (intros; omega)
    by_cases k6 : kd = 6
    · subst k6
      replace hres := hid (show (ty && n == 0 && pl) = res from hres.out)
      go_wp2_with fail
      all_goals
        go_ret
        refine ⟨?_, by exact hB1.out⟩
        rw [← hres.out]
        simp_all <;> try (intros; omega)
    by_cases k7 : kd = 7
    · subst k7
      replace hres := hid (show (ty && decide (0 ≤ n) && decide (n ≤ 4096) && pl) = res from hres.out)
      go_wp2_with fail
      all_goals
        go_ret
        refine ⟨?_, by exact hB1.out⟩
        rw [← hres.out]
        simp_all <;> try (intros; omega)
    by_cases k8 : kd = 8
    · subst k8
      replace hres := hid (show (ty && n == 0 && m == 0 && pathF s && lf) = res from hres.out)
      go_wp2_with (go_at_call 61; refine (hpa.out _).mono ?_; rintro e w2 ⟨rfl, hb2⟩)
      all_goals
        go_ret
        refine ⟨?_, by first | exact hB1.out | exact hB1.out.trans (hb2.mono hB1.out.size)⟩
        rw [← hres.out]
        simp_all <;> try (intros; omega)
    by_cases k9 : kd = 9
    · subst k9
      replace hres := hid (show (t == [] && decide (0 ≤ n) && decide (n ≤ 9007199254740992) && pl) = res from hres.out)
      go_wp2_with fail
      all_goals
        go_ret
        refine ⟨?_, by exact hB1.out⟩
        rw [← hres.out]
        simp_all <;> try (intros; omega)
    by_cases k10 : kd = 10
    · subst k10
      replace hres := hid (show (t == [] && rangeB n && rangeB m && decide (n < m) && s == [] && lf) = res from hres.out)
      go_wp2_with (go_at_call 60; refine (range_any _ _).mono ?_; rintro e w2 ⟨rfl, rfl⟩)
      all_goals
        go_ret
        refine ⟨?_, by exact hB1.out⟩
        rw [← hres.out]
        simp_all <;> try (intros; omega)
    replace hres := hid (show false = res by have := hres.out; unfold nodeC at this; rw [if_neg k1, if_neg k2, if_neg k3, if_neg k4, if_neg k5, if_neg k6, if_neg k7, if_neg k8, if_neg k9, if_neg k10] at this; exact this)
    go_wp2_with fail
    go_ret
    exact ⟨by rw [← hres.out]; rfl, hB1.out⟩
end Go.Proofs.YtnbhpicmflagcaaDoor
