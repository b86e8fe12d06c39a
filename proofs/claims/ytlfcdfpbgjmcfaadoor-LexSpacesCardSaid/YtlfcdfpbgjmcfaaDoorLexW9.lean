/- lex: walks: few, Same. -/
import Derived.Test.YtlfcdfpbgjmcfaaDoorLexW6
set_option linter.unusedVariables false
set_option linter.unusedSimpArgs false
namespace Go.Proofs.YtlfcdfpbgjmcfaaDoor
open Go.RowKit
open Go.Lib (hid byteCells)
theorem tkR_at' {g o : Nat} {ds : List Value} {x : Tk} {S : Foot} {w : World} (hR : TkR S w x ds) (h : ∀ j u, ds[j]? = some u → w.cell? ⟨g, o + j, none⟩ = some u) :
    w.cell? ⟨g, o, none⟩ = some (iv x.kind) ∧ w.cell? ⟨g, o + 1, none⟩ = some (sv x.text) ∧ w.cell? ⟨g, o + 2, none⟩ = some (iv x.n) ∧ w.cell? ⟨g, o + 3, none⟩ = some (iv x.pos) := by
  subst hR
  exact ⟨h 0 _ rfl, h 1 _ rfl, h 2 _ rfl, h 3 _ rfl⟩
def FewT (l : List Tk) : Prop := l.length ≤ 200 ∧ ∀ t ∈ l, t.text.length ≤ 4200
def FewPost (l : List Tk) (w : World) (e : Ending) (w' : World) : Prop := ∃ b : Bool, e = .returned (.bool b) ∧ (b = true → FewT l) ∧ w' = w
set_option maxHeartbeats 2000000 in
set_option maxRecDepth 100000 in
theorem few_any (l : List Tk) (v : Value) (S : Foot) (w : World) (hr : SlR 4 TkR S w l v) :
    Calls Tryd.prog 7 #[v] w (FewPost l w) := by
  obtain ⟨a, cap, rfl, -⟩ := hr.slice
  replace hr := hid hr
  go_enter Tryd.func7, Tryd.ntmps7
  go_wp2_with fail
  go_loop [3] (fun z => ∃ k : Nat, z = .int .i64 k ∧ k ≤ l.length ∧ k ≤ 200 ∧ Hid (∀ i x, i < k → l[i]? = some x → x.text.length ≤ 4200)) (fun z => 200 - (intOf z).toNat)
  case atStart => exact ⟨0, rfl, Nat.zero_le _, Nat.zero_le _, hid (fun i x h => absurd h (by omega))⟩
  case round =>
    obtain ⟨k, rfl, hk, hk2, hall⟩ := hrel
    by_cases h1 : k < l.length
    · have q1 : decide ((k : Int) < (l.length : Int)) = true := decide_eq_true (by omega)
      have q1i : (k : Int) < (l.length : Int) := by omega
      by_cases h2 : k < 200
      · have q2 : decide ((k : Int) < 200) = true := decide_eq_true (by omega)
        have q2i : (k : Int) < 200 := by omega
        obtain ⟨x, hx⟩ : ∃ x, l[k]? = some x := ⟨_, List.getElem?_eq_getElem h1⟩
        obtain ⟨g, o, ds, hidx, hS, hg, hcl, hR⟩ := hr.out.at (P := Tryd.prog) (t := 22) (by kernel_rfl) (fun _ => by kernel_rfl) hx
        obtain ⟨d0, d1, d2, d3⟩ := tkR_at' hR hcl
        clear hcl hR hS hg
        by_cases h3 : x.text.length ≤ 4200
        · have q3 : decide ((x.text.length : Int) > 4200) = false := decide_eq_false (by omega)
          have q3i : ¬ (4200 : Int) < (x.text.length : Int) := by omega
          have hall2 := hid (show ∀ i y, i < k + 1 → l[i]? = some y → y.text.length ≤ 4200 from fun i y hi hy => by
            by_cases e : i = k
            · subst e; rw [hx] at hy; cases hy; exact h3
            · exact hall.out i y (by omega) hy)
          replace hx := hid hx
          clear hall
          go_wp2_with fail
          refine ⟨?_, by simp [intOf]; omega⟩
          repeat (first | exact ⟨⟨k + 1, rfl, by omega, by omega, hall2⟩, rfl⟩ | exact ⟨k + 1, rfl, by omega, by omega, hall2⟩ | apply Exists.intro)
        · have q3 : decide ((x.text.length : Int) > 4200) = true := decide_eq_true (by omega)
          have q3i : (4200 : Int) < (x.text.length : Int) := by omega
          go_wp2_with fail
          go_ret
          exact ⟨false, rfl, (by intro h; cases h), rfl⟩
      · have q2 : decide ((k : Int) < 200) = false := decide_eq_false (by omega)
        have q2i : ¬ (k : Int) < 200 := by omega
        have q3 : decide ((l.length : Int) ≤ 200) = false := decide_eq_false (by omega)
        have q3i : ¬ (l.length : Int) ≤ 200 := by omega
        go_wp2_with fail
        go_ret
        exact ⟨false, rfl, (by intro h; cases h), rfl⟩
    · have hks : k = l.length := by omega
      have q1 : decide ((k : Int) < (l.length : Int)) = false := decide_eq_false (by omega)
      have q1i : ¬ (k : Int) < (l.length : Int) := by omega
      have q3 : decide ((l.length : Int) ≤ 200) = true := decide_eq_true (by omega)
      have q3i : (l.length : Int) ≤ 200 := by omega
      have hfin := hid (show FewT l from ⟨by omega, fun t ht => by
        obtain ⟨i, hi⟩ := List.mem_iff_getElem?.1 ht
        exact hall.out i t (by have := (List.getElem?_eq_some_iff.1 hi).1; omega) hi⟩)
      replace hks := hid hks
      go_wp2_with fail
      go_ret
      exact ⟨true, rfl, fun _ => hfin.out, rfl⟩
def tkey (t : Tk) : Int × List UInt8 × Int := (t.kind, t.text, t.n)
def sameF (a b : List Tk) : Bool := decide (a.map tkey = b.map tkey)
theorem same_no {a b : List Tk} {k : Nat} {x y : Tk} (hx : a[k]? = some x) (hy : b[k]? = some y) (h : tkey x ≠ tkey y) : sameF a b = false := by
  unfold sameF
  rw [decide_eq_false_iff_not]
  intro e
  have h1 : (a.map tkey)[k]? = some (tkey x) := by rw [List.getElem?_map, hx]; rfl
  have h2 : (b.map tkey)[k]? = some (tkey y) := by rw [List.getElem?_map, hy]; rfl
  rw [e, h2] at h1
  exact h (Option.some.inj h1).symm
set_option maxHeartbeats 4000000 in
set_option maxRecDepth 100000 in
theorem same_any (la lb : List Tk) (va vb : Value) (Sa Sb : Foot) (w : World) (ha : SlR 4 TkR Sa w la va) (hb : SlR 4 TkR Sb w lb vb) (hl : la.length ≤ 140737488355328) :
    Calls Tryd.prog 10 #[va, vb] w fun e w' => e = .returned (.bool (sameF la lb)) ∧ Below w.heap.size w w' := by
  obtain ⟨a1, k1, rfl, -⟩ := ha.slice
  obtain ⟨a2, k2, rfl, -⟩ := hb.slice
  replace ha := hid ha
  replace hb := hid hb
  obtain ⟨res, hres⟩ : ∃ r, r = sameF la lb := ⟨_, rfl⟩
  rw [← hres]
  replace hres := hid hres
  by_cases hlen : la.length = lb.length
  · have q0 : ((la.length : Int) != (lb.length : Int)) = false := by rw [hlen]; simp
    have q0b : ((la.length : Int) == (lb.length : Int)) = true := by rw [hlen]; simp
    have q0n : (la.length : Int) = (lb.length : Int) := by omega
    replace hlen := hid hlen
    go_enter Tryd.func10, Tryd.ntmps10
    go_wp2_with fail
    go_loopw [5] (fun z wr => ∃ k : Nat, z = .int .i64 k ∧ k ≤ la.length ∧ Hid ((la.take k).map tkey = (lb.take k).map tkey) ∧ Hid (Below w.heap.size w wr)) (fun z _ => la.length - (intOf z).toNat)
    case atStart => exact ⟨0, rfl, Nat.zero_le _, hid rfl, hid (Below.refl _ _)⟩
    case round =>
      obtain ⟨k, rfl, hk, heq, hB⟩ := hrel
      by_cases hlt : k < la.length
      · have q1 : decide ((k : Int) < (la.length : Int)) = true := decide_eq_true (by omega)
        have q1i : (k : Int) < (la.length : Int) := by omega
        have q1b : decide ((k : Int) < (lb.length : Int)) = true := decide_eq_true (by omega)
        have q1c : (k : Int) < (lb.length : Int) := by omega
        obtain ⟨x, hx⟩ : ∃ x, la[k]? = some x := ⟨_, List.getElem?_eq_getElem hlt⟩
        obtain ⟨y, hy⟩ : ∃ y, lb[k]? = some y := ⟨_, List.getElem?_eq_getElem (by have := hlen.out; omega)⟩
        obtain ⟨g, o, ds, hidx, hS, hg, hcl, hR⟩ := (ha.out.below goodTk hB.out).at (P := Tryd.prog) (t := 22) (by kernel_rfl) (fun _ => by kernel_rfl) hx
        obtain ⟨d0, d1, d2, d3⟩ := tkR_at' hR hcl
        obtain ⟨g', o', ds', hidx', hS', hg', hcl', hR'⟩ := (hb.out.below goodTk hB.out).at (P := Tryd.prog) (t := 22) (by kernel_rfl) (fun _ => by kernel_rfl) hy
        obtain ⟨e0, e1, e2, e3⟩ := tkR_at' hR' hcl'
        clear hcl hR hS hg hcl' hR' hS' hg'
        have hnext : tkey x = tkey y → Hid ((la.take (k + 1)).map tkey = (lb.take (k + 1)).map tkey) := fun h => hid (by
          rw [List.take_add_one, List.take_add_one, hx, hy]
          simp only [Option.toList, List.map_append, List.map_cons, List.map_nil, heq.out, h])
        have hno : tkey x ≠ tkey y → Hid (res = false) := fun h => hid (by rw [hres.out]; exact same_no hx hy h)
        obtain ⟨xk, xt, xn, xp⟩ := x
        obtain ⟨yk, yt, yn, yp⟩ := y
        simp only at d0 d1 d2 d3 e0 e1 e2 e3
        replace hx := hid hx
        replace hy := hid hy
        by_cases c1 : xk = yk
        · have b1 : (xk != yk) = false := by rw [c1]; simp
          have b1' : (xk == yk) = true := by rw [c1]; simp
          by_cases c2 : xt = yt
          · have b2 : (xt == yt) = true := by rw [c2]; simp
            have b2' : (xt != yt) = false := by rw [c2]; simp
            by_cases c3 : xn = yn
            · have b3 : (xn != yn) = false := by rw [c3]; simp
              have hnx := hnext (by simp [tkey, c1, c2, c3])
              clear hnext hno
              subst c1 c2 c3
              go_wp2_with fail
              go_quiet (fail)
              have hB2 := hid (below_drewM hB.out nq)
              go_wp2_with fail
              refine ⟨?_, by simp [intOf]; omega⟩
              repeat (first | exact ⟨⟨k + 1, rfl, by omega, hnx, hB2⟩, rfl⟩ | exact ⟨k + 1, rfl, by omega, hnx, hB2⟩ | apply Exists.intro)
            · have b3 : (xn != yn) = true := by simp [c3]
              have b3' : (xn == yn) = false := by simp [c3]
              have hv := hno (by simp [tkey, c3])
              clear hnext hno
              subst c1 c2
              go_wp2_with fail
              go_quiet (fail)
              have hB2 := hid (below_drewM hB.out nq)
              go_wp2_with fail
              go_ret
              exact ⟨by rw [hv.out]; rfl, hB2.out⟩
          · have b2 : (xt == yt) = false := by simp [c2]
            have b2' : (xt != yt) = true := by simp [c2]
            have hv := hno (by simp [tkey, c2])
            clear hnext hno
            subst c1
            go_wp2_with fail
            go_quiet (fail)
            have hB2 := hid (below_drewM hB.out nq)
            go_wp2_with fail
            go_ret
            exact ⟨by rw [hv.out]; rfl, hB2.out⟩
        · have b1 : (xk != yk) = true := by simp [c1]
          have b1' : (xk == yk) = false := by simp [c1]
          have hv := hno (by simp [tkey, c1])
          clear hnext hno
          go_wp2_with fail
          go_quiet (fail)
          have hB2 := hid (below_drewM hB.out nq)
          go_wp2_with fail
          go_ret
          exact ⟨by rw [hv.out]; rfl, hB2.out⟩
      · have hks : k = la.length := by omega
        have q1 : decide ((k : Int) < (la.length : Int)) = false := decide_eq_false (by omega)
        have q1i : ¬ (k : Int) < (la.length : Int) := by omega
        have q1b : ¬ (k : Int) < (lb.length : Int) := by omega
        have q1c : decide ((k : Int) < (lb.length : Int)) = false := decide_eq_false (by omega)
        have hv := hid (show res = true by
          rw [hres.out]; unfold sameF; rw [decide_eq_true_iff]
          have h1 := heq.out
          rwa [hks, List.take_length, hlen.out, List.take_length] at h1)
        replace hks := hid hks
        go_wp2_with fail
        go_ret
        exact ⟨by rw [hv.out]; rfl, hB.out⟩
  · have q0 : ((la.length : Int) != (lb.length : Int)) = true := by simp; omega
    have q0b : ((la.length : Int) == (lb.length : Int)) = false := by simp; omega
    have q0n : ¬ (la.length : Int) = (lb.length : Int) := by omega
    have q0m : ¬ la.length = lb.length := hlen
    have hv := hid (show res = false by
      rw [hres.out]; unfold sameF; rw [decide_eq_false_iff_not]; intro e
      have := congrArg List.length e
      simp at this; exact hlen this)
    go_enter Tryd.func10, Tryd.ntmps10
    go_wp2_with fail
    go_ret
    exact ⟨by rw [hv.out]; rfl, Below.refl _ _⟩
end Go.Proofs.YtlfcdfpbgjmcfaaDoor
