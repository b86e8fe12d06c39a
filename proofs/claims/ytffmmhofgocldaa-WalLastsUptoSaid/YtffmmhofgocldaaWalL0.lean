/- Chapter 06 (wal): what the laws share: Same, Begins; a Log and its Disk in new memory. -/
import Derived.Test.YtffmmhofgocldaaWalW6
import Derived.Test.YtffmmhofgocldaaWalW7
set_option linter.unusedVariables false
namespace Go.Proofs.Ytffmmhofgocldaa
open Go.RowKit
open Go.Lib (hid byteCells)
abbrev StrsR (w : World) (v : Value) (l : List (List UInt8)) : Prop := Row w.heap.size w 1 v l.length (l.map sv)
theorem StrsR.below {w w' : World} {v : Value} {l : List (List UInt8)} (h : StrsR w v l) (hb : Below w.heap.size w w') : StrsR w' v l := (Row.below h hb (Nat.le_refl _)).mono hb.size
theorem StrsR.slice {w : World} {v : Value} {l : List (List UInt8)} (h : StrsR w v l) : ∃ a c, v = .slice a l.length c := by obtain ⟨a, c, _, _, h, _⟩ := h; exact ⟨a, c, h⟩
theorem take_succ_iff {la lb : List (List UInt8)} {k : Nat} {x y : List UInt8} (hx : la[k]? = some x) (hy : lb[k]? = some y) (h : la.take k = lb.take k) : la.take (k + 1) = lb.take (k + 1) ↔ x = y := by
  rw [List.take_add_one, List.take_add_one, hx, hy, h]
  constructor
  · intro e
    have := List.append_cancel_left e
    simpa using this
  · rintro rfl; rfl
set_option maxHeartbeats 2000000 in
set_option maxRecDepth 100000 in
theorem same_any (la lb : List (List UInt8)) (va vb : Value) (w : World) (ha : StrsR w va la) (hb : StrsR w vb lb) (hla : la.length ≤ 1000000) :
    Calls Try.prog 10 #[va, vb] w fun e w' => e = .returned (.bool (decide (la = lb))) ∧ Below w.heap.size w w' := by
  obtain ⟨aa, ca, rfl⟩ := ha.slice
  obtain ⟨ab, cb, rfl⟩ := hb.slice
  by_cases hl : la.length = lb.length
  · have q : ((la.length : Int) != (lb.length : Int)) = false := by simp; omega
    have q' : ((la.length : Int) == (lb.length : Int)) = true := by simp; omega
    have hres : decide (la = lb) = decide (la.take la.length = lb.take la.length) := by rw [List.take_length, hl, List.take_length]
    generalize decide (la = lb) = res at *
    have hl1 : la.length ≤ lb.length := Nat.le_of_eq hl
    have hl2 : lb.length ≤ la.length := Nat.le_of_eq hl.symm
    clear hl
    replace hres := hid hres
    replace ha := hid ha
    replace hb := hid hb
    go_enter Try.func10, Try.ntmps10
    go_wp2_with fail
    go_loopw [5] (fun i wr => ∃ k : Nat, i = .int .i64 k ∧ k ≤ la.length ∧ Hid (la.take k = lb.take k) ∧ Hid (Below w.heap.size w wr)) (fun i _ => la.length - (intOf i).toNat)
    case atStart => exact ⟨0, rfl, Nat.zero_le _, hid rfl, hid (Below.refl _ _)⟩
    case round =>
      obtain ⟨k, rfl, hk, ht, hB⟩ := hrel
      by_cases hlt : k < la.length
      · have q1 : decide ((k : Int) < (la.length : Int)) = true := decide_eq_true (by omega)
        have q1' : decide (k < la.length) = true := decide_eq_true hlt
        obtain ⟨x, hx⟩ : ∃ x, la[k]? = some x := ⟨_, List.getElem?_eq_getElem hlt⟩
        obtain ⟨y, hy⟩ : ∃ y, lb[k]? = some y := ⟨_, List.getElem?_eq_getElem (by omega)⟩
        obtain ⟨g, o, hidx, hcell⟩ := strs_at (ha.out.below hB.out) hx
        obtain ⟨g2, o2, hidx2, hcell2⟩ := strs_at (hb.out.below hB.out) hy
        have hiff := take_succ_iff hx hy ht.out
        by_cases hxy : x = y
        · have ht2 := hid (hiff.2 hxy)
          subst hxy
          clear hx hy hiff
          go_wp2_with fail
          go_quiet (fail)
          go_wp2_with fail
          exact ⟨⟨k + 1, by go_num, by omega, ht2, hid (below_drewM hB.out _)⟩, by simp [intOf]; omega⟩
        · have qn : (x == y) = false := beq_eq_false_iff_ne.2 hxy
          have hfin : res = false := by
            rw [hres.out]
            refine decide_eq_false (fun e => hxy (hiff.1 ?_))
            have := congrArg (List.take (k + 1)) e
            rwa [List.take_take, List.take_take, Nat.min_eq_left (by omega)] at this
          replace hfin := hid hfin
          clear hx hy hiff
          go_wp2_with fail
          go_quiet (fail)
          go_wp2_with fail
          go_ret
          exact ⟨by rw [hfin.out]; rfl, below_drewM hB.out _⟩
      · have hkl : k = la.length := by omega
        subst hkl
        have hfin : res = true := by rw [hres.out]; exact decide_eq_true ht.out
        replace hfin := hid hfin
        go_wp2_with fail
        go_ret
        exact ⟨by rw [hfin.out]; rfl, hB.out⟩
  · have q : ((la.length : Int) != (lb.length : Int)) = true := by simp; omega
    have q' : ((la.length : Int) == (lb.length : Int)) = false := by simp; omega
    have hres : decide (la = lb) = false := decide_eq_false (fun e => hl (by rw [e]))
    generalize decide (la = lb) = res at *
    replace hres := hid hres
    clear hl
    go_enter Try.func10, Try.ntmps10
    go_wp2_with fail
    go_ret
    exact ⟨by rw [hres.out]; rfl, Below.refl _ _⟩
theorem same_yes (l : List (List UInt8)) (va vb : Value) (w : World) (ha : StrsR w va l) (hb : StrsR w vb l) (hl : l.length ≤ 1000000) :
    Calls Try.prog 10 #[va, vb] w fun e w' => e = .returned (.bool true) ∧ Below w.heap.size w w' := by
  have := same_any l l va vb w ha hb hl
  rwa [decide_eq_true rfl] at this
theorem StrsR.take {w : World} {a : Option Addr} {n c : Nat} {l : List (List UInt8)} (h : StrsR w (.slice a n c) l) (m : Nat) (hm : m ≤ l.length) : StrsR w (.slice a m c) (l.take m) := by
  obtain ⟨a', c', g, off, e, h1, h2, h3⟩ := h
  simp only [Value.slice.injEq] at e
  obtain ⟨rfl, rfl, rfl⟩ := e
  have hl : (l.take m).length = m := by rw [List.length_take]; omega
  refine ⟨a, c, g, off, by rw [hl], by simp, fun hp => h2 (by omega), fun j hj => ?_⟩
  have hj2 : j < (l.map sv).length := by simp at hj ⊢; omega
  rw [h3 j hj2]
  simp
set_option maxHeartbeats 2000000 in
set_option maxRecDepth 100000 in
theorem begins_any (la lb : List (List UInt8)) (va vb : Value) (w : World) (ha : StrsR w va la) (hb : StrsR w vb lb) (hla : la.length ≤ 1000000) (hcap : ∀ a n c, va = .slice a n c → n ≤ c) :
    Calls Try.prog 11 #[va, vb] w fun e w' => e = .returned (.bool (decide (lb <+: la))) ∧ Below w.heap.size w w' := by
  obtain ⟨aa, ca, rfl⟩ := ha.slice
  obtain ⟨ab, cb, rfl⟩ := hb.slice
  have hca : la.length ≤ ca := hcap _ _ _ rfl
  clear hcap
  by_cases hl : lb.length ≤ la.length
  · have q : decide ((lb.length : Int) ≤ (la.length : Int)) = true := decide_eq_true (by omega)
    have q' : decide (lb.length ≤ la.length) = true := decide_eq_true hl
    have hres : decide (lb <+: la) = decide (la.take lb.length = lb) := by
      congr 1; exact propext ⟨fun h => (List.prefix_iff_eq_take.1 h).symm, fun h => by rw [← h]; exact List.take_prefix _ _⟩
    have hcall := same_any (la.take lb.length) lb (.slice aa lb.length ca) (.slice ab lb.length cb) w (ha.take _ hl) hb (by rw [List.length_take]; omega)
    rw [← hres] at hcall
    generalize decide (lb <+: la) = res at *
    have i1 : (lb.length : Int) ≤ (la.length : Int) := by omega
    have i2 : (lb.length : Int) ≤ (ca : Int) := by omega
    replace hcall := hid hcall
    clear hres ha hb
    go_enter Try.func11, Try.ntmps11
    go_wp2_with fail
    refine hcall.out.mono ?_
    rintro e w1 ⟨rfl, hB⟩
    cases res
    · go_wp2_with fail
      go_ret
      exact ⟨rfl, hB⟩
    · go_wp2_with fail
      go_ret
      exact ⟨rfl, hB⟩
  · have q : decide ((lb.length : Int) ≤ (la.length : Int)) = false := decide_eq_false (by omega)
    have q' : decide (lb.length ≤ la.length) = false := decide_eq_false hl
    have hres : decide (lb <+: la) = false := decide_eq_false (fun h => hl h.length_le)
    generalize decide (lb <+: la) = res at *
    replace hres := hid hres
    clear hl ha hb
    go_enter Try.func11, Try.ntmps11
    go_wp2_with fail
    go_ret
    exact ⟨by rw [hres.out]; rfl, Below.refl _ _⟩
end Go.Proofs.Ytffmmhofgocldaa
