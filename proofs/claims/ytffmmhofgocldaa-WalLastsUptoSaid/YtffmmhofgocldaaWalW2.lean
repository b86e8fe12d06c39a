/- wal: the records of a file, one by one. -/
import Derived.Test.YtffmmhofgocldaaWalW1
import Derived.BigQuiet
import Derived.OwnWalk
import Derived.Deep.QuietTactic
set_option linter.unusedVariables false
namespace Go.Proofs.Ytffmmhofgocldaa
open Go.RowKit
open Go.Lib (hid byteCells)
theorem left_any (b : Nat) (st : St) (w : World) (h : Rd 94 b st w) : Calls Try.prog 46 #[pt b] w fun e w' => e = .returned (iv st.1.length) ∧ w = w' := by
  have c0 := h.c0
  go_enter Try.func46, Try.ntmps46
  go_wp2_with fail
  go_ret
  exact ⟨rfl, rfl⟩
/-- what a closure of 'records' holds: the file and the offset -/
structure NX (b0 b1 : Nat) (s : List UInt8) (at_ : Nat) (w : World) : Prop where
  h0 : w.heap[b0]? = some (.cells #[sv s] 9 (0, 0))
  h1 : w.heap[b1]? = some (.cells #[iv at_] 3 (0, 0))
def nxAt (at_ : Nat) : Option (List UInt8) → Nat
  | none => at_
  | some p => at_ + (recF p).length
theorem stTake_len3 (n : Nat) (st : St) : (stTake n st).1.length ≤ st.1.length := by
  by_cases h : st.2 = true ∨ (n : Int) < 0 ∨ (st.1.length : Int) < n
  · rw [take_bad _ _ h]; exact Nat.zero_le _
  · rw [take_ok _ _ h]; simp only [Int.toNat_natCast, List.length_take]; omega
theorem nextF_eq (s : List UInt8) : nextF s = if (nxB s).1 = [] then none
  else if (unpF (nxB s).1).2 = false ∨ 1048576 < (unpF (nxB s).1).1.length then none
  else if recF (unpF (nxB s).1).1 = s.take (s.length - (nxB s).2.1.length) then some (unpF (nxB s).1).1 else none := rfl
abbrev nxv (b0 b1 : Nat) : Value := .func (.func 42) #[] #[pt b0, pt b1]
theorem records_any (s : List UInt8) (w : World) : Calls Try.prog 32 #[sv s] w fun e w' => e = .returned (nxv w.heap.size (w.heap.size + 1)) ∧ NX w.heap.size (w.heap.size + 1) s 0 w' ∧ Below w.heap.size w w' ∧ w'.heap.size = w.heap.size + 2 := by
  have hmf : ∀ (fn : Fn) (first cap : Array Value) (w : World), (Instr.makeFunc fn first cap).run Try.prog w = .ok (.func fn first cap) w := fun _ _ _ _ => rfl
  go_enter Try.func32, Try.ntmps32
  go_wp2_with fail
  go_ret
  have s1 : (w.alloc (.cells #[sv s] 9)).heap.size = w.heap.size + 1 := by simp
  refine ⟨rfl, ⟨?_, ?_⟩, ((Below.refl _ w).alloc (Nat.le_refl _) _).alloc (by simp) _, by simp⟩
  · exact (Below.heap_alloc _ _ _ (by simp)).trans (heap_alloc_new' _ _)
  · rw [← s1]; exact heap_alloc_new' _ _
theorem NX.cell0 {b0 b1 : Nat} {s : List UInt8} {a : Nat} {w : World} (h : NX b0 b1 s a w) : w.cell? ⟨b0, 0, none⟩ = some (sv s) := (cell_of h.h0).trans rfl
theorem NX.cell1 {b0 b1 : Nat} {s : List UInt8} {a : Nat} {w : World} (h : NX b0 b1 s a w) : w.cell? ⟨b1, 0, none⟩ = some (iv a) := (cell_of h.h1).trans rfl
theorem NX.below {b0 b1 : Nat} {s : List UInt8} {a : Nat} {w w' : World} (h : NX b0 b1 s a w) (hb : Below w.heap.size w w') : NX b0 b1 s a w' := ⟨below_keep hb h.h0 (lt_of_heap h.h0), below_keep hb h.h1 (lt_of_heap h.h1)⟩
theorem NX.fr {b0 b1 : Nat} {s : List UInt8} {a : Nat} {w w' : World} {S : Nat → Prop} (h : NX b0 b1 s a w) (hf : Fr S w w') (h0 : ¬ S b0) (h1 : ¬ S b1) : NX b0 b1 s a w' := ⟨hf.keep h.h0 h0, hf.keep h.h1 h1⟩
theorem NX.ne {b0 b1 : Nat} {s : List UInt8} {a : Nat} {w : World} (h : NX b0 b1 s a w) : b0 ≠ b1 := fun e => by
  have h1 := h.h1; rw [← e, h.h0] at h1; injection h1 with h1; injection h1 with h1 _; injection h1 with h1; injection h1 with h1; cases h1
theorem NX.set {b0 b1 : Nat} {s : List UInt8} {a : Nat} {w : World} (h : NX b0 b1 s a w) (n : Nat) : NX b0 b1 s n (w.setCell ⟨b1, 0, none⟩ (iv n)) :=
  ⟨(heap_setCell_other (iv n) (fun e => h.ne e)).trans h.h0, heap_setCell_same h.h1 (iv n)⟩
set_option maxHeartbeats 4000000 in
set_option maxRecDepth 100000 in
theorem next_any (b0 b1 : Nat) (s : List UInt8) (a : Nat) (w : World) (h : NX b0 b1 s a w) (ha : a ≤ s.length) (hs : s.length ≤ 16777216) :
    Calls Try.prog 42 #[pt b0, pt b1] w fun e w' => e = .returned (.tuple #[sv ((nextF (s.drop a)).getD []), iv (nxAt a (nextF (s.drop a))), .bool (nextF (s.drop a)).isSome]) ∧ NX b0 b1 s (nxAt a (nextF (s.drop a))) w' ∧ Fr (one b1) w w' := by
  have hnx := nextF_eq (s.drop a)
  generalize nextF (s.drop a) = res at *
  have hdl : (s.drop a).length = s.length - a := List.length_drop
  have hn1 := stNum_lt (s.drop a, false)
  unfold nxB at hnx
  have hO := hid (open_any (s.drop a) w)
  have c0 := h.cell0
  have c1 := h.cell1
  have hb0 := lt_of_heap h.h0
  have hb1 := lt_of_heap h.h1
  have hex : (ByteArray.mk s.toArray).extract a s.length = ⟨(s.drop a).toArray⟩ := ext_drop s a
  have ia : (a : Int) ≤ (s.length : Int) := by omega
  generalize hD : s.drop a = D at *
  have hnum := hid (fun w' (h : Rd 94 w.heap.size (D, false) w') => readNum w.heap.size (D, false) w' h)
  generalize (stNum (D, false)).1 = N at *
  generalize (stNum (D, false)).2 = st1 at *
  simp only at hn1
  have ht4 := hid (fun w' (h : Rd 94 w.heap.size st1 w') => take_any w.heap.size st1 4 w' h (by omega))
  have hl4 := stTake_len 4 st1
  generalize hx4 : stTake 4 st1 = x4 at *
  obtain ⟨y4, st2⟩ := x4
  simp only at ht4 hl4 hnx
  have htb := hid (fun w' (h : Rd 94 w.heap.size st2 w') => take_any w.heap.size st2 (N : Int) w' h (by omega))
  have hlb := stTake_len (N : Int) st2
  have hlb2 := stTake_len3 N st2
  generalize hxb : stTake (N : Int) st2 = xb at *
  obtain ⟨body, st3⟩ := xb
  simp only at htb hlb hlb2 hnx
  obtain ⟨K, hK⟩ : ∃ K : Nat, K = D.length - st3.1.length := ⟨_, rfl⟩
  rw [← hK] at hnx
  have hK2 : a + K ≤ s.length := by omega
  have hKi : (s.length : Int) - (a : Int) - (st3.1.length : Int) = (K : Int) := by omega
  clear hx4 hxb
  have hDt : (ByteArray.mk s.toArray).extract a (a + K) = ⟨(D.take K).toArray⟩ := by
    rw [ext_mid, ← hD, List.drop_take, Nat.add_sub_cancel_left]
  replace hnx := hid hnx
  replace h := hid h
  go_enter Try.func42, Try.ntmps42
  go_wp2_with fail
  refine hO.out.mono ?_
  rintro e w1 ⟨rfl, hR1, hB1, hs1⟩
  have hcall := hid (hnum.out w1 hR1)
  replace hB1 := hid hB1
  clear hO hR1 hnum
  go_wp2_with fail
  refine hcall.out.mono ?_
  rintro e w2 ⟨rfl, hR2, hf2⟩
  have hs2 := hf2.size
  have hB2 := hid (hB1.out.trans (hf2.to_below (by omega) (fun k hk e => by unfold one at e; omega)))
  clear hcall hB1 hf2
  have hcall := hid (ht4.out w2 hR2)
  clear ht4 hR2
  go_wp2_with fail
  refine hcall.out.mono ?_
  rintro e w3 ⟨rfl, hR3, hf3⟩
  have hs3 := hf3.size
  have hB3 := hid (hB2.out.trans (hf3.to_below (by omega) (fun k hk e => by unfold one at e; omega)))
  clear hcall hB2 hf3
  have hcall := hid (htb.out w3 hR3)
  clear htb hR3
  go_wp2_with fail
  refine hcall.out.mono ?_
  rintro e w4 ⟨rfl, hR4, hf4⟩
  have hs4 := hf4.size
  have hB4 := hB3.out.trans (hf4.to_below (by omega) (fun k hk e => by unfold one at e; omega))
  clear hcall hB3 hf4
  have d0 := (hB4.cell (p := ⟨b0, 0, none⟩) hb0).trans c0
  have d1 := (hB4.cell (p := ⟨b1, 0, none⟩) hb1).trans c1
  replace hB4 := hid hB4
  have hleft := hid (fun n => (left_any w.heap.size st3 (w4.drewN n) hR4).mono fun e w' (h : _ ∧ _) => (⟨h.1, h.2.symm⟩ : e = .returned (iv st3.1.length) ∧ w' = w4.drewN n))
  have e1 : IntKind.i64.wrap ((s.length : Int) - (a : Int)) = (s.length : Int) - (a : Int) := i64_wrap_id _ (by omega) (by omega)
  have e2 : IntKind.i64.wrap ((s.length : Int) - (a : Int) - (st3.1.length : Int)) = (K : Int) := by rw [hKi]; exact i64_wrap_id _ (by omega) (by omega)
  clear hKi
  go_wp2_with fail
  go_quiet ((go_at_call 46; exact Calls.quiet_of_same (hleft.out _)))
  have hK3 : s.length - a - st3.1.length = K := by omega
  rw [hK3]
  have hB5 := hid (below_drewM hB4.out nq)
  have f0 : (w4.drewN nq).cell? ⟨b0, 0, none⟩ = some (sv s) := d0
  have f1 : (w4.drewN nq).cell? ⟨b1, 0, none⟩ = some (iv a) := d1
  have hs5 : w.heap.size < (w4.drewN nq).heap.size := (by have : w4.heap.size = (w4.drewN nq).heap.size := rfl; omega)
  generalize w4.drewN nq = w5 at *
  clear hleft e1 e2 hR4 d0 d1 hB4 hK3 hK c0 c1
  have finN : res = none → ∀ W, Below w.heap.size w W → (Ending.returned (.tuple #[sv [], iv a, .bool false]) = .returned (.tuple #[sv (res.getD []), iv (nxAt a res), .bool res.isSome]) ∧ NX b0 b1 s (nxAt a res) W ∧ Fr (one b1) w W) := fun e W hb => by
    subst e
    exact ⟨rfl, h.out.below hb, Fr.of_below hb _⟩
  replace finN := hid finN
  rcases body with _ | ⟨bc, br⟩
  · have hr0 := hnx.out
    rw [if_pos rfl] at hr0
    replace hr0 := hid hr0
    clear hnx
    go_wp2_with fail
    go_quiet (fail)
    go_wp2_with fail
    refine bodyPost_ret (results_tmp3 Try.results42 _ _ _) rfl ?_
    exact finN.out hr0.out _ (below_drewM hB5.out _)
  · have hnx2 := hnx.out
    rw [if_neg (by simp)] at hnx2
    have hu := hid (unpack_any (bc :: br) (by omega) w5)
    generalize unpF (bc :: br) = U at *
    obtain ⟨u, ok⟩ := U
    simp only at hu hnx2
    replace hnx2 := hid hnx2
    clear hnx
    go_wp2_with fail
    refine hu.out.mono ?_
    rintro e w6 ⟨rfl, hb6⟩
    have g0 := (hb6.cell (p := ⟨b0, 0, none⟩) (Nat.lt_trans hb0 hs5)).trans f0
    have g1 := (hb6.cell (p := ⟨b1, 0, none⟩) (Nat.lt_trans hb1 hs5)).trans f1
    have hs6 := hb6.size
    have q0 := Nat.lt_of_lt_of_le hb0 (Nat.le_trans (Nat.le_of_lt hs5) hs6)
    have q1 := Nat.lt_of_lt_of_le hb1 (Nat.le_trans (Nat.le_of_lt hs5) hs6)
    have hB6 := hid (hB5.out.trans (hb6.mono hB5.out.size))
    clear f0 f1 hu hb6 hB5
    replace h := hid h.out
    rcases ok with _ | _
    · have hr0 := hnx2.out
      rw [if_pos (Or.inl rfl)] at hr0
      replace hr0 := hid hr0
      clear hnx2
      go_wp2_with fail
      go_quiet (fail)
      go_wp2_with fail
      go_quiet (fail)
      go_wp2_with fail
      refine bodyPost_ret (results_tmp3 Try.results42 _ _ _) rfl ?_
      exact finN.out hr0.out _ (below_drewM (below_drewM hB6.out _) _)
    · by_cases hbig : 1048576 < u.length
      · have hr0 := hnx2.out
        rw [if_pos (Or.inr hbig)] at hr0
        have qb : decide (1048576 < (u.length : Int)) = true := decide_eq_true (by omega)
        have qb' : decide (1048576 < u.length) = true := decide_eq_true hbig
        replace hr0 := hid hr0
        clear hnx2 hbig
        go_wp2_with fail
        go_quiet (fail)
        go_wp2_with fail
        go_quiet (fail)
        go_wp2_with fail
        refine bodyPost_ret (results_tmp3 Try.results42 _ _ _) rfl ?_
        exact finN.out hr0.out _ (below_drewM (below_drewM hB6.out _) _)
      · have hr0 := hnx2.out
        rw [if_neg (by simp; omega)] at hr0
        have qb : decide (1048576 < (u.length : Int)) = false := decide_eq_false (by omega)
        have qb' : decide (1048576 < u.length) = false := decide_eq_false hbig
        have hrc := hid (fun w => record_any u w (by omega))
        have hrl := rec_le u
        replace hr0 := hid hr0
        clear hnx2 hbig
        have e3 : IntKind.i64.wrap ((a : Int) + (K : Int)) = ((a + K : Nat) : Int) := by rw [i64_wrap_id _ (by omega) (by omega)]; omega
        have i1 : (a : Int) ≤ ((a + K : Nat) : Int) := by omega
        have i2 : ((a + K : Nat) : Int) ≤ (s.length : Int) := by omega
        have gd0 : w6.drew.cell? ⟨b0, 0, none⟩ = some (sv s) := g0
        have gd1 : w6.drew.cell? ⟨b1, 0, none⟩ = some (iv a) := g1
        have p0 : b0 < w6.drew.heap.size := q0
        have p1 : b1 < w6.drew.heap.size := q1
        obtain ⟨E, hE⟩ : ∃ E : Nat, a + K = E := ⟨_, rfl⟩
        rw [hE] at e3 i1 i2 hDt
        by_cases hq : recF u = D.take K
        · have hr1 := hr0.out
          rw [if_pos hq] at hr1
          rw [← hq] at hDt
          have hX : Hid (nxAt a res = a + (recF u).length ∧ nxAt a res = E) := hid (by
            rw [hr1]
            have := congrArg List.length hq
            rw [List.length_take] at this
            exact ⟨rfl, by show a + (recF u).length = E; omega⟩)
          replace hr1 := hid hr1
          generalize recF u = X at *
          clear hr0 hq
          go_wp2_with fail
          go_region_held3 (fun w' => w'.cell? ⟨b0, 0, none⟩ = some (sv s) ∧ w'.cell? ⟨b1, 0, none⟩ = some (iv a)) (first | with_reducible exact ⟨gd0, gd1⟩ | with_reducible exact ⟨k0, k1⟩ | go_keep)
            (first | (go_at_call 38; refine (hrc.out _).mono ?_; rintro e W7 ⟨rfl, hb7⟩; have k0 := (hb7.cell (p := ⟨b0, 0, none⟩) p0).trans gd0; have k1 := (hb7.cell (p := ⟨b1, 0, none⟩) p1).trans gd1))
          have hB7 := hid (hB6.out.drew.trans (hb7.mono hB6.out.size))
          have hN7 := h.out.below hB7.out
          have fz := free_of hN7.h1 (i := 0)
          have hN8 := hN7.set E
          have hF8 := Fr.setCell (S := one b1) (Fr.of_below hB7.out _) (p := ⟨b1, 0, none⟩) (Or.inl rfl) (iv E)
          have k1' := hN8.cell1
          replace hN8 := hid hN8
          replace hF8 := hid hF8
          clear k0 hb7 hN7 gd0 gd1 p0 p1 hrc hB7 hB6 h
          go_wp2_with fail
          generalize W7.setCell ⟨b1, 0, none⟩ (iv E) = W8 at *
          go_quiet (fail)
          go_wp2_with fail
          refine bodyPost_ret (results_tmp3 Try.results42 _ _ _) rfl ?_
          refine ⟨?_, ?_, ?_⟩
          · rw [hX.out.2, hr1.out]; rfl
          · rw [hX.out.2]; exact ⟨hN8.out.h0, hN8.out.h1⟩
          · exact hF8.out.drewN _
        · have hr1 := hr0.out
          rw [if_neg hq] at hr1
          replace hr1 := hid hr1
          generalize recF u = X at *
          generalize D.take K = R at *
          have qne : (X == R) = false := beq_eq_false_iff_ne.2 hq
          clear hr0
          go_wp2_with fail
          go_region_held3 (fun w' => w'.cell? ⟨b0, 0, none⟩ = some (sv s) ∧ w'.cell? ⟨b1, 0, none⟩ = some (iv a)) (first | with_reducible exact ⟨gd0, gd1⟩ | with_reducible exact ⟨k0, k1⟩ | go_keep)
            (first | (go_at_call 38; refine (hrc.out _).mono ?_; rintro e W7 ⟨rfl, hb7⟩; have k0 := (hb7.cell (p := ⟨b0, 0, none⟩) p0).trans gd0; have k1 := (hb7.cell (p := ⟨b1, 0, none⟩) p1).trans gd1))
          have hB7 := hid (hB6.out.drew.trans (hb7.mono hB6.out.size))
          clear k0 hb7 gd0 gd1 p0 p1 hrc hB6
          go_wp2_with fail
          go_quiet (fail)
          go_wp2_with fail
          refine bodyPost_ret (results_tmp3 Try.results42 _ _ _) rfl ?_
          exact finN.out hr1.out _ (below_drewM hB7.out _)
end Go.Proofs.Ytffmmhofgocldaa
