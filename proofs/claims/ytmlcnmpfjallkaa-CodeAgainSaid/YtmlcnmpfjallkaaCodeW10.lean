/- Chapter 02 (code): walks: the Readers' List and Nums. -/
import Derived.Test.YtmlcnmpfjallkaaCodeW9
set_option linter.unusedVariables false
namespace Go.Proofs.Ytmlcnmpfjallkaa
open Go.RowKit
open Go.Lib (hid IsBuilder byteCells)

theorem Fr.grownBy {b : Nat} {w w' : World} (h : Fr (one b) w w') : w.grownBy w' (some b) := ⟨h.os, h.tape, h.output, h.size, fun k hk hs => h.block k hk (fun e => hs (by rw [e]))⟩
theorem owns_fr {w w' : World} {b base : Nat} {e : TypeId} {sz : Nat} {v : Value} {n : Nat} {xs : List Value} (h : w.ownsRow base e sz v n xs) (hf : Fr (one b) w w') (hb : b < base) : w'.ownsRow base e sz v n xs := by
  refine h.kept hf.grownBy ?_
  cases hv : v.ownBlock with
  | none => exact Or.inl rfl
  | some k =>
    have := (h.lt k hv).1
    exact Or.inr (by simp; omega)

/-- what a method that reads a list does -/
def RdRow (T : TypeId) (E : TypeId) (b : Nat) (w : World) (xs : List Value) (st : St) (e : Ending) (w' : World) : Prop :=
  ∃ v, e = .returned v ∧ w'.ownsRow w.heap.size E 1 v xs.length xs ∧ Rd T b st w' ∧ Fr (one b) w w'

theorem iter_zero {α : Type} (each : St → α × St) (st : St) : iter each 0 st = ([], st) := rfl
theorem iter_bad {α : Type} (each : St → α × St) (n : Nat) (st : St) (h : st.2 = true) : iter each n st = ([], st) := by
  cases n with
  | zero => rfl
  | succ n => simp [iter, h]
theorem iter_succ {α : Type} (each : St → α × St) (n : Nat) (st : St) (h : st.2 = false) : iter each (n + 1) st = ((each st).1 :: (iter each n (each st).2).1, (iter each n (each st).2).2) := by
  simp [iter, h]
/-- after k rounds: xs read, the state st', the rest of the rounds still to come -/
def Rounds {α : Type} (each : St → α × St) (n : Nat) (st2 : St) (k : Nat) (xs : List α) (st' : St) : Prop :=
  xs.length = k ∧ k ≤ n ∧ iter each n st2 = (xs ++ (iter each (n - k) st').1, (iter each (n - k) st').2) ∧ st'.1.length ≤ st2.1.length
theorem Rounds.start {α : Type} (each : St → α × St) (n : Nat) (st2 : St) : Rounds each n st2 0 [] st2 := ⟨rfl, by omega, by simp, Nat.le_refl _⟩
theorem Rounds.step {α : Type} {each : St → α × St} {n : Nat} {st2 : St} {k : Nat} {xs : List α} {st' : St} (h : Rounds each n st2 k xs st') (hk : k < n) (hg : st'.2 = false) (hl : (each st').2.1.length ≤ st'.1.length) :
    Rounds each n st2 (k + 1) (xs ++ [(each st').1]) (each st').2 := by
  obtain ⟨h1, h2, h3, h4⟩ := h
  refine ⟨by simp [h1], by omega, ?_, by omega⟩
  obtain ⟨m, hm⟩ : ∃ m, n - k = m + 1 := ⟨n - k - 1, by omega⟩
  rw [h3, hm, iter_succ _ _ _ hg, show n - (k + 1) = m by omega]
  simp
theorem Rounds.fin {α : Type} {each : St → α × St} {n : Nat} {st2 : St} {k : Nat} {xs : List α} {st' : St} (h : Rounds each n st2 k xs st') (he : k = n ∨ st'.2 = true) : iter each n st2 = (xs, st') := by
  obtain ⟨h1, h2, h3, h4⟩ := h
  rcases he with he | he
  · rw [h3, show n - k = 0 by omega, iter_zero]; simp
  · rw [h3, iter_bad _ _ _ he]; simp
theorem stMany_bad {α : Type} (each : St → α × St) (st : St) (n : Nat) (st1 st2 : St) (xs : List α) (st' : St) (hn : stNum st = (n, st1)) (h2 : (if st1.1.length < n then failed else st1) = st2) (hi : iter each n st2 = (xs, st')) (hb : st'.2 = true) : stMany each st = ([], st') := by
  simp [stMany, hn, h2, hi, hb]
theorem stMany_ok {α : Type} (each : St → α × St) (st : St) (n : Nat) (st1 st2 : St) (xs : List α) (st' : St) (hn : stNum st = (n, st1)) (h2 : (if st1.1.length < n then failed else st1) = st2) (hi : iter each n st2 = (xs, st')) (hb : st'.2 = false) : stMany each st = (xs, st') := by
  simp [stMany, hn, h2, hi, hb]

set_option maxHeartbeats 2000000 in
set_option maxRecDepth 100000 in
theorem decodeS (b : Nat) (st : St) (w : World) (h : Rd 59 b st w) (hs : st.1.length ≤ 1000000000) :
    Calls Try.prog 50 #[.pointer (some ⟨b, 0, none⟩), .func (.func 27) #[.pointer (some ⟨b, 0, none⟩)] #[]] w (RdRow 59 9 b w ((stList st).1.map sv) (stList st).2) := by
  have hlt0 : b < w.heap.size := lt_of_heap h
  have hn : stNum st = ((stNum st).1, (stNum st).2) := rfl
  have hN := readNum b st w h
  have hl := (stNum_lt st).2
  have hz := (stNum_lt st).1
  unfold stList
  generalize (stNum st).1 = n at *
  generalize (stNum st).2 = st1 at *
  have info : (Try.prog.info? 9).map (fun i => (i.zero, i.size, i.bytes)) = some (some (.string ByteArray.empty), 1, 16) := by kernel_rfl
  obtain ⟨i0, hi, hz0, hz1, hz2⟩ := info_parts info
  clear info
  have HN := hid hN
  replace hn := hid hn
  clear hN
  obtain ⟨st2, h2⟩ : ∃ st2, (if st1.1.length < n then failed else st1) = st2 := ⟨_, rfl⟩
  have hl2 : st2.1.length ≤ st.1.length := by subst h2; split <;> (try simp [failed]) <;> omega
  have hgn : st1.1.length < n ∨ (n ≤ st1.1.length ∧ st2 = st1) := by
    by_cases hgt : st1.1.length < n
    · exact Or.inl hgt
    · rw [if_neg hgt] at h2; exact Or.inr ⟨by omega, h2.symm⟩
  have hbig : st1.1.length < n → st2 = failed := fun hgt => by rw [if_pos hgt] at h2; exact h2.symm
  replace h2 := hid h2
  rcases hgn with hgt | ⟨hgt, rfl⟩
  · have e2 := hbig hgt
    subst e2
    clear hbig
    have hfin := stMany_bad stText st n st1 failed [] failed hn.out h2.out (iter_bad _ _ _ rfl) rfl
    replace hfin := hid hfin
    go_enter Try.func50, Try.ntmps50
    go_wp2_with (first | (go_at_call 23; refine HN.out.mono ?_; rintro e w1 ⟨rfl, h1, hf1⟩; have c0 := h1.c0; have c1 := h1.c1) | (go_at_call 48; refine (fail_any b _ _ h1).mono ?_; rintro e w2 ⟨rfl, h3, hf2⟩; have d1 := h3.c1; dsimp only [failed] at d1))
    refine wp_loop_rounds 1 ?_
    rw [rounds_succ]
    have hd : decide (0 < (n : Int)) = true := by simp; omega
    go_wp2
    go_ret
    refine ⟨_, rfl, ?_, ?_, hf1.trans hf2⟩
    · rw [hfin.out]; exact World.ownsRow_nil _ _ _ _
    · rw [hfin.out]; exact h3
  · clear hbig
    have hdn : decide (st2.1.length < n) = false := by simp; omega
    go_enter Try.func50, Try.ntmps50
    go_wp2_with (first | (go_at_call 23; refine HN.out.mono ?_; rintro e w1 ⟨rfl, h1, hf1⟩; have c0 := h1.c0; have c1 := h1.c1))
    have hf1s := hf1.size
    go_loopw [6, 7] (fun v i wr => ∃ (k : Nat) (xs : List (List UInt8)) (st' : St), i = .int .i64 k ∧ Rounds stText n st2 k xs st' ∧ wr.ownsRow w.heap.size 9 1 v xs.length (xs.map sv) ∧ Rd 59 b st' wr ∧ Fr (one b) w wr) (fun _ i _ => n - (intOf i).toNat)
    case atStart => exact ⟨0, [], st2, rfl, Rounds.start _ _ _, World.ownsRow_nil _ _ _ _, h1, hf1⟩
    case round =>
      obtain ⟨k, xs, st', rfl, hR, hown, hrd, hfr⟩ := hrel
      clear c0 c1 h1 hf1 hf1s HN
      have hfs := hfr.size
      have c0 := hrd.c0; have c1 := hrd.c1
      have hkn := hR.2.1
      have hxk := hR.1
      have hsl := hR.2.2.2
      by_cases hk : k < n
      · cases hb : st'.2
        · rw [hb] at c1
          have hS := hR.step hk hb (stText_len st')
          replace hS := hid hS
          replace hR := hid hR
          replace hxk := hid hxk
          have hxl : xs.length ≤ 1000000000 := by rw [hxk.out]; omega
          go_wp2_with (first | (go_at_call 27; refine (readText b st' _ hrd (by omega)).mono ?_; rintro e w2 ⟨rfl, h3, hf2⟩; have ho2 := owns_fr hown hf2 hlt0; have hs2 := hf2.size) | (at_builtin; refine wpList_append_own _ rfl _ _ 22 rfl w.heap.size 9 i0 (.string ByteArray.empty) 1 16 Try.underlying22 hi hz0 hz1 hz2 rfl (by decide) _ _ _ rfl (ho2.alloc _) ⟨w2.heap.size, 0, none⟩ 1 1 [sv (stText st').1] rfl rfl (new1 _ _ _) (one1 rfl) (by unfold maxLen; omega) (by omega) (by simp; omega) ?_; intro v' w3 hown' hgrow3 hnil3))
          clear hnil3
          have h5 : Rd 59 b (stText st').2 (w2.alloc (.cells #[sv (stText st').1] 9)) := heap_alloc_lt h3
          go_roundw
          case rel =>
            refine ⟨k + 1, xs ++ [(stText st').1], (stText st').2, by go_num, hS.out, by simpa using hown', ?_, ((hfr.trans hf2).alloc _).grown hgrow3 (fun q hq => Or.inr (ho2.lt q hq).1)⟩
            exact (hgrow3.block b (lt_of_heap h5) (fun e => by have := (ho2.lt b e.symm).1; omega)).trans h5
          case measure => simp [intOf]; omega
        · rw [hb] at c1
          have hfin := stMany_bad stText st n st2 st2 xs st' hn.out h2.out (hR.fin (Or.inr hb)) hb
          replace hfin := hid hfin
          go_wp2
          go_ret
          refine ⟨_, rfl, ?_, ?_, hfr⟩
          · rw [hfin.out]; exact World.ownsRow_nil _ _ _ _
          · rw [hfin.out]; exact hrd
      · have hkn2 : k = n := by omega
        have hiter := hR.fin (Or.inl hkn2)
        cases hb : st'.2
        · rw [hb] at c1
          have hfin := stMany_ok stText st n st2 st2 xs st' hn.out h2.out hiter hb
          replace hfin := hid hfin
          replace hkn2 := hid hkn2
          clear hxk hR
          go_wp2
          go_ret
          refine ⟨_, rfl, ?_, ?_, hfr⟩
          · rw [hfin.out]; simpa using hown
          · rw [hfin.out]; exact hrd
        · rw [hb] at c1
          have hfin := stMany_bad stText st n st2 st2 xs st' hn.out h2.out hiter hb
          replace hfin := hid hfin
          replace hkn2 := hid hkn2
          clear hxk hR
          go_wp2
          go_ret
          refine ⟨_, rfl, ?_, ?_, hfr⟩
          · rw [hfin.out]; exact World.ownsRow_nil _ _ _ _
          · rw [hfin.out]; exact hrd
end Go.Proofs.Ytmlcnmpfjallkaa
