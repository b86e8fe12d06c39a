/- Chapter 02 (code): the law CodeReads. -/
import Derived.Test.YtmlcnmpfjallkaaCodeL2
import Derived.Deep.RegionWith
set_option linter.unusedVariables false
namespace Go.Proofs.Ytmlcnmpfjallkaa
open Go.RowKit
open Go.Lib (hid IsBuilder byteCells)

/-- a state that a Reader over at most 10000 bytes can be in -/
def Ok (n : Nat) (st : St) : Prop := st.1.length ≤ n ∧ (st.2 = true → st.1 = [])
theorem Ok.failed (n : Nat) : Ok n failed := ⟨by simp [Go.Proofs.Ytmlcnmpfjallkaa.failed], fun _ => rfl⟩
theorem Ok.num {n : Nat} {st : St} (h : Ok n st) : Ok n (stNum st).2 := by
  refine ⟨Nat.le_trans (stNum_lt st).2 h.1, ?_⟩
  rcases hd : dnum 9 true st.1 with _ | ⟨m, r⟩
  · rw [stNum_none st hd]; exact fun _ => rfl
  · rw [stNum_some st m r hd]
    intro hb
    have hb' : st.2 = true := hb
    rw [h.2 hb', dnum_nil] at hd; cases hd
theorem Ok.take {n : Nat} {st : St} (h : Ok n st) (k : Int) : Ok n (stTake k st).2 := by
  refine ⟨Nat.le_trans (stTake_len k st) h.1, ?_⟩
  by_cases hb : st.2 = true ∨ k < 0 ∨ (st.1.length : Int) < k
  · rw [take_bad k st hb]; exact fun _ => rfl
  · rw [take_ok k st hb]
    intro hx; exact absurd (Or.inl hx) hb
theorem Ok.text {n : Nat} {st : St} (h : Ok n st) : Ok n (stText st).2 := h.num.take _
theorem Ok.int {n : Nat} {st : St} (h : Ok n st) : Ok n (stInt st).2 := by
  unfold stInt
  split
  · exact h.num
  · exact Ok.failed n
theorem Ok.iter {n : Nat} {α : Type} {each : St → α × St} (he : ∀ st, Ok n st → Ok n (each st).2) : ∀ k st, Ok n st → Ok n (iter each k st).2 := by
  intro k
  induction k with
  | zero => intro st h; exact h
  | succ k ih =>
    intro st h
    cases hb : st.2
    · rw [iter_succ _ _ _ hb]; exact ih _ (he st h)
    · rw [iter_bad _ _ _ hb]; exact h
theorem stMany_eq {α : Type} (each : St → α × St) (st : St) : stMany each st = (fun r : List α × St => if r.2.2 = true then ([], r.2) else r) (Go.Proofs.Ytmlcnmpfjallkaa.iter each (stNum st).1 (if (stNum st).2.1.length < (stNum st).1 then Go.Proofs.Ytmlcnmpfjallkaa.failed else (stNum st).2)) := rfl
theorem Ok.many {n : Nat} {α : Type} {each : St → α × St} (he : ∀ st, Ok n st → Ok n (each st).2) {st : St} (h : Ok n st) : Ok n (stMany each st).2 := by
  have h2 : Ok n (if (stNum st).2.1.length < (stNum st).1 then Go.Proofs.Ytmlcnmpfjallkaa.failed else (stNum st).2) := by
    split
    · exact Ok.failed n
    · exact h.num
  have h3 := Ok.iter he (stNum st).1 _ h2
  rw [stMany_eq]
  generalize Go.Proofs.Ytmlcnmpfjallkaa.iter each _ _ = r at *
  dsimp only
  split <;> exact h3
theorem Ok.list {n : Nat} {st : St} (h : Ok n st) : Ok n (stList st).2 := Ok.many (fun _ h => h.text) h
theorem Ok.nums {n : Nat} {st : St} (h : Ok n st) : Ok n (stNums st).2 := Ok.many (fun _ h => h.int) h

theorem iter_len {α : Type} (each : St → α × St) : ∀ k st, (iter each k st).1.length ≤ k := by
  intro k
  induction k with
  | zero => intro st; simp [iter_zero]
  | succ k ih =>
    intro st
    cases hb : st.2
    · rw [iter_succ _ _ _ hb]; simp; exact ih _
    · rw [iter_bad _ _ _ hb]; simp
theorem many_len {α : Type} {each : St → α × St} (st : St) : (stMany each st).1.length ≤ (stNum st).1 := by
  have h3 := iter_len each (stNum st).1 (if (stNum st).2.1.length < (stNum st).1 then Go.Proofs.Ytmlcnmpfjallkaa.failed else (stNum st).2)
  rw [stMany_eq]
  generalize Go.Proofs.Ytmlcnmpfjallkaa.iter each _ _ = r at *
  dsimp only
  split
  · simp
  · exact h3
theorem many_le {α : Type} (each : St → α × St) (st : St) : (stMany each st).1.length ≤ st.1.length := by
  have hl := (stNum_lt st).2
  rw [stMany_eq]
  by_cases h : (stNum st).2.1.length < (stNum st).1
  · rw [if_pos h, iter_bad _ _ _ (show Go.Proofs.Ytmlcnmpfjallkaa.failed.2 = true from rfl)]
    simp
  · rw [if_neg h]
    have h3 := iter_len each (stNum st).1 (stNum st).2
    generalize Go.Proofs.Ytmlcnmpfjallkaa.iter each _ _ = r at *
    dsimp only
    split
    · simp
    · omega
set_option maxHeartbeats 8000000 in
set_option maxRecDepth 100000 in
theorem CodeReads_walk (s : List UInt8) (asks : List Int) (v : Value) (w : World) (hs : s.length ≤ 140737488355328) (hr0 : Row w.heap.size w 1 v asks.length (asks.map iv)) (hal : asks.length ≤ 140737488355328) :
    Calls Try.prog 4 #[sv s, v] w fun e w' => e = .returned (.bool true) ∧ Below w.heap.size w w' := by
  obtain ⟨a, cap, b, o, rfl, h2, h3, h4⟩ := hr0
  replace h4 := hid h4
  replace h2 := hid h2
  go_enter Try.func4, Try.ntmps4
  go_wp2_with fail
  refine (small_any _).mono ?_
  rintro e w1 ⟨rfl, hB⟩
  go_wp2_with fail
  refine (open_any s _).mono ?_
  rintro e w2 ⟨rfl, hr, hb, hz⟩
  have hb1 : w.heap.size ≤ w1.heap.size := hB.size
  replace hB := hB.trans (hb.mono hB.size)
  clear hb
  generalize w1.heap.size = b1 at *
  go_wp2_with fail
  refine (ropen_any s _).mono ?_
  rintro e w3 ⟨rfl, hx, hb, hz2⟩
  replace hr := below_keep hb hr (lt_of_heap hr)
  have hb2 : w.heap.size ≤ w2.heap.size := hB.size
  have hne : ¬ one b1 w2.heap.size := by unfold one; omega
  have hne' : ¬ one w2.heap.size b1 := by unfold one; omega
  replace hB := hB.trans (hb.mono hB.size)
  clear hb hz hz2
  generalize w2.heap.size = b2 at *
  by_cases hbad : s.length ≤ 10000 ∧ asks.length ≤ 40
  · obtain ⟨hs1, ha1⟩ := hbad
    clear hs hal
    have hd1 : decide (10000 < (s.length : Int)) = false := by simp; omega
    have hd2 : decide (40 < (asks.length : Int)) = false := by simp; omega
    go_wp2_with fail
    go_loopw [8] (fun i wr => ∃ (k : Nat) (st : St), i = .int .i64 k ∧ k ≤ asks.length ∧ Ok 10000 st ∧ Rd 59 b1 st wr ∧ Rd 61 b2 st wr ∧ Below w.heap.size w wr) (fun i _ => asks.length - (intOf i).toNat)
    case atStart => exact ⟨0, (s, false), rfl, Nat.zero_le _, ⟨hs1, fun h => by cases h⟩, hr, hx, hB⟩
    case round =>
      clear hr hx hB
      obtain ⟨k, st, rfl, hk, hok, hr, hx, hB⟩ := hrel
      have hol := hok.1
      by_cases hlt : k < asks.length
      · obtain ⟨z, hz⟩ : ∃ z, asks[k]? = some z := ⟨_, List.getElem?_eq_getElem hlt⟩
        have hat := row_at1 (P := Try.prog) (t := 23) (by kernel_rfl) (fun _ => by kernel_rfl) h2.out h3 h4.out hB cap k hlt (u := iv z) (by simp [hz])
        obtain ⟨hidx, hcell⟩ := hat
        clear hz
        rcases (by omega : z = 0 ∨ z = 1 ∨ z = 2 ∨ z = 3 ∨ z = 4 ∨ (z ≠ 0 ∧ z ≠ 1 ∧ z ≠ 2 ∧ z ≠ 3 ∧ z ≠ 4)) with rfl | rfl | rfl | rfl | rfl | hz
        · go_wp2_with fail
          refine (readNum b1 st _ hr).mono ?_
          rintro e w2 ⟨rfl, hr2, hf⟩
          replace hx := hx.fr hf hne
          replace hB := hB.trans (hf.one_below hB.size hb1); clear hf
          go_wp2_with fail
          refine (rreadNum b2 st _ hx (by omega)).mono ?_
          rintro e w3 ⟨rfl, hx2, hf⟩
          replace hr2 := hr2.fr hf hne'
          replace hB := hB.trans (hf.one_below hB.size hb2); clear hf hr hx hcell
          have hok2 := hok.num
          generalize (stNum st).2 = st2 at *
          generalize (stNum st).1 = res at *
          go_wp2_with fail
          refine (left_any b1 st2 _ hr2).mono ?_
          rintro e w5 ⟨rfl, hr3, hf⟩
          replace hx2 := hx2.fr hf hne
          replace hB := hB.trans (hf.one_below hB.size hb1); clear hf hr2
          go_wp2_with fail
          refine (rleft_any b2 st2 _ hx2).mono ?_
          rintro e w6 ⟨rfl, hx3, hf⟩
          replace hr3 := hr3.fr hf hne'
          replace hB := hB.trans (hf.one_below hB.size hb2); clear hf hx2
          go_wp2_with fail
          refine (done_any b1 st2 _ hr3).mono ?_
          rintro e w7 ⟨rfl, hr4, hf⟩
          replace hx3 := hx3.fr hf hne
          replace hB := hB.trans (hf.one_below hB.size hb1); clear hf hr3
          go_wp2_with fail
          refine (rdone_any b2 st2 _ hx3).mono ?_
          rintro e w8 ⟨rfl, hx4, hf⟩
          replace hr4 := hr4.fr hf hne'
          replace hB := hB.trans (hf.one_below hB.size hb2); clear hf hx3
          go_wp2_with fail
          exact ⟨⟨k + 1, st2, by go_num, by omega, hok2, hr4, hx4, hB⟩, by simp [intOf]; omega⟩
        · go_wp2_with fail
          refine (readInt b1 st _ hr (by omega)).mono ?_
          rintro e w2 ⟨rfl, hr2, hf⟩
          replace hx := hx.fr hf hne
          replace hB := hB.trans (hf.one_below hB.size hb1); clear hf
          go_wp2_with fail
          refine (rreadInt b2 st _ hx (by omega)).mono ?_
          rintro e w3 ⟨rfl, hx2, hf⟩
          replace hr2 := hr2.fr hf hne'
          replace hB := hB.trans (hf.one_below hB.size hb2); clear hf hr hx hcell
          have hok2 := hok.int
          generalize (stInt st).2 = st2 at *
          generalize (stInt st).1 = res at *
          go_wp2_with fail
          refine (left_any b1 st2 _ hr2).mono ?_
          rintro e w5 ⟨rfl, hr3, hf⟩
          replace hx2 := hx2.fr hf hne
          replace hB := hB.trans (hf.one_below hB.size hb1); clear hf hr2
          go_wp2_with fail
          refine (rleft_any b2 st2 _ hx2).mono ?_
          rintro e w6 ⟨rfl, hx3, hf⟩
          replace hr3 := hr3.fr hf hne'
          replace hB := hB.trans (hf.one_below hB.size hb2); clear hf hx2
          go_wp2_with fail
          refine (done_any b1 st2 _ hr3).mono ?_
          rintro e w7 ⟨rfl, hr4, hf⟩
          replace hx3 := hx3.fr hf hne
          replace hB := hB.trans (hf.one_below hB.size hb1); clear hf hr3
          go_wp2_with fail
          refine (rdone_any b2 st2 _ hx3).mono ?_
          rintro e w8 ⟨rfl, hx4, hf⟩
          replace hr4 := hr4.fr hf hne'
          replace hB := hB.trans (hf.one_below hB.size hb2); clear hf hx3
          go_wp2_with fail
          exact ⟨⟨k + 1, st2, by go_num, by omega, hok2, hr4, hx4, hB⟩, by simp [intOf]; omega⟩
        · go_wp2_with fail
          refine (readText b1 st _ hr (by omega)).mono ?_
          rintro e w2 ⟨rfl, hr2, hf⟩
          replace hx := hx.fr hf hne
          replace hB := hB.trans (hf.one_below hB.size hb1); clear hf
          go_wp2_with fail
          refine (rreadText b2 st _ hx (by omega)).mono ?_
          rintro e w3 ⟨rfl, hx2, hf⟩
          replace hr2 := hr2.fr hf hne'
          replace hB := hB.trans (hf.one_below hB.size hb2); clear hf hr hx hcell
          have hok2 := hok.text
          generalize (stText st).2 = st2 at *
          generalize (stText st).1 = res at *
          go_wp2_with fail
          refine (left_any b1 st2 _ hr2).mono ?_
          rintro e w5 ⟨rfl, hr3, hf⟩
          replace hx2 := hx2.fr hf hne
          replace hB := hB.trans (hf.one_below hB.size hb1); clear hf hr2
          go_wp2_with fail
          refine (rleft_any b2 st2 _ hx2).mono ?_
          rintro e w6 ⟨rfl, hx3, hf⟩
          replace hr3 := hr3.fr hf hne'
          replace hB := hB.trans (hf.one_below hB.size hb2); clear hf hx2
          go_wp2_with fail
          refine (done_any b1 st2 _ hr3).mono ?_
          rintro e w7 ⟨rfl, hr4, hf⟩
          replace hx3 := hx3.fr hf hne
          replace hB := hB.trans (hf.one_below hB.size hb1); clear hf hr3
          go_wp2_with fail
          refine (rdone_any b2 st2 _ hx3).mono ?_
          rintro e w8 ⟨rfl, hx4, hf⟩
          replace hr4 := hr4.fr hf hne'
          replace hB := hB.trans (hf.one_below hB.size hb2); clear hf hx3
          go_wp2_with fail
          exact ⟨⟨k + 1, st2, by go_num, by omega, hok2, hr4, hx4, hB⟩, by simp [intOf]; omega⟩
        · go_wp2_with fail
          refine (readList b1 st _ hr (by omega)).mono ?_
          rintro e w2 ⟨va, rfl, ho, hr2, hf⟩
          have hlt1 := lt_of_heap hx
          replace hx := hx.fr hf hne
          have hB2 := hB.trans (hf.one_below hB.size hb1); clear hf
          replace ho := hid ho
          go_wp2_with fail
          refine (rreadList b2 st _ hx (by omega) hok.2).mono ?_
          rintro e w3 ⟨vb, rfl, ho2, hx2, hf⟩
          replace hr2 := hr2.fr hf hne'
          replace ho := hid (owns_keep ho.out hf (fun q hq e => by unfold one at e; omega))
          replace ho2 := hid ho2
          replace hB := hB2.trans (hf.one_below hB2.size hb2); clear hf hr hx hcell hB2
          have hok2 := hok.list
          have hleq : ((stList st).1.map sv).length = (stList st).1.length := List.length_map _
          have hrow1 := hid (Row.of_owns ho.out)
          have hrow2 := hid (Row.of_owns ho2.out)
          rw [hleq] at hrow1 hrow2
          have hl10 : (stList st).1.length ≤ 140737488355328 := by have := ho.out.1; have h9 := many_le stText st; have h8 : (stList st).1.length ≤ st.1.length := h9; omega
          clear hleq ho ho2
          generalize (stList st).2 = st2 at *
          generalize (stList st).1 = res at *
          go_wp2_with fail
          refine (sameTexts res res va vb _ hrow1.out hrow2.out hl10).mono ?_
          rintro e w4 ⟨rfl, hb⟩
          rw [show decide (res = res) = true by simp]
          replace hr2 : Rd 59 b1 st2 w4 := below_keep hb hr2 (lt_of_heap hr2)
          replace hx2 : Rd 61 b2 st2 w4 := below_keep hb hx2 (lt_of_heap hx2)
          replace hB := hB.trans (hb.mono hB.size); clear hb hrow1 hrow2 hl10
          go_wp2_with fail
          refine (left_any b1 st2 _ hr2).mono ?_
          rintro e w5 ⟨rfl, hr3, hf⟩
          replace hx2 := hx2.fr hf hne
          replace hB := hB.trans (hf.one_below hB.size hb1); clear hf hr2
          go_wp2_with fail
          refine (rleft_any b2 st2 _ hx2).mono ?_
          rintro e w6 ⟨rfl, hx3, hf⟩
          replace hr3 := hr3.fr hf hne'
          replace hB := hB.trans (hf.one_below hB.size hb2); clear hf hx2
          go_wp2_with fail
          refine (done_any b1 st2 _ hr3).mono ?_
          rintro e w7 ⟨rfl, hr4, hf⟩
          replace hx3 := hx3.fr hf hne
          replace hB := hB.trans (hf.one_below hB.size hb1); clear hf hr3
          go_wp2_with fail
          refine (rdone_any b2 st2 _ hx3).mono ?_
          rintro e w8 ⟨rfl, hx4, hf⟩
          replace hr4 := hr4.fr hf hne'
          replace hB := hB.trans (hf.one_below hB.size hb2); clear hf hx3
          go_wp2_with fail
          exact ⟨⟨k + 1, st2, by go_num, by omega, hok2, hr4, hx4, hB⟩, by simp [intOf]; omega⟩
        · go_wp2_with fail
          refine (readNums b1 st _ hr (by omega)).mono ?_
          rintro e w2 ⟨va, rfl, ho, hr2, hf⟩
          have hlt1 := lt_of_heap hx
          replace hx := hx.fr hf hne
          have hB2 := hB.trans (hf.one_below hB.size hb1); clear hf
          replace ho := hid ho
          go_wp2_with fail
          refine (rreadNums b2 st _ hx (by omega) hok.2).mono ?_
          rintro e w3 ⟨vb, rfl, ho2, hx2, hf⟩
          replace hr2 := hr2.fr hf hne'
          replace ho := hid (owns_keep ho.out hf (fun q hq e => by unfold one at e; omega))
          replace ho2 := hid ho2
          replace hB := hB2.trans (hf.one_below hB2.size hb2); clear hf hr hx hcell hB2
          have hok2 := hok.nums
          have hleq : ((stNums st).1.map iv).length = (stNums st).1.length := List.length_map _
          have hrow1 := hid (Row.of_owns ho.out)
          have hrow2 := hid (Row.of_owns ho2.out)
          rw [hleq] at hrow1 hrow2
          have hl10 : (stNums st).1.length ≤ 140737488355328 := by have := ho.out.1; have h9 := many_le stInt st; have h8 : (stNums st).1.length ≤ st.1.length := h9; omega
          clear hleq ho ho2
          generalize (stNums st).2 = st2 at *
          generalize (stNums st).1 = res at *
          go_wp2_with fail
          refine (sameInts res res va vb _ hrow1.out hrow2.out hl10).mono ?_
          rintro e w4 ⟨rfl, hb⟩
          rw [show decide (res = res) = true by simp]
          replace hr2 : Rd 59 b1 st2 w4 := below_keep hb hr2 (lt_of_heap hr2)
          replace hx2 : Rd 61 b2 st2 w4 := below_keep hb hx2 (lt_of_heap hx2)
          replace hB := hB.trans (hb.mono hB.size); clear hb hrow1 hrow2 hl10
          go_wp2_with fail
          refine (left_any b1 st2 _ hr2).mono ?_
          rintro e w5 ⟨rfl, hr3, hf⟩
          replace hx2 := hx2.fr hf hne
          replace hB := hB.trans (hf.one_below hB.size hb1); clear hf hr2
          go_wp2_with fail
          refine (rleft_any b2 st2 _ hx2).mono ?_
          rintro e w6 ⟨rfl, hx3, hf⟩
          replace hr3 := hr3.fr hf hne'
          replace hB := hB.trans (hf.one_below hB.size hb2); clear hf hx2
          go_wp2_with fail
          refine (done_any b1 st2 _ hr3).mono ?_
          rintro e w7 ⟨rfl, hr4, hf⟩
          replace hx3 := hx3.fr hf hne
          replace hB := hB.trans (hf.one_below hB.size hb1); clear hf hr3
          go_wp2_with fail
          refine (rdone_any b2 st2 _ hx3).mono ?_
          rintro e w8 ⟨rfl, hx4, hf⟩
          replace hr4 := hr4.fr hf hne'
          replace hB := hB.trans (hf.one_below hB.size hb2); clear hf hx3
          go_wp2_with fail
          exact ⟨⟨k + 1, st2, by go_num, by omega, hok2, hr4, hx4, hB⟩, by simp [intOf]; omega⟩
        · obtain ⟨hz0, hz1, hz2, hz3, hz4⟩ := hz
          have e0 : (z == 0) = false := by simpa using hz0
          have e1 : (z == 1) = false := by simpa using hz1
          have e2 : (z == 2) = false := by simpa using hz2
          have e3 : (z == 3) = false := by simpa using hz3
          have e4 : (z == 4) = false := by simpa using hz4
          have hbw : b < wr.drew.heap.size := by show b < wr.heap.size; have := (h3 (by omega)).2; have := hB.size; omega
          have hcell2 : ∀ w2, Fr (one b1) wr.drew w2 → w2.cell? ⟨b, o + k, none⟩ = some (iv z) := fun w2 hf => by
            rw [World.cell?_of_block (w := wr.drew) (hf.block b hbw (fun e => by unfold one at e; have := (h3 (by omega)).2; omega))]; exact hcell
          replace hcell2 := hid hcell2
          clear hz0 hz1 hz2 hz3 hz4 hbw
          go_wp2_with fail
          go_region_with (first | (go_at_call 35; refine (take_any b1 st _ _ ?_ ?_).mono ?_; exact hr; omega; rintro e w2 ⟨rfl, hr2, hf⟩; have hcell3 := hcell2.out w2 hf; have hx2 := Rd.fr (w := wr.drew) hx hf hne; have hB2 := hB.drew.trans (hf.one_below hB.size hb1)) | (go_at_call 36; refine (rtake_any b2 st _ _ ?_ ?_).mono ?_; exact hx2; omega; rintro e w3 ⟨rfl, hx3, hf2⟩; have hr3 := Rd.fr hr2 hf2 hne'; have hB3 := hB2.trans (hf2.one_below hB2.size hb2)))
          all_goals
            have hok2 := hok.take (IntKind.i64.wrap (z - 6))
            clear hr hx hcell hcell2 hcell3 hr2 hx2 hB hB2 hf hf2
            have hr2 := hr3
            have hx2 := hx3
            have hB := hB3
            clear hr3 hx3 hB3
            generalize (stTake (IntKind.i64.wrap (z - 6)) st).2 = st2 at *
            generalize (stTake (IntKind.i64.wrap (z - 6)) st).1 = res at *
            go_wp2_with fail
            refine (left_any b1 st2 _ hr2).mono ?_
            rintro e w5 ⟨rfl, hr3, hf⟩
            replace hx2 := hx2.fr hf hne
            replace hB := hB.trans (hf.one_below hB.size hb1); clear hf hr2
            go_wp2_with fail
            refine (rleft_any b2 st2 _ hx2).mono ?_
            rintro e w6 ⟨rfl, hx3, hf⟩
            replace hr3 := hr3.fr hf hne'
            replace hB := hB.trans (hf.one_below hB.size hb2); clear hf hx2
            go_wp2_with fail
            refine (done_any b1 st2 _ hr3).mono ?_
            rintro e w7 ⟨rfl, hr4, hf⟩
            replace hx3 := hx3.fr hf hne
            replace hB := hB.trans (hf.one_below hB.size hb1); clear hf hr3
            go_wp2_with fail
            refine (rdone_any b2 st2 _ hx3).mono ?_
            rintro e w8 ⟨rfl, hx4, hf⟩
            replace hr4 := hr4.fr hf hne'
            replace hB := hB.trans (hf.one_below hB.size hb2); clear hf hx3
            go_wp2_with fail
            exact ⟨⟨k + 1, st2, by go_num, by omega, hok2, hr4, hx4, hB⟩, by simp [intOf]; omega⟩
      · go_wp2
        go_ret
        exact ⟨rfl, hB⟩
  · have hbad' : 10000 < s.length ∨ (s.length ≤ 10000 ∧ 40 < asks.length) := by omega
    clear hbad
    rcases hbad' with h | ⟨h, h'⟩
    all_goals
      go_wp2
      go_ret
      exact ⟨rfl, hB⟩
end Go.Proofs.Ytmlcnmpfjallkaa
