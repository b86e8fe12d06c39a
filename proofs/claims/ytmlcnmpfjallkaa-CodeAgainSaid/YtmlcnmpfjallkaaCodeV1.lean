/- Chapter 02 (code): walks: the law's kind, next, read. -/
import Derived.Test.YtmlcnmpfjallkaaCodeL3
set_option linter.unusedVariables false
namespace Go.Proofs.Ytmlcnmpfjallkaa
open Go.RowKit
open Go.Lib (hid IsBuilder byteCells)

structure CV where
  kind : Int
  n : Int
  text : List UInt8
  texts : List (List UInt8)
  nums : List Int

theorem tmod5 (K : Int) : (0 ≤ K ∧ K.tmod 5 = K % 5) ∨ (K < 0 ∧ K % 5 = 0 ∧ K.tmod 5 = 0) ∨ (K < 0 ∧ K.tmod 5 = K % 5 - 5 ∧ 1 ≤ K % 5) := by
  rcases Int.lt_or_le K 0 with h | h
  · obtain ⟨m, rfl⟩ : ∃ m : Int, K = -m := ⟨-K, by omega⟩
    rw [Int.neg_tmod, Int.tmod_eq_emod_of_nonneg (by omega)]
    omega
  · exact Or.inl ⟨h, Int.tmod_eq_emod_of_nonneg h⟩

set_option maxRecDepth 100000 in
theorem kind_any (K : Int) (c1 c2 c3 c4 : Value) (w : World) (hK : -9223372036854775808 ≤ K ∧ K ≤ 9223372036854775807) :
    Calls Try.prog 52 #[.agg #[iv K, c1, c2, c3, c4]] w fun e w' => e = .returned (iv (K % 5)) ∧ Below w.heap.size w w' := by
  obtain ⟨hK1, hK2⟩ := hK
  rcases tmod5 K with ⟨h0, ht⟩ | ⟨h0, hz, ht⟩ | ⟨h0, ht, h1⟩
  · have hr : 0 ≤ K % 5 ∧ K % 5 ≤ 4 := by omega
    obtain ⟨hr1, hr2⟩ := hr
    generalize hm : K % 5 = m at *
    replace hm := hid hm
    go_enter Try.func52, Try.ntmps52
    go_wp2
    go_ret
    exact ⟨rfl, (Below.refl _ _).alloc (Nat.le_refl _) _⟩
  · rw [hz]
    go_enter Try.func52, Try.ntmps52
    go_wp2
    go_ret
    exact ⟨rfl, (Below.refl _ _).alloc (Nat.le_refl _) _⟩
  · have hr : K % 5 ≤ 4 := by omega
    generalize K % 5 = m at *
    go_enter Try.func52, Try.ntmps52
    go_wp2
    go_ret
    exact ⟨ret_int (by simp), (Below.refl _ _).alloc (Nat.le_refl _) _⟩

/-- reading a value of t's kind in the state st gives t's component, and the state st' -/
def Gives (t : CV) (st st' : St) : Prop :=
  (t.kind % 5 = 0 ∧ stNum st = (t.n.toNat, st') ∧ 0 ≤ t.n) ∨ (t.kind % 5 = 1 ∧ stInt st = (t.n, st')) ∨ (t.kind % 5 = 2 ∧ stText st = (t.text, st')) ∨
    (t.kind % 5 = 3 ∧ stList st = (t.texts, st')) ∨ (t.kind % 5 = 4 ∧ stNums st = (t.nums, st'))
abbrev agv (t : CV) (vt vn : Value) : Value := .agg #[iv t.kind, iv t.n, sv t.text, vt, vn]

set_option maxHeartbeats 8000000 in
set_option maxRecDepth 100000 in
theorem next_any (b : Nat) (t : CV) (vt vn : Value) (B : Nat) (st st' : St) (w : World) (h : Rd 59 b st w) (hs : st.1.length ≤ 1000000000) (hK : -9223372036854775808 ≤ t.kind ∧ t.kind ≤ 9223372036854775807)
    (hg : Gives t st st') (hvt : Row B w 1 vt t.texts.length (t.texts.map sv)) (hvn : Row B w 1 vn t.nums.length (t.nums.map iv)) (hBb : B ≤ b) :
    Calls Try.prog 43 #[.pointer (some ⟨b, 0, none⟩), agv t vt vn] w (RdPost 59 b w (.bool true) st') := by
  have hlt := lt_of_heap h
  have hkk := hid (kind_any t.kind (iv t.n) (sv t.text) vt vn (w.alloc (.cells #[iv t.kind, iv t.n, sv t.text, vt, vn] 47)) hK)
  rcases hg with ⟨hk, hg, hn⟩ | ⟨hk, hg⟩ | ⟨hk, hg⟩ | ⟨hk, hg⟩ | ⟨hk, hg⟩
  · have hkk2 := hkk.out
    rw [hk] at hkk2
    replace hkk2 := hid hkk2
    clear hkk hk
    have hn2 : (t.n.toNat : Int) = t.n := Int.toNat_of_nonneg hn
    replace hg := hid hg
    go_enter Try.func43, Try.ntmps43
    go_wp2_with fail
    refine hkk2.out.mono ?_
    rintro e w1 ⟨rfl, hb⟩
    have h1 : Rd 59 b st w1 := below_keep hb (heap_alloc_lt h) (lt_of_heap (heap_alloc_lt h))
    have hA := heap_alloc_new' w (.cells #[iv t.kind, iv t.n, sv t.text, vt, vn] 47)
    have hA1 := below_keep hb hA (lt_of_heap hA)
    have hcx : w1.cell? ⟨w.heap.size, 1, none⟩ = some (iv t.n) := by rw [cell_of hA1]; rfl
    have hfr1 : Fr (one b) w w1.drew := (((Fr.refl _ _).alloc _).trans (Fr.of_below hb _)).drew
    have hrd : ∀ (w2 : World), Fr (one b) w1.drew w2 → w2.cell? ⟨w.heap.size, 1, none⟩ = some (iv t.n) := fun w2 hf => by
      rw [cell_of (hf.keep (w := w1.drew) hA1 (fun e => by unfold one at e; omega))]; rfl
    have hlt1 : w.heap.size < w1.heap.size := lt_of_heap hA1
    replace hrd := hid hrd
    clear hb hA hA1 hkk2
    go_wp2_with fail
    go_region_with (first | (go_at_call 23; refine (readNum_eq b st _ ?_ _ _ hg.out).mono ?_; exact h1; rintro e w2 ⟨rfl, h2, hf⟩; have hcy := hrd.out w2 hf))
    all_goals
      go_wp2
      go_ret
      exact ⟨rfl, h2, hfr1.trans hf⟩
  · have hkk2 := hkk.out
    rw [hk] at hkk2
    replace hkk2 := hid hkk2
    clear hkk hk
    replace hg := hid hg
    go_enter Try.func43, Try.ntmps43
    go_wp2_with fail
    refine hkk2.out.mono ?_
    rintro e w1 ⟨rfl, hb⟩
    have h1 : Rd 59 b st w1 := below_keep hb (heap_alloc_lt h) (lt_of_heap (heap_alloc_lt h))
    have hA := heap_alloc_new' w (.cells #[iv t.kind, iv t.n, sv t.text, vt, vn] 47)
    have hA1 := below_keep hb hA (lt_of_heap hA)
    have hcx : w1.cell? ⟨w.heap.size, 1, none⟩ = some (iv t.n) := by rw [cell_of hA1]; rfl
    have hfr1 : Fr (one b) w w1.drew := (((Fr.refl _ _).alloc _).trans (Fr.of_below hb _)).drew
    have hrd : ∀ (w2 : World), Fr (one b) w1.drew w2 → w2.cell? ⟨w.heap.size, 1, none⟩ = some (iv t.n) := fun w2 hf => by
      rw [cell_of (hf.keep (w := w1.drew) hA1 (fun e => by unfold one at e; omega))]; rfl
    have hlt1 : w.heap.size < w1.heap.size := lt_of_heap hA1
    replace hrd := hid hrd
    clear hb hA hA1 hkk2
    go_wp2_with fail
    go_region_with (first | (go_at_call 25; refine (readInt_eq b st _ ?_ ?_ _ _ hg.out).mono ?_; exact h1; omega; rintro e w2 ⟨rfl, h2, hf⟩; have hcy := hrd.out w2 hf))
    all_goals
      go_wp2
      go_ret
      exact ⟨rfl, h2, hfr1.trans hf⟩
  · have hkk2 := hkk.out
    rw [hk] at hkk2
    replace hkk2 := hid hkk2
    clear hkk hk
    replace hg := hid hg
    go_enter Try.func43, Try.ntmps43
    go_wp2_with fail
    refine hkk2.out.mono ?_
    rintro e w1 ⟨rfl, hb⟩
    have h1 : Rd 59 b st w1 := below_keep hb (heap_alloc_lt h) (lt_of_heap (heap_alloc_lt h))
    have hA := heap_alloc_new' w (.cells #[iv t.kind, iv t.n, sv t.text, vt, vn] 47)
    have hA1 := below_keep hb hA (lt_of_heap hA)
    have hcx : w1.cell? ⟨w.heap.size, 2, none⟩ = some (sv t.text) := by rw [cell_of hA1]; rfl
    have hfr1 : Fr (one b) w w1.drew := (((Fr.refl _ _).alloc _).trans (Fr.of_below hb _)).drew
    have hrd : ∀ (w2 : World), Fr (one b) w1.drew w2 → w2.cell? ⟨w.heap.size, 2, none⟩ = some (sv t.text) := fun w2 hf => by
      rw [cell_of (hf.keep (w := w1.drew) hA1 (fun e => by unfold one at e; omega))]; rfl
    have hlt1 : w.heap.size < w1.heap.size := lt_of_heap hA1
    replace hrd := hid hrd
    clear hb hA hA1 hkk2
    go_wp2_with fail
    go_region_with (first | (go_at_call 27; refine (readText_eq b st _ ?_ ?_ _ _ hg.out).mono ?_; exact h1; omega; rintro e w2 ⟨rfl, h2, hf⟩; have hcy := hrd.out w2 hf))
    all_goals
      go_wp2
      go_ret
      exact ⟨rfl, h2, hfr1.trans hf⟩
  · have hkk2 := hkk.out
    rw [hk] at hkk2
    replace hkk2 := hid hkk2
    clear hkk hk
    have hlen : t.texts.length ≤ st.1.length := by have h9 := many_le stText st; have h8 : stMany stText st = (t.texts, st') := hg; rw [h8] at h9; exact h9
    replace hg := hid hg
    go_enter Try.func43, Try.ntmps43
    go_wp2_with fail
    refine hkk2.out.mono ?_
    rintro e w1 ⟨rfl, hb⟩
    have h1 : Rd 59 b st w1 := below_keep hb (heap_alloc_lt h) (lt_of_heap (heap_alloc_lt h))
    have hA := heap_alloc_new' w (.cells #[iv t.kind, iv t.n, sv t.text, vt, vn] 47)
    have hA1 := below_keep hb hA (lt_of_heap hA)
    have hcx : w1.cell? ⟨w.heap.size, 3, none⟩ = some (vt) := by rw [cell_of hA1]; rfl
    have hfr1 : Fr (one b) w w1.drew := (((Fr.refl _ _).alloc _).trans (Fr.of_below hb _)).drew
    have hrd : ∀ (w2 : World), Fr (one b) w1.drew w2 → w2.cell? ⟨w.heap.size, 3, none⟩ = some (vt) := fun w2 hf => by
      rw [cell_of (hf.keep (w := w1.drew) hA1 (fun e => by unfold one at e; omega))]; rfl
    have hlt1 : w.heap.size < w1.heap.size := lt_of_heap hA1
    replace hrd := hid hrd
    clear hb hA hA1 hkk2
    go_wp2_with fail
    go_region_with (first | (go_at_call 30; refine (readList_eq b st _ ?_ ?_ _ _ hg.out).mono ?_; exact h1; omega; rintro e w2 ⟨va, rfl, ho, h2, hf⟩; have hcy := hrd.out w2 hf; have hro := hid (Row.of_owns ho); have hrv := hid ((hvt.kept (w' := w2) (fun q hq => (hfr1.trans hf).block q (by omega) (fun e => by unfold one at e; omega))).mono (show B ≤ w2.heap.size by have := hf.size; have := hfr1.size; omega)); clear ho) | (go_at_call 29; refine (sameTexts t.texts t.texts va vt _ ?_ ?_ ?_).mono ?_; (have h9 := hro.out; rw [List.length_map] at h9; exact h9); exact hrv.out; (have h8 := hlen; omega); rw [show decide (t.texts = t.texts) = true by simp]; rintro e w3 ⟨rfl, hb3⟩))
    all_goals
      go_wp2
      go_ret
      exact ⟨rfl, below_keep hb3 h2 (lt_of_heap h2), (hfr1.trans hf).trans (Fr.of_below hb3 _)⟩
  · have hkk2 := hkk.out
    rw [hk] at hkk2
    replace hkk2 := hid hkk2
    clear hkk hk
    have hlen : t.nums.length ≤ st.1.length := by have h9 := many_le stInt st; have h8 : stMany stInt st = (t.nums, st') := hg; rw [h8] at h9; exact h9
    replace hg := hid hg
    go_enter Try.func43, Try.ntmps43
    go_wp2_with fail
    refine hkk2.out.mono ?_
    rintro e w1 ⟨rfl, hb⟩
    have h1 : Rd 59 b st w1 := below_keep hb (heap_alloc_lt h) (lt_of_heap (heap_alloc_lt h))
    have hA := heap_alloc_new' w (.cells #[iv t.kind, iv t.n, sv t.text, vt, vn] 47)
    have hA1 := below_keep hb hA (lt_of_heap hA)
    have hcx : w1.cell? ⟨w.heap.size, 4, none⟩ = some (vn) := by rw [cell_of hA1]; rfl
    have hfr1 : Fr (one b) w w1.drew := (((Fr.refl _ _).alloc _).trans (Fr.of_below hb _)).drew
    have hrd : ∀ (w2 : World), Fr (one b) w1.drew w2 → w2.cell? ⟨w.heap.size, 4, none⟩ = some (vn) := fun w2 hf => by
      rw [cell_of (hf.keep (w := w1.drew) hA1 (fun e => by unfold one at e; omega))]; rfl
    have hlt1 : w.heap.size < w1.heap.size := lt_of_heap hA1
    replace hrd := hid hrd
    clear hb hA hA1 hkk2
    go_wp2_with fail
    go_region_with (first | (go_at_call 33; refine (readNums_eq b st _ ?_ ?_ _ _ hg.out).mono ?_; exact h1; omega; rintro e w2 ⟨va, rfl, ho, h2, hf⟩; have hcy := hrd.out w2 hf; have hro := hid (Row.of_owns ho); have hrv := hid ((hvn.kept (w' := w2) (fun q hq => (hfr1.trans hf).block q (by omega) (fun e => by unfold one at e; omega))).mono (show B ≤ w2.heap.size by have := hf.size; have := hfr1.size; omega)); clear ho) | (go_at_call 32; refine (sameInts t.nums t.nums va vn _ ?_ ?_ ?_).mono ?_; (have h9 := hro.out; rw [List.length_map] at h9; exact h9); exact hrv.out; (have h8 := hlen; omega); rw [show decide (t.nums = t.nums) = true by simp]; rintro e w3 ⟨rfl, hb3⟩))
    all_goals
      go_wp2
      go_ret
      exact ⟨rfl, below_keep hb3 h2 (lt_of_heap h2), (hfr1.trans hf).trans (Fr.of_below hb3 _)⟩
end Go.Proofs.Ytmlcnmpfjallkaa
