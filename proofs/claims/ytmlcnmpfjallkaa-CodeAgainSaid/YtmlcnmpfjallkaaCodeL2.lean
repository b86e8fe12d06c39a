/- Chapter 02 (code): the laws CodeWrites and CodeReads. -/
import Derived.Test.YtmlcnmpfjallkaaCodeL1
set_option linter.unusedVariables false
namespace Go.Proofs.Ytmlcnmpfjallkaa
open Go.RowKit
open Go.Lib (hid IsBuilder byteCells)

theorem few_iff (ss : List (List UInt8)) : fewB ss = true ↔ ss.length ≤ 100 ∧ sumT ss 200 ≤ 10000 := by simp [fewB]
theorem sum_mem (ss : List (List UInt8)) (x : List UInt8) (h : x ∈ ss) : x.length ≤ (ss.map List.length).sum := by
  induction ss with
  | nil => cases h
  | cons y r ih =>
    rcases List.mem_cons.1 h with rfl | h
    · simp
    · have := ih h; simp only [List.map_cons, List.sum_cons]; omega
theorem few_all (ss : List (List UInt8)) (h : fewB ss = true) : ss.length ≤ 100 ∧ (ss.map List.length).sum ≤ 10000 ∧ ∀ x ∈ ss, x.length ≤ 10000 := by
  rw [few_iff] at h
  have e : sumT ss 200 = (ss.map List.length).sum := by unfold sumT; rw [List.take_of_length_le (by omega)]
  rw [e] at h
  exact ⟨h.1, h.2, fun x hx => Nat.le_trans (sum_mem ss x hx) h.2⟩
theorem tenc_flat (ss : List (List UInt8)) (h : ∀ x ∈ ss, x.length ≤ 9000000000) : ((ss.map tenc).flatten).length ≤ 9 * ss.length + (ss.map List.length).sum := by
  induction ss with
  | nil => simp
  | cons y r ih =>
    have h1 := ih (fun x hx => h x (List.mem_cons_of_mem _ hx))
    have h2 := (venc_bound y.length (by have := h y (by simp); omega)).2
    simp only [List.map_cons, List.flatten_cons, List.length_append, List.length_cons, List.sum_cons, tenc]
    omega
theorem lenc_few (ss : List (List UInt8)) (h : fewB ss = true) : (lenc ss).length ≤ 1000000000 := by
  obtain ⟨h1, h2, h3⟩ := few_all ss h
  have h4 := tenc_flat ss (fun x hx => by have := h3 x hx; omega)
  have h5 := (venc_bound ss.length (by omega)).2
  simp only [lenc, List.length_append]; omega
theorem ienc_flat (ss : List Int) : ((ss.map ienc).flatten).length ≤ 9 * ss.length := by
  induction ss with
  | nil => simp
  | cons y r ih =>
    have := ienc_bound y
    simp only [List.map_cons, List.flatten_cons, List.length_append, List.length_cons]
    omega
theorem msenc_few (ss : List Int) (h : ss.length ≤ 100) : (msenc ss).length ≤ 1000000000 := by
  have h4 := ienc_flat ss
  have h5 := (venc_bound ss.length (by omega)).2
  simp only [msenc, List.length_append]; omega

set_option maxHeartbeats 4000000 in
set_option maxRecDepth 100000 in
theorem CodeWrites_walk (n : Int) (s : List UInt8) (l : List (List UInt8)) (m : List Int) (v u : Value) (w : World) (hn : n ≤ 9223372036854775807) (hs : s.length ≤ 140737488355328) (hl : Row w.heap.size w 1 v l.length (l.map sv)) (hm : Row w.heap.size w 1 u m.length (m.map iv))
    (hll : l.length ≤ 140737488355328) (hlx : ∀ x ∈ l, x.length ≤ 140737488355328) :
    Calls Try.prog 3 #[.int .i64 n, sv s, v, u] w fun e w' => e = .returned (.bool true) ∧ Below w.heap.size w w' := by
  obtain ⟨c, cap, b, o, rfl, h2, h3, h4⟩ := id hm
  replace h4 := hid h4
  have hl' := hid hl; have hm' := hid hm
  clear hl hm
  have hfe : fewB l = true ∨ fewB l = false := by cases fewB l <;> simp
  by_cases hbad : fewB l = true ∧ m.length ≤ 100
  · obtain ⟨hf, hm100⟩ := hbad
    have hA := few_all l hf
    have hlen := lenc_few l hf
    have hms := msenc_few m hm100
    obtain ⟨hA1, hA2, hA3⟩ := hA
    replace hA3 := hid (fun x hx => Nat.le_trans (hA3 x hx) (by decide : 10000 ≤ 1000000000))
    clear hA2 hfe
    replace hlx := hid hlx
    go_enter Try.func3, Try.ntmps3
    go_wp2_with fail
    refine (small_any _).mono ?_
    rintro e w1 ⟨rfl, hB⟩
    go_wp2_with fail
    refine (few_any l v _ ((hl'.out.below hB (Nat.le_refl _)).mono hB.size) hll hlx.out).mono ?_
    rintro e w2 ⟨rfl, hb⟩
    replace hB := hB.trans (hb.mono hB.size); clear hb
    rw [hf]
    go_wp2_with fail
    refine (num_any n _ hn).mono ?_
    rintro e w3 ⟨rfl, hb⟩
    replace hB := hB.trans (hb.mono hB.size); clear hb
    go_wp2_with fail
    refine (rnum_any n _ hn).mono ?_
    rintro e w4 ⟨rfl, hb⟩
    replace hB := hB.trans (hb.mono hB.size); clear hb
    go_wp2_with fail
    refine (int_any n _).mono ?_
    rintro e w5 ⟨rfl, hb⟩
    replace hB := hB.trans (hb.mono hB.size); clear hb
    go_wp2_with fail
    refine (rint_any n _).mono ?_
    rintro e w6 ⟨rfl, hb⟩
    replace hB := hB.trans (hb.mono hB.size); clear hb
    go_wp2_with fail
    refine (text_any s _ hs).mono ?_
    rintro e w7 ⟨rfl, hb⟩
    replace hB := hB.trans (hb.mono hB.size); clear hb
    go_wp2_with fail
    refine (rtext_any s _ hs).mono ?_
    rintro e w8 ⟨rfl, hb⟩
    replace hB := hB.trans (hb.mono hB.size); clear hb
    go_wp2_with fail
    refine (list_any l v _ ((hl'.out.below hB (Nat.le_refl _)).mono hB.size) hlen (by omega) hA3.out).mono ?_
    rintro e w9 ⟨rfl, hb⟩
    replace hB := hB.trans (hb.mono hB.size); clear hb
    go_wp2_with fail
    refine (rlist_any l v _ ((hl'.out.below hB (Nat.le_refl _)).mono hB.size) hlen (by omega) hA3.out).mono ?_
    rintro e w10 ⟨rfl, hb⟩
    replace hB := hB.trans (hb.mono hB.size); clear hb
    go_wp2_with fail
    refine (nums_any m _ _ ((hm'.out.below hB (Nat.le_refl _)).mono hB.size) hms (by omega)).mono ?_
    rintro e w11 ⟨rfl, hb⟩
    replace hB := hB.trans (hb.mono hB.size); clear hb
    go_wp2_with fail
    refine (rnums_any m _ _ ((hm'.out.below hB (Nat.le_refl _)).mono hB.size) hms (by omega)).mono ?_
    rintro e w12 ⟨rfl, hb⟩
    replace hB := hB.trans (hb.mono hB.size); clear hb
    go_wp2
    go_ret
    exact ⟨rfl, hB⟩
  · have hbad' : fewB l = false ∨ (fewB l = true ∧ 100 < m.length) := by
      rcases hfe with h | h
      · exact Or.inr ⟨h, by rw [h] at hbad; simp at hbad; omega⟩
      · exact Or.inl h
    clear hfe hbad
    replace hlx := hid hlx
    rcases hbad' with hf | ⟨hf, hm100⟩
    all_goals
      go_enter Try.func3, Try.ntmps3
      go_wp2_with fail
      refine (small_any _).mono ?_
      rintro e w1 ⟨rfl, hB⟩
      go_wp2_with fail
      refine (few_any l v _ ((hl'.out.below hB (Nat.le_refl _)).mono hB.size) hll hlx.out).mono ?_
      rintro e w2 ⟨rfl, hb⟩
      replace hB := hB.trans (hb.mono hB.size); clear hb
      rw [hf]
      go_wp2
      go_ret
      exact ⟨rfl, hB⟩
end Go.Proofs.Ytmlcnmpfjallkaa
