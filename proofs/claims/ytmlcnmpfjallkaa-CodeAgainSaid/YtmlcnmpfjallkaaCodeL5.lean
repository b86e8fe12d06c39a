/- Chapter 02 (code): the law CodeCut. -/
import Derived.Test.YtmlcnmpfjallkaaCodeL4
import Derived.Test.YtmlcnmpfjallkaaCodeN5
set_option linter.unusedVariables false
namespace Go.Proofs.Ytmlcnmpfjallkaa
open Go.RowKit
open Go.Lib (hid IsBuilder byteCells)

theorem VRow.one {S : Nat → Prop} {w : World} {g cap : Nat} {T : TypeId} {t : CV} {vt vn : Value} (h : w.heap[g]? = some (.cells #[iv t.kind, iv t.n, sv t.text, vt, vn] T (0, 0))) (hs : ¬ S g) (h1 : RowS S w vt (t.texts.map sv)) (h2 : RowS S w vn (t.nums.map iv)) : VRow S w (.slice (some ⟨g, 0, none⟩) 1 cap) [t] := by
  obtain ⟨c0, c1, c2, c3, c4, _⟩ := cells5 h
  refine ⟨_, cap, g, 0, rfl, fun _ => ⟨rfl, lt_of_heap h, hs⟩, fun k t' hk => ?_⟩
  match k, hk with
  | 0, hk =>
    obtain rfl : t = t' := by simpa using hk
    exact ⟨vt, vn, c0, c1, c2, c3, c4, h1, h2⟩
  | k + 1, hk => simp at hk
theorem encAll_one (t : CV) : encAll [t] 1 = encCV t := by simp [encAll]
theorem all_one {t : CV} {Q : CV → Prop} (h : Q t) : ∀ x ∈ [t], Q x := fun x hx => by
  obtain rfl : x = t := by simpa using hx
  exact h
abbrev NoS : Nat → Prop := fun _ => False
theorem RowS.tob {w w' : World} {v : Value} {cs : List Value} (h : RowS NoS w v cs) (hf : Below w.heap.size w w') : RowS NoS w' v cs := h.fr (Fr.of_below hf (fun _ => False)) (fun _ e => e.elim)
theorem alloc_below (w : World) (o : Obj) : Below w.heap.size w (w.alloc o) := (Below.refl _ _).alloc (Nat.le_refl _) _

set_option maxHeartbeats 8000000 in
set_option maxRecDepth 100000 in
theorem CodeCut_walk (t : CV) (many : Int) (vt vn : Value) (w : World) (hvt : RowS NoS w vt (t.texts.map sv)) (hvn : RowS NoS w vn (t.nums.map iv)) (hs : Small t) (hm : -9223372036854775808 ≤ many ∧ many ≤ 9223372036854775807) :
    Calls Try.prog 7 #[agv t vt vn, iv many] w fun e w' => e = .returned (.bool true) ∧ Below w.heap.size w w' := by
  have henc := hs.enc
  have e1 := hid (encAll_one t)
  have hE := hid (fun v w (hv : VRow NoS w v [t]) => encoded_any NoS [t] v w hv (all_one hs) (by simp))
  have hV := hid (fun v w (hv : VRow NoS w v [t]) => valid_any NoS [t] v w hv (all_one hs.kind) (by simp) (all_one (by have h1 := hs.texts; exact ⟨by omega, fun y hy => by have := hs.each y hy; omega⟩)) (all_one (by have h1 := hs.nums; have h2 := hs.text; exact ⟨by omega, by omega⟩)))
  obtain ⟨va, na, ca, rfl⟩ := hvt.slice
  obtain ⟨vb, nb, cb, rfl⟩ := hvn.slice
  have hT := hid hvt
  have hN := hid hvn
  clear hvt hvn
  have hA := heap_alloc_new' w (.cells #[iv t.kind, iv t.n, sv t.text, .slice va na ca, .slice vb nb cb] 47)
  go_enter Try.func7, Try.ntmps7
  go_wp2_with fail
  refine (small_any _).mono ?_
  rintro e w1 ⟨rfl, hb⟩
  have hA1 := below_keep hb hA (lt_of_heap hA)
  have hB : Below w.heap.size w w1 := (alloc_below w _).trans (hb.mono (by simp))
  have hlt1 : w.heap.size < w1.heap.size := lt_of_heap hA1
  clear hb hA
  obtain ⟨c0, c1, c2, c3, c4, _⟩ := cells5 hA1
  go_wp2_with fail
  refine (hE.out _ _ (VRow.one (heap_alloc_new' _ _) (fun e => e) ((hT.out.tob hB).tob (alloc_below _ _)) ((hN.out.tob hB).tob (alloc_below _ _)))).mono ?_
  rintro e w2 ⟨rfl, hb⟩
  have hA2 := below_keep hb (heap_alloc_lt hA1) (by simp; omega)
  replace hB := (hB.trans ((alloc_below w1 _).mono hB.size)).trans (hb.mono (Nat.le_trans hB.size (by simp)))
  clear hb hA1 c0 c1 c2 c3 c4
  have hlt2 : w.heap.size < w2.heap.size := lt_of_heap hA2
  obtain ⟨c0, c1, c2, c3, c4, _⟩ := cells5 hA2
  rw [show [t].length = 1 from rfl, e1.out]
  go_wp2_with fail
  refine (hV.out _ _ (VRow.one (heap_alloc_new' _ _) (fun e => e) ((hT.out.tob hB).tob (alloc_below _ _)) ((hN.out.tob hB).tob (alloc_below _ _)))).mono ?_
  rintro e w3 ⟨rfl, hb⟩
  have hA3 := below_keep hb (heap_alloc_lt hA2) (by simp; omega)
  replace hB := (hB.trans ((alloc_below w2 _).mono hB.size)).trans (hb.mono (Nat.le_trans hB.size (by simp)))
  clear hb hA2 c0 c1 c2 c3 c4
  have hlt3 : w.heap.size < w3.heap.size := lt_of_heap hA3
  obtain ⟨c0, c1, c2, c3, c4, _⟩ := cells5 hA3
  cases hvb : validB [t] with
  | false =>
    go_wp2
    go_ret
    exact ⟨rfl, hB⟩
  | true =>
    by_cases hm0 : many < 0
    · have hd : decide (many < 0) = true := by simpa using hm0
      go_wp2
      go_ret
      exact ⟨rfl, hB⟩
    · have hd : decide (many < 0) = false := by simpa using hm0
      obtain ⟨m, rfl⟩ : ∃ m : Nat, many = m := ⟨many.toNat, by omega⟩
      by_cases hml : (encCV t).length ≤ m
      · have hd2 : decide (((encCV t).length : Int) ≤ (m : Int)) = true := by simp; omega
        go_wp2
        go_ret
        exact ⟨rfl, hB⟩
      · have hd2 : decide (((encCV t).length : Int) ≤ (m : Int)) = false := by simp; omega
        have hcut : (readCV t ((encCV t).take m, false)).2 = failed := by
          have hok : okCV t = true := by
            unfold validB at hvb
            simp only [Bool.and_eq_true, List.all_eq_true, decide_eq_true_eq] at hvb
            exact hvb.1 t (by simp)
          exact cut_fails t (okCV_range t hok hs.n.2) _ ((encCV t).drop m) (List.take_append_drop _ _) (fun e => by have := congrArg List.length e; simp at this; omega) (by simp; omega)
        have hpl : ((encCV t).take m).length ≤ 1000000000 := by simp; omega
        have hex := ext_take (encCV t) m
        go_wp2_with fail
        refine (open_any _ _).mono ?_
        rintro e w4 ⟨rfl, hrd, hb, hz⟩
        have hA4 := below_keep hb hA3 hlt3
        have hne : w3.heap.size ≠ w.heap.size := by omega
        have hB3 := hB
        replace hB := hB.trans (hb.mono hB.size)
        clear hb hA3 c0 c1 c2 c3 c4
        have hlt4 : w.heap.size < w4.heap.size := lt_of_heap hA4
        obtain ⟨c0, c1, c2, c3, c4, _⟩ := cells5 hA4
        have hrT := hid ((((hT.out.weaken (T := one w3.heap.size) (fun k hk e => by have := hB3.size; unfold one at e; omega)).fr (Fr.of_below hB (fun _ => False)) (fun _ e => e.elim))))
        have hrN := hid ((((hN.out.weaken (T := one w3.heap.size) (fun k hk e => by have := hB3.size; unfold one at e; omega)).fr (Fr.of_below hB (fun _ => False)) (fun _ e => e.elim))))
        have hbs := hB3.size
        clear hT hN hz
        generalize w3.heap.size = b at *
        go_wp2_with fail
        refine (read_any b t _ _ _ _ hrd hpl hs.kind hrT.out hrN.out).mono ?_
        rintro e w5 ⟨vt', vn', rfl, _, _, hrd5, hf⟩
        rw [hcut] at hrd5
        replace hB := hB.trans (hf.one_below hB.size hbs); clear hf
        go_wp2_with fail
        refine (readNum_eq b _ _ hrd5 0 failed rfl).mono ?_
        rintro e w6 ⟨rfl, hrd6, hf⟩
        replace hB := hB.trans (hf.one_below hB.size hbs); clear hf
        go_wp2_with fail
        refine (done_any b _ _ hrd6).mono ?_
        rintro e w7 ⟨rfl, hrd7, hf⟩
        replace hB := hB.trans (hf.one_below hB.size hbs); clear hf
        rw [show doneB failed = false from rfl]
        go_wp2_with fail
        refine (left_any b _ _ hrd7).mono ?_
        rintro e w8 ⟨rfl, hrd8, hf⟩
        replace hB := hB.trans (hf.one_below hB.size hbs); clear hf
        rw [show failed.1.length = 0 from rfl]
        go_wp2
        go_ret
        exact ⟨rfl, hB⟩
end Go.Proofs.Ytmlcnmpfjallkaa
