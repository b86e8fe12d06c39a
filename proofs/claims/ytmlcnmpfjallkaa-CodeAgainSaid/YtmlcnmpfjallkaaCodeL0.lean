/- Chapter 02 (code): the law's small example holds. -/
import Derived.Test.YtmlcnmpfjallkaaCodeW11
import Derived.Test.YtmlcnmpfjallkaaCodeW12
set_option linter.unusedVariables false
namespace Go.Proofs.Ytmlcnmpfjallkaa
open Go.RowKit
open Go.Lib (hid IsBuilder byteCells)

theorem row_new (w : World) (cs : List Value) (t : TypeId) : Row (w.alloc (.cells cs.toArray t)).heap.size (w.alloc (.cells cs.toArray t)) 1 (.slice (some ⟨w.heap.size, 0, none⟩) cs.length cs.length) cs.length cs :=
  ⟨_, _, w.heap.size, 0, rfl, by simp, fun _ => ⟨rfl, by simp⟩, fun j hj => by rw [Nat.zero_add, cell_of (heap_alloc_new' _ _)]; simp [hj]⟩

theorem Fr.one_below {b B : Nat} {w w' : World} (h : Fr (one b) w w') (hB : B ≤ w.heap.size) (hb : B ≤ b) : Below B w w' := h.to_below hB (fun k hk e => by unfold one at e; omega)

theorem readNum_eq (b : Nat) (st : St) (w : World) (h : Rd 59 b st w) (n : Nat) (st' : St) (e : stNum st = (n, st')) : Calls Try.prog 23 #[.pointer (some ⟨b, 0, none⟩)] w (RdPost 59 b w (.int .i64 n) st') := by
  have := readNum b st w h; rw [e] at this; exact this
theorem readInt_eq (b : Nat) (st : St) (w : World) (h : Rd 59 b st w) (hs : st.1.length ≤ 140737488355328) (n : Int) (st' : St) (e : stInt st = (n, st')) : Calls Try.prog 25 #[.pointer (some ⟨b, 0, none⟩)] w (RdPost 59 b w (.int .i64 n) st') := by
  have := readInt b st w h hs; rw [e] at this; exact this
theorem readText_eq (b : Nat) (st : St) (w : World) (h : Rd 59 b st w) (hs : st.1.length ≤ 140737488355328) (n : List UInt8) (st' : St) (e : stText st = (n, st')) : Calls Try.prog 27 #[.pointer (some ⟨b, 0, none⟩)] w (RdPost 59 b w (sv n) st') := by
  have := readText b st w h hs; rw [e] at this; exact this
theorem readTake_eq (b : Nat) (st : St) (k : Int) (w : World) (h : Rd 59 b st w) (hs : st.1.length ≤ 140737488355328) (n : List UInt8) (st' : St) (e : stTake k st = (n, st')) : Calls Try.prog 35 #[.pointer (some ⟨b, 0, none⟩), .int .i64 k] w (RdPost 59 b w (sv n) st') := by
  have := take_any b st k w h hs; rw [e] at this; exact this
theorem readList_eq (b : Nat) (st : St) (w : World) (h : Rd 59 b st w) (hs : st.1.length ≤ 1000000000) (n : List (List UInt8)) (st' : St) (e : stList st = (n, st')) : Calls Try.prog 30 #[.pointer (some ⟨b, 0, none⟩)] w (RdRow 59 9 b w (n.map sv) st') := by
  have := readList b st w h hs; rw [e] at this; exact this
theorem readNums_eq (b : Nat) (st : St) (w : World) (h : Rd 59 b st w) (hs : st.1.length ≤ 1000000000) (n : List Int) (st' : St) (e : stNums st = (n, st')) : Calls Try.prog 33 #[.pointer (some ⟨b, 0, none⟩)] w (RdRow 59 3 b w (n.map iv) st') := by
  have := readNums b st w h hs; rw [e] at this; exact this
/-- an owned row stays one while a Reader below it is written -/
theorem owns_keep {w w' : World} {S : Nat → Prop} {base : Nat} {e : TypeId} {sz : Nat} {v : Value} {n : Nat} {xs : List Value} (h : w.ownsRow base e sz v n xs) (hf : Fr S w w') (hs : ∀ k, base ≤ k → ¬ S k) : w'.ownsRow base e sz v n xs := by
  obtain ⟨h1, h2⟩ := h
  refine ⟨h1, ?_⟩
  rcases h2 with h2 | ⟨g, cap, cur, hv, hb, hg, rest⟩
  · exact Or.inl h2
  · exact Or.inr ⟨g, cap, cur, hv, hb, hf.keep hg (hs g hb), rest⟩

def exT : List UInt8 := [0xac, 0x02, 0x02, 0x61, 0x62, 0x02, 0x00, 0x01, 0x63, 0x02, 0x0e, 0x7f, 0x03, 0x7a]
set_option maxHeartbeats 4000000 in
set_option maxRecDepth 100000 in
theorem small_any (w : World) : Calls Try.prog 9 #[] w fun e w' => e = .returned (.bool true) ∧ Below w.heap.size w w' := by
  go_enter Try.func9, Try.ntmps9
  go_wp2_with fail
  refine (num_pos 300 _ (by omega) (by omega)).mono ?_
  rintro e w1 ⟨rfl, hB⟩
  rw [show venc (300 : Int).toNat = [0xac, 0x02] by decide]
  go_wp2_with fail
  refine (text_any [97, 98] _ (by decide)).mono ?_
  rintro e w2 ⟨rfl, hb⟩
  replace hB := hB.trans (hb.mono hB.size); clear hb
  rw [show tenc [97, 98] = [0x02, 0x61, 0x62] by decide]
  go_wp2_with fail
  refine (list_any [[], [99]] _ _ (row_new _ _ _) (by decide) (by decide) (by decide)).mono ?_
  rintro e w3 ⟨rfl, hb⟩
  replace hB := (hB.alloc hB.size _).trans (hb.mono (by have := hB.size; simp; omega)); clear hb
  rw [show lenc [[], [99]] = [0x02, 0x00, 0x01, 0x63] by decide]
  go_wp2_with fail
  refine (nums_any [7, -64] _ _ (row_new _ _ _) (by decide) (by decide)).mono ?_
  rintro e w4 ⟨rfl, hb⟩
  replace hB := (hB.alloc hB.size _).trans (hb.mono (by have := hB.size; simp; omega)); clear hb
  rw [show msenc [7, -64] = [0x02, 0x0e, 0x7f] by decide]
  go_wp2_with fail
  refine (int_any (-2) _).mono ?_
  rintro e w5 ⟨rfl, hb⟩
  replace hB := hB.trans (hb.mono hB.size); clear hb
  rw [show ienc (-2) = [0x03] by decide]
  go_wp2_with fail
  simp only [ByteArray.mk_append_mk, List.cons_append, List.nil_append]
  have hb5 : w.heap.size ≤ w5.heap.size := hB.size
  refine (open_any exT _).mono ?_
  rintro e w6 ⟨rfl, hr, hb, hs6⟩
  replace hB := hB.trans (hb.mono hB.size); clear hb
  generalize w5.heap.size = b1 at *
  go_wp2_with fail
  refine (open_any [128, 0] _).mono ?_
  rintro e w7 ⟨rfl, hq, hb, hs7⟩
  have hr7 : Rd 59 b1 (exT, false) w7 := below_keep hb hr (by omega)
  replace hB := hB.trans (hb.mono hB.size); clear hb hr
  generalize hb2 : w6.heap.size = b2 at *
  have hne : ¬ one b1 b2 := by unfold one; omega
  have hne' : ¬ one b2 b1 := by unfold one; omega
  have hb6 : w.heap.size ≤ b2 := by omega
  replace hb2 := hid hb2; replace hs6 := hid hs6; replace hs7 := hid hs7
  go_wp2_with fail
  refine (readNum_eq b1 _ _ hr7 300 ([0x02, 0x61, 0x62, 0x02, 0x00, 0x01, 0x63, 0x02, 0x0e, 0x7f, 0x03, 0x7a], false) (by decide)).mono ?_
  rintro e w8 ⟨rfl, hr8, hf⟩
  replace hq := hq.fr hf hne
  replace hB := hB.trans (hf.one_below hB.size hb5); clear hf hr7
  go_wp2_with fail
  refine (readText_eq b1 _ _ hr8 (by decide) [0x61, 0x62] ([0x02, 0x00, 0x01, 0x63, 0x02, 0x0e, 0x7f, 0x03, 0x7a], false) (by decide)).mono ?_
  rintro e w9 ⟨rfl, hr9, hf⟩
  replace hq := hq.fr hf hne
  replace hB := hB.trans (hf.one_below hB.size hb5); clear hf hr8
  go_wp2_with fail
  refine (readList_eq b1 _ _ hr9 (by decide) [[], [0x63]] ([0x02, 0x0e, 0x7f, 0x03, 0x7a], false) (by decide)).mono ?_
  rintro e w10 ⟨v1, rfl, ho1, hr10, hf⟩
  have hlt1 : b1 < w9.heap.size := lt_of_heap hr9
  have hlt2 : b2 < w9.heap.size := lt_of_heap hq
  replace ho1 := hid ho1
  replace hq := hq.fr hf hne
  replace hB := hB.trans (hf.one_below hB.size hb5); clear hf
  go_wp2_with fail
  refine (readNums_eq b1 _ _ hr10 (by decide) [7, -64] ([0x03, 0x7a], false) (by decide)).mono ?_
  rintro e w11 ⟨v2, rfl, ho2, hr11, hf⟩
  have hlt3 : b1 < w10.heap.size := lt_of_heap hr10
  have hlt4 : b2 < w10.heap.size := lt_of_heap hq
  replace ho1 := hid (owns_keep ho1.out hf (fun k hk e => by unfold one at e; omega))
  replace ho2 := hid ho2
  replace hq := hq.fr hf hne
  replace hB := hB.trans (hf.one_below hB.size hb5); clear hf
  go_wp2_with fail
  refine (readInt_eq b1 _ _ hr11 (by decide) (-2) ([0x7a], false) (by decide)).mono ?_
  rintro e w12 ⟨rfl, hr12, hf⟩
  replace ho1 := hid (owns_keep ho1.out hf (fun k hk e => by unfold one at e; omega))
  replace ho2 := hid (owns_keep ho2.out hf (fun k hk e => by unfold one at e; omega))
  replace hq := hq.fr hf hne
  replace hB := hB.trans (hf.one_below hB.size hb5); clear hf
  go_wp2_with fail
  refine (left_any b1 _ _ hr12).mono ?_
  rintro e w13 ⟨rfl, hr13, hf⟩
  replace ho1 := hid (owns_keep ho1.out hf (fun k hk e => by unfold one at e; omega))
  replace ho2 := hid (owns_keep ho2.out hf (fun k hk e => by unfold one at e; omega))
  replace hq := hq.fr hf hne
  replace hB := hB.trans (hf.one_below hB.size hb5); clear hf
  go_wp2_with fail
  refine (done_any b1 _ _ hr13).mono ?_
  rintro e w14 ⟨rfl, hr14, hf⟩
  rw [show doneB ([0x7a], false) = false by decide]
  replace ho1 := hid (owns_keep ho1.out hf (fun k hk e => by unfold one at e; omega))
  replace ho2 := hid (owns_keep ho2.out hf (fun k hk e => by unfold one at e; omega))
  replace hq := hq.fr hf hne
  replace hB := hB.trans (hf.one_below hB.size hb5); clear hf
  go_wp2_with fail
  refine (readTake_eq b1 _ 1 _ hr14 (by decide) [0x7a] ([], false) (by decide)).mono ?_
  rintro e w15 ⟨rfl, hr15, hf⟩
  replace ho1 := hid (owns_keep ho1.out hf (fun k hk e => by unfold one at e; omega))
  replace ho2 := hid (owns_keep ho2.out hf (fun k hk e => by unfold one at e; omega))
  replace hq := hq.fr hf hne
  replace hB := hB.trans (hf.one_below hB.size hb5); clear hf
  go_wp2_with fail
  refine (readNum_eq b2 _ _ hq 0 ([], true) (by decide)).mono ?_
  rintro e w16 ⟨rfl, hq16, hf⟩
  replace ho1 := hid (owns_keep ho1.out hf (fun k hk e => by unfold one at e; omega))
  replace ho2 := hid (owns_keep ho2.out hf (fun k hk e => by unfold one at e; omega))
  replace hr15 := hr15.fr hf hne'
  replace hB := hB.trans (hf.one_below hB.size hb6); clear hf
  go_wp2_with fail
  refine (sameTexts [[], [99]] [[], [99]] _ _ _ (((Row.of_owns ho1.out).kept (fun k hk => Below.heap_alloc _ _ _ hk)).mono (by simp)) (row_new _ _ _) (by decide)).mono ?_
  rintro e w17 ⟨rfl, hb⟩
  rw [show decide (([[], [99]] : List (List UInt8)) = [[], [99]]) = true by decide]
  replace ho2 := hid (owns_keep (ho2.out.alloc _) (Fr.of_below hb (fun _ => False)) (fun k hk e => e))
  replace hr15 := below_keep hb (heap_alloc_lt hr15) (lt_of_heap (heap_alloc_lt hr15))
  replace hq16 := below_keep hb (heap_alloc_lt hq16) (lt_of_heap (heap_alloc_lt hq16))
  replace hB := (hB.alloc hB.size _).trans (hb.mono (by have := hB.size; simp; omega)); clear hb ho1
  go_wp2_with fail
  refine (sameInts [7, -64] [7, -64] _ _ _ (((Row.of_owns ho2.out).kept (fun k hk => Below.heap_alloc _ _ _ hk)).mono (by simp)) (row_new _ _ _) (by decide)).mono ?_
  rintro e w18 ⟨rfl, hb⟩
  rw [show decide (([7, -64] : List Int) = [7, -64]) = true by decide]
  replace hr15 := below_keep hb (heap_alloc_lt hr15) (lt_of_heap (heap_alloc_lt hr15))
  replace hq16 := below_keep hb (heap_alloc_lt hq16) (lt_of_heap (heap_alloc_lt hq16))
  replace hB := (hB.alloc hB.size _).trans (hb.mono (by have := hB.size; simp; omega)); clear hb ho2
  go_wp2_with fail
  refine (done_any b1 ([], false) _ hr15).mono ?_
  rintro e w19 ⟨rfl, hr19, hf⟩
  rw [show doneB ([], false) = true by decide]
  replace hq16 := Rd.fr (T := 59) (st := ([], true)) hq16 hf hne
  replace hB := hB.trans (hf.one_below hB.size hb5); clear hf
  go_wp2_with fail
  refine (done_any b2 ([], true) _ hq16).mono ?_
  rintro e w20 ⟨rfl, hr20, hf⟩
  rw [show doneB ([], true) = false by decide]
  replace hB := hB.trans (hf.one_below hB.size hb6); clear hf
  go_wp2_with fail
  refine (left_any b2 ([], true) _ hr20).mono ?_
  rintro e w21 ⟨rfl, hr21, hf⟩
  replace hB := hB.trans (hf.one_below hB.size hb6); clear hf
  go_wp2_with fail
  refine (num_neg (-1) _ (by decide)).mono ?_
  rintro e w22 ⟨rfl, hb⟩
  replace hB := hB.trans (hb.mono hB.size); clear hb
  go_wp2_with fail
  refine (int_any 1152921504606846977 _).mono ?_
  rintro e w23 ⟨rfl, hb⟩
  rw [show ienc 1152921504606846977 = [] by decide]
  replace hB := hB.trans (hb.mono hB.size); clear hb
  go_wp2_with fail
  go_ret
  exact ⟨rfl, hB⟩
end Go.Proofs.Ytmlcnmpfjallkaa
