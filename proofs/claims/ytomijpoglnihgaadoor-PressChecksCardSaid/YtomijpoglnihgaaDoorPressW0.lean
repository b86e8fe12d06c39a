/- The walks of package code that press reaches. -/
import Derived.Test.YtomijpoglnihgaaDoorChecked
import Derived.Test.YtomijpoglnihgaaDoorPressC
import Derived.Test.YtomijpoglnihgaaDoorRel
import Derived.Test.YtomijpoglnihgaaDoorBuilder
set_option linter.unusedVariables false
namespace Go.Proofs.YtomijpoglnihgaaDoor
open Go.RowKit
open Go.Lib (hid IsBuilder byteCells)

theorem conv_buf (w : World) (pre : List UInt8) (c : UInt8) : (convert 36 9 (.slice (some ⟨w.heap.size, 0, none⟩) (pre.length + 1) 9)).run Tryd.prog (w.alloc (.cells (bufOf (pre ++ [c])) 63)) = .ok (.string ⟨(pre ++ [c]).toArray⟩) (w.alloc (.cells (bufOf (pre ++ [c])) 63)) := by
  have e : pre.length + 1 = (pre ++ [c]).length := by simp
  rw [e]
  refine run_convert_bytes_back (P := Tryd.prog) _ 36 9 5 _ 9 _ (by kernel_rfl) (by kernel_rfl) (by kernel_rfl) ?_
  intro j hj
  have e2 : (⟨w.heap.size, 0, none⟩ : Addr).add j = ⟨w.heap.size, j, none⟩ := by
    simp only [Addr.add, Nat.zero_add]; split <;> simp_all
  rw [e2, World.cell?_alloc_at _ _ _ _ rfl]
  simp only [bufOf, List.getElem?_toArray, List.getElem?_append, List.length_map, hj, if_true, List.getElem?_map, List.getElem?_eq_getElem hj]
  rfl
set_option maxHeartbeats 400000 in
set_option maxRecDepth 100000 in
theorem num_pos (n : Int) (w : World) (h0 : 0 ≤ n) (h1 : n ≤ 9223372036854775807) :
    Calls Tryd.prog 12 #[.int .i64 n] w fun e w' => e = .returned (.string ⟨(venc n.toNat).toArray⟩) ∧ Below w.heap.size w w' := by
  have hd : decide (n < 0) = false := by simp; omega
  have hal : Tryd.prog.arrayLen 63 = 9 := by kernel_rfl
  go_enter Tryd.func12, Tryd.ntmps12
  go_wp2
  go_loopw [0, 4] (fun m i wr => ∃ (q : Int) (pre : List UInt8), wr = w.alloc (.cells (bufOf pre) 63) ∧ m = .int .i64 q ∧ i = .int .i64 (pre.length : Int) ∧ 0 ≤ q ∧ q ≤ 9223372036854775807 ∧ pre.length ≤ 8 ∧ venc n.toNat = pre ++ vencF (9 - pre.length) q.toNat ∧ q < 128 ^ (9 - pre.length)) (fun _ i _ => 9 - (intOf i).toNat)
  case atStart => exact ⟨n, [], rfl, rfl, rfl, by omega, by omega, by simp, rfl, by simp; omega⟩
  case round =>
    obtain ⟨q, pre, rfl, rfl, rfl, h0, h1, h2, h3, h4⟩ := hrel
    have H3 := Go.Lib.hid h3; clear h3
    have H4 := Go.Lib.hid h4; clear h4
    have hat := buf_at pre h2
    have h8 : ¬ q < 128 → pre.length ≤ 7 := fun hq => by
      have := H4.out
      rcases Nat.lt_or_ge pre.length 8 with h | h
      · omega
      · have e : pre.length = 8 := by omega
        rw [e] at this; simp at this; omega
    by_cases hq : q < 128
    · clear h8
      obtain ⟨c, hc⟩ : ∃ c : UInt8, q = c.toNat := ⟨UInt8.ofNat q.toNat, by simp; omega⟩
      have hset := buf_set pre h2 q c hc
      have hsl : ∀ W, (Instr.sliceAt 63 (.pointer (some ⟨w.heap.size, 0, none⟩)) none (some (.int .i64 ((pre.length : Int) + 1))) none).run Tryd.prog W = .ok (.slice (some ⟨w.heap.size, 0, none⟩) (pre.length + 1) 9) W := by
        intro W
        rw [run_sliceAt_array_h W 63 ⟨w.heap.size, 0, none⟩ (by kernel_rfl) .i64 ((pre.length : Int) + 1) (by omega) (by rw [hal]; omega)]
        have hz : (sizeOf (Tryd.prog.elem 63)).run Tryd.prog W = .ok 1 W := by kernel_rfl
        rw [hz, hal]
        simp [Result.andThen, slicedAt, Addr.add]
      have hcv := conv_buf w pre c
      have hv : venc n.toNat = pre ++ [c] := by
        rw [H3.out]
        obtain ⟨m, hm⟩ : ∃ m, 9 - pre.length = m + 1 := ⟨8 - pre.length, by omega⟩
        rw [hm, vencF, if_pos (by omega)]
        subst hc; simp
      have Hv := hid hv; have Hc := hid hc
      clear hv hc H3 H4
      go_wp2
      go_ret
      refine ⟨?_, (Below.refl _ _).alloc (Nat.le_refl _) _⟩
      rw [Hv.out]; rfl
    · have h7 := h8 hq
      clear h8
      obtain ⟨c, hc⟩ : ∃ c : UInt8, bits BinOp.or IntKind.i64 (bits BinOp.and IntKind.i64 q 127) 128 % 256 = c.toNat ∧ c = UInt8.ofNat (q.toNat % 128 + 128) :=
        ⟨UInt8.ofNat (q.toNat % 128 + 128), by rw [and127_or128 q h0 (by omega)]; simp; omega, rfl⟩
      have hset := buf_set pre h2 _ c hc.1
      have Hc := hid hc.2
      clear hc
      go_wp2
      refine ⟨⟨q / 128, pre ++ [c], rfl, rfl, by simp, by omega, by omega, by simp; omega, ?_, ?_⟩, by simp [intOf]; omega⟩
      · rw [H3.out]
        obtain ⟨m, hm⟩ : ∃ m, 9 - pre.length = m + 1 := ⟨8 - pre.length, by omega⟩
        have hm2 : 9 - (pre ++ [c]).length = m := by simp; omega
        rw [hm, hm2, vencF, if_neg (by omega), Hc.out]
        have : (q / 128).toNat = q.toNat / 128 := by omega
        simp [this]
      · have h := H4.out
        obtain ⟨m, hm⟩ : ∃ m, 9 - pre.length = m + 1 := ⟨8 - pre.length, by omega⟩
        have hm2 : 9 - (pre ++ [c]).length = m := by simp; omega
        rw [hm, Int.pow_succ] at h
        rw [hm2]
        omega
theorem num_neg (n : Int) (w : World) (h0 : n < 0) :
    Calls Tryd.prog 12 #[.int .i64 n] w fun e w' => e = .returned (.string ⟨#[]⟩) ∧ Below w.heap.size w w' := by
  have hd : decide (n < 0) = true := by simp; omega
  go_enter Tryd.func12, Tryd.ntmps12
  go_wp2
  go_ret
  exact ⟨rfl, Below.refl _ _⟩
theorem num_any (n : Int) (w : World) (h1 : n ≤ 9223372036854775807) :
    Calls Tryd.prog 12 #[.int .i64 n] w fun e w' => e = .returned (.string ⟨(nenc n).toArray⟩) ∧ Below w.heap.size w w' := by
  unfold nenc
  split
  · exact num_neg n w ‹_›
  · exact num_pos n w (by omega) h1

theorem byte_of (q : Int) (h0 : 0 ≤ q) (h : q < 256) : ∃ c : UInt8, q = c.toNat ∧ c = UInt8.ofNat q.toNat := ⟨UInt8.ofNat q.toNat, by simp; omega, rfl⟩
/-- block b is a Reader of type T in the state st -/
def Rd (T : TypeId) (b : Nat) (st : St) (w : World) : Prop := w.heap[b]? = some (.cells #[.string ⟨st.1.toArray⟩, .bool st.2] T (0, 0))
theorem Rd.c0 {T : TypeId} {b : Nat} {st : St} {w : World} (h : Rd T b st w) : w.cell? ⟨b, 0, none⟩ = some (.string ⟨st.1.toArray⟩) := by rw [cell_of h]; rfl
theorem Rd.c1 {T : TypeId} {b : Nat} {st : St} {w : World} (h : Rd T b st w) : w.cell? ⟨b, 1, none⟩ = some (.bool st.2) := by rw [cell_of h]; rfl
theorem Rd.f0 {T : TypeId} {b : Nat} {st : St} {w : World} (h : Rd T b st w) (i : Nat) : w.frozen? ⟨b, i, none⟩ = false := free_of h
theorem Rd.set0 {T : TypeId} {b : Nat} {st : St} {w : World} (h : Rd T b st w) (s : List UInt8) : Rd T b (s, st.2) (w.setCell ⟨b, 0, none⟩ (.string ⟨s.toArray⟩)) := heap_setCell_same h _
theorem Rd.set1 {T : TypeId} {b : Nat} {st : St} {w : World} (h : Rd T b st w) (x : Bool) : Rd T b (st.1, x) (w.setCell ⟨b, 1, none⟩ (.bool x)) := heap_setCell_same h _
theorem Rd.fr {T : TypeId} {b : Nat} {st : St} {w w' : World} (h : Rd T b st w) {S : Nat → Prop} (hf : Fr S w w') (hs : ¬ S b) : Rd T b st w' := hf.keep h hs
theorem fr_set (w : World) (b i : Nat) (v : Value) : Fr (one b) w (w.setCell ⟨b, i, none⟩ v) := Fr.setCell (S := one b) (Fr.refl _ _) (p := ⟨b, i, none⟩) (Or.inl rfl) v
/-- what a method of a Reader does: it returns v; the Reader is then in the state st; nothing else has changed -/
def RdPost (T : TypeId) (b : Nat) (w : World) (v : Value) (st : St) (e : Ending) (w' : World) : Prop := e = .returned v ∧ Rd T b st w' ∧ Fr (one b) w w'
abbrev TC : TypeId := 55
theorem open_any (s : List UInt8) (w : World) : Calls Tryd.prog 7 #[sv s] w fun e w' => e = .returned (.pointer (some ⟨w.heap.size, 0, none⟩)) ∧ Rd 55 w.heap.size (s, false) w' ∧ Below w.heap.size w w' ∧ w'.heap.size = w.heap.size + 1 := by
  go_enter Tryd.func7, Tryd.ntmps7
  go_wp2
  go_ret
  exact ⟨rfl, heap_alloc_new' _ _, (Below.refl _ _).alloc (Nat.le_refl _) _, by simp⟩
theorem fail_any (b : Nat) (st : St) (w : World) (h : Rd 55 b st w) : Calls Tryd.prog 21 #[.pointer (some ⟨b, 0, none⟩)] w (RdPost 55 b w (.tuple #[]) failed) := by
  have c0 := h.c0; have c1 := h.c1; have f0 := h.f0 0; have f1 := h.f0 1
  go_enter Tryd.func21, Tryd.ntmps21
  go_wp2
  go_end0
  exact ⟨rfl, (h.set0 []).set1 true, (fr_set _ _ _ _).trans (fr_set _ _ _ _)⟩
theorem done_any (b : Nat) (st : St) (w : World) (h : Rd 55 b st w) : Calls Tryd.prog 18 #[.pointer (some ⟨b, 0, none⟩)] w (RdPost 55 b w (.bool (doneB st)) st) := by
  obtain ⟨s, f⟩ := st
  have c0 := h.c0; have c1 := h.c1
  cases f
  all_goals
    go_enter Tryd.func18, Tryd.ntmps18
    go_wp2
    go_ret
    exact ⟨ret_bool (by simp [doneB]), h, Fr.refl _ _⟩
theorem take_any (b : Nat) (st : St) (n : Int) (w : World) (h : Rd 55 b st w) (hs : st.1.length ≤ 140737488355328) : Calls Tryd.prog 17 #[.pointer (some ⟨b, 0, none⟩), .int .i64 n] w (RdPost 55 b w (sv (stTake n st).1) (stTake n st).2) := by
  obtain ⟨s, f⟩ := st
  have c0 := h.c0; have c1 := h.c1; have f0 := h.f0 0; have f1 := h.f0 1
  by_cases hb : f = true ∨ n < 0 ∨ (s.length : Int) < n
  · rw [take_bad n (s, f) hb]
    rcases hb with hb | hb | hb
    · subst hb
      go_enter Tryd.func17, Tryd.ntmps17
      go_wp2_with (go_at_call 21; refine (fail_any b _ _ h).mono ?_; rintro e w1 ⟨rfl, h1, h2⟩)
      go_ret
      exact ⟨rfl, h1, h2⟩
    · cases f
      all_goals
        go_enter Tryd.func17, Tryd.ntmps17
        go_wp2_with (go_at_call 21; refine (fail_any b _ _ h).mono ?_; rintro e w1 ⟨rfl, h1, h2⟩)
        go_ret
        exact ⟨rfl, h1, h2⟩
    · have hn : decide (n < 0) = false := by simp; omega
      cases f
      all_goals
        go_enter Tryd.func17, Tryd.ntmps17
        go_wp2_with (go_at_call 21; refine (fail_any b _ _ h).mono ?_; rintro e w1 ⟨rfl, h1, h2⟩)
        go_ret
        exact ⟨rfl, h1, h2⟩
  · rw [take_ok n (s, f) hb]
    have hf : f = false := by cases f <;> simp_all
    subst hf
    obtain ⟨k, rfl⟩ := Int.eq_ofNat_of_zero_le (show 0 ≤ n by omega)
    have hk : k ≤ s.length := by omega
    clear hb
    go_enter Tryd.func17, Tryd.ntmps17
    go_wp2
    go_ret
    refine ⟨?_, ?_, fr_set _ _ _ _⟩
    · simp [ext_take]
    · simpa [ext_drop] using h.set0 (s.drop k)

theorem u8and127 (c : UInt8) : bits BinOp.and IntKind.u8 (c.toNat : Int) 127 = ((c.toNat % 128 : Nat) : Int) := by
  have h := u8_and_nat c.toNat 127 (by have := c.toNat_lt; omega) (by decide)
  rw [show (127 : Nat) = 2 ^ 7 - 1 by decide, Nat.and_two_pow_sub_one_eq_mod] at h
  exact h
theorem or_step (P k c : Nat) (hP : P < 128 ^ k) (hk : k < 9) : bits BinOp.or IntKind.i64 (P : Int) (wrap64 (wrap64 ((c % 128 : Nat) : Int) * 2 ^ (7 * k))) = ((P + 128 ^ k * (c % 128) : Nat) : Int) := by
  have hc : c % 128 ≤ 127 := by omega
  have e7 : (2 : Nat) ^ (7 * k) = 128 ^ k := by rw [Nat.pow_mul]
  have h2 : 128 ^ k * (c % 128) ≤ 128 ^ k * 127 := Nat.mul_le_mul_left _ hc
  have h3 : 128 ^ k ≤ 128 ^ 8 := Nat.pow_le_pow_right (by decide) (by omega)
  have h4 : (128 : Nat) ^ 8 = 72057594037927936 := by decide
  have e1 : wrap64 ((c % 128 : Nat) : Int) = ((c % 128 : Nat) : Int) := by simp only [wrap64]; omega
  have e2 : (((c % 128 : Nat) : Int) * 2 ^ (7 * k)) = ((128 ^ k * (c % 128) : Nat) : Int) := by
    rw [show 128 ^ k * (c % 128) = c % 128 * 2 ^ (7 * k) by rw [e7, Nat.mul_comm]]; simp
  have e3 : wrap64 ((128 ^ k * (c % 128) : Nat) : Int) = ((128 ^ k * (c % 128) : Nat) : Int) := by simp only [wrap64]; omega
  rw [e1, e2, e3, join_i64' (7 * k) _ _ (by omega) (by omega) (by omega) (by omega) ?_ (by rw [e7]; omega)]
  · omega
  · rw [e7]
    have : (128 ^ k * (c % 128)) % 128 ^ k = 0 := Nat.mul_mod_right _ _
    exact_mod_cast this
theorem or_step' (P k c : Nat) (hP : P < 128 ^ k) (hk : k < 9) : bits BinOp.or IntKind.i64 (P : Int) (wrap64 (((c % 128 : Nat) : Int) * 2 ^ (7 * k))) = ((P + 128 ^ k * (c % 128) : Nat) : Int) := by
  have h := or_step P k c hP hk
  rwa [show wrap64 ((c % 128 : Nat) : Int) = ((c % 128 : Nat) : Int) by unfold wrap64; omega] at h
set_option maxHeartbeats 1000000 in
set_option maxRecDepth 100000 in
theorem readNum (b : Nat) (st : St) (w : World) (h : Rd 55 b st w) : Calls Tryd.prog 10 #[.pointer (some ⟨b, 0, none⟩)] w (RdPost 55 b w (.int .i64 (stNum st).1) (stNum st).2) := by
  have c0 := h.c0; have c1 := h.c1; have f0 := h.f0 0; have f1 := h.f0 1
  go_enter Tryd.func10, Tryd.ntmps10
  go_wp2
  go_loop [3, 4] (fun n i => ∃ k P : Nat, k ≤ 9 ∧ k ≤ st.1.length ∧ Mid st.1 k P ∧ i = .int .i64 k ∧ n = .int .i64 P) (fun _ i => 9 - (intOf i).toNat)
  case atStart => exact ⟨0, 0, by omega, by omega, Mid.start _, rfl, rfl⟩
  case round =>
    obtain ⟨k, P, hk, hk2, hm, rfl, rfl⟩ := hrel
    by_cases hk9 : k < 9
    · by_cases hlt : k < st.1.length
      · obtain ⟨c, hc⟩ : ∃ c, st.1[k]? = some c := ⟨_, List.getElem?_eq_getElem hlt⟩
        have hidx := idx_str (P := Tryd.prog) 9 (by kernel_rfl) _ k c hc
        replace hc := hid hc
        by_cases hz : c.toNat = 0
        · rw [hz] at hidx
          have e1 : bits BinOp.and IntKind.u8 0 127 = 0 := by decide
          have e2 : wrap64 0 = 0 := by unfold wrap64; omega
          by_cases hk0 : 0 < k
          · have hfin := stNum_none st (hm.zero hk9 hc.out hz hk0)
            replace hfin := hid hfin
            clear hz
            go_wp2_with (go_at_call 21; refine (fail_any b _ _ h).mono ?_; rintro e w1 ⟨rfl, h1, h2⟩)
            go_ret
            unfold RdPost
            rw [hfin.out]
            exact ⟨rfl, h1, h2⟩
          · obtain rfl : k = 0 := by omega
            have hP : P = 0 := by have := hm.2; simpa using this
            subst hP
            have e3 : bits BinOp.or IntKind.i64 0 0 = 0 := by decide
            have hfin := stNum_some st _ _ (hm.last hk9 hc.out (by omega) (by omega))
            rw [hz] at hfin
            replace hfin := hid hfin
            clear hz
            have hidx0 : ∀ kd W, (Instr.index 9 (.string ⟨st.1.toArray⟩) (.int kd 0)).run Tryd.prog W = .ok (.int .u8 0) W := hidx
            clear hidx
            have hl1 : (1 : Int) ≤ (st.1.length : Int) := by omega
            go_wp2
            go_ret
            unfold RdPost
            rw [hfin.out]
            refine ⟨rfl, ?_, fr_set _ _ _ _⟩
            simpa [ext_drop] using h.set0 (st.1.drop 1)
        · have hz0 : ((c.toNat : Int) == 0) = false := by simp; omega
          have e0 := u8and127 c
          have hor := or_step P k c.toNat hm.2 hk9
          have hor' := or_step' P k c.toNat hm.2 hk9
          by_cases h128 : 128 ≤ c.toNat
          · have hmm := hm.more hk9 hc.out h128
            have hmod : c.toNat % 128 = c.toNat - 128 := by have := c.toNat_lt; omega
            rw [hmod] at hor hor' e0
            replace hmm := hid hmm
            clear hmod hm hz
            go_wp2
            exact ⟨⟨k + 1, _, by omega, by omega, hmm.out, by go_num, rfl⟩, by simp [intOf]; omega⟩
          · have hfin := stNum_some st _ _ (hm.last hk9 hc.out (by omega) (by omega))
            have hmod : c.toNat % 128 = c.toNat := by omega
            rw [hmod] at hor hor' e0
            replace hfin := hid hfin
            clear hmod hm hz
            go_wp2
            go_ret
            unfold RdPost
            rw [hfin.out]
            refine ⟨rfl, ?_, fr_set _ _ _ _⟩
            simpa [ext_drop] using h.set0 (st.1.drop (k + 1))
      · have hfin := stNum_none st (hm.out (Or.inr (by omega)))
        replace hfin := hid hfin
        go_wp2_with (go_at_call 21; refine (fail_any b _ _ h).mono ?_; rintro e w1 ⟨rfl, h1, h2⟩)
        go_ret
        unfold RdPost
        rw [hfin.out]
        exact ⟨rfl, h1, h2⟩
    · have hfin := stNum_none st (hm.out (Or.inl (by omega)))
      replace hfin := hid hfin
      obtain rfl : k = 9 := by omega
      have hd : decide ((9 : Int) < 9) = false := by decide
      by_cases hlt : 9 < st.1.length
      all_goals
        go_wp2_with (go_at_call 21; refine (fail_any b _ _ h).mono ?_; rintro e w1 ⟨rfl, h1, h2⟩)
        go_ret
        unfold RdPost
        rw [hfin.out]
        exact ⟨rfl, h1, h2⟩

theorem Rd.after {T : TypeId} {b : Nat} {w : World} {v : Value} {st : St} {e : Ending} {w' : World} (h : RdPost T b w v st e w') : e = .returned v ∧ Rd T b st w' ∧ Fr (one b) w w' := h
end Go.Proofs.YtomijpoglnihgaaDoor
