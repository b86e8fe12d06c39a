/- Chapter 02 (code): walks: Num, Int, Text; Open, fail, Left, Done, Take of the Readers. -/
import Derived.Test.YtnbhpicmflagcaaDoorChecked
import Derived.Test.YtnbhpicmflagcaaDoorCodeS
set_option linter.unusedVariables false
namespace Go.Proofs.YtnbhpicmflagcaaDoor
open Go.RowKit
open Go.Lib (hid IsBuilder byteCells)

theorem conv_buf (w : World) (pre : List UInt8) (c : UInt8) : (convert 53 9 (.slice (some ⟨w.heap.size, 0, none⟩) (pre.length + 1) 9)).run Tryd.prog (w.alloc (.cells (bufOf (pre ++ [c])) 79)) = .ok (.string ⟨(pre ++ [c]).toArray⟩) (w.alloc (.cells (bufOf (pre ++ [c])) 79)) := by
  have e : pre.length + 1 = (pre ++ [c]).length := by simp
  rw [e]
  refine run_convert_bytes_back (P := Tryd.prog) _ 53 9 5 _ 9 _ (by kernel_rfl) (by kernel_rfl) (by kernel_rfl) ?_
  intro j hj
  have e2 : (⟨w.heap.size, 0, none⟩ : Addr).add j = ⟨w.heap.size, j, none⟩ := by
    simp only [Addr.add, Nat.zero_add]; split <;> simp_all
  rw [e2, World.cell?_alloc_at _ _ _ _ rfl]
  simp only [bufOf, List.getElem?_toArray, List.getElem?_append, List.length_map, hj, if_true, List.getElem?_map, List.getElem?_eq_getElem hj]
  rfl

set_option maxHeartbeats 1000000 in
set_option maxRecDepth 100000 in
theorem num_pos (n : Int) (w : World) (h0 : 0 ≤ n) (h1 : n ≤ 9223372036854775807) :
    Calls Tryd.prog 31 #[.int .i64 n] w fun e w' => e = .returned (.string ⟨(venc n.toNat).toArray⟩) ∧ Below w.heap.size w w' := by
  have hd : decide (n < 0) = false := by simp; omega
  have hal : Tryd.prog.arrayLen 79 = 9 := by kernel_rfl
  go_enter Tryd.func31, Tryd.ntmps31
  go_wp2
  go_loopw [0, 4] (fun m i wr => ∃ (q : Int) (pre : List UInt8), wr = w.alloc (.cells (bufOf pre) 79) ∧ m = .int .i64 q ∧ i = .int .i64 (pre.length : Int) ∧ 0 ≤ q ∧ q ≤ 9223372036854775807 ∧ pre.length ≤ 8 ∧ venc n.toNat = pre ++ vencF (9 - pre.length) q.toNat ∧ q < 128 ^ (9 - pre.length)) (fun _ i _ => 9 - (intOf i).toNat)
  case atStart => exact ⟨n, [], rfl, rfl, rfl, by omega, by omega, by simp, rfl, by simp; omega⟩
  case round =>
    obtain ⟨q, pre, rfl, rfl, rfl, h0, h1, h2, h3, h4⟩ := hrel
    have H3 := Go.Lib.hid h3; clear h3
    have H4 := Go.Lib.hid h4; clear h4
    have hat := buf_at pre h2
    have h8 : ¬ q < 128 → pre.length ≤ 7 := fun hq => by
      have := H4.out
      rcases Nat.lt_or_ge pre.length 8 with h | h
      · omega
      · have e : pre.length = 8 := by omega
        rw [e] at this; simp at this; omega
    by_cases hq : q < 128
    · clear h8
      obtain ⟨c, hc⟩ : ∃ c : UInt8, q = c.toNat := ⟨UInt8.ofNat q.toNat, by simp; omega⟩
      have hset := buf_set pre h2 q c hc
      have hsl : ∀ W, (Instr.sliceAt 79 (.pointer (some ⟨w.heap.size, 0, none⟩)) none (some (.int .i64 ((pre.length : Int) + 1))) none).run Tryd.prog W = .ok (.slice (some ⟨w.heap.size, 0, none⟩) (pre.length + 1) 9) W := by
        intro W
        rw [run_sliceAt_array_h W 79 ⟨w.heap.size, 0, none⟩ (by kernel_rfl) .i64 ((pre.length : Int) + 1) (by omega) (by rw [hal]; omega)]
        have hz : (sizeOf (Tryd.prog.elem 79)).run Tryd.prog W = .ok 1 W := by kernel_rfl
        rw [hz, hal]
        simp [Result.andThen, slicedAt, Addr.add]
      have hcv := conv_buf w pre c
      have hv : venc n.toNat = pre ++ [c] := by
        rw [H3.out]
        obtain ⟨m, hm⟩ : ∃ m, 9 - pre.length = m + 1 := ⟨8 - pre.length, by omega⟩
        rw [hm, vencF, if_pos (by omega)]
        subst hc; simp
      have Hv := hid hv; have Hc := hid hc
      clear hv hc H3 H4
      go_wp2
      go_ret
      refine ⟨?_, (Below.refl _ _).alloc (Nat.le_refl _) _⟩
      rw [Hv.out]; rfl
    · have h7 := h8 hq
      clear h8
      obtain ⟨c, hc⟩ : ∃ c : UInt8, bits BinOp.or IntKind.i64 (bits BinOp.and IntKind.i64 q 127) 128 % 256 = c.toNat ∧ c = UInt8.ofNat (q.toNat % 128 + 128) :=
        ⟨UInt8.ofNat (q.toNat % 128 + 128), by rw [and127_or128 q h0 (by omega)]; simp; omega, rfl⟩
      have hset := buf_set pre h2 _ c hc.1
      have Hc := hid hc.2
      clear hc
      go_wp2
      refine ⟨⟨q / 128, pre ++ [c], rfl, rfl, by simp, by omega, by omega, by simp; omega, ?_, ?_⟩, by simp [intOf]; omega⟩
      · rw [H3.out]
        obtain ⟨m, hm⟩ : ∃ m, 9 - pre.length = m + 1 := ⟨8 - pre.length, by omega⟩
        have hm2 : 9 - (pre ++ [c]).length = m := by simp; omega
        rw [hm, hm2, vencF, if_neg (by omega), Hc.out]
        have : (q / 128).toNat = q.toNat / 128 := by omega
        simp [this]
      · have h := H4.out
        obtain ⟨m, hm⟩ : ∃ m, 9 - pre.length = m + 1 := ⟨8 - pre.length, by omega⟩
        have hm2 : 9 - (pre ++ [c]).length = m := by simp; omega
        rw [hm, Int.pow_succ] at h
        rw [hm2]
        omega

theorem num_neg (n : Int) (w : World) (h0 : n < 0) :
    Calls Tryd.prog 31 #[.int .i64 n] w fun e w' => e = .returned (.string ⟨#[]⟩) ∧ Below w.heap.size w w' := by
  have hd : decide (n < 0) = true := by simp; omega
  go_enter Tryd.func31, Tryd.ntmps31
  go_wp2
  go_ret
  exact ⟨rfl, Below.refl _ _⟩
theorem num_any (n : Int) (w : World) (h1 : n ≤ 9223372036854775807) :
    Calls Tryd.prog 31 #[.int .i64 n] w fun e w' => e = .returned (.string ⟨(nenc n).toArray⟩) ∧ Below w.heap.size w w' := by
  unfold nenc
  split
  · exact num_neg n w ‹_›
  · exact num_pos n w (by omega) h1
end Go.Proofs.YtnbhpicmflagcaaDoor
