/- Chapter 02 (code): walks: the reference's Int, both Texts, the encodings of lists. -/
import Derived.Test.YtmlcnmpfjallkaaCodeW2
import Derived.Test.YtmlcnmpfjallkaaBuilder
set_option linter.unusedVariables false
namespace Go.Proofs.Ytmlcnmpfjallkaa
open Go.RowKit
open Go.Lib (hid IsBuilder byteCells)

theorem rint_any (n : Int) (w : World) :
    Calls Try.prog 14 #[.int .i64 n] w fun e w' => e = .returned (.string ⟨(ienc n).toArray⟩) ∧ Below w.heap.size w w' := by
  by_cases h1 : n < -1152921504606846976
  · have hv : ienc n = [] := by simp [ienc, inR]; omega
    rw [hv]
    go_enter Try.func14, Try.ntmps14
    go_wp2
    go_ret
    exact ⟨rfl, Below.refl _ _⟩
  by_cases h2 : 1152921504606846976 < n
  · have hv : ienc n = [] := by simp [ienc, inR]; omega
    rw [hv]
    go_enter Try.func14, Try.ntmps14
    go_wp2
    go_ret
    exact ⟨rfl, Below.refl _ _⟩
  by_cases h3 : n < 0
  · have hv : ienc n = venc (-2 * n - 1).toNat := by
      unfold ienc zig inR
      rw [if_pos h3, if_pos (by simp; omega)]
    rw [hv]
    go_enter Try.func14, Try.ntmps14
    go_wp2_with (go_at_call 12; refine (rnum_pos _ _ (by omega) (by omega)).mono ?_; rintro e w' ⟨rfl, hb⟩)
    go_ret
    exact ⟨by simp, hb⟩
  · have hv : ienc n = venc (2 * n).toNat := by
      unfold ienc zig inR
      rw [if_neg h3, if_pos (by simp; omega)]
    rw [hv]
    go_enter Try.func14, Try.ntmps14
    go_wp2_with (go_at_call 12; refine (rnum_pos _ _ (by omega) (by omega)).mono ?_; rintro e w' ⟨rfl, hb⟩)
    go_ret
    exact ⟨by simp, hb⟩

theorem text_any (s : List UInt8) (w : World) (hs : s.length ≤ 140737488355328) :
    Calls Try.prog 15 #[.string ⟨s.toArray⟩] w fun e w' => e = .returned (.string ⟨(tenc s).toArray⟩) ∧ Below w.heap.size w w' := by
  have hb2 := (venc_bound s.length (by omega)).2
  go_enter Try.func15, Try.ntmps15
  go_wp2_with (go_at_call 11; refine (num_pos _ _ (by omega) (by omega)).mono ?_; rw [Int.toNat_natCast]; rintro e w' ⟨rfl, hb⟩)
  go_ret
  exact ⟨by simp [tenc, ByteArray.mk_append_mk], hb⟩
theorem rtext_any (s : List UInt8) (w : World) (hs : s.length ≤ 140737488355328) :
    Calls Try.prog 16 #[.string ⟨s.toArray⟩] w fun e w' => e = .returned (.string ⟨(tenc s).toArray⟩) ∧ Below w.heap.size w w' := by
  have hb2 := (venc_bound s.length (by omega)).2
  go_enter Try.func16, Try.ntmps16
  go_wp2_with (go_at_call 12; refine (rnum_pos _ _ (by omega) (by omega)).mono ?_; rw [Int.toNat_natCast]; rintro e w' ⟨rfl, hb⟩)
  go_ret
  exact ⟨by simp [tenc, ByteArray.mk_append_mk], hb⟩

abbrev sv (l : List UInt8) : Value := .string ⟨l.toArray⟩
theorem flat_take {α : Type} (f : α → List UInt8) (ss : List α) (k : Nat) : (((ss.take k).map f).flatten).length ≤ ((ss.map f).flatten).length := by
  have e : (ss.map f).flatten = ((ss.take k).map f).flatten ++ ((ss.drop k).map f).flatten := by
    rw [← List.flatten_append, ← List.map_append, List.take_append_drop]
  rw [e, List.length_append]; omega
theorem flat_snoc {α : Type} (f : α → List UInt8) (ss : List α) (k : Nat) (x : α) (h : ss[k]? = some x) : ((ss.take (k + 1)).map f).flatten = ((ss.take k).map f).flatten ++ f x := by
  rw [List.take_add_one, h]; simp

abbrev iv (n : Int) : Value := .int .i64 n
set_option maxHeartbeats 400000 in
theorem encodeS (ss : List (List UInt8)) (v : Value) (w : World) (hr : Row w.heap.size w 1 v ss.length (ss.map sv)) (hs : (lenc ss).length ≤ 1000000000) (hl : ss.length ≤ 1000000000) (hx : ∀ x ∈ ss, x.length ≤ 1000000000) :
    Calls Try.prog 46 #[v, .func (.func 15) #[] #[]] w fun e w' => e = .returned (sv (lenc ss)) ∧ Below w.heap.size w w' := by
  obtain ⟨a, cap, b, off, rfl, h2, h3, h4⟩ := hr
  have hb2 := (venc_bound ss.length (by omega)).2
  go_enter Try.func46, Try.ntmps46
  go_wp2_with (first | (go_at_call 11; refine (num_pos _ _ (by omega) (by omega)).mono ?_; rw [Int.toNat_natCast]; rintro e w1 ⟨rfl, hb1⟩) | (go_at_call 53; refine (bldWrite w.heap.size w.heap.size [] (venc ss.length) _ (bld_kept (bld_fresh w) hb1) (by simp; omega) (by have := hb1.size; simp at this; omega)).mono ?_; rintro e w2 ⟨rfl, hI, hb2⟩))
  have hsz1 := hb1.size
  have hsz2 := hb2.size
  have hB : Below w.heap.size w w2 := (((Below.refl _ _).alloc (Nat.le_refl _) _).trans (hb1.mono (by simp))).trans hb2
  have hT : (lenc ss).length = (venc ss.length).length + ((ss.map tenc).flatten).length := by simp only [lenc, List.length_append]
  go_loopw [14] (fun i wr => ∃ k : Nat, k ≤ ss.length ∧ i = .int .i64 k ∧ IsBuilder 67 5 w.heap.size w.heap.size (byteCells (venc ss.length ++ ((ss.take k).map tenc).flatten)) wr ∧ Below w.heap.size w wr ∧ w.heap.size + 1 ≤ wr.heap.size) (fun i _ => ss.length - (intOf i).toNat)
  case atStart => exact ⟨0, Nat.zero_le _, rfl, by simpa using hI, hB, by simp at hsz1; omega⟩
  case round =>
    obtain ⟨k, hk, rfl, hI, hB, hz⟩ := hrel
    have HT := hid hT
    clear hsz1 hsz2 hT hb1 hb2
    by_cases hlt : k < ss.length
    · obtain ⟨x, hx1⟩ : ∃ x, ss[k]? = some x := ⟨_, List.getElem?_eq_getElem hlt⟩
      have hfl := flat_snoc tenc ss k x hx1
      have hle := flat_take tenc ss (k + 1)
      rw [hfl, List.length_append] at hle
      have hxl := hx x (List.mem_of_getElem? hx1)
      have hT2 := HT.out
      have hidx := row_idx1 (P := Try.prog) (t := 22) (by kernel_rfl) (fun _ => by kernel_rfl) (h3 (by omega)).1 ss.length cap k hlt .i64
      have hcell : wr.cell? ⟨b, off + k, none⟩ = some (sv x) := by
        rw [hB.cell (h3 (by omega)).2, h4 k (by simpa using hlt)]
        have : ss[k] = x := by rw [List.getElem?_eq_getElem hlt] at hx1; exact Option.some.inj hx1
        simp [this]
      have Hfl := hid hfl
      have HT2 := hid hT2
      clear hfl hT2 hx1
      have hto : (venc ss.length ++ ((ss.take k).map tenc).flatten).length + (tenc x).length ≤ 1000000000 := by
        have := HT2.out; rw [List.length_append]; omega
      go_wp2_with (first | (go_at_call 15; refine (text_any x _ (by omega)).mono ?_; rintro e w1 ⟨rfl, hb1⟩) | (go_at_call 53; refine (bldWrite w.heap.size w.heap.size _ (tenc x) _ (bld_kept hI hb1) (by omega) (by have := hb1.size; omega)).mono ?_; rintro e w2 ⟨rfl, hI2, hb2⟩))
      refine ⟨⟨k + 1, by omega, by go_num, ?_, (hB.trans (hb1.mono (by omega))).trans hb2, by have := hb1.size; have := hb2.size; omega⟩, by simp [intOf]; omega⟩
      rw [Hfl.out, ← List.append_assoc]; exact hI2
    · have hkl : k = ss.length := by omega
      subst hkl
      rw [List.take_length] at hI
      go_wp2_with (go_at_call 54; refine (bldString w.heap.size w.heap.size _ _ hI (by omega)).mono ?_; rintro e w2 ⟨rfl, hb2⟩)
      go_ret
      exact ⟨rfl, hB.trans hb2⟩
set_option maxHeartbeats 400000 in
theorem encodeI (ss : List Int) (v : Value) (w : World) (hr : Row w.heap.size w 1 v ss.length (ss.map iv)) (hs : (msenc ss).length ≤ 1000000000) (hl : ss.length ≤ 1000000000) :
    Calls Try.prog 47 #[v, .func (.func 13) #[] #[]] w fun e w' => e = .returned (sv (msenc ss)) ∧ Below w.heap.size w w' := by
  obtain ⟨a, cap, b, off, rfl, h2, h3, h4⟩ := hr
  have hb2 := (venc_bound ss.length (by omega)).2
  go_enter Try.func47, Try.ntmps47
  go_wp2_with (first | (go_at_call 11; refine (num_pos _ _ (by omega) (by omega)).mono ?_; rw [Int.toNat_natCast]; rintro e w1 ⟨rfl, hb1⟩) | (go_at_call 53; refine (bldWrite w.heap.size w.heap.size [] (venc ss.length) _ (bld_kept (bld_fresh w) hb1) (by simp; omega) (by have := hb1.size; simp at this; omega)).mono ?_; rintro e w2 ⟨rfl, hI, hb2⟩))
  have hsz1 := hb1.size
  have hsz2 := hb2.size
  have hB : Below w.heap.size w w2 := (((Below.refl _ _).alloc (Nat.le_refl _) _).trans (hb1.mono (by simp))).trans hb2
  have hT : (msenc ss).length = (venc ss.length).length + ((ss.map ienc).flatten).length := by simp only [msenc, List.length_append]
  go_loopw [14] (fun i wr => ∃ k : Nat, k ≤ ss.length ∧ i = .int .i64 k ∧ IsBuilder 67 5 w.heap.size w.heap.size (byteCells (venc ss.length ++ ((ss.take k).map ienc).flatten)) wr ∧ Below w.heap.size w wr ∧ w.heap.size + 1 ≤ wr.heap.size) (fun i _ => ss.length - (intOf i).toNat)
  case atStart => exact ⟨0, Nat.zero_le _, rfl, by simpa using hI, hB, by simp at hsz1; omega⟩
  case round =>
    obtain ⟨k, hk, rfl, hI, hB, hz⟩ := hrel
    have HT := hid hT
    clear hsz1 hsz2 hT hb1 hb2
    by_cases hlt : k < ss.length
    · obtain ⟨x, hx1⟩ : ∃ x, ss[k]? = some x := ⟨_, List.getElem?_eq_getElem hlt⟩
      have hfl := flat_snoc ienc ss k x hx1
      have hle := flat_take ienc ss (k + 1)
      rw [hfl, List.length_append] at hle
      have hT2 := HT.out
      have hidx := row_idx1 (P := Try.prog) (t := 23) (by kernel_rfl) (fun _ => by kernel_rfl) (h3 (by omega)).1 ss.length cap k hlt .i64
      have hcell : wr.cell? ⟨b, off + k, none⟩ = some (iv x) := by
        rw [hB.cell (h3 (by omega)).2, h4 k (by simpa using hlt)]
        have : ss[k] = x := by rw [List.getElem?_eq_getElem hlt] at hx1; exact Option.some.inj hx1
        simp [this]
      have Hfl := hid hfl
      have HT2 := hid hT2
      clear hfl hT2 hx1
      have hto : (venc ss.length ++ ((ss.take k).map ienc).flatten).length + (ienc x).length ≤ 1000000000 := by
        have := HT2.out; rw [List.length_append]; omega
      go_wp2_with (first | (go_at_call 13; refine (int_any x _).mono ?_; rintro e w1 ⟨rfl, hb1⟩) | (go_at_call 53; refine (bldWrite w.heap.size w.heap.size _ (ienc x) _ (bld_kept hI hb1) (by omega) (by have := hb1.size; omega)).mono ?_; rintro e w2 ⟨rfl, hI2, hb2⟩))
      refine ⟨⟨k + 1, by omega, by go_num, ?_, (hB.trans (hb1.mono (by omega))).trans hb2, by have := hb1.size; have := hb2.size; omega⟩, by simp [intOf]; omega⟩
      rw [Hfl.out, ← List.append_assoc]; exact hI2
    · have hkl : k = ss.length := by omega
      subst hkl
      rw [List.take_length] at hI
      go_wp2_with (go_at_call 54; refine (bldString w.heap.size w.heap.size _ _ hI (by omega)).mono ?_; rintro e w2 ⟨rfl, hb2⟩)
      go_ret
      exact ⟨rfl, hB.trans hb2⟩
end Go.Proofs.Ytmlcnmpfjallkaa
