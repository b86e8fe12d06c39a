/- Chapter 02 (code): walks: the Readers: Open, fail, Left, Done, Take. -/
import Derived.Test.YtmlcnmpfjallkaaCodeW5
set_option linter.unusedVariables false
namespace Go.Proofs.Ytmlcnmpfjallkaa
open Go.RowKit
open Go.Lib (hid IsBuilder byteCells)

theorem ext_take (s : List UInt8) (k : Nat) : (ByteArray.mk s.toArray).extract 0 k = ⟨(s.take k).toArray⟩ := by rw [ByteArray.extract_mk]; simp
theorem ext_drop (s : List UInt8) (k : Nat) : (ByteArray.mk s.toArray).extract k s.length = ⟨(s.drop k).toArray⟩ := by
  rw [ByteArray.extract_mk, List.take_of_length_le (by simp)]
/-- block b is a Reader of type T in the state st -/
def Rd (T : TypeId) (b : Nat) (st : St) (w : World) : Prop := w.heap[b]? = some (.cells #[.string ⟨st.1.toArray⟩, .bool st.2] T (0, 0))
theorem Rd.c0 {T : TypeId} {b : Nat} {st : St} {w : World} (h : Rd T b st w) : w.cell? ⟨b, 0, none⟩ = some (.string ⟨st.1.toArray⟩) := by rw [cell_of h]; rfl
theorem Rd.c1 {T : TypeId} {b : Nat} {st : St} {w : World} (h : Rd T b st w) : w.cell? ⟨b, 1, none⟩ = some (.bool st.2) := by rw [cell_of h]; rfl
theorem Rd.f0 {T : TypeId} {b : Nat} {st : St} {w : World} (h : Rd T b st w) (i : Nat) : w.frozen? ⟨b, i, none⟩ = false := free_of h
theorem Rd.set0 {T : TypeId} {b : Nat} {st : St} {w : World} (h : Rd T b st w) (s : List UInt8) : Rd T b (s, st.2) (w.setCell ⟨b, 0, none⟩ (.string ⟨s.toArray⟩)) := heap_setCell_same h _
theorem Rd.set1 {T : TypeId} {b : Nat} {st : St} {w : World} (h : Rd T b st w) (x : Bool) : Rd T b (st.1, x) (w.setCell ⟨b, 1, none⟩ (.bool x)) := heap_setCell_same h _
theorem Rd.fr {T : TypeId} {b : Nat} {st : St} {w w' : World} (h : Rd T b st w) {S : Nat → Prop} (hf : Fr S w w') (hs : ¬ S b) : Rd T b st w' := hf.keep h hs
theorem fr_set (w : World) (b i : Nat) (v : Value) : Fr (one b) w (w.setCell ⟨b, i, none⟩ v) := Fr.setCell (S := one b) (Fr.refl _ _) (p := ⟨b, i, none⟩) (Or.inl rfl) v

/-- what a method of a Reader does: it returns v; the Reader is then in the state st; nothing else has changed -/
def RdPost (T : TypeId) (b : Nat) (w : World) (v : Value) (st : St) (e : Ending) (w' : World) : Prop := e = .returned v ∧ Rd T b st w' ∧ Fr (one b) w w'

abbrev TC : TypeId := 59
abbrev TR : TypeId := 61

theorem open_any (s : List UInt8) (w : World) : Calls Try.prog 21 #[sv s] w fun e w' => e = .returned (.pointer (some ⟨w.heap.size, 0, none⟩)) ∧ Rd 59 w.heap.size (s, false) w' ∧ Below w.heap.size w w' ∧ w'.heap.size = w.heap.size + 1 := by
  go_enter Try.func21, Try.ntmps21
  go_wp2
  go_ret
  exact ⟨rfl, heap_alloc_new' _ _, (Below.refl _ _).alloc (Nat.le_refl _) _, by simp⟩
theorem ropen_any (s : List UInt8) (w : World) : Calls Try.prog 22 #[sv s] w fun e w' => e = .returned (.pointer (some ⟨w.heap.size, 0, none⟩)) ∧ Rd 61 w.heap.size (s, false) w' ∧ Below w.heap.size w w' ∧ w'.heap.size = w.heap.size + 1 := by
  go_enter Try.func22, Try.ntmps22
  go_wp2
  go_ret
  exact ⟨rfl, heap_alloc_new' _ _, (Below.refl _ _).alloc (Nat.le_refl _) _, by simp⟩

theorem fail_any (b : Nat) (st : St) (w : World) (h : Rd 59 b st w) : Calls Try.prog 48 #[.pointer (some ⟨b, 0, none⟩)] w (RdPost 59 b w (.tuple #[]) failed) := by
  have c0 := h.c0; have c1 := h.c1; have f0 := h.f0 0; have f1 := h.f0 1
  go_enter Try.func48, Try.ntmps48
  go_wp2
  go_end0
  exact ⟨rfl, (h.set0 []).set1 true, (fr_set _ _ _ _).trans (fr_set _ _ _ _)⟩
theorem rfail_any (b : Nat) (st : St) (w : World) (h : Rd 61 b st w) : Calls Try.prog 49 #[.pointer (some ⟨b, 0, none⟩)] w (RdPost 61 b w (.tuple #[]) failed) := by
  have c0 := h.c0; have c1 := h.c1; have f0 := h.f0 0; have f1 := h.f0 1
  go_enter Try.func49, Try.ntmps49
  go_wp2
  go_end0
  exact ⟨rfl, (h.set0 []).set1 true, (fr_set _ _ _ _).trans (fr_set _ _ _ _)⟩

theorem left_any (b : Nat) (st : St) (w : World) (h : Rd 59 b st w) : Calls Try.prog 37 #[.pointer (some ⟨b, 0, none⟩)] w (RdPost 59 b w (.int .i64 st.1.length) st) := by
  have c0 := h.c0
  go_enter Try.func37, Try.ntmps37
  go_wp2
  go_ret
  exact ⟨rfl, h, Fr.refl _ _⟩
theorem rleft_any (b : Nat) (st : St) (w : World) (h : Rd 61 b st w) : Calls Try.prog 38 #[.pointer (some ⟨b, 0, none⟩)] w (RdPost 61 b w (.int .i64 st.1.length) st) := by
  have c0 := h.c0
  go_enter Try.func38, Try.ntmps38
  go_wp2
  go_ret
  exact ⟨rfl, h, Fr.refl _ _⟩

def doneB (st : St) : Bool := !st.2 && st.1.isEmpty
theorem done_any (b : Nat) (st : St) (w : World) (h : Rd 59 b st w) : Calls Try.prog 39 #[.pointer (some ⟨b, 0, none⟩)] w (RdPost 59 b w (.bool (doneB st)) st) := by
  obtain ⟨s, f⟩ := st
  have c0 := h.c0; have c1 := h.c1
  cases f
  all_goals
    go_enter Try.func39, Try.ntmps39
    go_wp2
    go_ret
    exact ⟨ret_bool (by simp [doneB]), h, Fr.refl _ _⟩
theorem rdone_any (b : Nat) (st : St) (w : World) (h : Rd 61 b st w) : Calls Try.prog 40 #[.pointer (some ⟨b, 0, none⟩)] w (RdPost 61 b w (.bool (doneB st)) st) := by
  obtain ⟨s, f⟩ := st
  have c0 := h.c0; have c1 := h.c1
  cases f
  all_goals
    go_enter Try.func40, Try.ntmps40
    go_wp2
    go_ret
    exact ⟨ret_bool (by cases s <;> simp [doneB] <;> omega), h, Fr.refl _ _⟩

theorem take_bad (n : Int) (st : St) (h : st.2 = true ∨ n < 0 ∨ (st.1.length : Int) < n) : stTake n st = ([], failed) := if_pos h
theorem take_ok (n : Int) (st : St) (h : ¬ (st.2 = true ∨ n < 0 ∨ (st.1.length : Int) < n)) : stTake n st = (st.1.take n.toNat, (st.1.drop n.toNat, st.2)) := if_neg h

theorem take_any (b : Nat) (st : St) (n : Int) (w : World) (h : Rd 59 b st w) (hs : st.1.length ≤ 140737488355328) : Calls Try.prog 35 #[.pointer (some ⟨b, 0, none⟩), .int .i64 n] w (RdPost 59 b w (sv (stTake n st).1) (stTake n st).2) := by
  obtain ⟨s, f⟩ := st
  have c0 := h.c0; have c1 := h.c1; have f0 := h.f0 0; have f1 := h.f0 1
  by_cases hb : f = true ∨ n < 0 ∨ (s.length : Int) < n
  · rw [take_bad n (s, f) hb]
    rcases hb with hb | hb | hb
    · subst hb
      go_enter Try.func35, Try.ntmps35
      go_wp2_with (go_at_call 48; refine (fail_any b _ _ h).mono ?_; rintro e w1 ⟨rfl, h1, h2⟩)
      go_ret
      exact ⟨rfl, h1, h2⟩
    · cases f
      all_goals
        go_enter Try.func35, Try.ntmps35
        go_wp2_with (go_at_call 48; refine (fail_any b _ _ h).mono ?_; rintro e w1 ⟨rfl, h1, h2⟩)
        go_ret
        exact ⟨rfl, h1, h2⟩
    · have hn : decide (n < 0) = false := by simp; omega
      cases f
      all_goals
        go_enter Try.func35, Try.ntmps35
        go_wp2_with (go_at_call 48; refine (fail_any b _ _ h).mono ?_; rintro e w1 ⟨rfl, h1, h2⟩)
        go_ret
        exact ⟨rfl, h1, h2⟩
  · rw [take_ok n (s, f) hb]
    have hf : f = false := by cases f <;> simp_all
    subst hf
    obtain ⟨k, rfl⟩ := Int.eq_ofNat_of_zero_le (show 0 ≤ n by omega)
    have hk : k ≤ s.length := by omega
    clear hb
    go_enter Try.func35, Try.ntmps35
    go_wp2
    go_ret
    refine ⟨?_, ?_, fr_set _ _ _ _⟩
    · simp [ext_take]
    · simpa [ext_drop] using h.set0 (s.drop k)
end Go.Proofs.Ytmlcnmpfjallkaa
