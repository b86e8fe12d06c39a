/- Chapter 02 (code): plain laws: what was decoded is what was encoded; a proper prefix fails. -/
import Derived.Test.YtmlcnmpfjallkaaCodeN4
set_option linter.unusedVariables false
namespace Go.Proofs.Ytmlcnmpfjallkaa
theorem dnum_sound : ∀ (f : Nat) (first : Bool) (s : List UInt8) (m : Nat) (r : List UInt8), dnum f first s = some (m, r) → s = vencF f m ++ r ∧ (first = true ∨ m ≠ 0) := by
  intro f
  induction f with
  | zero => intro first s m r h; cases s <;> simp [dnum] at h
  | succ f ih =>
    intro first s m r h
    cases s with
    | nil => simp [dnum] at h
    | cons c s =>
      by_cases h1 : 128 ≤ c.toNat
      · rw [dnum_more _ _ _ _ h1] at h
        rcases h2 : dnum f false s with _ | ⟨m', r'⟩
        · rw [h2] at h; simp [comb] at h
        · rw [h2] at h
          simp only [comb, Option.some.injEq, Prod.mk.injEq, Nat.pow_one] at h
          obtain ⟨hm, rfl⟩ := h
          obtain ⟨e, h0⟩ := ih false s m' r' h2
          have hm0 : m' ≠ 0 := by rcases h0 with h0 | h0; cases h0; exact h0
          have hc := c.toNat_lt
          refine ⟨?_, Or.inr (by omega)⟩
          rw [vencF, if_neg (by omega), show m / 128 = m' by omega, show m % 128 + 128 = c.toNat by omega, e]
          simp
      · by_cases h2 : c.toNat = 0 ∧ first = false
        · rw [dnum, if_neg h1, if_pos h2] at h; simp at h
        · rw [dnum_last _ _ _ _ (by omega) h2] at h
          simp only [Option.some.injEq, Prod.mk.injEq] at h
          obtain ⟨rfl, rfl⟩ := h
          refine ⟨?_, ?_⟩
          · rw [vencF, if_pos (by omega)]; simp
          · cases first
            · exact Or.inr (fun e => h2 ⟨e, rfl⟩)
            · exact Or.inl rfl
/-- each read either fails or takes off the encoding of what it gives -/
structure Snd {α : Type} (P : Nat → α → Prop) (enc : α → List UInt8) (each : St → α × St) : Prop where
  good : ∀ s, (each (s, false)).2 = failed ∨ ((each (s, false)).2.2 = false ∧ s = enc (each (s, false)).1 ++ (each (s, false)).2.1 ∧ P s.length (each (s, false)).1)
  bad : (each failed).2 = failed
theorem snd_num : Snd (fun _ n => n < 9223372036854775808) venc stNum := by
  refine ⟨fun s => ?_, rfl⟩
  rcases h : dnum 9 true s with _ | ⟨n, r⟩
  · rw [stNum_none (s, false) h]; exact Or.inl rfl
  · rw [stNum_some (s, false) n r h]
    have h1 := dnum_sound 9 true s n r h
    have h2 := dnum_lt 9 true s n r h
    exact Or.inr ⟨rfl, h1.1, by simpa using h2.1⟩
theorem zig_unzig (z : Nat) : (zig (unzig z)).toNat = z := by
  rcases unzig_cases z with ⟨h, e⟩ | ⟨h, e⟩
  · rw [e]; unfold zig; rw [if_neg (by omega)]; omega
  · rw [e]; unfold zig; rw [if_pos (by omega)]; omega
theorem snd_int : Snd (fun _ n => inR n = true) ienc stInt := by
  refine ⟨fun s => ?_, rfl⟩
  by_cases h : inR (unzig (stNum (s, false)).1) = true
  · rw [stInt_ok _ h]
    rcases snd_num.good s with e | ⟨e1, e2, e3⟩
    · exact Or.inl e
    · refine Or.inr ⟨e1, ?_, h⟩
      rw [ienc_in _ h, zig_unzig]; exact e2
  · unfold stInt; rw [if_neg h]; exact Or.inl rfl
theorem snd_text : Snd (fun k s => s.length ≤ k) tenc stText := by
  refine ⟨fun s => ?_, rfl⟩
  unfold stText
  rcases snd_num.good s with e | ⟨e1, e2, e3⟩
  · rw [e, take_bad _ _ (Or.inl rfl)]; exact Or.inl rfl
  · generalize (stNum (s, false)).1 = n at *
    generalize (stNum (s, false)).2 = st at *
    obtain ⟨r, f⟩ := st
    obtain rfl : f = false := e1
    simp only at e2
    by_cases hb : (false = true) ∨ ((n : Nat) : Int) < 0 ∨ (r.length : Int) < (n : Int)
    · rw [take_bad _ (r, false) hb]; exact Or.inl rfl
    · rw [take_ok _ (r, false) hb]
      have hn : n ≤ r.length := by
        have : ¬ ((r.length : Int) < (n : Int)) := fun e => hb (Or.inr (Or.inr e))
        omega
      refine Or.inr ⟨rfl, ?_, ?_⟩
      · simp only [Int.toNat_natCast]
        unfold tenc
        rw [List.length_take, Nat.min_eq_left hn, List.append_assoc, List.take_append_drop]; exact e2
      · simp only [Int.toNat_natCast, List.length_take]
        rw [e2]; simp only [List.length_append]; omega
theorem iter_snd {α : Type} {P : Nat → α → Prop} {enc : α → List UInt8} {each : St → α × St} (h : Snd P enc each) : ∀ (n : Nat) (s : List UInt8), (iter each n (s, false)).2 = failed ∨
    ((iter each n (s, false)).2.2 = false ∧ s = ((iter each n (s, false)).1.map enc).flatten ++ (iter each n (s, false)).2.1 ∧ (iter each n (s, false)).1.length = n ∧ ∀ x ∈ (iter each n (s, false)).1, ∃ k, k ≤ s.length ∧ P k x) := by
  intro n
  induction n with
  | zero => intro s; exact Or.inr ⟨rfl, rfl, rfl, fun x hx => by simp [iter] at hx⟩
  | succ n ih =>
    intro s
    rw [iter_succ _ _ _ rfl]
    rcases h.good s with e | ⟨e1, e2, e3⟩
    · rw [e]; exact Or.inl (by rw [iter_bad _ _ _ rfl])
    · generalize (each (s, false)).1 = x at *
      generalize (each (s, false)).2 = st at *
      obtain ⟨r, f⟩ := st
      obtain rfl : f = false := e1
      simp only at e2
      rcases ih r with q | ⟨q1, q2, q3, q4⟩
      · exact Or.inl q
      · refine Or.inr ⟨q1, ?_, by simp [q3], fun y hy => ?_⟩
        · simp only [List.map_cons, List.flatten_cons, List.append_assoc]; rw [← q2]; exact e2
        · rcases List.mem_cons.1 hy with rfl | hy
          · exact ⟨_, Nat.le_refl _, e3⟩
          · obtain ⟨k, hk, hp⟩ := q4 y hy
            exact ⟨k, by rw [e2]; simp only [List.length_append]; omega, hp⟩
theorem many_snd {α : Type} {P : Nat → α → Prop} {enc : α → List UInt8} {each : St → α × St} (h : Snd P enc each) : Snd (fun k (l : List α) => l.length ≤ k ∧ ∀ x ∈ l, ∃ j, j ≤ k ∧ P j x) (fun l => venc l.length ++ (l.map enc).flatten) (stMany each) := by
  refine ⟨fun s => ?_, ?_⟩
  · rcases snd_num.good s with e | ⟨e1, e2, e3⟩
    · rw [stMany_bad each (s, false) (stNum (s, false)).1 failed failed [] failed (by rw [← e]) (by split <;> rfl) (iter_bad _ _ _ rfl) rfl]; exact Or.inl rfl
    · have hn : stNum (s, false) = ((stNum (s, false)).1, (stNum (s, false)).2) := rfl
      generalize (stNum (s, false)).1 = n at *
      generalize (stNum (s, false)).2 = st at *
      obtain ⟨r, f⟩ := st
      obtain rfl : f = false := e1
      simp only at e2
      by_cases hg : r.length < n
      · rw [stMany_bad each (s, false) n (r, false) failed [] failed hn (if_pos hg) (iter_bad _ _ _ rfl) rfl]; exact Or.inl rfl
      · have hi : iter each n (r, false) = ((iter each n (r, false)).1, (iter each n (r, false)).2) := rfl
        rcases iter_snd h n r with q | ⟨q1, q2, q3, q4⟩
        · rw [stMany_bad each (s, false) n (r, false) (r, false) (iter each n (r, false)).1 failed hn (if_neg hg) (by rw [← q]) rfl]; exact Or.inl rfl
        · rw [stMany_ok each (s, false) n (r, false) (r, false) _ _ hn (if_neg hg) hi q1]
          refine Or.inr ⟨q1, ?_, ?_, fun x hx => ?_⟩
          · simp only; rw [q3, List.append_assoc, ← q2]; exact e2
          · simp only; rw [q3, e2]; simp only [List.length_append]; omega
          · obtain ⟨k, hk, hp⟩ := q4 x hx
            exact ⟨k, by rw [e2]; simp only [List.length_append]; omega, hp⟩
  · exact congrArg Prod.snd (stMany_bad each failed 0 failed failed [] failed rfl (by split <;> rfl) (iter_bad _ _ _ rfl) rfl)
theorem snd_list : Snd (fun k (l : List (List UInt8)) => l.length ≤ k ∧ ∀ x ∈ l, ∃ j, j ≤ k ∧ x.length ≤ j) lenc stList := many_snd snd_text
theorem snd_nums : Snd (fun k (l : List Int) => l.length ≤ k ∧ ∀ x ∈ l, ∃ j, j ≤ k ∧ inR x = true) msenc stNums := many_snd snd_int
/-- what a value read from k bytes is -/
def ReadOk (k : Nat) (t : CV) : Prop :=
  (t.kind % 5 = 0 → 0 ≤ t.n ∧ t.n < 9223372036854775808) ∧ (t.kind % 5 = 1 → inR t.n = true) ∧ (t.kind % 5 = 2 → t.text.length ≤ k) ∧ (t.kind % 5 = 3 → t.texts.length ≤ k ∧ ∀ x ∈ t.texts, x.length ≤ k) ∧ (t.kind % 5 = 4 → t.nums.length ≤ k ∧ ∀ x ∈ t.nums, inR x = true)
theorem readCV_kind (t : CV) (st : St) : (readCV t st).1.kind = t.kind := by
  unfold readCV; split; rfl; split; rfl; split; rfl; split <;> rfl
theorem readCV_sound (t : CV) (s : List UInt8) : (readCV t (s, false)).2 = failed ∨ ((readCV t (s, false)).2.2 = false ∧ s = encCV (readCV t (s, false)).1 ++ (readCV t (s, false)).2.1 ∧ ReadOk s.length (readCV t (s, false)).1) := by
  rcases (by omega : t.kind % 5 = 0 ∨ t.kind % 5 = 1 ∨ t.kind % 5 = 2 ∨ t.kind % 5 = 3 ∨ t.kind % 5 = 4) with hk | hk | hk | hk | hk
  · have e : readCV t (s, false) = ({ t with n := ((stNum (s, false)).1 : Nat) }, (stNum (s, false)).2) := by simp [readCV, hk]
    rw [e]
    rcases snd_num.good s with q | ⟨q1, q2, q3⟩
    · exact Or.inl q
    · refine Or.inr ⟨q1, ?_, ?_⟩
      · simp only [encCV, hk, if_true, nenc]; rw [if_neg (by omega), Int.toNat_natCast]; exact q2
      · refine ⟨fun _ => ?_, fun h => ?_, fun h => ?_, fun h => ?_, fun h => ?_⟩
        · simp only; omega
        all_goals (simp only at h; omega)
  · have e : readCV t (s, false) = ({ t with n := (stInt (s, false)).1 }, (stInt (s, false)).2) := by simp [readCV, hk]
    rw [e]
    rcases snd_int.good s with q | ⟨q1, q2, q3⟩
    · exact Or.inl q
    · refine Or.inr ⟨q1, ?_, ?_⟩
      · simpa [encCV, hk] using q2
      · refine ⟨fun h => ?_, fun h => q3, fun h => ?_, fun h => ?_, fun h => ?_⟩
        all_goals (simp only at h; omega)
  · have e : readCV t (s, false) = ({ t with text := (stText (s, false)).1 }, (stText (s, false)).2) := by simp [readCV, hk]
    rw [e]
    rcases snd_text.good s with q | ⟨q1, q2, q3⟩
    · exact Or.inl q
    · refine Or.inr ⟨q1, ?_, ?_⟩
      · simpa [encCV, hk] using q2
      · refine ⟨fun h => ?_, fun h => ?_, fun h => q3, fun h => ?_, fun h => ?_⟩
        all_goals (simp only at h; omega)
  · have e : readCV t (s, false) = ({ t with texts := (stList (s, false)).1 }, (stList (s, false)).2) := by simp [readCV, hk]
    rw [e]
    rcases snd_list.good s with q | ⟨q1, q2, q3, q4⟩
    · exact Or.inl q
    · refine Or.inr ⟨q1, ?_, ?_⟩
      · simpa [encCV, hk] using q2
      · refine ⟨fun h => ?_, fun h => ?_, fun h => ?_, fun h => ⟨q3, fun x hx => by obtain ⟨j, h1, h2⟩ := q4 x hx; omega⟩, fun h => ?_⟩
        all_goals (simp only at h; omega)
  · have e : readCV t (s, false) = ({ t with nums := (stNums (s, false)).1 }, (stNums (s, false)).2) := by simp [readCV, hk]
    rw [e]
    rcases snd_nums.good s with q | ⟨q1, q2, q3, q4⟩
    · exact Or.inl q
    · refine Or.inr ⟨q1, ?_, ?_⟩
      · simpa [encCV, hk] using q2
      · refine ⟨fun h => ?_, fun h => ?_, fun h => ?_, fun h => ?_, fun h => ⟨q3, fun x hx => by obtain ⟨j, h1, h2⟩ := q4 x hx; exact h2⟩⟩
        all_goals (simp only at h; omega)
theorem readCV_failed (t : CV) : (readCV t failed).2 = failed := by
  unfold readCV; split; exact snd_num.bad; split; exact snd_int.bad; split; exact snd_text.bad; split; exact snd_list.bad; exact snd_nums.bad
theorem readCV_st (t t' : CV) (h : t.kind = t'.kind) (st : St) : (readCV t st).2 = (readCV t' st).2 := by
  unfold readCV; rw [h]; split; rfl; split; rfl; split; rfl; split <;> rfl
theorem readCV_enc (t : CV) (h : InRange t) (r : List UInt8) : (readCV t (encCV t ++ r, false)).2 = (r, false) := by
  rcases gives_enc t h r with ⟨hk, e, _⟩ | ⟨hk, e⟩ | ⟨hk, e⟩ | ⟨hk, e⟩ | ⟨hk, e⟩ <;> (simp only [readCV, hk]; simp [e])
theorem readCV_others (t : CV) (st : St) : (t.kind % 5 ≠ 2 → (readCV t st).1.text = t.text) ∧ (t.kind % 5 ≠ 3 → (readCV t st).1.texts = t.texts) ∧ (t.kind % 5 ≠ 4 → (readCV t st).1.nums = t.nums) ∧ (t.kind % 5 ≠ 0 → t.kind % 5 ≠ 1 → (readCV t st).1.n = t.n) := by
  rcases (by omega : t.kind % 5 = 0 ∨ t.kind % 5 = 1 ∨ t.kind % 5 = 2 ∨ t.kind % 5 = 3 ∨ t.kind % 5 = 4) with hk | hk | hk | hk | hk <;> (simp only [readCV, hk]; simp)
theorem cut_fails (t : CV) (h : InRange t) (p q : List UInt8) (hp : p ++ q = encCV t) (hq : q ≠ []) (hl : p.length ≤ 1000000000) : (readCV t (p, false)).2 = failed := by
  rcases readCV_sound t p with e | ⟨e1, e2, e3⟩
  · exact e
  · exfalso
    have hk := readCV_kind t (p, false)
    obtain ⟨o1, o2, o3, o4⟩ := readCV_others t (p, false)
    generalize (readCV t (p, false)).1 = t' at *
    generalize (readCV t (p, false)).2 = st at *
    obtain ⟨r, f⟩ := st
    obtain rfl : f = false := e1
    simp only at e2
    obtain ⟨a0, a1, a2, ⟨a3, a4⟩, a5, a6⟩ := h
    obtain ⟨b0, b1, b2, b3, b4⟩ := e3
    have hr : InRange t' := by
      refine ⟨fun hk' => by have := b0 hk'; omega, b1, ?_, ?_, ?_⟩
      · by_cases hx : t.kind % 5 = 2
        · have := b2 (by rw [hk]; exact hx); omega
        · rw [o1 hx]; exact a2
      · by_cases hx : t.kind % 5 = 3
        · have := b3 (by rw [hk]; exact hx)
          exact ⟨by omega, fun x hx => by have := this.2 x hx; omega⟩
        · rw [o2 hx]; exact ⟨a3, a4⟩
      · by_cases hx : t.kind % 5 = 4
        · have := b4 (by rw [hk]; exact hx)
          exact ⟨by omega, this.2⟩
        · rw [o3 hx]; exact ⟨a5, a6⟩
    have h1 := readCV_enc t ⟨a0, a1, a2, ⟨a3, a4⟩, a5, a6⟩ []
    have h2 := readCV_enc t' hr (r ++ q)
    rw [readCV_st t t' hk.symm, List.append_nil, ← hp, e2, List.append_assoc, h2] at h1
    simp only [Prod.mk.injEq, List.append_eq_nil_iff, and_true] at h1
    exact hq h1.2
end Go.Proofs.Ytmlcnmpfjallkaa
