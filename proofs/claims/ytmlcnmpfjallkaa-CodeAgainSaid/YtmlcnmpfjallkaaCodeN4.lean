/- Chapter 02 (code): plain laws: decoding what was encoded. -/
import Derived.Test.YtmlcnmpfjallkaaCodeV3
set_option linter.unusedVariables false
namespace Go.Proofs.Ytmlcnmpfjallkaa
theorem stNum_venc (n : Nat) (r : List UInt8) (f : Bool) (h : n < 9223372036854775808) : stNum (venc n ++ r, f) = (n, (r, f)) := stNum_some _ _ _ (dnum_venc n r h)
theorem unzig_zig (n : Int) : unzig (zig n).toNat = n := by
  unfold zig
  split
  · rw [unzig_neg _ (by omega)]; omega
  · rw [unzig_pos _ (by omega)]; omega
theorem stInt_ienc (n : Int) (r : List UInt8) (f : Bool) (h : inR n = true) : stInt (ienc n ++ r, f) = (n, (r, f)) := by
  have e : stNum (ienc n ++ r, f) = ((zig n).toNat, (r, f)) := by rw [ienc_in n h]; exact stNum_venc _ _ _ (zig_lt n h)
  rw [stInt_ok _ (by rw [e, unzig_zig]; exact h), e, unzig_zig]
theorem stText_tenc (s r : List UInt8) (h : s.length ≤ 1000000000) : stText (tenc s ++ r, false) = (s, (r, false)) := by
  have e : stNum (tenc s ++ r, false) = (s.length, (s ++ r, false)) := by
    unfold tenc; rw [List.append_assoc]; exact stNum_venc _ _ _ (by omega)
  unfold stText
  rw [e]
  show stTake ((s.length : Nat) : Int) (s ++ r, false) = _
  rw [take_ok _ _ (by simp only [List.length_append]; rintro (h | h | h); cases h; omega; omega)]
  simp
theorem iter_all {α : Type} (each : St → α × St) (enc : α → List UInt8) : ∀ (l : List α) (r : List UInt8), (∀ x ∈ l, ∀ r, each (enc x ++ r, false) = (x, (r, false))) → iter each l.length ((l.map enc).flatten ++ r, false) = (l, (r, false)) := by
  intro l
  induction l with
  | nil => intro r _; rfl
  | cons x l ih =>
    intro r h
    have h1 := h x (by simp) ((l.map enc).flatten ++ r)
    have h2 := ih r (fun y hy => h y (List.mem_cons_of_mem _ hy))
    rw [List.length_cons, iter_succ _ _ _ rfl]
    simp only [List.map_cons, List.flatten_cons, List.append_assoc]
    rw [h1, h2]
theorem stMany_all {α : Type} (each : St → α × St) (enc : α → List UInt8) (l : List α) (r : List UInt8) (h : ∀ x ∈ l, ∀ r, each (enc x ++ r, false) = (x, (r, false))) (hn : l.length < 9223372036854775808) (hl : l.length ≤ ((l.map enc).flatten ++ r).length) :
    stMany each (venc l.length ++ ((l.map enc).flatten ++ r), false) = (l, (r, false)) :=
  stMany_ok each _ l.length ((l.map enc).flatten ++ r, false) ((l.map enc).flatten ++ r, false) l (r, false) (stNum_venc _ _ _ hn) (if_neg (by show ¬ ((l.map enc).flatten ++ r).length < l.length; omega)) (iter_all each enc l r h) rfl
theorem flat_ge {α : Type} (enc : α → List UInt8) : ∀ (l : List α), (∀ x ∈ l, 1 ≤ (enc x).length) → l.length ≤ ((l.map enc).flatten).length := by
  intro l
  induction l with
  | nil => intro _; simp
  | cons x l ih =>
    intro h
    have h1 := h x (by simp)
    have h2 := ih (fun y hy => h y (List.mem_cons_of_mem _ hy))
    simp only [List.map_cons, List.flatten_cons, List.length_append, List.length_cons]; omega
theorem stList_lenc (l : List (List UInt8)) (r : List UInt8) (hl : l.length ≤ 1000000000) (hx : ∀ x ∈ l, x.length ≤ 1000000000) : stList (lenc l ++ r, false) = (l, (r, false)) := by
  unfold stList lenc
  rw [List.append_assoc]
  refine stMany_all stText tenc l r (fun x hx' r => stText_tenc x r (hx x hx')) (by omega) ?_
  have := flat_ge tenc l (fun x hx' => by have := (venc_bound x.length (by have := hx x hx'; omega)).1; simp only [tenc, List.length_append]; omega)
  rw [List.length_append]; omega
theorem stNums_msenc (l : List Int) (r : List UInt8) (hl : l.length ≤ 1000000000) (hx : ∀ x ∈ l, inR x = true) : stNums (msenc l ++ r, false) = (l, (r, false)) := by
  unfold stNums msenc
  rw [List.append_assoc]
  refine stMany_all stInt ienc l r (fun x hx' r => stInt_ienc x r false (hx x hx')) (by omega) ?_
  have := flat_ge ienc l (fun x hx' => by rw [ienc_in x (hx x hx')]; exact (venc_bound _ (zig_lt x (hx x hx'))).1)
  rw [List.length_append]; omega
/-- a value whose component is in range is decoded again -/
def InRange (t : CV) : Prop :=
  (t.kind % 5 = 0 → 0 ≤ t.n ∧ t.n ≤ 9223372036854775807) ∧ (t.kind % 5 = 1 → inR t.n = true) ∧ t.text.length ≤ 1000000000 ∧ (t.texts.length ≤ 1000000000 ∧ ∀ x ∈ t.texts, x.length ≤ 1000000000) ∧ (t.nums.length ≤ 1000000000 ∧ ∀ x ∈ t.nums, inR x = true)
theorem gives_enc (t : CV) (h : InRange t) (r : List UInt8) :
    (t.kind % 5 = 0 ∧ stNum (encCV t ++ r, false) = (t.n.toNat, (r, false)) ∧ 0 ≤ t.n) ∨ (t.kind % 5 = 1 ∧ stInt (encCV t ++ r, false) = (t.n, (r, false))) ∨ (t.kind % 5 = 2 ∧ stText (encCV t ++ r, false) = (t.text, (r, false))) ∨
    (t.kind % 5 = 3 ∧ stList (encCV t ++ r, false) = (t.texts, (r, false))) ∨ (t.kind % 5 = 4 ∧ stNums (encCV t ++ r, false) = (t.nums, (r, false))) := by
  obtain ⟨h0, h1, h2, ⟨h3, h4⟩, h5, h6⟩ := h
  rcases (by omega : t.kind % 5 = 0 ∨ t.kind % 5 = 1 ∨ t.kind % 5 = 2 ∨ t.kind % 5 = 3 ∨ t.kind % 5 = 4) with hk | hk | hk | hk | hk
  · have e : encCV t = venc t.n.toNat := by
      unfold encCV nenc; rw [if_pos hk, if_neg (by have := h0 hk; omega)]
    have := h0 hk
    exact Or.inl ⟨hk, by rw [e]; exact stNum_venc _ _ _ (by omega), this.1⟩
  · have e : encCV t = ienc t.n := by simp [encCV, hk]
    exact Or.inr (Or.inl ⟨hk, by rw [e]; exact stInt_ienc _ _ _ (h1 hk)⟩)
  · have e : encCV t = tenc t.text := by simp [encCV, hk]
    exact Or.inr (Or.inr (Or.inl ⟨hk, by rw [e]; exact stText_tenc _ _ h2⟩))
  · have e : encCV t = lenc t.texts := by simp [encCV, hk]
    exact Or.inr (Or.inr (Or.inr (Or.inl ⟨hk, by rw [e]; exact stList_lenc _ _ h3 h4⟩)))
  · have e : encCV t = msenc t.nums := by simp [encCV, hk]
    exact Or.inr (Or.inr (Or.inr (Or.inr ⟨hk, by rw [e]; exact stNums_msenc _ _ h5 h6⟩)))
end Go.Proofs.Ytmlcnmpfjallkaa
