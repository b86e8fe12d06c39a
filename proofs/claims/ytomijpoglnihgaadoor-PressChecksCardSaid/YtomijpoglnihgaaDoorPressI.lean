/- Package press, in plain Lean: the index of earlier offsets. -/
import Derived.Test.YtomijpoglnihgaaDoorPressN
set_option linter.unusedVariables false
namespace Go.Proofs.YtomijpoglnihgaaDoor
open Go.RowKit
/-- the greatest number below n for which P holds -/
def latest (P : Nat → Bool) : Nat → Option Nat
  | 0 => none
  | n + 1 => if P n then some n else latest P n
theorem latest_some {P : Nat → Bool} : ∀ {n p}, latest P n = some p → p < n ∧ P p = true ∧ ∀ q, p < q → q < n → P q = false
  | 0, p, h => by cases h
  | n + 1, p, h => by
    rw [latest] at h
    split at h
    · rename_i hp
      injection h with h; subst h
      exact ⟨Nat.lt_succ_self _, hp, fun q h1 h2 => by omega⟩
    · rename_i hp
      obtain ⟨h1, h2, h3⟩ := latest_some h
      refine ⟨by omega, h2, fun q h4 h5 => ?_⟩
      by_cases e : q = n
      · subst e; simpa using hp
      · exact h3 q h4 (by omega)
theorem latest_none {P : Nat → Bool} : ∀ {n}, latest P n = none → ∀ q, q < n → P q = false
  | 0, _, q, h => by omega
  | n + 1, h, q, hq => by
    rw [latest] at h
    split at h
    · cases h
    · rename_i hp
      by_cases e : q = n
      · subst e; simpa using hp
      · exact latest_none h q (by omega)
theorem latest_of {P : Nat → Bool} {n p : Nat} (h1 : p < n) (h2 : P p = true) (h3 : ∀ q, p < q → q < n → P q = false) : latest P n = some p := by
  cases h : latest P n with
  | none => have := latest_none h p h1; rw [h2] at this; cases this
  | some q =>
    obtain ⟨h4, h5, h6⟩ := latest_some h
    rcases Nat.lt_trichotomy p q with e | e | e
    · have := h3 q e h4; rw [h5] at this; cases this
    · rw [e]
    · have := h6 p e h1; rw [h2] at this; cases this
theorem latest_no {P : Nat → Bool} {n : Nat} (h : ∀ q, q < n → P q = false) : latest P n = none := by
  cases h2 : latest P n with
  | none => rfl
  | some q => obtain ⟨h4, h5, h6⟩ := latest_some h2; rw [h q h4] at h5; cases h5
theorem latest_congr {P Q : Nat → Bool} : ∀ {n}, (∀ q, q < n → P q = Q q) → latest P n = latest Q n
  | 0, _ => rfl
  | n + 1, h => by rw [latest, latest, h n (Nat.lt_succ_self _), latest_congr (fun q hq => h q (by omega))]
def byteN (s : List UInt8) (p : Nat) : Nat := (s.getD p 0).toNat
theorem byteN_lt (s : List UInt8) (p : Nat) : byteN s p < 256 := (s.getD p 0).toNat_lt
/-- the four bytes at p -/
def key4 (s : List UInt8) (p : Nat) : Nat := byteN s p + 256 * byteN s (p + 1) + 65536 * byteN s (p + 2) + 16777216 * byteN s (p + 3)
theorem key4_lt (s : List UInt8) (p : Nat) : key4 s p < 4294967296 := by
  unfold key4
  have h0 := byteN_lt s p
  have h1 := byteN_lt s (p + 1)
  have h2 := byteN_lt s (p + 2)
  have h3 := byteN_lt s (p + 3)
  omega
theorem byteN_inj {s : List UInt8} {p q : Nat} (hp : p < s.length) (hq : q < s.length) : byteN s p = byteN s q ↔ s[p]? = s[q]? := by
  unfold byteN
  rw [List.getD_eq_getElem?_getD, List.getD_eq_getElem?_getD, List.getElem?_eq_getElem hp, List.getElem?_eq_getElem hq]
  simp only [Option.getD_some, Option.some.injEq]
  exact ⟨fun h => UInt8.toNat_inj.1 h, fun h => by rw [h]⟩
theorem key4_eq {s : List UInt8} {p q : Nat} (hp : p + 4 ≤ s.length) (hq : q + 4 ≤ s.length) : key4 s p = key4 s q ↔ ∀ j, j < 4 → s[p + j]? = s[q + j]? := by
  have b := fun j (hj : j < 4) => byteN_inj (s := s) (p := p + j) (q := q + j) (by omega) (by omega)
  constructor
  · intro h j hj
    unfold key4 at h
    have h0 := byteN_lt s p
    have h1 := byteN_lt s (p + 1)
    have h2 := byteN_lt s (p + 2)
    have h3 := byteN_lt s (p + 3)
    have g0 := byteN_lt s q
    have g1 := byteN_lt s (q + 1)
    have g2 := byteN_lt s (q + 2)
    have g3 := byteN_lt s (q + 3)
    refine (b j hj).1 ?_
    have h01 : byteN s p = byteN s q ∧ byteN s (p + 1) = byteN s (q + 1) ∧ byteN s (p + 2) = byteN s (q + 2) ∧ byteN s (p + 3) = byteN s (q + 3) := by omega
    match j, hj with
    | 0, _ => exact h01.1
    | 1, _ => exact h01.2.1
    | 2, _ => exact h01.2.2.1
    | 3, _ => exact h01.2.2.2
  · intro h
    unfold key4
    have e0 : byteN s p = byteN s q := (b 0 (by omega)).2 (h 0 (by omega))
    rw [e0, (b 1 (by omega)).2 (h 1 (by omega)), (b 2 (by omega)).2 (h 2 (by omega)), (b 3 (by omega)).2 (h 3 (by omega))]
theorem cp_ge : ∀ (x y : List UInt8) (n : Nat), n ≤ x.length → n ≤ y.length → (∀ j, j < n → x[j]? = y[j]?) → n ≤ cp x y
  | _, _, 0, _, _, _ => Nat.zero_le _
  | [], _, n + 1, h, _, _ => by simp at h
  | _ :: _, [], n + 1, _, h, _ => by simp at h
  | a :: x, b :: y, n + 1, h1, h2, h3 => by
    have e : a = b := by have := h3 0 (by omega); simpa using this
    have := cp_ge x y n (by simpa using h1) (by simpa using h2) (fun j hj => by have := h3 (j + 1) (by omega); simpa using this)
    simp only [cp, if_pos e]; omega
/-- four bytes alike, or a match of fewer -/
theorem mlen_key {s : List UInt8} {i d : Nat} (hi : i + 4 ≤ s.length) (hd : d ≤ i) : 4 ≤ mlen s i d ↔ key4 s (i - d) = key4 s i := by
  rw [key4_eq (by omega) hi]
  constructor
  · intro h j hj; exact (mlen_at (by omega)).symm
  · intro h
    refine cp_ge _ _ 4 (by rw [List.length_drop]; omega) (by rw [List.length_drop]; omega) (fun j hj => ?_)
    rw [List.getElem?_drop, List.getElem?_drop]; exact (h j hj).symm
def lastF (s : List UInt8) (m K : Nat) : Option Nat := latest (fun p => key4 s p == K && decide (m ≤ p + 4096)) m
def prevF (s : List UInt8) (q : Nat) : Option Nat := latest (fun p => key4 s p == key4 s q && decide (q < p + 4096)) q
def optI : Option Nat → Int
  | some p => p
  | none => -1
/-- entering offset m, the old one having been struck -/
theorem last_drop (s : List UInt8) (m K : Nat) : latest (fun p => key4 s p == K && decide (m < p + 4096)) m = if 4096 ≤ m ∧ key4 s (m - 4096) = K ∧ lastF s m K = some (m - 4096) then none else lastF s m K := by
  by_cases h : 4096 ≤ m ∧ key4 s (m - 4096) = K ∧ lastF s m K = some (m - 4096)
  · rw [if_pos h]
    obtain ⟨h1, h2, h3⟩ := h
    obtain ⟨h4, h5, h6⟩ := latest_some h3
    refine latest_no fun q hq => ?_
    by_cases e : m - 4096 < q
    · have := h6 q e hq
      simp only [Bool.and_eq_false_imp, beq_iff_eq, decide_eq_false_iff_not] at this ⊢
      intro hk
      have := this hk
      omega
    · simp only [Bool.and_eq_false_imp, decide_eq_false_iff_not]
      intro _
      omega
  · rw [if_neg h]
    cases hl : lastF s m K with
    | none =>
      refine latest_no fun q hq => ?_
      have := latest_none hl q hq
      simp only [Bool.and_eq_false_imp, beq_iff_eq, decide_eq_false_iff_not] at this ⊢
      intro hk
      have := this hk
      omega
    | some p =>
      obtain ⟨h4, h5, h6⟩ := latest_some hl
      simp only [Bool.and_eq_true, beq_iff_eq, decide_eq_true_eq] at h5
      have hne : ¬ m = p + 4096 := fun e => h ⟨by omega, by rw [show m - 4096 = p by omega]; exact h5.1, by rw [hl]; simp; omega⟩
      refine latest_of h4 (by simp only [Bool.and_eq_true, beq_iff_eq, decide_eq_true_eq]; exact ⟨h5.1, by omega⟩) (fun q h7 h8 => ?_)
      have := h6 q h7 h8
      simp only [Bool.and_eq_false_imp, beq_iff_eq, decide_eq_false_iff_not] at this ⊢
      intro hk
      have := this hk
      omega
theorem last_next (s : List UInt8) (m K : Nat) : lastF s (m + 1) K = if key4 s m = K then some m else latest (fun p => key4 s p == K && decide (m < p + 4096)) m := by
  unfold lastF
  rw [latest]
  by_cases h : key4 s m = K
  · rw [if_pos h, if_pos (by simp [h])]
  · rw [if_neg h, if_neg (by simp [h])]
    exact latest_congr fun q hq => by
      by_cases e : m + 1 ≤ q + 4096
      · rw [decide_eq_true e, decide_eq_true (show m < q + 4096 by omega)]
      · rw [decide_eq_false e, decide_eq_false (show ¬ m < q + 4096 by omega)]
theorem prev_last (s : List UInt8) (m : Nat) : prevF s m = latest (fun p => key4 s p == key4 s m && decide (m < p + 4096)) m := rfl
/-! ### the chain -/
def sc4 (s : List UInt8) (i D : Nat) : Nat × Nat := if 4 ≤ (scan s i D).1 then scan s i D else (0, 0)
theorem sc4_succ (s : List UInt8) (i D : Nat) : sc4 s i (D + 1) = if 4 ≤ mlen s i (D + 1) ∧ (sc4 s i D).1 < mlen s i (D + 1) then (mlen s i (D + 1), D + 1) else sc4 s i D := by
  unfold sc4
  rw [scan]
  by_cases h1 : (scan s i D).1 < mlen s i (D + 1)
  · rw [if_pos h1]
    by_cases h2 : 4 ≤ mlen s i (D + 1)
    · have h3 : (if 4 ≤ (scan s i D).1 then scan s i D else (0, 0)).1 < mlen s i (D + 1) := by
        split
        · exact h1
        · show 0 < _; omega
      rw [if_pos h2, if_pos ⟨h2, h3⟩]
    · rw [if_neg h2, if_neg (fun h => h2 h.1), if_neg (by omega)]
  · rw [if_neg h1]
    by_cases h2 : 4 ≤ mlen s i (D + 1)
    · rw [if_pos (by omega), if_neg (fun h => h1 h.2)]
    · rw [if_neg (c := 4 ≤ mlen s i (D + 1) ∧ _) (fun h => h2 h.1)]
theorem sc4_skip (s : List UInt8) (i : Nat) : ∀ D E, D ≤ E → (∀ d, D < d → d ≤ E → mlen s i d < 4 ∨ mlen s i d ≤ (sc4 s i D).1) → sc4 s i E = sc4 s i D
  | D, 0, h, _ => by obtain rfl : D = 0 := by omega
                     rfl
  | D, E + 1, h, hd => by
    by_cases e : D = E + 1
    · rw [e]
    · have ih := sc4_skip s i D E (by omega) (fun d h1 h2 => hd d h1 (by omega))
      rw [sc4_succ, ih, if_neg (fun h2 => by rcases hd (E + 1) (by omega) (Nat.le_refl _) with h3 | h3 <;> omega)]
theorem sc4_le (s : List UInt8) (i D : Nat) : (sc4 s i D).1 ≤ s.length - i := by
  unfold sc4
  split
  · rcases scan_ok s i D with h | h
    · omega
    · rw [h.1]; exact mlen_le s i _
  · exact Nat.zero_le _
/-- what longest gives -/
def longP (s : List UInt8) (i : Nat) : Nat × Nat := if s.length < i + 4 then (0, 0) else sc4 s i (min i 4096)
theorem longP_eq (s : List UInt8) (i : Nat) : longP s i = if (longF s i).1 < 4 then (0, 0) else longF s i := by
  unfold longP
  have h := longF_le s i
  by_cases h1 : s.length < i + 4
  · rw [if_pos h1, if_pos (by omega)]
  · rw [if_neg h1]
    unfold sc4 longF
    by_cases h2 : 4 ≤ (scan s i (min i 4096)).1
    · rw [if_pos h2, if_neg (by omega)]
    · rw [if_neg h2, if_pos (by omega)]
/-- no candidate between: nothing changes -/
theorem sc4_none {s : List UInt8} {i D E : Nat} (hi : i + 4 ≤ s.length) (hD : D ≤ E) (hE : E ≤ i) (h : ∀ p, i - E ≤ p → p < i - D → key4 s p ≠ key4 s i) : sc4 s i E = sc4 s i D :=
  sc4_skip s i D E hD fun d h1 h2 => Or.inl (Nat.lt_of_not_le fun h4 => h (i - d) (by omega) (by omega) ((mlen_key hi (by omega)).1 h4))
end Go.Proofs.YtomijpoglnihgaaDoor
