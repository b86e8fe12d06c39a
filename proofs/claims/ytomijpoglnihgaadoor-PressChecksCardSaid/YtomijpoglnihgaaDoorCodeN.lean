/- Chapter 02 (code): plain facts on reading a varint. -/
import Derived.Test.YtomijpoglnihgaaDoorCodeS
set_option linter.unusedVariables false
namespace Go.Proofs.YtomijpoglnihgaaDoor
def comb (P k : Nat) : Option (Nat × List UInt8) → Option (Nat × List UInt8)
  | some (m, r) => some (P + 128 ^ k * m, r)
  | none => none
theorem comb_zero (o : Option (Nat × List UInt8)) : comb 0 0 o = o := by
  cases o <;> simp [comb]
theorem comb_comb (P k q : Nat) (o : Option (Nat × List UInt8)) : comb P k (comb q 1 o) = comb (P + 128 ^ k * q) (k + 1) o := by
  cases o with
  | none => rfl
  | some x => simp [comb, Nat.pow_succ, Nat.mul_add, Nat.mul_assoc, Nat.add_assoc]
theorem dnum_more (f : Nat) (first : Bool) (c : UInt8) (r : List UInt8) (h : 128 ≤ c.toNat) : dnum (f + 1) first (c :: r) = comb (c.toNat - 128) 1 (dnum f false r) := by
  rw [dnum, if_pos h]
  cases dnum f false r with
  | none => rfl
  | some x => simp [comb]
theorem dnum_last (f : Nat) (first : Bool) (c : UInt8) (r : List UInt8) (h : c.toNat < 128) (h2 : ¬ (c.toNat = 0 ∧ first = false)) : dnum (f + 1) first (c :: r) = some (c.toNat, r) := by
  rw [dnum, if_neg (by omega), if_neg h2]
theorem dnum_zero (f : Nat) (c : UInt8) (r : List UInt8) (h : c.toNat = 0) : dnum (f + 1) false (c :: r) = none := by
  rw [dnum, if_neg (by omega), if_pos ⟨h, rfl⟩]
theorem dnum_nil (f : Nat) (first : Bool) : dnum f first [] = none := by cases f <;> rfl
theorem drop_at (s : List UInt8) (k : Nat) (c : UInt8) (h : s[k]? = some c) : s.drop k = c :: s.drop (k + 1) := by
  obtain ⟨hk, e⟩ := List.getElem?_eq_some_iff.1 h
  rw [List.drop_eq_getElem_cons hk, e]
/-- the state of a read after k bytes above 127, which sum up to P -/
def Mid (s : List UInt8) (k P : Nat) : Prop := dnum 9 true s = comb P k (dnum (9 - k) (k == 0) (s.drop k)) ∧ P < 128 ^ k
theorem Mid.start (s : List UInt8) : Mid s 0 0 := ⟨by rw [comb_zero]; rfl, by decide⟩
theorem Mid.more {s : List UInt8} {k P : Nat} (h : Mid s k P) (hk : k < 9) {c : UInt8} (hc : s[k]? = some c) (h1 : 128 ≤ c.toNat) : Mid s (k + 1) (P + 128 ^ k * (c.toNat - 128)) := by
  obtain ⟨ha, hb⟩ := h
  constructor
  · rw [ha, drop_at s k c hc]
    obtain ⟨m, hm⟩ : ∃ m, 9 - k = m + 1 := ⟨8 - k, by omega⟩
    rw [hm, dnum_more _ _ _ _ h1, comb_comb, show 9 - (k + 1) = m by omega]
    rfl
  · have h2 : c.toNat - 128 ≤ 127 := by have := c.toNat_lt; omega
    have h3 : 128 ^ k * (c.toNat - 128) ≤ 128 ^ k * 127 := Nat.mul_le_mul_left _ h2
    rw [Nat.pow_succ]; omega
theorem Mid.last {s : List UInt8} {k P : Nat} (h : Mid s k P) (hk : k < 9) {c : UInt8} (hc : s[k]? = some c) (h1 : c.toNat < 128) (h2 : ¬ (c.toNat = 0 ∧ 0 < k)) : dnum 9 true s = some (P + 128 ^ k * c.toNat, s.drop (k + 1)) := by
  rw [h.1, drop_at s k c hc]
  obtain ⟨m, hm⟩ : ∃ m, 9 - k = m + 1 := ⟨8 - k, by omega⟩
  rw [hm, dnum_last _ _ _ _ h1 (by simp; omega)]
  rfl
theorem Mid.zero {s : List UInt8} {k P : Nat} (h : Mid s k P) (hk : k < 9) {c : UInt8} (hc : s[k]? = some c) (h1 : c.toNat = 0) (h2 : 0 < k) : dnum 9 true s = none := by
  rw [h.1, drop_at s k c hc]
  obtain ⟨m, hm⟩ : ∃ m, 9 - k = m + 1 := ⟨8 - k, by omega⟩
  rw [hm, show (k == 0) = false by simp; omega, dnum_zero _ _ _ h1]; rfl
theorem Mid.out {s : List UInt8} {k P : Nat} (h : Mid s k P) (hk : 9 ≤ k ∨ s.length ≤ k) : dnum 9 true s = none := by
  rw [h.1]
  rcases hk with hk | hk
  · rw [show 9 - k = 0 by omega]; rfl
  · rw [List.drop_eq_nil_of_le hk, dnum_nil]; rfl
theorem stNum_none (st : St) (h : dnum 9 true st.1 = none) : stNum st = (0, failed) := by simp [stNum, h]
theorem stNum_some (st : St) (n : Nat) (r : List UInt8) (h : dnum 9 true st.1 = some (n, r)) : stNum st = (n, (r, st.2)) := by simp [stNum, h]
theorem Mid.small {s : List UInt8} {k P : Nat} (h : Mid s k P) (hk : k < 9) (c : Nat) (hc : c < 128) : P + 128 ^ k * c < 9223372036854775808 := by
  have h1 := h.2
  have h2 : 128 ^ k * c ≤ 128 ^ k * 127 := Nat.mul_le_mul_left _ (by omega)
  have h3 : 128 ^ k ≤ 128 ^ 8 := Nat.pow_le_pow_right (by decide) (by omega)
  have h4 : (128 : Nat) ^ 8 = 72057594037927936 := by decide
  omega
end Go.Proofs.YtomijpoglnihgaaDoor
