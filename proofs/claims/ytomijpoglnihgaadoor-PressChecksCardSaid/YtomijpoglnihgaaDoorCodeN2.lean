/- Chapter 02 (code): plain facts on reading a varint the reference's way. -/
import Derived.Test.YtomijpoglnihgaaDoorCodeN
set_option linter.unusedVariables false
namespace Go.Proofs.YtomijpoglnihgaaDoor
def AllHi (s : List UInt8) (k : Nat) : Prop := ∀ j, j < k → ∃ c, s[j]? = some c ∧ 128 ≤ c.toNat
def hiv : List UInt8 → Nat
  | [] => 0
  | c :: r => c.toNat % 128 + 128 * hiv r
theorem hiv_lt : ∀ l : List UInt8, hiv l < 128 ^ l.length
  | [] => by simp [hiv]
  | c :: r => by
    have := hiv_lt r
    simp only [hiv, List.length_cons, Nat.pow_succ]
    have : c.toNat % 128 < 128 := Nat.mod_lt _ (by decide)
    omega
theorem AllHi.zero (s : List UInt8) : AllHi s 0 := fun j hj => by omega
theorem AllHi.succ {s : List UInt8} {k : Nat} (h : AllHi s k) {c : UInt8} (hc : s[k]? = some c) (h1 : 128 ≤ c.toNat) : AllHi s (k + 1) := fun j hj => by
  rcases Nat.lt_or_ge j k with h2 | h2
  · exact h j h2
  · obtain rfl : j = k := by omega
    exact ⟨c, hc, h1⟩
theorem AllHi.tail {c : UInt8} {s : List UInt8} {k : Nat} (h : AllHi (c :: s) (k + 1)) : 128 ≤ c.toNat ∧ AllHi s k := by
  constructor
  · obtain ⟨d, hd, h1⟩ := h 0 (by omega)
    simp at hd; subst hd; exact h1
  · intro j hj
    obtain ⟨d, hd, h1⟩ := h (j + 1) (by omega)
    exact ⟨d, by simpa using hd, h1⟩
theorem dnum_hiv : ∀ (k f : Nat) (first : Bool) (s : List UInt8) (c : UInt8), AllHi s k → s[k]? = some c → c.toNat < 128 → k < f → ¬ (c.toNat = 0 ∧ (0 < k ∨ first = false)) → dnum f first s = some (hiv (s.take (k + 1)), s.drop (k + 1)) := by
  intro k
  induction k with
  | zero =>
    intro f first s c _ hc h1 hf h0
    obtain ⟨g, rfl⟩ : ∃ g, f = g + 1 := ⟨f - 1, by omega⟩
    cases s with
    | nil => simp at hc
    | cons d r =>
      simp at hc; subst hc
      rw [dnum_last _ _ _ _ h1 (by simpa using h0)]
      simp [hiv]; omega
  | succ k ih =>
    intro f first s c ha hc h1 hf h0
    obtain ⟨g, rfl⟩ : ∃ g, f = g + 1 := ⟨f - 1, by omega⟩
    cases s with
    | nil => simp at hc
    | cons d r =>
      obtain ⟨hd, ht⟩ := ha.tail
      rw [dnum_more _ _ _ _ hd, ih g false r c ht (by simpa using hc) h1 (by omega) (by simp; omega)]
      have : d.toNat % 128 = d.toNat - 128 := by have := d.toNat_lt; omega
      simp [comb, hiv, this]
theorem dnum_none_of : ∀ (k f : Nat) (first : Bool) (s : List UInt8), AllHi s k → (f ≤ k ∨ s.length ≤ k ∨ (0 < k ∧ ∃ c, s[k]? = some c ∧ c.toNat = 0)) → dnum f first s = none := by
  intro k
  induction k with
  | zero =>
    intro f first s _ h
    rcases h with h | h | h
    · obtain rfl : f = 0 := by omega
      cases s <;> rfl
    · have : s = [] := List.eq_nil_of_length_eq_zero (by omega)
      subst this; exact dnum_nil _ _
    · omega
  | succ k ih =>
    intro f first s ha h
    cases f with
    | zero => cases s <;> rfl
    | succ g =>
      cases s with
      | nil => exact dnum_nil _ _
      | cons d r =>
        obtain ⟨hd, ht⟩ := ha.tail
        rw [dnum_more _ _ _ _ hd]
        rcases h with h | h | ⟨_, c, hc, h0⟩
        · rw [ih g false r ht (Or.inl (by omega))]; rfl
        · rw [ih g false r ht (Or.inr (Or.inl (by simpa using h)))]; rfl
        · rcases Nat.eq_zero_or_pos k with rfl | hk
          · cases r with
            | nil => rw [dnum_nil]; rfl
            | cons e r' =>
              simp at hc; subst hc
              cases g with
              | zero => rfl
              | succ g => rw [dnum_zero _ _ _ h0]; rfl
          · rw [ih g false r ht (Or.inr (Or.inr ⟨hk, c, by simpa using hc, h0⟩))]; rfl
/-- the digits from i on of the varint whose last byte stands at k -/
def hiFrom (s : List UInt8) (k i : Nat) : Nat := hiv ((s.take (k + 1)).drop i)
theorem hiFrom_end (s : List UInt8) (k : Nat) : hiFrom s k (k + 1) = 0 := by
  unfold hiFrom
  rw [List.drop_eq_nil_of_le (by simp; omega)]; rfl
theorem hiFrom_step (s : List UInt8) (k i : Nat) (hi : i ≤ k) (c : UInt8) (hc : s[i]? = some c) : hiFrom s k i = c.toNat % 128 + 128 * hiFrom s k (i + 1) := by
  unfold hiFrom
  have e : (s.take (k + 1))[i]? = some c := by rw [List.getElem?_take_of_lt (by omega)]; exact hc
  rw [drop_at _ i c e]; rfl
theorem hiFrom_lt (s : List UInt8) (k i : Nat) (hk : k ≤ 8) (hi : 1 ≤ i) : hiFrom s k i < 72057594037927936 := by
  unfold hiFrom
  refine Nat.lt_of_lt_of_le (hiv_lt _) ?_
  have : (List.drop i (List.take (k + 1) s)).length ≤ 8 := by simp; omega
  exact Nat.le_trans (Nat.pow_le_pow_right (by decide) this) (by decide)
theorem hiFrom_all (s : List UInt8) (k : Nat) : hiFrom s k 0 = hiv (s.take (k + 1)) := by simp [hiFrom]
theorem dnum_lt : ∀ (f : Nat) (first : Bool) (s : List UInt8) (n : Nat) (r : List UInt8), dnum f first s = some (n, r) → n < 128 ^ f ∧ r.length ≤ s.length := by
  intro f
  induction f with
  | zero => intro first s n r h; cases s <;> simp [dnum] at h
  | succ f ih =>
    intro first s n r h
    cases s with
    | nil => simp [dnum] at h
    | cons c s =>
      by_cases h1 : 128 ≤ c.toNat
      · rw [dnum_more _ _ _ _ h1] at h
        rcases h2 : dnum f false s with _ | ⟨m, r'⟩
        · rw [h2] at h; simp [comb] at h
        · rw [h2] at h
          simp [comb] at h
          have := ih false s m r' h2
          have hc := c.toNat_lt
          obtain ⟨rfl, rfl⟩ := h
          rw [Nat.pow_succ]
          simp only [List.length_cons]
          omega
      · by_cases h2 : c.toNat = 0 ∧ first = false
        · rw [dnum, if_neg h1, if_pos h2] at h; simp at h
        · rw [dnum_last _ _ _ _ (by omega) h2] at h
          simp at h
          obtain ⟨rfl, rfl⟩ := h
          have : 0 < 128 ^ f := Nat.pow_pos (by decide)
          rw [Nat.pow_succ]
          simp only [List.length_cons]
          omega
theorem stNum_lt (st : St) : (stNum st).1 < 9223372036854775808 ∧ (stNum st).2.1.length ≤ st.1.length := by
  rcases h : dnum 9 true st.1 with _ | ⟨n, r⟩
  · rw [stNum_none st h]; simp [failed]
  · rw [stNum_some st n r h]
    have := dnum_lt 9 true st.1 n r h
    simp at this ⊢; omega
theorem stInt_len (st : St) : (stInt st).2.1.length ≤ st.1.length := by
  have := (stNum_lt st).2
  unfold stInt
  split <;> simp [failed, this]
theorem stTake_len (n : Int) (st : St) : (stTake n st).2.1.length ≤ st.1.length := by
  unfold stTake
  split <;> simp [failed]
theorem stText_len (st : St) : (stText st).2.1.length ≤ st.1.length := Nat.le_trans (stTake_len _ _) (stNum_lt st).2
theorem unzig_cases (z : Nat) : (z % 2 = 0 ∧ unzig z = ((z / 2 : Nat) : Int)) ∨ (z % 2 = 1 ∧ unzig z = -((z / 2 : Nat) : Int) - 1) := by
  unfold unzig
  split
  · exact Or.inr ⟨‹_›, rfl⟩
  · exact Or.inl ⟨by omega, rfl⟩
end Go.Proofs.YtomijpoglnihgaaDoor
