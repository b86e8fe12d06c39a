/- Chapter 01 (num): the plain function of Parse, and its laws. -/
import Derived.Test.YtbkdakbhagjkhaaGreatDoorNumN
import Derived.Lib.ItoaNum
import Derived.Lib.ItoaMem
set_option linter.unusedVariables false
namespace Go.Proofs.YtbkdakbhagjkhaaGreatDoor
open Go.Lib (itoa decDigits itoa_nonneg itoa_neg)
def isDg (c : UInt8) : Bool := decide (48 ≤ c.toNat) && decide (c.toNat ≤ 57)
theorem isDg_iff (c : UInt8) : isDg c = true ↔ 48 ≤ c.toNat ∧ c.toNat ≤ 57 := by simp [isDg]
/-- the loop over the digits: n is the negated value so far -/
def pgo : List UInt8 → Int → Option Int
  | [], n => some n
  | c :: r, n => if isDg c then (if n < (-9223372036854775808 + ((c.toNat : Int) - 48)).tdiv 10 then none else pgo r (n * 10 - ((c.toNat : Int) - 48))) else none
def valI : List UInt8 → Int → Int
  | [], n => n
  | c :: r, n => valI r (n * 10 - ((c.toNat : Int) - 48))
theorem valI_snoc (c : UInt8) : ∀ (l : List UInt8) (n : Int), valI (l ++ [c]) n = valI l n * 10 - ((c.toNat : Int) - 48)
  | [], _ => rfl
  | _ :: l, _ => valI_snoc c l _
theorem valI_le : ∀ (l : List UInt8) (n : Int), (∀ c ∈ l, isDg c = true) → n ≤ 0 → valI l n ≤ n
  | [], _, _, _ => Int.le_refl _
  | c :: l, n, h, hn => by
    have h1 := (isDg_iff c).1 (h c (by simp))
    have h2 := valI_le l (n * 10 - ((c.toNat : Int) - 48)) (fun d hd => h d (by simp [hd])) (by omega)
    show valI l _ ≤ n
    omega
theorem pgo_some : ∀ (l : List UInt8) (n m : Int), pgo l n = some m → (∀ c ∈ l, isDg c = true) ∧ m = valI l n
  | [], n, m, h => ⟨by simp, by simpa [pgo, valI] using h.symm⟩
  | c :: l, n, m, h => by
    unfold pgo at h
    split at h
    · rename_i hc
      split at h
      · cases h
      · obtain ⟨h1, h2⟩ := pgo_some l _ m h
        exact ⟨by intro d hd; rcases List.mem_cons.1 hd with rfl | hd; exact hc; exact h1 d hd, h2⟩
    · cases h
theorem tdiv10 (z : Int) (h : z ≤ 0) (n : Int) : n < z.tdiv 10 ↔ n * 10 < z - 9 ∨ (n * 10 < z) := by
  obtain ⟨m, rfl⟩ : ∃ m : Int, z = -m := ⟨-z, by omega⟩
  rw [Int.neg_tdiv, Int.tdiv_eq_ediv_of_nonneg (by omega)]
  omega
theorem pgo_ok : ∀ (l : List UInt8) (n : Int), (∀ c ∈ l, isDg c = true) → n ≤ 0 → -9223372036854775808 ≤ valI l n → pgo l n = some (valI l n)
  | [], _, _, _, _ => rfl
  | c :: l, n, h, hn, hv => by
    have hc := h c (by simp)
    have h1 := (isDg_iff c).1 hc
    have h2 := valI_le l (n * 10 - ((c.toNat : Int) - 48)) (fun d hd => h d (by simp [hd])) (by omega)
    have hv' : -9223372036854775808 ≤ valI l (n * 10 - ((c.toNat : Int) - 48)) := hv
    unfold pgo
    rw [if_pos hc, if_neg]
    · exact pgo_ok l _ (fun d hd => h d (by simp [hd])) (by omega) hv'
    · rw [tdiv10 _ (by omega)]; omega
/-- while the loop goes on the value stays in range -/
theorem pgo_step {c : UInt8} {n : Int} (hc : isDg c = true) (hn : n ≤ 0) (h : ¬ n < (-9223372036854775808 + ((c.toNat : Int) - 48)).tdiv 10) : -9223372036854775808 ≤ n * 10 - ((c.toNat : Int) - 48) ∧ n * 10 - ((c.toNat : Int) - 48) ≤ 0 := by
  have h1 := (isDg_iff c).1 hc
  rw [tdiv10 _ (by omega)] at h
  omega

theorem pgo_ge : ∀ (l : List UInt8) (n m : Int), pgo l n = some m → n ≤ 0 → -9223372036854775808 ≤ n → -9223372036854775808 ≤ m
  | [], n, m, h, _, h1 => by have : n = m := by simpa [pgo] using h
                             omega
  | c :: l, n, m, h, h0, h1 => by
    unfold pgo at h
    split at h
    · rename_i hc
      split at h
      · cases h
      · rename_i hs
        obtain ⟨a, b⟩ := pgo_step hc h0 hs
        exact pgo_ge l _ m h b a
    · cases h

theorem dig_toNat (k : Nat) (h : k < 10) : (UInt8.ofNat (48 + k)).toNat = 48 + k := by simp; omega
theorem dec_all (u : Nat) : ∀ c ∈ decDigits u, isDg c = true := by
  induction u using Nat.strongRecOn with
  | _ u ih =>
    intro c hc
    rw [decDigits] at hc
    split at hc
    · rename_i h
      simp only [List.mem_singleton] at hc
      subst hc
      rw [isDg_iff, dig_toNat u h]; omega
    · rename_i h
      rcases List.mem_append.1 hc with hc | hc
      · exact ih _ (by omega) c hc
      · simp only [List.mem_singleton] at hc
        subst hc
        rw [isDg_iff, dig_toNat _ (by omega)]; omega
theorem dec_val (u : Nat) : valI (decDigits u) 0 = -(u : Int) := by
  induction u using Nat.strongRecOn with
  | _ u ih =>
    rw [decDigits]
    split
    · rename_i h
      show (0 : Int) * 10 - (((UInt8.ofNat (48 + u)).toNat : Int) - 48) = _
      rw [dig_toNat u h]; omega
    · rename_i h
      rw [valI_snoc, ih _ (by omega), dig_toNat _ (by omega)]; omega
theorem dec_ne (u : Nat) : decDigits u ≠ [] := by
  rw [decDigits]; split <;> simp
theorem dec_head (u : Nat) (h : u ≠ 0) : (decDigits u).head? ≠ some 48 := by
  induction u using Nat.strongRecOn with
  | _ u ih =>
    rw [decDigits]
    split
    · rename_i hu
      simp only [List.head?_cons, ne_eq, Option.some.injEq]
      intro e
      have := congrArg UInt8.toNat e
      rw [dig_toNat u hu] at this
      have e2 : (48 : UInt8).toNat = 48 := rfl
      omega
    · rename_i hu
      rw [List.head?_append]
      have := ih (u / 10) (by omega) (by omega)
      rcases hh : (decDigits (u / 10)).head? with _ | x
      · exact absurd (List.head?_eq_none_iff.1 hh) (dec_ne _)
      · rw [hh] at this; simpa using this
theorem dec_zero : decDigits 0 = [48] := by rw [decDigits]; rfl
theorem dec_of (n : Nat) : ∀ (l : List UInt8), l.length = n + 1 → (∀ c ∈ l, isDg c = true) → (l.head? ≠ some 48 ∨ l = [48]) → decDigits (-(valI l 0)).toNat = l := by
  induction n with
  | zero =>
    intro l hl hd hh
    obtain ⟨c, rfl⟩ := List.length_eq_one_iff.1 hl
    have h1 := (isDg_iff c).1 (hd c (by simp))
    have e : (-(valI [c] 0)).toNat = c.toNat - 48 := by
      show (-((0 : Int) * 10 - ((c.toNat : Int) - 48))).toNat = _
      omega
    rw [e, decDigits, dif_pos (by omega)]
    have : 48 + (c.toNat - 48) = c.toNat := by omega
    rw [this]; simp
  | succ n ih =>
    intro l hl hd hh
    obtain ⟨l', c, rfl⟩ : ∃ l' c, l = l' ++ [c] := ⟨l.dropLast, l.getLast (by intro e; simp [e] at hl), (List.dropLast_concat_getLast _).symm⟩
    have hl' : l'.length = n + 1 := by simpa using hl
    have hne : l' ≠ [] := by intro e; simp [e] at hl'
    have hh' : l'.head? ≠ some 48 := by
      rcases hh with hh | hh
      · rw [List.head?_append] at hh
        intro h9; rw [h9] at hh; simp at hh
      · have := congrArg List.length hh; simp at this; exact absurd this hne
    have h1 := (isDg_iff c).1 (hd c (by simp))
    have h2 := ih l' hl' (fun d hd' => hd d (by simp [hd'])) (Or.inl hh')
    have h3 := valI_le l' 0 (fun d hd' => hd d (by simp [hd'])) (Int.le_refl _)
    have h4 : (-(valI l' 0)).toNat ≠ 0 := by
      intro e
      rw [e, dec_zero] at h2
      rw [← h2] at hh'; simp at hh'
    rw [valI_snoc]
    have e1 : (-(valI l' 0 * 10 - ((c.toNat : Int) - 48))).toNat / 10 = (-(valI l' 0)).toNat := by omega
    have e2 : (-(valI l' 0 * 10 - ((c.toNat : Int) - 48))).toNat % 10 = c.toNat - 48 := by omega
    rw [decDigits, dif_neg (by omega), e1, e2, h2]
    have : 48 + (c.toNat - 48) = c.toNat := by omega
    rw [this]; simp

/-- the end: the sign, the bounds -/
def pend (neg : Bool) (n low high : Int) : Option Int :=
  if neg then (if n < low ∨ high < n then none else some n) else if n = -9223372036854775808 then none else if -n < low ∨ high < -n then none else some (-n)
def pneg (s : List UInt8) : Bool := decide (s.head? = some 45)
def pdig (s : List UInt8) : List UInt8 := if pneg s then s.tail else s
def pbad (s : List UInt8) : Bool := decide (pdig s = []) || (decide ((pdig s).head? = some 48) && !decide (s = [48]))
def parse (s : List UInt8) (low high : Int) : Option Int := if pbad s then none else (pgo (pdig s) 0).bind fun n => pend (pneg s) n low high

theorem itoa_parts (n : Int) (h0 : -9223372036854775808 ≤ n) (h1 : n ≤ 9223372036854775807) : pbad (itoa n) = false ∧ pneg (itoa n) = decide (n < 0) ∧ pgo (pdig (itoa n)) 0 = some (if n < 0 then n else -n) := by
  rcases Int.lt_or_le n 0 with hn | hn
  · obtain ⟨u, rfl⟩ : ∃ u : Nat, n = -(u : Int) := ⟨n.natAbs, by omega⟩
    have e : itoa (-(u : Int)) = 45 :: decDigits u := itoa_neg u (by omega)
    have hp : pneg (itoa (-(u : Int))) = true := by rw [e]; simp [pneg]
    have hd : pdig (itoa (-(u : Int))) = decDigits u := by unfold pdig; rw [hp, e]; rfl
    refine ⟨?_, by rw [hp]; simp; omega, ?_⟩
    · unfold pbad
      rw [hd]
      have := dec_head u (by omega)
      have := dec_ne u
      simp [*]
    · rw [hd, if_pos hn, pgo_ok _ _ (dec_all u) (Int.le_refl _) (by rw [dec_val]; omega), dec_val]
  · obtain ⟨u, rfl⟩ : ∃ u : Nat, n = (u : Int) := ⟨n.toNat, by omega⟩
    have e : itoa (u : Int) = decDigits u := itoa_nonneg u
    have hp : pneg (itoa (u : Int)) = false := by
      rw [e]
      unfold pneg
      simp only [decide_eq_false_iff_not]
      intro hh
      rcases hc : decDigits u with _ | ⟨c, r⟩
      · exact dec_ne u hc
      · rw [hc] at hh
        have h1 := (isDg_iff c).1 (dec_all u c (by rw [hc]; simp))
        simp at hh
        subst hh
        simp at h1
    have hd : pdig (itoa (u : Int)) = decDigits u := by unfold pdig; rw [hp, e]; rfl
    refine ⟨?_, by rw [hp]; simp, ?_⟩
    · unfold pbad
      rw [hd, e]
      have h2 := dec_ne u
      by_cases hu : u = 0
      · subst hu; rw [dec_zero]; simp
      · have := dec_head u hu
        simp [*]
    · rw [hd, if_neg (by omega), pgo_ok _ _ (dec_all u) (Int.le_refl _) (by rw [dec_val]; omega), dec_val]
theorem parse_itoa (n low high : Int) (h0 : -9223372036854775808 ≤ n) (h1 : n ≤ 9223372036854775807) (hl : low ≤ n) (hh : n ≤ high) : parse (itoa n) low high = some n := by
  obtain ⟨a, b, c⟩ := itoa_parts n h0 h1
  unfold parse
  rw [a, b, c]
  simp only [Bool.false_eq_true, if_false, Option.bind_some, pend, decide_eq_true_eq]
  split
  · rw [if_neg (by omega)]
  · rw [if_neg (by omega), if_neg (by omega)]; simp
theorem parse_some {s : List UInt8} {low high k : Int} (h : parse s low high = some k) : itoa k = s ∧ low ≤ k ∧ k ≤ high ∧ pbad s = false ∧ k ≤ 9223372036854775807 := by
  unfold parse at h
  cases hb : pbad s with
  | true => rw [hb] at h; simp at h
  | false =>
    rw [hb] at h
    simp only [Bool.false_eq_true, if_false] at h
    cases hg : pgo (pdig s) 0 with
    | none => rw [hg] at h; simp at h
    | some m =>
      rw [hg] at h
      simp only [Option.bind_some] at h
      obtain ⟨hd, hv⟩ := pgo_some _ _ _ hg
      have hle := valI_le _ 0 hd (Int.le_refl _)
      unfold pbad at hb
      simp only [Bool.or_eq_false_iff, decide_eq_false_iff_not, Bool.and_eq_false_iff, Bool.not_eq_false'] at hb
      obtain ⟨b1, b2⟩ := hb
      cases hp : pneg s with
      | true =>
        have hs : ∃ r, s = 45 :: r := by
          unfold pneg at hp
          simp only [decide_eq_true_eq] at hp
          cases s with
          | nil => simp at hp
          | cons x r => simp at hp; exact ⟨r, by rw [hp]⟩
        obtain ⟨r, rfl⟩ := hs
        have e : pdig (45 :: r) = r := by unfold pdig; rw [hp]; rfl
        rw [e] at hd hv b1 b2 hle
        have b3 : r.head? ≠ some 48 := by
          rcases b2 with b2 | b2
          · exact b2
          · simp at b2
        have hdec := dec_of (r.length - 1) r (by have := List.length_pos_iff.2 b1; omega) hd (Or.inl b3)
        unfold pend at h
        rw [hp] at h
        simp only [if_true] at h
        split at h
        · cases h
        · rename_i hr
          obtain rfl := Option.some.inj h
          have hz : valI r 0 ≠ 0 := by
            intro hz
            rw [hz] at hdec
            have : decDigits (-(0 : Int)).toNat = [48] := dec_zero
            rw [this] at hdec
            rw [← hdec] at b3
            simp at b3
          refine ⟨?_, by omega, by omega, rfl, by omega⟩
          have e2 : m = -((-m).toNat : Int) := by omega
          rw [e2, itoa_neg _ (by omega), hv, hdec]
      | false =>
        have e : pdig s = s := by unfold pdig; rw [hp]; rfl
        rw [e] at hd hv b1 b2 hle
        have hdec := dec_of (s.length - 1) s (by have := List.length_pos_iff.2 b1; omega) hd (by rcases b2 with b2 | b2; exact Or.inl b2; exact Or.inr (by simpa using b2))
        unfold pend at h
        rw [hp] at h
        simp only [Bool.false_eq_true, if_false] at h
        split at h
        · cases h
        · split at h
          · cases h
          · rename_i hr
            obtain rfl := Option.some.inj h
            have hlo := valI_le s 0 hd (Int.le_refl _)
            have hge : -9223372036854775808 ≤ m := by
              rw [e] at hg; exact pgo_ge s 0 m hg (by omega) (by omega)
            refine ⟨?_, by omega, by omega, rfl, by omega⟩
            have e2 : -m = ((-m).toNat : Int) := by omega
            rw [e2, itoa_nonneg, hv, hdec]
end Go.Proofs.YtbkdakbhagjkhaaGreatDoor
