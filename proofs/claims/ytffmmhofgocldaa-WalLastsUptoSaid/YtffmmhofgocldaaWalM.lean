/- Chapter 06 (wal): records and logs, in plain Lean. -/
import Derived.Test.YtffmmhofgocldaaPressD
import Derived.Test.YtffmmhofgocldaaPressB
import Derived.Test.YtffmmhofgocldaaSumC
import Derived.Test.YtffmmhofgocldaaDiskM
set_option linter.unusedVariables false
namespace Go.Proofs.Ytffmmhofgocldaa
open Go.RowKit
/-! ### how long a packed string can be -/
theorem venc_le9 (n : Nat) : (venc n).length ≤ 9 := by
  have h : ∀ f n, (vencF f n).length ≤ f := by
    intro f
    induction f with
    | zero => intro n; simp [vencF]
    | succ f ih =>
      intro n
      rw [vencF]; split
      · simp
      · have := ih (n / 128); simp only [List.length_cons]; omega
  exact h 9 n
theorem litT_le (s : List UInt8) {a b : Nat} (hab : a ≤ b) (hb : b ≤ s.length) : (encs (litT s a b)).length ≤ 10 * (b - a) := by
  unfold litT
  split
  · have hl : ((s.take b).drop a).length = b - a := by simp; omega
    have := venc_le9 (2 * (b - a))
    simp [encs, Tok.enc, hl]; omega
  · simp [encs]
theorem parse_le (s : List UInt8) : ∀ f a i, a ≤ i → i ≤ s.length → (encs (parse s f a i)).length ≤ 10 * (s.length - a)
  | 0, a, i, hai, hi => by rw [parse]; exact litT_le s (by omega) (Nat.le_refl _)
  | f + 1, a, i, hai, hi => by
    rw [parse]
    split
    · exact litT_le s (by omega) (Nat.le_refl _)
    · split
      · exact parse_le s f a (i + 1) (by omega) (by omega)
      · rename_i h4
        have hl := longF_le s i
        have ih := parse_le s f (i + (longF s i).1) (i + (longF s i).1) (Nat.le_refl _) (by omega)
        have h1 := litT_le s hai hi
        have h2 := venc_le9 (2 * (longF s i).1 + 1)
        have h3 := venc_le9 (longF s i).2
        rw [encs_app, encs_app, List.length_append, List.length_append]
        have : (encs [Tok.mat (longF s i).1 (longF s i).2]).length ≤ 18 := by simp [encs, Tok.enc]; omega
        omega
theorem pack_le (s : List UInt8) : (packF s).length ≤ 9 + 10 * s.length := by
  unfold packF
  split
  · simp
  · have h1 := venc_le9 s.length
    have h2 := parse_le s s.length 0 0 (Nat.le_refl _) (Nat.zero_le _)
    rw [List.length_append]; omega
theorem pack_ne {s : List UInt8} (h : s.length ≤ 16777216) : packF s ≠ [] := by
  unfold packF
  rw [if_neg (by omega)]
  have : venc s.length ≠ [] := by
    show vencF 9 _ ≠ []
    rw [vencF]; split <;> simp
  intro e
  exact this (List.append_eq_nil_iff.1 e).1
/-! ### records -/
def le4 (c : UInt32) : List UInt8 := [lowW c, lowW (divW c 256), lowW (divW c 65536), lowW (divW c 16777216)]
def recF (p : List UInt8) : List UInt8 := venc (packF p).length ++ le4 (crcF (packF p)) ++ packF p
theorem rec_le (p : List UInt8) : (recF p).length ≤ 22 + 10 * p.length := by
  have h1 := venc_le9 (packF p).length
  have h2 := pack_le p
  simp [recF, le4]; omega
theorem rec_small {p : List UInt8} (h : p.length ≤ 4000) : (recF p).length ≤ 21 + 2 * p.length := by
  have h1 := venc_le9 (packF p).length
  have h2 := pack_len p h
  simp [recF, le4]; omega
theorem rec_ne (p : List UInt8) : recF p ≠ [] := by
  intro e
  have := congrArg List.length e
  simp [recF, le4] at this
/-- what is read of a record: the body and what is behind it -/
def nxB (s : List UInt8) : List UInt8 × St := stTake ((stNum (s, false)).1 : Nat) (stTake 4 (stNum (s, false)).2).2
/-- the payload of the record at the beginning -/
def nextF (s : List UInt8) : Option (List UInt8) :=
  if (nxB s).1 = [] then none
  else if (unpF (nxB s).1).2 = false ∨ 1048576 < (unpF (nxB s).1).1.length then none
  else if recF (unpF (nxB s).1).1 = s.take (s.length - (nxB s).2.1.length) then some (unpF (nxB s).1).1 else none
theorem next_some {s p : List UInt8} (h : nextF s = some p) : p.length ≤ 1048576 ∧ ∃ r, s = recF p ++ r := by
  unfold nextF at h
  split at h
  · cases h
  · split at h
    · cases h
    · split at h
      · rename_i h1 h2 h3
        injection h with h
        subst h
        refine ⟨by omega, s.drop (s.length - (nxB s).2.1.length), ?_⟩
        rw [h3, List.take_append_drop]
      · cases h
theorem next_rec {p : List UInt8} (r : List UInt8) (hp : p.length ≤ 1048576) : nextF (recF p ++ r) = some p := by
  have hl := pack_le p
  have e1 : stNum (recF p ++ r, false) = ((packF p).length, (le4 (crcF (packF p)) ++ (packF p ++ r), false)) := by
    unfold recF
    rw [List.append_assoc, List.append_assoc]
    exact stNum_venc _ _ (by omega)
  have e2 : stTake 4 (le4 (crcF (packF p)) ++ (packF p ++ r), false) = (le4 (crcF (packF p)), (packF p ++ r, false)) := stTake_app (le4 (crcF (packF p))) (packF p ++ r)
  have e3 : nxB (recF p ++ r) = (packF p, (r, false)) := by
    unfold nxB
    rw [e1]
    simp only
    rw [e2]
    exact stTake_app _ _
  unfold nextF
  rw [e3]
  simp only
  rw [if_neg (pack_ne (by omega)), unp_pack p (by omega)]
  simp only
  rw [if_neg (by simp; omega), if_pos (by rw [List.length_append, Nat.add_sub_cancel]; simp)]
theorem next_nil : nextF [] = none := by
  cases h : nextF [] with
  | none => rfl
  | some p =>
    obtain ⟨_, r, e⟩ := next_some h
    exact absurd (List.append_eq_nil_iff.1 e.symm).1 (rec_ne p)
/-! ### the rows of a file -/
def recs (l : List (List UInt8)) : List UInt8 := (l.map recF).flatten
theorem recs_nil : recs [] = [] := rfl
theorem recs_cons (p : List UInt8) (l : List (List UInt8)) : recs (p :: l) = recF p ++ recs l := rfl
theorem recs_app (l m : List (List UInt8)) : recs (l ++ m) = recs l ++ recs m := by simp [recs]
def Pay (l : List (List UInt8)) : Prop := ∀ p ∈ l, p.length ≤ 1048576
def rowsF : Nat → List UInt8 → List (List UInt8)
  | 0, _ => []
  | f + 1, s => match nextF s with
    | none => []
    | some p => p :: rowsF f (s.drop (recF p).length)
def rowsOf (s : List UInt8) : List (List UInt8) := rowsF (s.length + 1) s
theorem rowsF_recs : ∀ (l : List (List UInt8)) (f : Nat) (r : List UInt8), Pay l → nextF r = none → l.length < f → rowsF f (recs l ++ r) = l
  | [], f, r, _, hr, hf => by
    obtain ⟨f, rfl⟩ : ∃ g, f = g + 1 := ⟨f - 1, by simp at hf; omega⟩
    rw [rowsF, recs_nil, List.nil_append, hr]
  | p :: l, f, r, hp, hr, hf => by
    obtain ⟨f, rfl⟩ : ∃ g, f = g + 1 := ⟨f - 1, by simp at hf; omega⟩
    rw [rowsF, recs_cons, List.append_assoc, next_rec _ (hp p (by simp))]
    simp only [List.drop_left]
    rw [rowsF_recs l f r (fun q hq => hp q (by simp [hq])) hr (by simp at hf; omega)]
theorem recs_len_ge : ∀ l : List (List UInt8), l.length ≤ (recs l).length
  | [] => Nat.le_refl _
  | p :: l => by
    have := recs_len_ge l
    have h2 : 1 ≤ (recF p).length := List.length_pos_iff.2 (rec_ne p)
    rw [recs_cons, List.length_append, List.length_cons]; omega
/-- a file whose valid part is 'recs l' has the rows l -/
theorem rows_eq (l : List (List UInt8)) (r : List UInt8) (hp : Pay l) (hr : nextF r = none) : rowsOf (recs l ++ r) = l := by
  refine rowsF_recs l _ r hp hr ?_
  have := recs_len_ge l
  rw [List.length_append]; omega
theorem rows_recs (l : List (List UInt8)) (hp : Pay l) : rowsOf (recs l) = l := by
  have := rows_eq l [] hp next_nil
  rwa [List.append_nil] at this
/-- every file is its rows and a rest that begins with no record -/
theorem rows_split : ∀ (n : Nat) (s : List UInt8), s.length ≤ n → ∃ l r, s = recs l ++ r ∧ Pay l ∧ nextF r = none := by
  intro n
  induction n with
  | zero =>
    intro s hs
    have : s = [] := List.length_eq_zero_iff.1 (by omega)
    subst this
    exact ⟨[], [], rfl, fun p hp => by simp at hp, next_nil⟩
  | succ n ih =>
    intro s hs
    cases h : nextF s with
    | none => exact ⟨[], s, rfl, fun p hp => by simp at hp, h⟩
    | some p =>
      obtain ⟨hp, r, e⟩ := next_some h
      have h2 : 1 ≤ (recF p).length := List.length_pos_iff.2 (rec_ne p)
      obtain ⟨l, r', e', hl, hr⟩ := ih r (by rw [e, List.length_append] at hs; omega)
      exact ⟨p :: l, r', by rw [e, e', recs_cons, List.append_assoc], fun q hq => by
        rcases List.mem_cons.1 hq with rfl | hq
        · exact hp
        · exact hl q hq, hr⟩
theorem rows_spec (s : List UInt8) : ∃ r, s = recs (rowsOf s) ++ r ∧ Pay (rowsOf s) ∧ nextF r = none := by
  obtain ⟨l, r, e, hl, hr⟩ := rows_split s.length s (Nat.le_refl _)
  have : rowsOf s = l := by rw [e]; exact rows_eq l r hl hr
  exact ⟨r, by rw [this]; exact e, by rw [this]; exact hl, hr⟩
/-- the records of two lists that begin the same file -/
theorem recs_prefix : ∀ (l m : List (List UInt8)), Pay l → Pay m → recs l <+: recs m → l <+: m
  | [], m, _, _, _ => List.nil_prefix
  | p :: l, m, hl, hm, h => by
    obtain ⟨t, e⟩ := h
    rw [recs_cons, List.append_assoc] at e
    cases m with
    | nil => exact absurd (List.append_eq_nil_iff.1 e).1 (rec_ne p)
    | cons q m =>
      have h1 := next_rec (recs l ++ t) (hl p (by simp))
      rw [e, recs_cons, next_rec _ (hm q (by simp))] at h1
      injection h1 with h1
      subst h1
      rw [recs_cons] at e
      have e2 := List.append_cancel_left e
      obtain ⟨u, hu⟩ := recs_prefix l m (fun x hx => hl x (by simp [hx])) (fun x hx => hm x (by simp [hx])) ⟨t, e2⟩
      exact ⟨u, by rw [List.cons_append, hu]⟩
/-- the rows of a file's beginning -/
theorem rows_take (m : List (List UInt8)) (t s : List UInt8) (hm : Pay m) (ht : t ++ s = recs m) : rowsOf t <+: m := by
  obtain ⟨r, e, hp, _⟩ := rows_spec t
  exact recs_prefix _ _ hp hm ⟨r ++ s, by rw [← List.append_assoc, ← e, ht]⟩
theorem rows_mono (t u : List UInt8) (h : t <+: u) : rowsOf t <+: rowsOf u := by
  obtain ⟨r, e, hp, _⟩ := rows_spec t
  obtain ⟨r2, e2, hp2, hr2⟩ := rows_spec u
  obtain ⟨x, hx⟩ := h
  -- both decompose u
  have key : ∀ (l m : List (List UInt8)) (a b : List UInt8), Pay l → Pay m → nextF b = none → recs l ++ a = recs m ++ b → l <+: m := by
    intro l
    induction l with
    | nil => intro m a b _ _ _ _; exact List.nil_prefix
    | cons p l ih =>
      intro m a b hl hm hb he
      cases m with
      | nil =>
        rw [recs_nil, List.nil_append] at he
        have h1 := next_rec (recs l ++ a) (hl p (by simp))
        rw [← List.append_assoc, ← recs_cons, he, hb] at h1
        cases h1
      | cons q m =>
        rw [recs_cons, List.append_assoc, recs_cons, List.append_assoc] at he
        have h1 := next_rec (recs l ++ a) (hl p (by simp))
        rw [he, next_rec _ (hm q (by simp))] at h1
        injection h1 with h1
        subst h1
        obtain ⟨v, hv⟩ := ih m a b (fun x hx => hl x (by simp [hx])) (fun x hx => hm x (by simp [hx])) hb (List.append_cancel_left he)
        exact ⟨v, by rw [List.cons_append, hv]⟩
  refine key (rowsOf t) (rowsOf u) (r ++ x) r2 hp hp2 hr2 ?_
  rw [← List.append_assoc, ← e, hx, ← e2]
end Go.Proofs.Ytffmmhofgocldaa
