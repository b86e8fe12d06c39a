/- Package press, in plain Lean: tokens, their expansion, the greedy parse. -/
import Derived.Test.YtomijpoglnihgaaDoorPressC
set_option linter.unusedVariables false
namespace Go.Proofs.YtomijpoglnihgaaDoor
open Go.RowKit
/-! ### Unpack -/
def copyN (out : List UInt8) (d : Nat) : Nat → List UInt8
  | 0 => out
  | k + 1 => copyN out d k ++ [(copyN out d k).getD ((copyN out d k).length - d) 0]
theorem copyN_len (out : List UInt8) (d : Nat) : ∀ k, (copyN out d k).length = out.length + k
  | 0 => rfl
  | k + 1 => by rw [copyN, List.length_append, copyN_len out d k, List.length_singleton, Nat.add_assoc]
def unF (n : Nat) : Nat → List UInt8 → St → Option (List UInt8) × St
  | 0, _, st => (none, st)
  | f + 1, out, st =>
    if n ≤ out.length then (some out, st)
    else if (stNum st).1 / 2 < 1 ∨ n - out.length < (stNum st).1 / 2 then (none, (stNum st).2)
    else if (stNum st).1 % 2 = 0 then unF n f (out ++ (stTake ((stNum st).1 / 2 : Nat) (stNum st).2).1) (stTake ((stNum st).1 / 2 : Nat) (stNum st).2).2
    else if (stNum (stNum st).2).1 < 1 ∨ out.length < (stNum (stNum st).2).1 then (none, (stNum (stNum st).2).2)
    else unF n f (copyN out (stNum (stNum st).2).1 ((stNum st).1 / 2)) (stNum (stNum st).2).2
def unpF (s : List UInt8) : List UInt8 × Bool :=
  if 16777216 < (stNum (s, false)).1 then ([], false)
  else match unF (stNum (s, false)).1 (2 * (stNum (s, false)).1 + 2) [] (stNum (s, false)).2 with
    | (some out, st) => if st.2 = false ∧ st.1 = [] then (out, true) else ([], false)
    | (none, _) => ([], false)
/-! ### Tokens -/
inductive Tok where
  | lit (b : List UInt8)
  | mat (k d : Nat)
def Tok.enc : Tok → List UInt8
  | .lit b => venc (2 * b.length) ++ b
  | .mat k d => venc (2 * k + 1) ++ venc d
def Tok.app (out : List UInt8) : Tok → List UInt8
  | .lit b => out ++ b
  | .mat k d => copyN out d k
def Tok.len : Tok → Nat
  | .lit b => b.length
  | .mat k _ => k
def Tok.ok (out : List UInt8) : Tok → Prop
  | .lit b => b ≠ []
  | .mat k d => 1 ≤ k ∧ 1 ≤ d ∧ d ≤ out.length
theorem Tok.app_len (out : List UInt8) (t : Tok) : (t.app out).length = out.length + t.len := by
  cases t with
  | lit b => simp [Tok.app, Tok.len]
  | mat k d => exact copyN_len out d k
def encs (ts : List Tok) : List UInt8 := (ts.map Tok.enc).flatten
def apps : List UInt8 → List Tok → List UInt8
  | out, [] => out
  | out, t :: ts => apps (t.app out) ts
def oks : List UInt8 → List Tok → Prop
  | _, [] => True
  | out, t :: ts => t.ok out ∧ oks (t.app out) ts
def lens (ts : List Tok) : Nat := (ts.map Tok.len).sum
theorem apps_len : ∀ (ts : List Tok) (out : List UInt8), (apps out ts).length = out.length + lens ts
  | [], out => by simp [apps, lens]
  | t :: ts, out => by rw [apps, apps_len ts, Tok.app_len]; simp [lens, Nat.add_assoc]
theorem Tok.len_pos {out : List UInt8} {t : Tok} (h : t.ok out) : 1 ≤ t.len := by
  cases t with
  | lit b => exact List.length_pos_iff.2 h
  | mat k d => exact h.1
theorem stNum_venc (n : Nat) (r : List UInt8) (h : n < 9223372036854775808) : stNum (venc n ++ r, false) = (n, (r, false)) := stNum_some _ _ _ (dnum_venc n r h)
theorem stTake_app (b r : List UInt8) : stTake (b.length : Nat) (b ++ r, false) = (b, (r, false)) := by
  rw [take_ok _ _ (by simp; omega)]; simp
theorem unF_done {n f : Nat} {out : List UInt8} {st : St} (h : n ≤ out.length) (hf : 0 < f) : unF n f out st = (some out, st) := by
  cases f with
  | zero => omega
  | succ f => rw [unF, if_pos h]
/-- Unpack's loop undoes tokens -/
theorem unF_toks : ∀ (ts : List Tok) (n f : Nat) (out r : List UInt8), oks out ts → out.length + lens ts = n → n ≤ 16777216 → ts.length < f → unF n f out (encs ts ++ r, false) = (some (apps out ts), (r, false))
  | [], n, f, out, r, _, hn, _, hf => by
    simp [lens] at hn
    rw [unF_done (by omega) (by simpa using hf)]; simp [encs, apps]
  | t :: ts, n, f, out, r, hok, hn, hb, hf => by
    obtain ⟨f, rfl⟩ : ∃ g, f = g + 1 := ⟨f - 1, by simp at hf; omega⟩
    obtain ⟨h1, h2⟩ := hok
    have hp := Tok.len_pos h1
    have hn2 : out.length + (t.len + lens ts) = n := by simpa [lens] using hn
    have he : encs (t :: ts) ++ r = t.enc ++ (encs ts ++ r) := by simp [encs]
    rw [he, unF, if_neg (by omega)]
    have ih := unF_toks ts n f (t.app out) r h2 (by rw [Tok.app_len]; omega) hb (by simp at hf; omega)
    cases t with
    | lit b =>
      simp only [Tok.len] at hp hn2
      have e : stNum ((Tok.lit b).enc ++ (encs ts ++ r), false) = (2 * b.length, (b ++ (encs ts ++ r), false)) := by
        rw [Tok.enc, List.append_assoc]; exact stNum_venc _ _ (by omega)
      rw [e]
      simp only [Nat.mul_div_cancel_left _ (show 0 < 2 by omega), Nat.mul_mod_right, if_true]
      rw [if_neg (by omega), stTake_app]
      exact ih
    | mat k d =>
      simp only [Tok.len] at hp hn2
      obtain ⟨_, hd1, hd2⟩ := h1
      have e : stNum ((Tok.mat k d).enc ++ (encs ts ++ r), false) = (2 * k + 1, (venc d ++ (encs ts ++ r), false)) := by
        rw [Tok.enc, List.append_assoc]; exact stNum_venc _ _ (by omega)
      rw [e]
      have e2 : (2 * k + 1) / 2 = k := by omega
      have e3 : (2 * k + 1) % 2 = 1 := by omega
      simp only [e2, e3]
      rw [if_neg (by omega), if_neg (by decide), stNum_venc d _ (by omega)]
      simp only
      rw [if_neg (by omega)]
      exact ih
/-! ### the greedy parse -/
/-- the length of the common beginning -/
def cp : List UInt8 → List UInt8 → Nat
  | a :: x, b :: y => if a = b then 1 + cp x y else 0
  | _, _ => 0
theorem cp_le : ∀ x y : List UInt8, cp x y ≤ x.length ∧ cp x y ≤ y.length
  | [], _ => by simp [cp]
  | _ :: _, [] => by simp [cp]
  | a :: x, b :: y => by
    have := cp_le x y
    simp only [cp, List.length_cons]
    split <;> omega
theorem cp_at : ∀ (x y : List UInt8) (j : Nat), j < cp x y → x[j]? = y[j]?
  | [], _, j, h => by simp [cp] at h
  | _ :: _, [], j, h => by simp [cp] at h
  | a :: x, b :: y, j, h => by
    simp only [cp] at h
    split at h
    · rename_i e
      cases j with
      | zero => simp [e]
      | succ j => simp only [List.getElem?_cons_succ]; exact cp_at x y j (by omega)
    · omega
theorem cp_end : ∀ (x y : List UInt8), cp x y < x.length → cp x y < y.length → x[cp x y]? ≠ y[cp x y]?
  | [], _, h, _ => by simp at h
  | _ :: _, [], _, h => by simp at h
  | a :: x, b :: y, h, h2 => by
    by_cases e : a = b
    · have he : cp (a :: x) (b :: y) = cp x y + 1 := by simp [cp, e, Nat.add_comm]
      rw [he] at h h2 ⊢
      simp only [List.getElem?_cons_succ]
      exact cp_end x y (by simpa using h) (by simpa using h2)
    · have he : cp (a :: x) (b :: y) = 0 := by simp [cp, e]
      rw [he]; simpa using e
/-- how long the bytes at i repeat those d before -/
def mlen (s : List UInt8) (i d : Nat) : Nat := cp (s.drop i) (s.drop (i - d))
theorem mlen_le (s : List UInt8) (i d : Nat) : mlen s i d ≤ s.length - i := by
  have := (cp_le (s.drop i) (s.drop (i - d))).1
  rw [List.length_drop] at this; exact this
theorem mlen_at {s : List UInt8} {i d j : Nat} (h : j < mlen s i d) : s[i + j]? = s[i - d + j]? := by
  have := cp_at _ _ j h
  rwa [List.getElem?_drop, List.getElem?_drop] at this
def scan (s : List UInt8) (i : Nat) : Nat → Nat × Nat
  | 0 => (0, 0)
  | D + 1 => if (scan s i D).1 < mlen s i (D + 1) then (mlen s i (D + 1), D + 1) else scan s i D
theorem scan_ok (s : List UInt8) (i : Nat) : ∀ D, (scan s i D).1 = 0 ∨ ((scan s i D).1 = mlen s i (scan s i D).2 ∧ 1 ≤ (scan s i D).2 ∧ (scan s i D).2 ≤ D)
  | 0 => Or.inl rfl
  | D + 1 => by
    rw [scan]
    split
    · exact Or.inr ⟨rfl, by omega, Nat.le_refl _⟩
    · rcases scan_ok s i D with h | h
      · exact Or.inl h
      · exact Or.inr ⟨h.1, h.2.1, by omega⟩
theorem scan_ge (s : List UInt8) (i : Nat) : ∀ D d, 1 ≤ d → d ≤ D → mlen s i d ≤ (scan s i D).1
  | 0, d, h1, h2 => by omega
  | D + 1, d, h1, h2 => by
    rw [scan]
    by_cases e : d = D + 1
    · subst e
      split
      · exact Nat.le_refl _
      · omega
    · have := scan_ge s i D d h1 (by omega)
      split
      · show _ ≤ mlen s i (D + 1); omega
      · exact this
/-- the longest match at i (the nearest of these) -/
def longF (s : List UInt8) (i : Nat) : Nat × Nat := scan s i (min i 4096)
theorem longF_ok {s : List UInt8} {i : Nat} (h : 1 ≤ (longF s i).1) : (longF s i).1 = mlen s i (longF s i).2 ∧ 1 ≤ (longF s i).2 ∧ (longF s i).2 ≤ i ∧ (longF s i).2 ≤ 4096 := by
  rcases scan_ok s i (min i 4096) with h2 | h2
  · unfold longF at h; omega
  · exact ⟨h2.1, h2.2.1, by have := h2.2.2; unfold longF; omega, by have := h2.2.2; unfold longF; omega⟩
theorem longF_le (s : List UInt8) (i : Nat) : (longF s i).1 ≤ s.length - i := by
  rcases Nat.eq_zero_or_pos (longF s i).1 with h | h
  · omega
  · rw [(longF_ok h).1]; exact mlen_le s i _
theorem copy_take {s : List UInt8} {i d : Nat} (h1 : 1 ≤ d) (h2 : d ≤ i) (hi : i ≤ s.length) : ∀ k, k ≤ mlen s i d → copyN (s.take i) d k = s.take (i + k)
  | 0, _ => rfl
  | k + 1, hk => by
    have hm := mlen_le s i d
    rw [copyN, copy_take h1 h2 hi k (by omega), ← Nat.add_assoc, List.take_add_one]
    have e : s[i + k]? = s[i - d + k]? := mlen_at (by omega)
    have hl : (s.take (i + k)).length = i + k := by rw [List.length_take]; omega
    have h3 : i + k - d < s.length := by omega
    rw [hl, List.getD_eq_getElem?_getD, List.getElem?_take_of_lt (by omega), e, show i - d + k = i + k - d by omega, List.getElem?_eq_getElem h3]
    rfl
def litT (s : List UInt8) (a b : Nat) : List Tok := if a < b then [.lit ((s.take b).drop a)] else []
def parse (s : List UInt8) : Nat → Nat → Nat → List Tok
  | 0, a, i => litT s a s.length
  | f + 1, a, i =>
    if s.length ≤ i then litT s a s.length
    else if (longF s i).1 < 4 then parse s f a (i + 1)
    else litT s a i ++ [.mat (longF s i).1 (longF s i).2] ++ parse s f (i + (longF s i).1) (i + (longF s i).1)
def packF (s : List UInt8) : List UInt8 := if 16777216 < s.length then [] else venc s.length ++ encs (parse s s.length 0 0)
theorem litT_ok (s : List UInt8) {a b : Nat} (hab : a ≤ b) (hb : b ≤ s.length) (ts : List Tok) (h : oks (s.take b) ts) : oks (s.take a) (litT s a b ++ ts) ∧ apps (s.take a) (litT s a b ++ ts) = apps (s.take b) ts := by
  unfold litT
  split
  · rename_i hlt
    have e : s.take a ++ (s.take b).drop a = s.take b := by
      have := List.take_append_drop a (s.take b)
      rwa [List.take_take, Nat.min_eq_left hab] at this
    refine ⟨⟨?_, ?_⟩, ?_⟩
    · show (s.take b).drop a ≠ []
      intro e2
      rw [List.drop_eq_nil_iff, List.length_take] at e2
      omega
    · show oks (s.take a ++ (s.take b).drop a) ts
      rw [e]; exact h
    · show apps (s.take a ++ (s.take b).drop a) ts = _
      rw [e]
  · obtain rfl : a = b := by omega
    exact ⟨h, rfl⟩
theorem parse_ok (s : List UInt8) : ∀ f a i, a ≤ i → i ≤ s.length → s.length - i ≤ f → oks (s.take a) (parse s f a i) ∧ apps (s.take a) (parse s f a i) = s
  | 0, a, i, hai, hi, hf => by
    have := litT_ok s (a := a) (b := s.length) (by omega) (Nat.le_refl _) [] trivial
    rw [List.append_nil] at this
    rw [parse]
    exact ⟨this.1, this.2.trans (by simp [apps])⟩
  | f + 1, a, i, hai, hi, hf => by
    rw [parse]
    split
    · have := litT_ok s (a := a) (b := s.length) (by omega) (Nat.le_refl _) [] trivial
      rw [List.append_nil] at this
      exact ⟨this.1, this.2.trans (by simp [apps])⟩
    · split
      · exact parse_ok s f a (i + 1) (by omega) (by omega) (by omega)
      · rename_i h4
        have hl := longF_le s i
        obtain ⟨h5, h6, h7, h8⟩ := longF_ok (s := s) (i := i) (by omega)
        have ih := parse_ok s f (i + (longF s i).1) (i + (longF s i).1) (Nat.le_refl _) (by omega) (by omega)
        have ec := copy_take (s := s) (i := i) h6 h7 hi (longF s i).1 (by omega)
        rw [List.append_assoc]
        have hts : oks (s.take i) ([.mat (longF s i).1 (longF s i).2] ++ parse s f (i + (longF s i).1) (i + (longF s i).1)) := by
          refine ⟨⟨by omega, h6, by rw [List.length_take]; omega⟩, ?_⟩
          show oks (copyN (s.take i) _ _) _
          rw [ec]; exact ih.1
        have := litT_ok s hai hi _ hts
        refine ⟨this.1, this.2.trans ?_⟩
        show apps (copyN (s.take i) _ _) _ = s
        rw [ec]; exact ih.2
theorem oks_count : ∀ (ts : List Tok) (out : List UInt8), oks out ts → ts.length ≤ lens ts
  | [], _, _ => by simp [lens]
  | t :: ts, out, h => by
    have h1 := Tok.len_pos h.1
    have h2 := oks_count ts _ h.2
    simp [lens] at h2 ⊢; omega
/-- Unpack undoes Pack -/
theorem unp_pack_app (s r : List UInt8) (h : s.length ≤ 16777216) : unpF (packF s ++ r) = if r = [] then (s, true) else ([], false) := by
  have hp := parse_ok s s.length 0 0 (Nat.le_refl _) (Nat.zero_le _) (by omega)
  rw [List.take_zero] at hp
  have hl := apps_len (parse s s.length 0 0) []
  rw [hp.2] at hl
  simp at hl
  have hc := oks_count _ _ hp.1
  have e1 : stNum (packF s ++ r, false) = (s.length, (encs (parse s s.length 0 0) ++ r, false)) := by
    unfold packF
    rw [if_neg (by omega), List.append_assoc]
    exact stNum_venc _ _ (by omega)
  have e2 := unF_toks (parse s s.length 0 0) s.length (2 * s.length + 2) [] r hp.1 (by simpa using hl.symm) h (by omega)
  unfold unpF
  rw [e1]
  simp only
  rw [if_neg (by omega), e2, hp.2]
  simp
theorem unp_pack (s : List UInt8) (h : s.length ≤ 16777216) : unpF (packF s) = (s, true) := by
  have := unp_pack_app s [] h
  rwa [List.append_nil, if_pos rfl] at this
end Go.Proofs.YtomijpoglnihgaaDoor
