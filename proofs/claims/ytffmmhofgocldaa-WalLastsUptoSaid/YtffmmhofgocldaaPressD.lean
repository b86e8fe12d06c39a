/- press, plain: a beginning of a packed string is rejected. -/
import Derived.Test.YtffmmhofgocldaaPressN
set_option linter.unusedVariables false
namespace Go.Proofs.Ytffmmhofgocldaa
theorem dnum_app : ∀ (f : Nat) (first : Bool) (p q : List UInt8) (n : Nat) (r : List UInt8), dnum f first p = some (n, r) → dnum f first (p ++ q) = some (n, r ++ q)
  | 0, _, _, _, _, _, h => by simp [dnum] at h
  | f + 1, first, [], q, n, r, h => by simp [dnum] at h
  | f + 1, first, c :: p, q, n, r, h => by
    rw [dnum] at h
    rw [List.cons_append, dnum]
    split at h
    · rename_i hc
      rw [if_pos hc]
      cases hd : dnum f false p with
      | none => rw [hd] at h; cases h
      | some v =>
        obtain ⟨m, r'⟩ := v
        rw [hd] at h
        simp only [Option.some.injEq, Prod.mk.injEq] at h
        obtain ⟨rfl, rfl⟩ := h
        rw [dnum_app f false p q m r' hd]
    · rename_i hc
      rw [if_neg hc]
      split at h
      · cases h
      · rename_i hz
        rw [if_neg hz]
        simp only [Option.some.injEq, Prod.mk.injEq] at h
        obtain ⟨rfl, rfl⟩ := h
        rfl
/-- either the number is read within p, and the same before any q; or the Reader has failed -/
theorem stNum_app (p q : List UInt8) : (stNum (p, false) = (0, failed)) ∨ ∃ n r, stNum (p, false) = (n, (r, false)) ∧ stNum (p ++ q, false) = (n, (r ++ q, false)) := by
  cases h : dnum 9 true p with
  | none => exact Or.inl (stNum_none _ h)
  | some v =>
    obtain ⟨n, r⟩ := v
    exact Or.inr ⟨n, r, stNum_some _ _ _ h, stNum_some _ _ _ (dnum_app 9 true p q n r h)⟩
theorem stTake_app2 (k : Nat) (p q : List UInt8) : (stTake (k : Nat) (p, false) = ([], failed)) ∨ ∃ b r, stTake (k : Nat) (p, false) = (b, (r, false)) ∧ stTake (k : Nat) (p ++ q, false) = (b, (r ++ q, false)) := by
  rcases Nat.lt_or_ge p.length k with h | h
  · exact Or.inl (take_bad _ _ (Or.inr (Or.inr (by simp only; omega))))
  · refine Or.inr ⟨p.take k, p.drop k, ?_, ?_⟩
    · rw [take_ok _ _ (by simp only [Bool.false_eq_true, false_or]; omega)]; simp
    · rw [take_ok _ _ (by simp only [Bool.false_eq_true, false_or, List.length_append]; omega)]
      simp only [Int.toNat_natCast]
      rw [List.take_append_of_le_length h, List.drop_append_of_le_length h]
theorem stNum_failed : stNum failed = (0, failed) := stNum_none _ rfl
theorem unF_failed (n : Nat) : ∀ f out, (unF n f out failed).2 = failed
  | 0, out => rfl
  | f + 1, out => by
    rw [unF, stNum_failed]
    split
    · rfl
    · rw [if_pos (Or.inl (by decide))]
theorem unF_app (n : Nat) (q : List UInt8) : ∀ f out p o r, unF n f out (p, false) = (some o, (r, false)) → unF n f out (p ++ q, false) = (some o, (r ++ q, false))
  | 0, out, p, o, r, h => by simp [unF] at h
  | f + 1, out, p, o, r, h => by
    have hfail : (failed : St) = ([], true) := rfl
    rw [unF] at h
    rw [unF]
    by_cases h1 : n ≤ out.length
    · rw [if_pos h1] at h ⊢
      simp only [Prod.mk.injEq, Option.some.injEq] at h ⊢
      obtain ⟨rfl, rfl, _⟩ := h
      exact ⟨rfl, rfl, trivial⟩
    · rw [if_neg h1] at h ⊢
      rcases stNum_app p q with e | ⟨k, r1, e1, e2⟩
      · rw [e] at h
        rw [if_pos (Or.inl (by decide))] at h
        simp at h
      · rw [e1] at h; rw [e2]
        simp only at h ⊢
        by_cases h2 : k / 2 < 1 ∨ n - out.length < k / 2
        · rw [if_pos h2] at h; simp at h
        · rw [if_neg h2] at h ⊢
          by_cases h3 : k % 2 = 0
          · rw [if_pos h3] at h ⊢
            rcases stTake_app2 (k / 2) r1 q with e | ⟨b, r2, e3, e4⟩
            · rw [e] at h
              have := unF_failed n f (out ++ [])
              simp only at h
              rw [h] at this
              simp [failed] at this
            · rw [e3] at h; rw [e4]
              exact unF_app n q f _ r2 o r h
          · rw [if_neg h3] at h ⊢
            rcases stNum_app r1 q with e | ⟨d, r2, e3, e4⟩
            · rw [e] at h
              rw [if_pos (Or.inl (by decide))] at h
              simp at h
            · rw [e3] at h; rw [e4]
              simp only at h ⊢
              by_cases h4 : d < 1 ∨ out.length < d
              · rw [if_pos h4] at h; simp at h
              · rw [if_neg h4] at h ⊢
                exact unF_app n q f _ r2 o r h
/-- what is accepted is not the beginning of a longer string that is accepted -/
theorem unp_fst (s : List UInt8) (h : (unpF s).2 = false) : (unpF s).1 = [] := by
  unfold unpF at h ⊢
  split at h
  · rw [if_pos ‹_›]
  · rw [if_neg ‹_›]
    split at h <;> rename_i e
    · split at h
      · cases h
      · rw [if_neg ‹_›]
    · rfl
theorem unp_prefix (p q : List UInt8) (h : (unpF p).2 = true) (h2 : (unpF (p ++ q)).2 = true) : q = [] := by
  unfold unpF at h h2
  rcases stNum_app p q with e | ⟨n, r, e1, e2⟩
  · rw [e] at h
    rw [if_neg (by decide)] at h
    rw [unF_done (Nat.zero_le _) (by omega)] at h
    simp [failed] at h
  · rw [e1] at h; rw [e2] at h2
    simp only at h h2
    by_cases hb : 16777216 < n
    · rw [if_pos hb] at h; cases h
    · rw [if_neg hb] at h h2
      rcases hu : unF n (2 * n + 2) [] (r, false) with ⟨o, st⟩
      rw [hu] at h
      cases o with
      | none => cases h
      | some o =>
        obtain ⟨rr, ff⟩ := st
        simp only at h
        by_cases hc : ff = false ∧ rr = []
        · obtain ⟨rfl, rfl⟩ := hc
          rw [unF_app n q _ _ _ _ _ hu] at h2
          simp only [List.nil_append, true_and] at h2
          by_cases hq : q = []
          · exact hq
          · rw [if_neg hq] at h2; cases h2
        · rw [if_neg hc] at h; cases h
theorem pack_cut (s : List UInt8) (hs : s.length ≤ 16777216) (n : Nat) (hn : n < (packF s).length) : unpF ((packF s).take n) = ([], false) := by
  have h : (unpF ((packF s).take n)).2 = false := by
    cases h : (unpF ((packF s).take n)).2 with
    | false => rfl
    | true =>
      have := unp_prefix _ ((packF s).drop n) h (by rw [List.take_append_drop, unp_pack s hs])
      have h3 := congrArg List.length this
      simp at h3; omega
  exact Prod.ext (unp_fst _ h) h
end Go.Proofs.Ytffmmhofgocldaa
