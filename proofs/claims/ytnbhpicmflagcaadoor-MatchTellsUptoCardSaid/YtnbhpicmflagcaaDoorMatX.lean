/- MatchOnce, in plain Lean: who is matched. -/
import Derived.Test.YtnbhpicmflagcaaDoorMatJ
set_option linter.unusedVariables false
set_option linter.unusedSimpArgs false
namespace Go.Proofs.YtnbhpicmflagcaaDoor
theorem mate_idx (a b : List Req) (i : Nat) : mateF a b i = (freF b b.length (rq a i))[cntF a i (rq a i)]? := by
  unfold mateF restF
  rw [List.head?_drop]
theorem mate_lt {a b : List Req} {x y : Nat} (h : mateF a b x = some y) : y < b.length ∧ AlikeP (rq b y) (rq a x) := by
  rw [mate_idx] at h
  exact mem_fre.1 (List.mem_of_getElem? h)
theorem fre_nodup (b : List Req) (k : Nat) (r : Req) : (freF b k r).Nodup := List.Nodup.sublist List.filter_sublist List.nodup_range
theorem cnt_mono (a : List Req) (r : Req) {i j : Nat} (h : i ≤ j) : cntF a i r ≤ cntF a j r := by
  induction j with
  | zero => have : i = 0 := by omega
            subst this; exact Nat.le_refl _
  | succ j ih =>
    by_cases e : i = j + 1
    · subst e; exact Nat.le_refl _
    · rw [cnt_succ]; have := ih (by omega); omega
theorem cnt_lt (a : List Req) {r : Req} {i j : Nat} (h : i < j) (hr : AlikeP (rq a i) r) : cntF a i r < cntF a j r := by
  have h1 := cnt_mono a r (show i + 1 ≤ j from h)
  rw [cnt_succ, alk_true hr] at h1
  simp only [if_true] at h1
  omega
theorem mate_inj {a b : List Req} {x1 x2 y : Nat} (h1 : mateF a b x1 = some y) (h2 : mateF a b x2 = some y) : x1 = x2 := by
  have a1 := (mate_lt h1).2
  have a2 := (mate_lt h2).2
  have a12 : AlikeP (rq a x1) (rq a x2) := a1.symm'.trans' a2
  rw [mate_idx, fre_congr b _ a12, cnt_congr a x1 a12] at h1
  rw [mate_idx] at h2
  have e := (List.getElem?_inj (List.getElem?_eq_some_iff.1 h1).1 (fre_nodup _ _ _)).1 (h1.trans h2.symm)
  rcases Nat.lt_trichotomy x1 x2 with h | h | h
  · have := cnt_lt a h a12; omega
  · exact h
  · have := cnt_lt a h (AlikeP.rfl' (rq a x2)); omega
theorem pairs_mem {a b : List Req} {n : Nat} {p : Nat × Nat} : p ∈ pairsF a b n ↔ p.1 < n ∧ mateF a b p.1 = some p.2 := by
  unfold pairsF
  rw [List.mem_filterMap]
  constructor
  · rintro ⟨i, hi, h⟩
    cases hm : mateF a b i with
    | none => rw [hm] at h; cases h
    | some j =>
      rw [hm] at h
      simp only [Option.map_some, Option.some.injEq] at h
      subst h
      exact ⟨List.mem_range.1 hi, hm⟩
  · rintro ⟨h1, h2⟩
    exact ⟨p.1, List.mem_range.2 h1, by rw [h2]; rfl⟩
theorem pairs_asc (a b : List Req) : ∀ n, (pairsF a b n).Pairwise fun p q => p.1 < q.1
  | 0 => List.Pairwise.nil
  | n + 1 => by
    rw [pairs_succ]
    refine List.pairwise_append.2 ⟨pairs_asc a b n, ?_, fun p hp q hq => ?_⟩
    · cases mateF a b n <;> simp
    · have h1 := (pairs_mem.1 hp).1
      cases hm : mateF a b n with
      | none => rw [hm] at hq; cases hq
      | some j => rw [hm] at hq; rw [List.mem_singleton.1 hq]; exact h1
theorem pairs_lt (a b : List Req) {n i j : Nat} {p q : Nat × Nat} (hi : (pairsF a b n)[i]? = some p) (hj : (pairsF a b n)[j]? = some q) (h : i < j) : p.1 < q.1 := by
  obtain ⟨h1, rfl⟩ := List.getElem?_eq_some_iff.1 hi
  obtain ⟨h2, rfl⟩ := List.getElem?_eq_some_iff.1 hj
  exact List.pairwise_iff_getElem.1 (pairs_asc a b n) i j h1 h2 h
/-- who is marked behind the first i pairs -/
def lefF (P : List (Nat × Nat)) (i : Nat) (x : Nat) : Bool := (P.take i).any fun p => p.1 == x
def rigF (P : List (Nat × Nat)) (i : Nat) (y : Nat) : Bool := (P.take i).any fun p => p.2 == y
theorem lef_zero (P : List (Nat × Nat)) (x : Nat) : lefF P 0 x = false := rfl
theorem rig_zero (P : List (Nat × Nat)) (x : Nat) : rigF P 0 x = false := rfl
theorem lef_succ {P : List (Nat × Nat)} {i : Nat} {p : Nat × Nat} (h : P[i]? = some p) (x : Nat) : lefF P (i + 1) x = (lefF P i x || p.1 == x) := by
  unfold lefF; rw [List.take_add_one, h]; simp
theorem rig_succ {P : List (Nat × Nat)} {i : Nat} {p : Nat × Nat} (h : P[i]? = some p) (x : Nat) : rigF P (i + 1) x = (rigF P i x || p.2 == x) := by
  unfold rigF; rw [List.take_add_one, h]; simp
theorem lef_at {a b : List Req} {n i : Nat} {p : Nat × Nat} (h : (pairsF a b n)[i]? = some p) : lefF (pairsF a b n) i p.1 = false := by
  unfold lefF
  rw [List.any_eq_false]
  intro q hq
  obtain ⟨j, hj, rfl⟩ := List.getElem_of_mem hq
  rw [List.length_take] at hj
  have := pairs_lt a b (i := j) (j := i) (List.getElem?_eq_getElem (by omega)) h (by omega)
  rw [List.getElem_take]
  simp
  omega
theorem rig_at {a b : List Req} {n i : Nat} {p : Nat × Nat} (h : (pairsF a b n)[i]? = some p) : rigF (pairsF a b n) i p.2 = false := by
  unfold rigF
  rw [List.any_eq_false]
  intro q hq hc
  obtain ⟨j, hj, rfl⟩ := List.getElem_of_mem hq
  rw [List.length_take] at hj
  have hlt := pairs_lt a b (i := j) (j := i) (List.getElem?_eq_getElem (by omega)) h (by omega)
  rw [List.getElem_take] at hc
  have hm1 := (pairs_mem.1 (List.mem_of_getElem? h)).2
  have hm2 := (pairs_mem.1 (List.getElem_mem (show j < (pairsF a b n).length by omega))).2
  rw [beq_iff_eq] at hc
  rw [hc] at hm2
  have := mate_inj hm2 hm1
  omega
theorem lef_all {a b : List Req} {n x : Nat} (hx : x < n) : lefF (pairsF a b n) (pairsF a b n).length x = (mateF a b x).isSome := by
  unfold lefF
  rw [List.take_of_length_le (Nat.le_refl _)]
  cases hm : mateF a b x with
  | none =>
    rw [Option.isSome_none, List.any_eq_false]
    intro p hp hc
    have := (pairs_mem.1 hp).2
    rw [beq_iff_eq] at hc
    rw [hc, hm] at this
    cases this
  | some y =>
    rw [Option.isSome_some, List.any_eq_true]
    exact ⟨(x, y), pairs_mem.2 ⟨hx, hm⟩, by simp⟩
/-- how many of l are like r, and marked -/
noncomputable def alkC (l : List Req) (r : Req) (u : List Bool) (k : Nat) : Nat := (List.range k).countP fun j => alk (rq l j) r && (u.length == 0 || u.getD j false)
theorem alkC_succ (l : List Req) (r : Req) (u : List Bool) (k : Nat) : alkC l r u (k + 1) = alkC l r u k + (if (alk (rq l k) r && (u.length == 0 || u.getD k false)) = true then 1 else 0) := by
  unfold alkC
  rw [List.range_succ, List.countP_append, List.countP_singleton]
theorem alkC_le (l : List Req) (r : Req) (u : List Bool) (k : Nat) : alkC l r u k ≤ k := by
  have : alkC l r u k ≤ (List.range k).length := List.countP_le_length
  rwa [List.length_range] at this
theorem alkC_nil (l : List Req) (r : Req) (k : Nat) : alkC l r [] k = cntF l k r := by
  unfold alkC cntF freF
  rw [List.countP_eq_length_filter]
  congr 1
  exact List.filter_congr fun j _ => by simp
theorem alkC_mate (a b : List Req) (r : Req) (u : List Bool) (hu : ∀ j, j < a.length → u.getD j false = (mateF a b j).isSome) (hl : u.length = a.length) : ∀ k, k ≤ a.length → alkC a r u k = min (cntF a k r) (cntF b b.length r)
  | 0, _ => by simp [alkC, cntF, freF]
  | k + 1, hk => by
    rw [alkC_succ, alkC_mate a b r u hu hl k (by omega), cnt_succ]
    have h0 : (u.length == 0) = false := beq_eq_false_iff_ne.2 (by omega)
    rw [h0, hu k (by omega)]
    by_cases hal : AlikeP (rq a k) r
    · rw [alk_true hal]
      have hm : (mateF a b k).isSome = decide (cntF a k r < cntF b b.length r) := by
        rw [mate_idx, fre_congr b _ hal, cnt_congr a k hal]
        have hs : ∀ (L : List Nat) (c : Nat), L[c]?.isSome = decide (c < L.length) := fun L c => by
          by_cases h : c < L.length
          · rw [List.getElem?_eq_getElem h, decide_eq_true h]; rfl
          · rw [List.getElem?_eq_none (by omega), decide_eq_false h]; rfl
        rw [hs]
        rfl
      rw [hm]
      by_cases h : cntF a k r < cntF b b.length r
      · simp [h]; omega
      · simp [h]; omega
    · rw [alk_false hal]; simp
end Go.Proofs.YtnbhpicmflagcaaDoor
