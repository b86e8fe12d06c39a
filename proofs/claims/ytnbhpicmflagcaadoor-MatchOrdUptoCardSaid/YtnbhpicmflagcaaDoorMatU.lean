/- MatchOrd, in plain Lean: requests that are numbered. -/
import Derived.Test.YtnbhpicmflagcaaDoorMatJ
set_option linter.unusedVariables false
set_option linter.unusedSimpArgs false
namespace Go.Proofs.YtnbhpicmflagcaaDoor
def wOrd (r : Req) (n : Int) : Req := ⟨r.path, r.name, r.args, n, r.reply, r.sent, r.tick, r.opn⟩
noncomputable def ordN (l : List Req) (i : Nat) : Nat := (List.range i).countP fun j => fitB (rq l i).path (rq l i).name (rq l i).args (rq l j)
/-- the first k requests, each with the number of earlier equal ones -/
noncomputable def allK (l : List Req) (k : Nat) : List Req := (List.range k).map fun i => wOrd (rq l i) (ordN l i)
theorem allK_len (l : List Req) (k : Nat) : (allK l k).length = k := by unfold allK; simp
theorem allK_at {l : List Req} {k i : Nat} (h : i < k) : (allK l k)[i]? = some (wOrd (rq l i) (ordN l i)) := by
  unfold allK; rw [List.getElem?_map, List.getElem?_range h]; rfl
theorem fit_wOrd (p n : List UInt8) (a : List Val) (r : Req) (m : Int) : fitB p n a (wOrd r m) = fitB p n a r := rfl
theorem ord_all (l : List Req) (k : Nat) : ordF (allK l k) (rq l k).path (rq l k).name (rq l k).args = ordN l k := by
  unfold ordF allK ordN
  rw [List.countP_map]
  rfl
theorem allK_succ (l : List Req) (k : Nat) : allK l (k + 1) = allK l k ++ [wOrd (rq l k) (ordF (allK l k) (rq l k).path (rq l k).name (rq l k).args)] := by
  rw [ord_all]
  unfold allK
  rw [List.range_succ, List.map_append]
  rfl
theorem ordN_lt {l : List Req} {i j : Nat} (h : i < j) (hp : (rq l i).path = (rq l j).path) (hn : (rq l i).name = (rq l j).name) (ha : (rq l i).args = (rq l j).args) : ordN l i < ordN l j := by
  unfold ordN
  rw [hp, hn, ha]
  have h1 : (List.range (i + 1)).Sublist (List.range j) := by
    have : List.range j = List.range (i + 1) ++ (List.range (j - (i + 1))).map (fun x => i + 1 + x) := by
      rw [← List.range_add]; congr 1; omega
    rw [this]
    exact List.sublist_append_left _ _
  have h2 := h1.countP_le (p := fun q => fitB (rq l j).path (rq l j).name (rq l j).args (rq l q))
  rw [List.range_succ, List.countP_append] at h2
  have h3 : fitB (rq l j).path (rq l j).name (rq l j).args (rq l i) = true := dec_true ⟨hp, hn, ha⟩
  simp only [List.countP_singleton, h3, if_true] at h2
  omega
theorem all_alike {l : List Req} {i j : Nat} : AlikeP (wOrd (rq l i) (ordN l i)) (wOrd (rq l j) (ordN l j)) ↔ i = j := by
  constructor
  · rintro ⟨h1, h2, h3, h4⟩
    have h1' : (ordN l i : Int) = ordN l j := h1
    rcases Nat.lt_trichotomy i j with h | h | h
    · have := ordN_lt h h2 h3 h4; omega
    · exact h
    · have := ordN_lt h h2.symm h3.symm h4.symm; omega
  · rintro rfl
    exact AlikeP.rfl' _
theorem all_find (l : List Req) {k i : Nat} (h : i < k) : findF (allK l k) (rq l i).path (rq l i).name (rq l i).args (ordN l i) = some i := by
  refine first_hit (allK_at h) (dec_true ⟨rfl, rfl, rfl, rfl⟩) fun j y hj hy => ?_
  rw [allK_at (Nat.lt_trans hj h)] at hy
  injection hy with hy
  subst hy
  refine dec_false fun hf => ?_
  have : AlikeP (wOrd (rq l j) (ordN l j)) (wOrd (rq l i) (ordN l i)) := ⟨hf.1, hf.2⟩
  have := all_alike.1 this
  omega
theorem rq_all {l : List Req} {k i : Nat} (h : i < k) : rq (allK l k) i = wOrd (rq l i) (ordN l i) := rq_at (allK_at h)
theorem rq_take {l : List Req} {n i : Nat} (h : i < n) : rq (l.take n) i = rq l i := by
  unfold rq
  rw [List.getD_eq_getElem?_getD, List.getD_eq_getElem?_getD, List.getElem?_take_of_lt h]
theorem filter_one : ∀ (n i : Nat) (p : Nat → Bool), (∀ j, j < n → (p j = true ↔ j = i)) → (List.range n).filter p = if i < n then [i] else []
  | 0, i, p, _ => by simp
  | n + 1, i, p, h => by
    rw [List.range_succ, List.filter_append, filter_one n i p fun j hj => h j (by omega)]
    by_cases hi : i = n
    · have : p n = true := (h n (by omega)).2 hi.symm
      simp [this, hi]
    · have : p n = false := by
        cases hp : p n with
        | false => rfl
        | true => exact absurd ((h n (by omega)).1 hp).symm hi
      have e : (if i < n then [i] else []) = (if i < n + 1 then [i] else []) := by
        by_cases h2 : i < n
        · rw [if_pos h2, if_pos (by omega)]
        · rw [if_neg h2, if_neg (by omega)]
      simp [this]
      exact e
theorem all_mate (l : List Req) {k n i : Nat} (hn : n ≤ k) (hi : i < k) : mateF (allK l k) ((allK l k).take n) i = if i < n then some i else none := by
  unfold mateF restF
  have hl : ((allK l k).take n).length = n := by rw [List.length_take, allK_len]; omega
  have h1 : freF ((allK l k).take n) n (rq (allK l k) i) = if i < n then [i] else [] := by
    unfold freF
    refine filter_one n i _ fun j hj => ?_
    rw [alk_iff, rq_take hj, rq_all (by omega), rq_all hi]
    exact all_alike
  have h2 : cntF (allK l k) i (rq (allK l k) i) = 0 := by
    unfold cntF freF
    rw [List.length_eq_zero_iff, List.filter_eq_nil_iff]
    intro j hj
    have hj := List.mem_range.1 hj
    rw [alk_iff, rq_all (by omega), rq_all hi, all_alike]
    omega
  rw [hl, h1, h2]
  by_cases h : i < n
  · rw [if_pos h, if_pos h]; rfl
  · rw [if_neg h, if_neg h]; rfl
theorem all_pairs (l : List Req) {k n : Nat} (hn : n ≤ k) : ∀ m, m ≤ k → pairsF (allK l k) ((allK l k).take n) m = (List.range (min m n)).map fun i => (i, i)
  | 0, _ => by simp [pairsF]
  | m + 1, hm => by
    rw [pairs_succ, all_pairs l hn m (by omega), all_mate l hn (by omega)]
    by_cases h : m < n
    · rw [if_pos h, show min m n = m by omega, show min (m + 1) n = m + 1 by omega, List.range_succ, List.map_append]
      rfl
    · rw [if_neg h, show min m n = n by omega, show min (m + 1) n = n by omega]
      simp
theorem all_only (l : List Req) {k n : Nat} (hn : n ≤ k) : ∀ m, m ≤ k → onlyF (allK l k) ((allK l k).take n) m = ((allK l k).take m).drop n
  | 0, _ => by simp [onlyF]
  | m + 1, hm => by
    rw [only_succ, all_only l hn m (by omega), all_mate l hn (by omega)]
    have e : (allK l k).take (m + 1) = (allK l k).take m ++ [rq (allK l k) m] := by
      rw [List.take_add_one, at_rq (by rw [allK_len]; omega)]
      rfl
    rw [e]
    by_cases h : m < n
    · rw [if_pos h, List.drop_eq_nil_of_le (by rw [List.length_take, allK_len]; omega), List.drop_eq_nil_of_le (by simp [allK_len]; omega)]
      rfl
    · rw [if_neg h, List.drop_append_of_le_length (by rw [List.length_take, allK_len]; omega)]
end Go.Proofs.YtnbhpicmflagcaaDoor
