/- match.group, Pairs, Only, in plain Lean: classes by key; who is matched with whom. -/
import Derived.Test.YtnbhpicmflagcaaDoorMatH
import Derived.Test.YtnbhpicmflagcaaDoorMatK
set_option linter.unusedVariables false
namespace Go.Proofs.YtnbhpicmflagcaaDoor
theorem AlikeP.rfl' (x : Req) : AlikeP x x := ⟨rfl, rfl, rfl, rfl⟩
theorem AlikeP.symm' {x y : Req} (h : AlikeP x y) : AlikeP y x := by obtain ⟨h1, h2, h3, h4⟩ := h; exact ⟨h1.symm, h2.symm, h3.symm, h4.symm⟩
theorem AlikeP.trans' {x y z : Req} (h : AlikeP x y) (h' : AlikeP y z) : AlikeP x z := by
  obtain ⟨h1, h2, h3, h4⟩ := h
  obtain ⟨g1, g2, g3, g4⟩ := h'
  exact ⟨h1.trans g1, h2.trans g2, h3.trans g3, h4.trans g4⟩
theorem key_alike {x y : Req} (h : AlikeP x y) : keyF x = keyF y := by
  obtain ⟨h1, h2, h3, h4⟩ := h
  unfold keyF keyS headK
  rw [h1, h2, h3, h4]
def dflt : Req := ⟨[], [], [], 0, [], 0, 0, false⟩
def rq (b : List Req) (j : Nat) : Req := b.getD j dflt
theorem rq_at {b : List Req} {j : Nat} {r : Req} (h : b[j]? = some r) : rq b j = r := by unfold rq; rw [List.getD_eq_getElem?_getD, h]; rfl
theorem at_rq {b : List Req} {j : Nat} (h : j < b.length) : b[j]? = some (rq b j) := by
  rw [List.getElem?_eq_getElem h]; congr 1
  exact (rq_at (List.getElem?_eq_getElem h)).symm
noncomputable def alk (x y : Req) : Bool := dec (AlikeP x y)
theorem alk_true {x y : Req} (h : AlikeP x y) : alk x y = true := dec_true h
theorem alk_false {x y : Req} (h : ¬ AlikeP x y) : alk x y = false := dec_false h
theorem alk_iff {x y : Req} : alk x y = true ↔ AlikeP x y := dec_eq_true
theorem alk_congr {x y z : Req} (h : AlikeP y z) : alk x y = alk x z := dec_iff ⟨fun e => e.trans' h, fun e => e.trans' h.symm'⟩
/-- nobody before is like it -/
def FirstP (b : List Req) (j : Nat) : Prop := ∀ i, i < j → ¬ AlikeP (rq b i) (rq b j)
noncomputable def idsF (b : List Req) (k : Nat) (s : List UInt8) : List Nat := (List.range k).filter fun j => dec (keyF (rq b j) = s ∧ FirstP b j)
/-- the indices of those that are like r -/
noncomputable def freF (b : List Req) (k : Nat) (r : Req) : List Nat := (List.range k).filter fun j => alk (rq b j) r
structure GCl where
  id : Nat
  rq : Req
  free : List Nat
/-- the classes of a key, each with a list of free ones -/
noncomputable def grpF (b : List Req) (k : Nat) (F : Req → List Nat) (s : List UInt8) : List GCl := (idsF b k s).map fun j => ⟨j, rq b j, F (rq b j)⟩
theorem mem_ids {b : List Req} {k j : Nat} {s : List UInt8} : j ∈ idsF b k s ↔ j < k ∧ keyF (rq b j) = s ∧ FirstP b j := by
  unfold idsF
  rw [List.mem_filter, List.mem_range, dec_eq_true]
theorem mem_fre {b : List Req} {k j : Nat} {r : Req} : j ∈ freF b k r ↔ j < k ∧ AlikeP (rq b j) r := by
  unfold freF
  rw [List.mem_filter, List.mem_range, alk_iff]
theorem ids_nodup (b : List Req) (k : Nat) (s : List UInt8) : (idsF b k s).Nodup := List.Nodup.sublist List.filter_sublist List.nodup_range
theorem ids_len (b : List Req) (k : Nat) (s : List UInt8) : (idsF b k s).length ≤ k := by
  have := List.length_filter_le (fun j => dec (keyF (rq b j) = s ∧ FirstP b j)) (List.range k)
  rw [List.length_range] at this
  exact this
theorem fre_len (b : List Req) (k : Nat) (r : Req) : (freF b k r).length ≤ k := by
  have := List.length_filter_le (fun j => alk (rq b j) r) (List.range k)
  rw [List.length_range] at this
  exact this
theorem fre_congr (b : List Req) (k : Nat) {x y : Req} (h : AlikeP x y) : freF b k x = freF b k y := by
  unfold freF
  congr 1
  funext j
  exact alk_congr h
theorem fre_succ (b : List Req) (k : Nat) (x : Req) : freF b (k + 1) x = freF b k x ++ (if alk (rq b k) x then [k] else []) := by
  unfold freF
  rw [List.range_succ, List.filter_append]
  congr 1
  cases h : alk (rq b k) x <;> simp [h]
theorem first_of {b : List Req} {r : Req} : ∀ (n k : Nat), k < n → AlikeP (rq b k) r → ∃ j, j ≤ k ∧ AlikeP (rq b j) r ∧ FirstP b j
  | 0, k, h, _ => absurd h (Nat.not_lt_zero k)
  | n + 1, k, h, hk => by
    by_cases hf : FirstP b k
    · exact ⟨k, Nat.le_refl _, hk, hf⟩
    · obtain ⟨i, hi⟩ := Classical.not_forall.1 hf
      obtain ⟨hik, hi2⟩ := Classical.not_imp.1 hi
      obtain ⟨j, h1, h2, h3⟩ := first_of n i (by omega) ((Classical.not_not.1 hi2).trans' hk)
      exact ⟨j, by omega, h2, h3⟩
/-- two firsts that are alike are one -/
theorem first_one {b : List Req} {i j : Nat} (hi : FirstP b i) (hj : FirstP b j) (h : AlikeP (rq b i) (rq b j)) : i = j := by
  rcases Nat.lt_trichotomy i j with h1 | h1 | h1
  · exact absurd h (hj i h1)
  · exact h1
  · exact absurd h.symm' (hi j h1)
noncomputable def hitG (l : List GCl) (r : Req) : Option Nat := l.findIdx? fun c => alk c.rq r
theorem hit_some {b : List Req} {k : Nat} {F : Req → List Nat} {s : List UInt8} {r : Req} {c : Nat} (h : hitG (grpF b k F s) r = some c) : ∃ j, (idsF b k s)[c]? = some j ∧ AlikeP (rq b j) r := by
  obtain ⟨h1, h2⟩ := List.findIdx?_eq_some_iff_getElem.1 h
  unfold grpF at h1 h2
  rw [List.length_map] at h1
  refine ⟨(idsF b k s)[c], List.getElem?_eq_getElem h1, ?_⟩
  have := h2.1
  rw [List.getElem_map] at this
  exact alk_iff.1 this
theorem hit_none {b : List Req} {k : Nat} {F : Req → List Nat} {r : Req} (h : hitG (grpF b k F (keyF r)) r = none) : ∀ i, i < k → ¬ AlikeP (rq b i) r := by
  intro i hi hal
  obtain ⟨j, h1, h2, h3⟩ := first_of (i + 1) i (Nat.lt_succ_self i) hal
  have hm : j ∈ idsF b k (keyF r) := mem_ids.2 ⟨by omega, key_alike h2, h3⟩
  have := (List.findIdx?_eq_none_iff.1 h) ⟨j, rq b j, F (rq b j)⟩ (List.mem_map.2 ⟨j, hm, rfl⟩)
  rw [alk_true h2] at this
  cases this
theorem grp_at {b : List Req} {k : Nat} {F : Req → List Nat} {s : List UInt8} {c j : Nat} (h : (idsF b k s)[c]? = some j) : (grpF b k F s)[c]? = some ⟨j, rq b j, F (rq b j)⟩ := by
  unfold grpF; rw [List.getElem?_map, h]; rfl
/-- the lists of free ones change at one class alone -/
theorem grp_set {b : List Req} {k : Nat} {F G : Req → List Nat} {r : Req} {c j : Nat} (hc : (idsF b k (keyF r))[c]? = some j) (hj : AlikeP (rq b j) r)
    (hG : ∀ x, ¬ AlikeP x r → G x = F x) : grpF b k G (keyF r) = (grpF b k F (keyF r)).set c ⟨j, rq b j, G (rq b j)⟩ := by
  apply List.ext_getElem?
  intro i
  by_cases hi : c = i
  · subst hi
    have hlt : c < (grpF b k F (keyF r)).length := (List.getElem?_eq_some_iff.1 (grp_at (F := F) hc)).1
    rw [List.getElem?_set_self hlt, grp_at hc]
  · rw [List.getElem?_set_ne hi]
    unfold grpF
    rw [List.getElem?_map, List.getElem?_map]
    rcases hx : (idsF b k (keyF r))[i]? with _ | x
    · rfl
    · simp only [Option.map_some]
      rw [hG]
      intro hal
      have m1 := mem_ids.1 (List.mem_of_getElem? hx)
      have m2 := mem_ids.1 (List.mem_of_getElem? hc)
      have e := first_one m1.2.2 m2.2.2 (hal.trans' hj.symm')
      subst e
      exact hi ((List.getElem?_inj (List.getElem?_eq_some_iff.1 hc).1 (ids_nodup _ _ _)).1 (hc.trans hx.symm))
theorem grp_other {b : List Req} {k : Nat} {F G : Req → List Nat} {r : Req} {s : List UInt8} (hs : s ≠ keyF r) (hG : ∀ x, ¬ AlikeP x r → G x = F x) : grpF b k G s = grpF b k F s := by
  unfold grpF
  refine List.map_congr_left fun j hj => ?_
  rw [hG]
  intro hal
  exact hs ((mem_ids.1 hj).2.1.symm.trans (key_alike hal))
theorem grp_same {b : List Req} {k : Nat} {F G : Req → List Nat} {r : Req} (s : List UInt8) (hn : ∀ i, i < k → ¬ AlikeP (rq b i) r) (hG : ∀ x, ¬ AlikeP x r → G x = F x) : grpF b k G s = grpF b k F s := by
  unfold grpF
  refine List.map_congr_left fun j hj => ?_
  rw [hG _ (hn j (mem_ids.1 hj).1)]
theorem ids_known {b : List Req} {k : Nat} {r : Req} (hr : rq b k = r) {j : Nat} (hj : j < k) (hal : AlikeP (rq b j) r) (s : List UInt8) : idsF b (k + 1) s = idsF b k s := by
  unfold idsF
  rw [List.range_succ, List.filter_append]
  have : dec (keyF (rq b k) = s ∧ FirstP b k) = false := dec_false fun h => h.2 j hj (by rw [hr]; exact hal)
  simp [this]
theorem ids_fresh {b : List Req} {k : Nat} {r : Req} (hr : rq b k = r) (hn : ∀ i, i < k → ¬ AlikeP (rq b i) r) (s : List UInt8) : idsF b (k + 1) s = idsF b k s ++ (if s = keyF r then [k] else []) := by
  unfold idsF
  rw [List.range_succ, List.filter_append]
  congr 1
  by_cases h : s = keyF r
  · rw [if_pos h]
    have : dec (keyF (rq b k) = s ∧ FirstP b k) = true := dec_true ⟨by rw [hr, h], fun i hi => by rw [hr]; exact hn i hi⟩
    simp [this]
  · rw [if_neg h]
    have : dec (keyF (rq b k) = s ∧ FirstP b k) = false := dec_false fun e => h (by rw [← e.1, hr])
    simp [this]
theorem fre_keep {b : List Req} {k : Nat} {r : Req} (hr : rq b k = r) (x : Req) (h : ¬ AlikeP x r) : freF b (k + 1) x = freF b k x := by
  rw [fre_succ, hr, alk_false (fun e => h e.symm')]
  simp
/-- one more request of b, known already -/
theorem grp_push {b : List Req} {k : Nat} {r : Req} {c j : Nat} (hr : rq b k = r) (hc : (idsF b k (keyF r))[c]? = some j) (hj : AlikeP (rq b j) r) :
    grpF b (k + 1) (freF b (k + 1)) (keyF r) = (grpF b k (freF b k) (keyF r)).set c ⟨j, rq b j, freF b k (rq b j) ++ [k]⟩ := by
  have hm := mem_ids.1 (List.mem_of_getElem? hc)
  have e1 : grpF b (k + 1) (freF b (k + 1)) (keyF r) = grpF b k (freF b (k + 1)) (keyF r) := by unfold grpF; rw [ids_known hr hm.1 hj]
  rw [e1, grp_set hc hj (fun x hx => fre_keep hr x hx), fre_succ, hr, alk_true hj.symm']
  rfl
theorem grp_push_other {b : List Req} {k : Nat} {r : Req} {c j : Nat} (hr : rq b k = r) (hc : (idsF b k (keyF r))[c]? = some j) (hj : AlikeP (rq b j) r) {s : List UInt8} (hs : s ≠ keyF r) :
    grpF b (k + 1) (freF b (k + 1)) s = grpF b k (freF b k) s := by
  have hm := mem_ids.1 (List.mem_of_getElem? hc)
  have e1 : grpF b (k + 1) (freF b (k + 1)) s = grpF b k (freF b (k + 1)) s := by unfold grpF; rw [ids_known hr hm.1 hj]
  rw [e1]
  exact grp_other hs fun x hx => fre_keep hr x hx
theorem fre_none {b : List Req} {k : Nat} {r : Req} (hn : ∀ i, i < k → ¬ AlikeP (rq b i) r) : freF b k r = [] :=
  List.filter_eq_nil_iff.2 fun j hj => by rw [alk_false (hn j (List.mem_range.1 hj))]; simp
theorem grp_new {b : List Req} {k : Nat} {r : Req} (hr : rq b k = r) (hn : ∀ i, i < k → ¬ AlikeP (rq b i) r) :
    grpF b (k + 1) (freF b (k + 1)) (keyF r) = grpF b k (freF b k) (keyF r) ++ [⟨k, r, [k]⟩] := by
  have e1 : grpF b (k + 1) (freF b (k + 1)) (keyF r) = grpF b k (freF b (k + 1)) (keyF r) ++ [⟨k, r, [k]⟩] := by
    unfold grpF
    rw [ids_fresh hr hn, if_pos rfl, List.map_append, List.map_singleton, hr, fre_succ, hr, alk_true (AlikeP.rfl' r), fre_none hn]
    rfl
  rw [e1, grp_same _ hn fun x hx => fre_keep hr x hx]
theorem grp_new_other {b : List Req} {k : Nat} {r : Req} (hr : rq b k = r) (hn : ∀ i, i < k → ¬ AlikeP (rq b i) r) {s : List UInt8} (hs : s ≠ keyF r) :
    grpF b (k + 1) (freF b (k + 1)) s = grpF b k (freF b k) s := by
  have e1 : grpF b (k + 1) (freF b (k + 1)) s = grpF b k (freF b (k + 1)) s := by unfold grpF; rw [ids_fresh hr hn, if_neg hs, List.append_nil]
  rw [e1]
  exact grp_same _ hn fun x hx => fre_keep hr x hx
/-- how many of the first k of a are like x -/
noncomputable def cntF (a : List Req) (k : Nat) (x : Req) : Nat := (freF a k x).length
theorem cnt_succ (a : List Req) (k : Nat) (x : Req) : cntF a (k + 1) x = cntF a k x + (if alk (rq a k) x then 1 else 0) := by
  unfold cntF
  rw [fre_succ, List.length_append]
  cases alk (rq a k) x <;> rfl
theorem cnt_congr (a : List Req) (k : Nat) {x y : Req} (h : AlikeP x y) : cntF a k x = cntF a k y := by unfold cntF; rw [fre_congr a k h]
/-- what is left of a class when i requests of a have come -/
noncomputable def restF (a b : List Req) (i : Nat) (x : Req) : List Nat := (freF b b.length x).drop (cntF a i x)
theorem rest_keep {a b : List Req} {i : Nat} {r : Req} (hr : rq a i = r) (x : Req) (h : ¬ AlikeP x r) : restF a b (i + 1) x = restF a b i x := by
  unfold restF
  rw [cnt_succ, hr, alk_false (fun e => h e.symm')]
  rfl
theorem rest_next {a b : List Req} {i : Nat} {r : Req} (hr : rq a i = r) (x : Req) (h : AlikeP x r) : restF a b (i + 1) x = (restF a b i x).drop 1 := by
  unfold restF
  rw [cnt_succ, hr, alk_true h.symm', List.drop_drop]
  rfl
theorem rest_zero (a b : List Req) (x : Req) : restF a b 0 x = freF b b.length x := rfl
/-- whom the request i of a meets -/
noncomputable def mateF (a b : List Req) (i : Nat) : Option Nat := (restF a b i (rq a i)).head?
noncomputable def pairsF (a b : List Req) (k : Nat) : List (Nat × Nat) := (List.range k).filterMap fun i => (mateF a b i).map fun j => (i, j)
theorem pairs_succ (a b : List Req) (k : Nat) : pairsF a b (k + 1) = pairsF a b k ++ (match mateF a b k with | some j => [(k, j)] | none => []) := by
  unfold pairsF
  rw [List.range_succ, List.filterMap_append]
  congr 1
  cases h : mateF a b k <;> simp [h]
theorem pairs_len (a b : List Req) (k : Nat) : (pairsF a b k).length ≤ k := by
  have := List.length_filterMap_le (fun i => (mateF a b i).map fun j => (i, j)) (List.range k)
  rw [List.length_range] at this
  exact this
theorem mate_none {a b : List Req} {i : Nat} {r : Req} (hr : rq a i = r) (hn : ∀ j, j < b.length → ¬ AlikeP (rq b j) r) : mateF a b i = none := by
  unfold mateF restF
  rw [hr, fre_none hn]
  simp
theorem mate_of {a b : List Req} {i : Nat} {r x : Req} (hr : rq a i = r) (h : AlikeP x r) : mateF a b i = (restF a b i x).head? := by
  unfold mateF restF
  rw [hr, fre_congr b _ h, cnt_congr a i h]
/-- the requests of a that meet nobody -/
noncomputable def onlyF (a b : List Req) (k : Nat) : List Req := (List.range k).filterMap fun i => match mateF a b i with | some _ => none | none => some (rq a i)
theorem only_succ (a b : List Req) (k : Nat) : onlyF a b (k + 1) = onlyF a b k ++ (match mateF a b k with | some _ => [] | none => [rq a k]) := by
  unfold onlyF
  rw [List.range_succ, List.filterMap_append]
  congr 1
  cases h : mateF a b k <;> simp [h]
theorem only_len (a b : List Req) (k : Nat) : (onlyF a b k).length ≤ k := by
  have := List.length_filterMap_le (fun i => match mateF a b i with | some _ => none | none => some (rq a i)) (List.range k)
  rw [List.length_range] at this
  exact this
theorem pairs_split (a b : List Req) {i : Nat} : ∀ {n : Nat}, i ≤ n → ∃ t, pairsF a b n = pairsF a b i ++ t ∧ ∀ p ∈ t, i ≤ p.1 := by
  intro n
  induction n with
  | zero => intro h; have : i = 0 := by omega
            subst this; exact ⟨[], by simp, fun p hp => by simp at hp⟩
  | succ n ih =>
    intro h
    by_cases e : i = n + 1
    · subst e; exact ⟨[], by simp, fun p hp => by simp at hp⟩
    · obtain ⟨t, h1, h2⟩ := ih (by omega)
      rw [pairs_succ, h1, List.append_assoc]
      refine ⟨_, rfl, fun p hp => ?_⟩
      rcases List.mem_append.1 hp with hp | hp
      · exact h2 p hp
      · cases hm : mateF a b n with
        | none => rw [hm] at hp; simp at hp
        | some j => rw [hm] at hp; simp at hp; rw [hp]; show i ≤ n; omega
/-- the pair at the place that the requests before i have filled -/
theorem pairs_at (a b : List Req) {i n : Nat} (h : i < n) : (match (pairsF a b n)[(pairsF a b i).length]? with | some p => decide (p.1 = i) | none => false) = (mateF a b i).isSome := by
  obtain ⟨t, h1, h2⟩ := pairs_split a b (i := i + 1) (n := n) h
  rw [pairs_succ] at h1
  cases hm : mateF a b i with
  | some j =>
    rw [hm] at h1
    rw [h1, List.append_assoc, List.getElem?_append_right (Nat.le_refl _), Nat.sub_self]
    simp
  | none =>
    rw [hm] at h1
    simp only [List.append_nil] at h1
    rw [h1, List.getElem?_append_right (Nat.le_refl _), Nat.sub_self]
    cases ht : t with
    | nil => rfl
    | cons p u =>
      have := h2 p (by rw [ht]; exact List.mem_cons_self)
      simp
      omega
end Go.Proofs.YtnbhpicmflagcaaDoor
