/- MatJx: MatJ, MatL, in one text. -/
import Derived.Test.YtnbhpicmflagcaaDoorMatA
import Derived.Test.YtnbhpicmflagcaaDoorMatK
import Derived.Test.YtnbhpicmflagcaaDoorMapV
import Derived.Test.YtnbhpicmflagcaaDoorDel
set_option linter.unusedVariables false
namespace Go.Proofs.YtnbhpicmflagcaaDoor
theorem AlikeP.rfl' (x : Req) : AlikeP x x := ⟨rfl, rfl, rfl, rfl⟩
theorem AlikeP.symm' {x y : Req} (h : AlikeP x y) : AlikeP y x := by obtain ⟨h1, h2, h3, h4⟩ := h; exact ⟨h1.symm, h2.symm, h3.symm, h4.symm⟩
theorem AlikeP.trans' {x y z : Req} (h : AlikeP x y) (h' : AlikeP y z) : AlikeP x z := by
  obtain ⟨h1, h2, h3, h4⟩ := h
  obtain ⟨g1, g2, g3, g4⟩ := h'
  exact ⟨h1.trans g1, h2.trans g2, h3.trans g3, h4.trans g4⟩
theorem key_alike {x y : Req} (h : AlikeP x y) : keyF x = keyF y := by
  obtain ⟨h1, h2, h3, h4⟩ := h
  unfold keyF keyS headK
  rw [h1, h2, h3, h4]
def dflt : Req := ⟨[], [], [], 0, [], 0, 0, false⟩
def rq (b : List Req) (j : Nat) : Req := b.getD j dflt
theorem rq_at {b : List Req} {j : Nat} {r : Req} (h : b[j]? = some r) : rq b j = r := by unfold rq; rw [List.getD_eq_getElem?_getD, h]; rfl
theorem at_rq {b : List Req} {j : Nat} (h : j < b.length) : b[j]? = some (rq b j) := by
  rw [List.getElem?_eq_getElem h]; congr 1
  exact (rq_at (List.getElem?_eq_getElem h)).symm
noncomputable def alk (x y : Req) : Bool := dec (AlikeP x y)
theorem alk_true {x y : Req} (h : AlikeP x y) : alk x y = true := dec_true h
theorem alk_false {x y : Req} (h : ¬ AlikeP x y) : alk x y = false := dec_false h
theorem alk_iff {x y : Req} : alk x y = true ↔ AlikeP x y := dec_eq_true
theorem alk_congr {x y z : Req} (h : AlikeP y z) : alk x y = alk x z := dec_iff ⟨fun e => e.trans' h, fun e => e.trans' h.symm'⟩
/-- nobody before is like it -/
def FirstP (b : List Req) (j : Nat) : Prop := ∀ i, i < j → ¬ AlikeP (rq b i) (rq b j)
noncomputable def idsF (b : List Req) (k : Nat) (s : List UInt8) : List Nat := (List.range k).filter fun j => dec (keyF (rq b j) = s ∧ FirstP b j)
/-- the indices of those that are like r -/
noncomputable def freF (b : List Req) (k : Nat) (r : Req) : List Nat := (List.range k).filter fun j => alk (rq b j) r
structure GCl where
  id : Nat
  rq : Req
  free : List Nat
/-- the classes of a key, each with a list of free ones -/
noncomputable def grpF (b : List Req) (k : Nat) (F : Req → List Nat) (s : List UInt8) : List GCl := (idsF b k s).map fun j => ⟨j, rq b j, F (rq b j)⟩
theorem mem_ids {b : List Req} {k j : Nat} {s : List UInt8} : j ∈ idsF b k s ↔ j < k ∧ keyF (rq b j) = s ∧ FirstP b j := by
  unfold idsF
  rw [List.mem_filter, List.mem_range, dec_eq_true]
theorem mem_fre {b : List Req} {k j : Nat} {r : Req} : j ∈ freF b k r ↔ j < k ∧ AlikeP (rq b j) r := by
  unfold freF
  rw [List.mem_filter, List.mem_range, alk_iff]
theorem ids_nodup (b : List Req) (k : Nat) (s : List UInt8) : (idsF b k s).Nodup := List.Nodup.sublist List.filter_sublist List.nodup_range
theorem ids_len (b : List Req) (k : Nat) (s : List UInt8) : (idsF b k s).length ≤ k := by
  have := List.length_filter_le (fun j => dec (keyF (rq b j) = s ∧ FirstP b j)) (List.range k)
  rw [List.length_range] at this
  exact this
theorem fre_len (b : List Req) (k : Nat) (r : Req) : (freF b k r).length ≤ k := by
  have := List.length_filter_le (fun j => alk (rq b j) r) (List.range k)
  rw [List.length_range] at this
  exact this
theorem fre_congr (b : List Req) (k : Nat) {x y : Req} (h : AlikeP x y) : freF b k x = freF b k y := by
  unfold freF
  congr 1
  funext j
  exact alk_congr h
theorem fre_succ (b : List Req) (k : Nat) (x : Req) : freF b (k + 1) x = freF b k x ++ (if alk (rq b k) x then [k] else []) := by
  unfold freF
  rw [List.range_succ, List.filter_append]
  congr 1
  cases h : alk (rq b k) x <;> simp [h]
theorem first_of {b : List Req} {r : Req} : ∀ (n k : Nat), k < n → AlikeP (rq b k) r → ∃ j, j ≤ k ∧ AlikeP (rq b j) r ∧ FirstP b j
  | 0, k, h, _ => absurd h (Nat.not_lt_zero k)
  | n + 1, k, h, hk => by
    by_cases hf : FirstP b k
    · exact ⟨k, Nat.le_refl _, hk, hf⟩
    · obtain ⟨i, hi⟩ := Classical.not_forall.1 hf
      obtain ⟨hik, hi2⟩ := Classical.not_imp.1 hi
      obtain ⟨j, h1, h2, h3⟩ := first_of n i (by omega) ((Classical.not_not.1 hi2).trans' hk)
      exact ⟨j, by omega, h2, h3⟩
/-- two firsts that are alike are one -/
theorem first_one {b : List Req} {i j : Nat} (hi : FirstP b i) (hj : FirstP b j) (h : AlikeP (rq b i) (rq b j)) : i = j := by
  rcases Nat.lt_trichotomy i j with h1 | h1 | h1
  · exact absurd h (hj i h1)
  · exact h1
  · exact absurd h.symm' (hi j h1)
noncomputable def hitG (l : List GCl) (r : Req) : Option Nat := l.findIdx? fun c => alk c.rq r
theorem hit_some {b : List Req} {k : Nat} {F : Req → List Nat} {s : List UInt8} {r : Req} {c : Nat} (h : hitG (grpF b k F s) r = some c) : ∃ j, (idsF b k s)[c]? = some j ∧ AlikeP (rq b j) r := by
  obtain ⟨h1, h2⟩ := List.findIdx?_eq_some_iff_getElem.1 h
  unfold grpF at h1 h2
  rw [List.length_map] at h1
  refine ⟨(idsF b k s)[c], List.getElem?_eq_getElem h1, ?_⟩
  have := h2.1
  rw [List.getElem_map] at this
  exact alk_iff.1 this
theorem hit_none {b : List Req} {k : Nat} {F : Req → List Nat} {r : Req} (h : hitG (grpF b k F (keyF r)) r = none) : ∀ i, i < k → ¬ AlikeP (rq b i) r := by
  intro i hi hal
  obtain ⟨j, h1, h2, h3⟩ := first_of (i + 1) i (Nat.lt_succ_self i) hal
  have hm : j ∈ idsF b k (keyF r) := mem_ids.2 ⟨by omega, key_alike h2, h3⟩
  have := (List.findIdx?_eq_none_iff.1 h) ⟨j, rq b j, F (rq b j)⟩ (List.mem_map.2 ⟨j, hm, rfl⟩)
  rw [alk_true h2] at this
  cases this
theorem grp_at {b : List Req} {k : Nat} {F : Req → List Nat} {s : List UInt8} {c j : Nat} (h : (idsF b k s)[c]? = some j) : (grpF b k F s)[c]? = some ⟨j, rq b j, F (rq b j)⟩ := by
  unfold grpF; rw [List.getElem?_map, h]; rfl
/-- the lists of free ones change at one class alone -/
theorem grp_set {b : List Req} {k : Nat} {F G : Req → List Nat} {r : Req} {c j : Nat} (hc : (idsF b k (keyF r))[c]? = some j) (hj : AlikeP (rq b j) r)
    (hG : ∀ x, ¬ AlikeP x r → G x = F x) : grpF b k G (keyF r) = (grpF b k F (keyF r)).set c ⟨j, rq b j, G (rq b j)⟩ := by
  apply List.ext_getElem?
  intro i
  by_cases hi : c = i
  · subst hi
    have hlt : c < (grpF b k F (keyF r)).length := (List.getElem?_eq_some_iff.1 (grp_at (F := F) hc)).1
    rw [List.getElem?_set_self hlt, grp_at hc]
  · rw [List.getElem?_set_ne hi]
    unfold grpF
    rw [List.getElem?_map, List.getElem?_map]
    rcases hx : (idsF b k (keyF r))[i]? with _ | x
    · rfl
    · simp only [Option.map_some]
      rw [hG]
      intro hal
      have m1 := mem_ids.1 (List.mem_of_getElem? hx)
      have m2 := mem_ids.1 (List.mem_of_getElem? hc)
      have e := first_one m1.2.2 m2.2.2 (hal.trans' hj.symm')
      subst e
      exact hi ((List.getElem?_inj (List.getElem?_eq_some_iff.1 hc).1 (ids_nodup _ _ _)).1 (hc.trans hx.symm))
theorem grp_other {b : List Req} {k : Nat} {F G : Req → List Nat} {r : Req} {s : List UInt8} (hs : s ≠ keyF r) (hG : ∀ x, ¬ AlikeP x r → G x = F x) : grpF b k G s = grpF b k F s := by
  unfold grpF
  refine List.map_congr_left fun j hj => ?_
  rw [hG]
  intro hal
  exact hs ((mem_ids.1 hj).2.1.symm.trans (key_alike hal))
theorem grp_same {b : List Req} {k : Nat} {F G : Req → List Nat} {r : Req} (s : List UInt8) (hn : ∀ i, i < k → ¬ AlikeP (rq b i) r) (hG : ∀ x, ¬ AlikeP x r → G x = F x) : grpF b k G s = grpF b k F s := by
  unfold grpF
  refine List.map_congr_left fun j hj => ?_
  rw [hG _ (hn j (mem_ids.1 hj).1)]
theorem ids_known {b : List Req} {k : Nat} {r : Req} (hr : rq b k = r) {j : Nat} (hj : j < k) (hal : AlikeP (rq b j) r) (s : List UInt8) : idsF b (k + 1) s = idsF b k s := by
  unfold idsF
  rw [List.range_succ, List.filter_append]
  have : dec (keyF (rq b k) = s ∧ FirstP b k) = false := dec_false fun h => h.2 j hj (by rw [hr]; exact hal)
  simp [this]
theorem ids_fresh {b : List Req} {k : Nat} {r : Req} (hr : rq b k = r) (hn : ∀ i, i < k → ¬ AlikeP (rq b i) r) (s : List UInt8) : idsF b (k + 1) s = idsF b k s ++ (if s = keyF r then [k] else []) := by
  unfold idsF
  rw [List.range_succ, List.filter_append]
  congr 1
  by_cases h : s = keyF r
  · rw [if_pos h]
    have : dec (keyF (rq b k) = s ∧ FirstP b k) = true := dec_true ⟨by rw [hr, h], fun i hi => by rw [hr]; exact hn i hi⟩
    simp [this]
  · rw [if_neg h]
    have : dec (keyF (rq b k) = s ∧ FirstP b k) = false := dec_false fun e => h (by rw [← e.1, hr])
    simp [this]
theorem fre_keep {b : List Req} {k : Nat} {r : Req} (hr : rq b k = r) (x : Req) (h : ¬ AlikeP x r) : freF b (k + 1) x = freF b k x := by
  rw [fre_succ, hr, alk_false (fun e => h e.symm')]
  simp
/-- one more request of b, known already -/
theorem grp_push {b : List Req} {k : Nat} {r : Req} {c j : Nat} (hr : rq b k = r) (hc : (idsF b k (keyF r))[c]? = some j) (hj : AlikeP (rq b j) r) :
    grpF b (k + 1) (freF b (k + 1)) (keyF r) = (grpF b k (freF b k) (keyF r)).set c ⟨j, rq b j, freF b k (rq b j) ++ [k]⟩ := by
  have hm := mem_ids.1 (List.mem_of_getElem? hc)
  have e1 : grpF b (k + 1) (freF b (k + 1)) (keyF r) = grpF b k (freF b (k + 1)) (keyF r) := by unfold grpF; rw [ids_known hr hm.1 hj]
  rw [e1, grp_set hc hj (fun x hx => fre_keep hr x hx), fre_succ, hr, alk_true hj.symm']
  rfl
theorem grp_push_other {b : List Req} {k : Nat} {r : Req} {c j : Nat} (hr : rq b k = r) (hc : (idsF b k (keyF r))[c]? = some j) (hj : AlikeP (rq b j) r) {s : List UInt8} (hs : s ≠ keyF r) :
    grpF b (k + 1) (freF b (k + 1)) s = grpF b k (freF b k) s := by
  have hm := mem_ids.1 (List.mem_of_getElem? hc)
  have e1 : grpF b (k + 1) (freF b (k + 1)) s = grpF b k (freF b (k + 1)) s := by unfold grpF; rw [ids_known hr hm.1 hj]
  rw [e1]
  exact grp_other hs fun x hx => fre_keep hr x hx
theorem fre_none {b : List Req} {k : Nat} {r : Req} (hn : ∀ i, i < k → ¬ AlikeP (rq b i) r) : freF b k r = [] :=
  List.filter_eq_nil_iff.2 fun j hj => by rw [alk_false (hn j (List.mem_range.1 hj))]; simp
theorem grp_new {b : List Req} {k : Nat} {r : Req} (hr : rq b k = r) (hn : ∀ i, i < k → ¬ AlikeP (rq b i) r) :
    grpF b (k + 1) (freF b (k + 1)) (keyF r) = grpF b k (freF b k) (keyF r) ++ [⟨k, r, [k]⟩] := by
  have e1 : grpF b (k + 1) (freF b (k + 1)) (keyF r) = grpF b k (freF b (k + 1)) (keyF r) ++ [⟨k, r, [k]⟩] := by
    unfold grpF
    rw [ids_fresh hr hn, if_pos rfl, List.map_append, List.map_singleton, hr, fre_succ, hr, alk_true (AlikeP.rfl' r), fre_none hn]
    rfl
  rw [e1, grp_same _ hn fun x hx => fre_keep hr x hx]
theorem grp_new_other {b : List Req} {k : Nat} {r : Req} (hr : rq b k = r) (hn : ∀ i, i < k → ¬ AlikeP (rq b i) r) {s : List UInt8} (hs : s ≠ keyF r) :
    grpF b (k + 1) (freF b (k + 1)) s = grpF b k (freF b k) s := by
  have e1 : grpF b (k + 1) (freF b (k + 1)) s = grpF b k (freF b (k + 1)) s := by unfold grpF; rw [ids_fresh hr hn, if_neg hs, List.append_nil]
  rw [e1]
  exact grp_same _ hn fun x hx => fre_keep hr x hx
/-- how many of the first k of a are like x -/
noncomputable def cntF (a : List Req) (k : Nat) (x : Req) : Nat := (freF a k x).length
theorem cnt_succ (a : List Req) (k : Nat) (x : Req) : cntF a (k + 1) x = cntF a k x + (if alk (rq a k) x then 1 else 0) := by
  unfold cntF
  rw [fre_succ, List.length_append]
  cases alk (rq a k) x <;> rfl
theorem cnt_congr (a : List Req) (k : Nat) {x y : Req} (h : AlikeP x y) : cntF a k x = cntF a k y := by unfold cntF; rw [fre_congr a k h]
/-- what is left of a class when i requests of a have come -/
noncomputable def restF (a b : List Req) (i : Nat) (x : Req) : List Nat := (freF b b.length x).drop (cntF a i x)
theorem rest_keep {a b : List Req} {i : Nat} {r : Req} (hr : rq a i = r) (x : Req) (h : ¬ AlikeP x r) : restF a b (i + 1) x = restF a b i x := by
  unfold restF
  rw [cnt_succ, hr, alk_false (fun e => h e.symm')]
  rfl
theorem rest_next {a b : List Req} {i : Nat} {r : Req} (hr : rq a i = r) (x : Req) (h : AlikeP x r) : restF a b (i + 1) x = (restF a b i x).drop 1 := by
  unfold restF
  rw [cnt_succ, hr, alk_true h.symm', List.drop_drop]
  rfl
theorem rest_zero (a b : List Req) (x : Req) : restF a b 0 x = freF b b.length x := rfl
/-- whom the request i of a meets -/
noncomputable def mateF (a b : List Req) (i : Nat) : Option Nat := (restF a b i (rq a i)).head?
noncomputable def pairsF (a b : List Req) (k : Nat) : List (Nat × Nat) := (List.range k).filterMap fun i => (mateF a b i).map fun j => (i, j)
theorem pairs_succ (a b : List Req) (k : Nat) : pairsF a b (k + 1) = pairsF a b k ++ (match mateF a b k with | some j => [(k, j)] | none => []) := by
  unfold pairsF
  rw [List.range_succ, List.filterMap_append]
  congr 1
  cases h : mateF a b k <;> simp [h]
theorem pairs_len (a b : List Req) (k : Nat) : (pairsF a b k).length ≤ k := by
  have := List.length_filterMap_le (fun i => (mateF a b i).map fun j => (i, j)) (List.range k)
  rw [List.length_range] at this
  exact this
theorem mate_none {a b : List Req} {i : Nat} {r : Req} (hr : rq a i = r) (hn : ∀ j, j < b.length → ¬ AlikeP (rq b j) r) : mateF a b i = none := by
  unfold mateF restF
  rw [hr, fre_none hn]
  simp
theorem mate_of {a b : List Req} {i : Nat} {r x : Req} (hr : rq a i = r) (h : AlikeP x r) : mateF a b i = (restF a b i x).head? := by
  unfold mateF restF
  rw [hr, fre_congr b _ h, cnt_congr a i h]
/-- the requests of a that meet nobody -/
noncomputable def onlyF (a b : List Req) (k : Nat) : List Req := (List.range k).filterMap fun i => match mateF a b i with | some _ => none | none => some (rq a i)
theorem only_succ (a b : List Req) (k : Nat) : onlyF a b (k + 1) = onlyF a b k ++ (match mateF a b k with | some _ => [] | none => [rq a k]) := by
  unfold onlyF
  rw [List.range_succ, List.filterMap_append]
  congr 1
  cases h : mateF a b k <;> simp [h]
theorem only_len (a b : List Req) (k : Nat) : (onlyF a b k).length ≤ k := by
  have := List.length_filterMap_le (fun i => match mateF a b i with | some _ => none | none => some (rq a i)) (List.range k)
  rw [List.length_range] at this
  exact this
theorem pairs_split (a b : List Req) {i : Nat} : ∀ {n : Nat}, i ≤ n → ∃ t, pairsF a b n = pairsF a b i ++ t ∧ ∀ p ∈ t, i ≤ p.1 := by
  intro n
  induction n with
  | zero => intro h; have : i = 0 := by omega
            subst this; exact ⟨[], by simp, fun p hp => by simp at hp⟩
  | succ n ih =>
    intro h
    by_cases e : i = n + 1
    · subst e; exact ⟨[], by simp, fun p hp => by simp at hp⟩
    · obtain ⟨t, h1, h2⟩ := ih (by omega)
      rw [pairs_succ, h1, List.append_assoc]
      refine ⟨_, rfl, fun p hp => ?_⟩
      rcases List.mem_append.1 hp with hp | hp
      · exact h2 p hp
      · cases hm : mateF a b n with
        | none => rw [hm] at hp; simp at hp
        | some j => rw [hm] at hp; simp at hp; rw [hp]; show i ≤ n; omega
/-- the pair at the place that the requests before i have filled -/
theorem pairs_at (a b : List Req) {i n : Nat} (h : i < n) : (match (pairsF a b n)[(pairsF a b i).length]? with | some p => decide (p.1 = i) | none => false) = (mateF a b i).isSome := by
  obtain ⟨t, h1, h2⟩ := pairs_split a b (i := i + 1) (n := n) h
  rw [pairs_succ] at h1
  cases hm : mateF a b i with
  | some j =>
    rw [hm] at h1
    rw [h1, List.append_assoc, List.getElem?_append_right (Nat.le_refl _), Nat.sub_self]
    simp
  | none =>
    rw [hm] at h1
    simp only [List.append_nil] at h1
    rw [h1, List.getElem?_append_right (Nat.le_refl _), Nat.sub_self]
    cases ht : t with
    | nil => rfl
    | cons p u =>
      have := h2 p (by rw [ht]; exact List.mem_cons_self)
      simp
      omega
end Go.Proofs.YtnbhpicmflagcaaDoor
namespace Go.Proofs.YtnbhpicmflagcaaDoor
open Go.RowKit
open Go.Lib (hid)
/-- how a class's free indices lie in memory -/
structure GoodQ (Q : Foot → World → List Nat → Value → Prop) : Prop where
  sl : ∀ {S w l v}, Q S w l v → SlR 1 NatR S w l v
  move : ∀ {S T w w' l v}, Q S w l v → (∀ k, k < w.heap.size → S k → T k ∧ w'.heap[k]? = w.heap[k]?) → Q T w' l v
def FreO : Foot → World → List Nat → Value → Prop := OwnR 3 1 NatR
def FreS : Foot → World → List Nat → Value → Prop := SlR 1 NatR
theorem goodO : GoodQ FreO := ⟨fun h => OwnR.sl goodNat h, fun h hm => OwnR.move goodNat h hm⟩
theorem goodS : GoodQ FreS := ⟨fun h => h, fun h hm => SlR.move goodNat h hm⟩
/-- a class in memory; ti: whose free row a block is -/
def GclR (Q : Foot → World → List Nat → Value → Prop) (ti : Nat → Nat) (B : Nat) : Rel GCl := fun S w c cs => ∃ ca v, cs = ca ++ [v] ∧ ReqR (fun k => S k ∧ k < B) w c.rq ca ∧ Q (fun k => S k ∧ B ≤ k ∧ ti k = c.id) w c.free v
section
variable {Q : Foot → World → List Nat → Value → Prop} {ti ti' : Nat → Nat} {B : Nat} {S T : Foot} {w w' : World} {c : GCl} {cs : List Value}
theorem GclR.move (hQ : GoodQ Q) (h : GclR Q ti B S w c cs) (hm : ∀ k, k < w.heap.size → S k → T k ∧ ti' k = ti k ∧ w'.heap[k]? = w.heap[k]?) : GclR Q ti' B T w' c cs := by
  obtain ⟨ca, v, rfl, h1, h2⟩ := h
  exact ⟨ca, v, rfl, goodReq.move h1 (fun k hk hs => ⟨⟨(hm k hk hs.1).1, hs.2⟩, (hm k hk hs.1).2.2⟩), hQ.move h2 fun k hk hs => ⟨⟨(hm k hk hs.1).1, hs.2.1, (hm k hk hs.1).2.1.trans hs.2.2⟩, (hm k hk hs.1).2.2⟩⟩
theorem goodGcl (hQ : GoodQ Q) (ti : Nat → Nat) (B : Nat) : Good 9 (GclR Q ti B) := by
  refine ⟨fun h => by obtain ⟨ca, v, rfl, h1, _⟩ := h; simp [goodReq.len h1], fun h u hu => ?_, fun h hm => h.move hQ fun k hk hs => ⟨(hm k hk hs).1, rfl, (hm k hk hs).2⟩⟩
  obtain ⟨ca, v, rfl, h1, h2⟩ := h
  rcases List.mem_append.1 hu with hu | hu
  · exact goodReq.one h1 u hu
  · obtain ⟨a, k, rfl, _⟩ := (hQ.sl h2).slice
    rw [List.mem_singleton.1 hu]; rfl
theorem GclR.cls (hQ : GoodQ Q) (h : GclR Q ti B S w c cs) : ClsR S w ⟨c.rq, c.free⟩ cs := by
  obtain ⟨ca, v, rfl, h1, h2⟩ := h
  obtain ⟨a, k, rfl, _⟩ := (hQ.sl h2).slice
  exact ⟨ca, a, k, rfl, goodReq.mono h1 (fun _ _ h => h.1), (hQ.sl h2).mono goodNat fun _ _ h => h.1⟩
end
theorem SlR.map {α β : Type} {sz : Nat} {R : Rel α} {R' : Rel β} {S : Foot} {w : World} {l : List α} {v : Value} {g : α → β} (h : SlR sz R S w l v) (hg : ∀ x cs, R S w x cs → R' S w (g x) cs) : SlR sz R' S w (l.map g) v := by
  obtain ⟨a, cap, b, off, cs, h1, h2, h3, h4, h5⟩ := h
  refine ⟨a, cap, b, off, cs, by rw [List.length_map]; exact h1, by rw [List.length_map]; exact h2, fun h => h3 (by rw [List.length_map] at h; exact h), fun i hi => h4 i (by rw [List.length_map] at hi; exact hi), fun i x hx => ?_⟩
  rw [List.getElem?_map] at hx
  rcases hy : l[i]? with _ | y
  · rw [hy] at hx; simp at hx
  · rw [hy] at hx
    simp only [Option.map_some, Option.some.injEq] at hx
    rw [← hx]
    exact hg y _ (h5 i y hy)
/-- one cell of an element is stored; meanwhile what the other elements do not own may have changed -/
theorem OwnR.store {α : Type} {E : TypeId} {sz : Nat} {R R' : Rel α} {S T : Foot} {w w' : World} {l : List α} {g n cap i j : Nat} {x y : α} {u : Value} (hsz : ∀ {S w x cs}, R S w x cs → cs.length = sz)
    (h : OwnR E sz R S w l (.slice (some ⟨g, 0, none⟩) n cap)) (hi : l[i]? = some x) (hj : j < sz) (hg : w'.heap[g]? = w.heap[g]?) (hT : T g)
    (hx : ∀ cs, R (fun k => S k ∧ k ≠ g) w x cs → R' (fun k => T k ∧ k ≠ g) (w'.setCell ⟨g, i * sz + j, none⟩ u) y (cs.set j u))
    (ho : ∀ k z cs, k ≠ i → l[k]? = some z → R (fun k => S k ∧ k ≠ g) w z cs → R' (fun k => T k ∧ k ≠ g) (w'.setCell ⟨g, i * sz + j, none⟩ u) z cs) :
    OwnR E sz R' T (w'.setCell ⟨g, i * sz + j, none⟩ u) (l.set i y) (.slice (some ⟨g, 0, none⟩) n cap) := by
  obtain ⟨xs, h1, h2, h3⟩ := h
  obtain ⟨a, c, e, _, _⟩ := owns_form h1
  simp only [Value.slice.injEq] at e
  obtain ⟨-, rfl, -⟩ := e
  have hil := (List.getElem?_eq_some_iff.1 hi).1
  have hle : i * sz + sz ≤ l.length * sz := by rw [← Nat.succ_mul]; exact Nat.mul_le_mul_right _ hil
  have hown : ∀ {k : Nat}, (Value.slice (some ⟨g, 0, none⟩) l.length cap).ownBlock = some k → g = k := fun h => by injection h
  have h1' : w'.ownsRow 0 E sz (.slice (some ⟨g, 0, none⟩) l.length cap) l.length xs := owns_move h1 (fun k hk => by rw [← hown hk]; exact hg) (fun _ _ => Nat.zero_le _)
  have hconv : ∀ {U : Foot} {V : World} {z : α} {cs : List Value}, R U V z cs → U = (fun k => S k ∧ (Value.slice (some ⟨g, 0, none⟩) l.length cap).ownBlock ≠ some k) → R (fun k => S k ∧ k ≠ g) V z cs := by
    intro U V z cs hz e
    subst e
    have : (fun k => S k ∧ (Value.slice (some ⟨g, 0, none⟩) l.length cap).ownBlock ≠ some k) = (fun k => S k ∧ k ≠ g) := by
      funext k
      have : ((Value.slice (some ⟨g, 0, none⟩) l.length cap).ownBlock ≠ some k) = (k ≠ g) := propext ⟨fun h e => h (by rw [e]; rfl), fun h e => h (by injection e with e; exact e.symm)⟩
      rw [this]
    rw [this] at hz
    exact hz
  have hback : (fun k => T k ∧ k ≠ g) = (fun k => T k ∧ (Value.slice (some ⟨g, 0, none⟩) l.length cap).ownBlock ≠ some k) := by
    funext k
    have : ((Value.slice (some ⟨g, 0, none⟩) l.length cap).ownBlock ≠ some k) = (k ≠ g) := propext ⟨fun h e => h (by rw [e]; rfl), fun h e => h (by injection e with e; exact e.symm)⟩
    rw [this]
  refine ⟨xs.set (i * sz + j) u, by rw [List.length_set]; exact (h1'.stored (i * sz + j) u).1, fun k hk => by rw [← hown hk]; exact hT, fun k z hz => ?_⟩
  have hxl := h1.1
  by_cases e : k = i
  · subst e
    rw [List.getElem?_set_self hil] at hz
    injection hz with hz
    subst hz
    obtain ⟨ds, h4, h5⟩ := h3 k x hi
    have hdl := hsz h5
    refine ⟨ds.set j u, fun q v hv => ?_, ?_⟩
    · by_cases eq : j = q
      · subst eq
        rw [List.getElem?_set_self (by omega)] at hv
        rw [List.getElem?_set_self (by omega)]
        exact hv
      · rw [List.getElem?_set_ne eq] at hv
        rw [List.getElem?_set_ne (by omega)]
        exact h4 q v hv
    · rw [← hback]; exact hx ds (hconv h5 rfl)
  · rw [List.getElem?_set_ne (fun e2 => e e2.symm)] at hz
    obtain ⟨ds, h4, h5⟩ := h3 k z hz
    refine ⟨ds, fun q v hv => ?_, ?_⟩
    · have hq : q < sz := by have := (List.getElem?_eq_some_iff.1 hv).1; rw [hsz h5] at this; exact this
      have hkl := (List.getElem?_eq_some_iff.1 hz).1
      rw [List.getElem?_set_ne ?_]
      · exact h4 q v hv
      · rcases Nat.lt_or_gt_of_ne e with h | h
        · have : k * sz + sz ≤ i * sz := by rw [← Nat.succ_mul]; exact Nat.mul_le_mul_right _ h
          omega
        · have : i * sz + sz ≤ k * sz := by rw [← Nat.succ_mul]; exact Nat.mul_le_mul_right _ h
          omega
    · rw [← hback]; exact ho k z ds e hz (hconv h5 rfl)
/-- whose a block is: the key, the class -/
structure Tags where
  tk : Nat → Option (List UInt8)
  ti : Nat → Nat
/-- new blocks (from n on) belong to s and i -/
def Tags.new (t : Tags) (n : Nat) (s : List UInt8) (i : Nat) : Tags := ⟨fun k => if k < n then t.tk k else some s, fun k => if k < n then t.ti k else i⟩
/-- the memory of one key's classes -/
def FootG (t : Tags) (B mb : Nat) (s : List UInt8) : Foot := fun k => k < B ∨ (B ≤ k ∧ k ≠ mb ∧ t.tk k = some s)
def KeyR (Q : Foot → World → List Nat → Value → Prop) (t : Tags) (B mb : Nat) (s : List UInt8) (w : World) (l : List GCl) (v : Value) : Prop := OwnR 73 9 (GclR Q t.ti B) (FootG t B mb s) w l v ∧ ∀ k, v.ownBlock = some k → B ≤ k
/-- the map: at each key its classes -/
def GM (Q : Foot → World → List Nat → Value → Prop) (t : Tags) (B mb N : Nat) (G : List UInt8 → List GCl) (w : World) : Prop :=
  ∃ f, MapV Tryd.prog 9 mb N f w ∧ B ≤ mb ∧ ∀ s, KeyR Q t B mb s w (G s) ((f (.string s)).getD (.slice none 0 0))
section
variable {Q : Foot → World → List Nat → Value → Prop} {t t' : Tags} {B mb N : Nat} {G G' : List UInt8 → List GCl} {w w' : World} {s : List UInt8} {l : List GCl} {v : Value}
theorem KeyR.move (hQ : GoodQ Q) (h : KeyR Q t B mb s w l v) (hm : ∀ k, k < w.heap.size → FootG t B mb s k → FootG t' B mb s k ∧ t'.ti k = t.ti k ∧ w'.heap[k]? = w.heap[k]?) : KeyR Q t' B mb s w' l v := by
  obtain ⟨⟨xs, h1, h2, h3⟩, hB⟩ := h
  refine ⟨⟨xs, owns_move h1 (fun k hk => (hm k (h1.lt k hk).2 (h2 k hk)).2.2) (fun _ _ => Nat.zero_le _), fun k hk => (hm k (h1.lt k hk).2 (h2 k hk)).1, fun i x hx => ?_⟩, hB⟩
  obtain ⟨cs, h4, h5⟩ := h3 i x hx
  exact ⟨cs, h4, h5.move hQ fun k hk hs => ⟨⟨(hm k hk hs.1).1, hs.2⟩, (hm k hk hs.1).2⟩⟩
theorem FootG.new {k : Nat} (h : FootG t B mb s k) {n : Nat} (hk : k < n) (s' : List UInt8) (i : Nat) : FootG (t.new n s' i) B mb s k := by
  rcases h with h | ⟨h0, h1, h2⟩
  · exact Or.inl h
  · exact Or.inr ⟨h0, h1, by show (if k < n then _ else _) = some s; rw [if_pos hk]; exact h2⟩
theorem Tags.new_ti {k n : Nat} (hk : k < n) (s' : List UInt8) (i : Nat) : (t.new n s' i).ti k = t.ti k := by show (if k < n then _ else _) = _; rw [if_pos hk]
theorem KeyR.below (hQ : GoodQ Q) (h : KeyR Q t B mb s w l v) (hb : Below w.heap.size w w') : KeyR Q t B mb s w' l v := h.move hQ fun k hk hs => ⟨hs, rfl, hb.block k hk⟩
theorem GM.below (hQ : GoodQ Q) (h : GM Q t B mb N G w) (hb : Below w.heap.size w w') : GM Q t B mb N G w' := by
  obtain ⟨f, h1, h2, h3⟩ := h
  exact ⟨f, h1.below hb h1.lt, h2, fun s => (h3 s).below hQ hb⟩
theorem GM.congr (h : GM Q t B mb N G w) (hG : ∀ s, G' s = G s) : GM Q t B mb N G' w := by
  obtain ⟨f, h1, h2, h3⟩ := h
  exact ⟨f, h1, h2, fun s => by rw [hG s]; exact h3 s⟩
theorem GM.move (hQ : GoodQ Q) (h : GM Q t B mb N G w) (hmb : w'.heap[mb]? = w.heap[mb]?) (hm : ∀ s k, k < w.heap.size → FootG t B mb s k → FootG t' B mb s k ∧ t'.ti k = t.ti k ∧ w'.heap[k]? = w.heap[k]?) : GM Q t' B mb N G w' := by
  obtain ⟨f, h1, h2, h3⟩ := h
  exact ⟨f, h1.same hmb, h2, fun s => (h3 s).move hQ (hm s)⟩
/-- the rows of free indices are no longer owned -/
theorem GM.loose (h : GM FreO t B mb N G w) : GM FreS t B mb N G w := by
  obtain ⟨f, h1, h2, h3⟩ := h
  refine ⟨f, h1, h2, fun s => ?_⟩
  obtain ⟨⟨xs, h4, h5, h6⟩, hB⟩ := h3 s
  refine ⟨⟨xs, h4, h5, fun i x hx => ?_⟩, hB⟩
  obtain ⟨cs, h7, ca, u, rfl, h8, h9⟩ := h6 i x hx
  exact ⟨_, h7, ca, u, rfl, h8, OwnR.sl goodNat h9⟩
theorem GM.start (w : World) : GM FreO ⟨fun _ => none, fun _ => 0⟩ w.heap.size w.heap.size 0 (fun _ => []) (w.alloc (.map #[] 0)) :=
  ⟨fun _ => none, MapV.made w, Nat.le_refl _, fun s => ⟨OwnR.nil _ _ _ _ _, fun k h => by simp [Value.ownBlock] at h⟩⟩
theorem KeyR.sl (hQ : GoodQ Q) (h : KeyR Q t B mb s w l v) : SlR 9 ClsR (FootG t B mb s) w (l.map fun c => ⟨c.rq, c.free⟩) v := SlR.map (OwnR.sl (goodGcl hQ _ _) h.1) fun _ _ hx => hx.cls hQ
/-- one class of the key s gets another list of free indices; meanwhile its own row may have changed (w1) -/
theorem GM.step (hQ : GoodQ Q) {g n cap i : Nat} {c : GCl} {fr' : List Nat} {u : Value} {w1 : World} {f : Lit → Option Value} (hf : MapV Tryd.prog 9 mb N f w) (hmb : B ≤ mb) (hBw : B ≤ w.heap.size)
    (h : ∀ s, KeyR Q t B mb s w (G s) ((f (.string s)).getD (.slice none 0 0))) (hv : (f (.string s)).getD (.slice none 0 0) = .slice (some ⟨g, 0, none⟩) n cap) (hc : (G s)[i]? = some c)
    (hid1 : ∀ k z, k ≠ i → (G s)[k]? = some z → z.id ≠ c.id)
    (hw : ∀ k, k < w.heap.size → (k < B ∨ k = mb ∨ k = g ∨ t.tk k ≠ some s ∨ t.ti k ≠ c.id) → w1.heap[k]? = w.heap[k]?)
    (hu : Q (fun k => B ≤ k ∧ k ≠ g ∧ k ≠ mb ∧ (t.new w.heap.size s c.id).tk k = some s ∧ (t.new w.heap.size s c.id).ti k = c.id) (w1.setCell ⟨g, i * 9 + 8, none⟩ u) fr' u)
    (hG : G' s = (G s).set i ⟨c.id, c.rq, fr'⟩) (hG2 : ∀ s', s' ≠ s → G' s' = G s') : GM Q (t.new w.heap.size s c.id) B mb N G' (w1.setCell ⟨g, i * 9 + 8, none⟩ u) := by
  have hks := h s
  rw [hv] at hks
  have hgS : FootG t B mb s g ∧ g < w.heap.size := by
    obtain ⟨⟨xs, h1, h2, _⟩, _⟩ := hks
    exact ⟨h2 g rfl, (h1.lt g rfl).2⟩
  have hBg : B ≤ g := hks.2 g rfl
  obtain ⟨hgm, hgt⟩ : g ≠ mb ∧ t.tk g = some s := by
    rcases hgS.1 with h1 | ⟨_, h1, h2⟩
    · omega
    · exact ⟨h1, h2⟩
  have hset : ∀ k, k ≠ g → (w1.setCell ⟨g, i * 9 + 8, none⟩ u).heap[k]? = w1.heap[k]? := fun k hk => heap_setCell_other _ hk
  refine ⟨f, hf.same ((hset mb (fun e => hgm e.symm)).trans (hw mb hf.lt (Or.inr (Or.inl rfl)))), hmb, fun s' => ?_⟩
  by_cases hs : s' = s
  · subst hs
    rw [hv, hG]
    refine ⟨OwnR.store (R := GclR Q t.ti B) (fun h => (goodGcl hQ t.ti B).len h) hks.1 hc (by decide) (hw g hgS.2 (Or.inr (Or.inr (Or.inl rfl)))) (hgS.1.new hgS.2 _ _) (fun cs hx => ?_) (fun k z cs hk hz hx => ?_), hks.2⟩
    · obtain ⟨ca, v, rfl, h1, h2⟩ := hx
      have hl := goodReq.len h1
      refine ⟨ca, u, by rw [List.set_append_right _ _ (by omega), hl]; rfl, goodReq.move h1 fun k hk hs => ⟨⟨⟨hs.1.1.new hk _ _, hs.1.2⟩, hs.2⟩, (hset k hs.1.2).trans (hw k hk (Or.inl hs.2))⟩, hQ.move hu fun k hk hs => ⟨⟨⟨Or.inr ⟨hs.1, hs.2.2.1, hs.2.2.2.1⟩, hs.2.1⟩, hs.1, hs.2.2.2.2⟩, rfl⟩⟩
    · obtain ⟨ca, v, rfl, h1, h2⟩ := hx
      refine ⟨ca, v, rfl, goodReq.move h1 fun k hk hs => ⟨⟨⟨hs.1.1.new hk _ _, hs.1.2⟩, hs.2⟩, (hset k hs.1.2).trans (hw k hk (Or.inl hs.2))⟩, hQ.move h2 fun q hq hs => ⟨⟨⟨hs.1.1.new hq _ _, hs.1.2⟩, hs.2.1, (Tags.new_ti hq _ _).trans hs.2.2⟩, (hset q hs.1.2).trans (hw q hq (Or.inr (Or.inr (Or.inr (Or.inr (by rw [hs.2.2]; exact hid1 k z hk hz))))))⟩⟩
  · rw [hG2 s' hs]
    refine (h s').move hQ fun k hk hf => ⟨hf.new hk _ _, Tags.new_ti hk _ _, ?_⟩
    rcases hf with h1 | ⟨h0, h1, h2⟩
    · exact (hset k (by omega)).trans (hw k hk (Or.inl h1))
    · have hts : t.tk k ≠ some s := by rw [h2]; intro e; injection e with e; exact hs e
      exact (hset k (fun e => hts (by rw [e]; exact hgt))).trans (hw k hk (Or.inr (Or.inr (Or.inr (Or.inl hts)))))
/-- a class more at the key s -/
theorem GM.add {N' : Nat} {w2 w3 w4 : World} {f f' : Lit → Option Value} {c : GCl} {cs : List Value} {v v' : Value} (hf : MapV Tryd.prog 9 mb N f w) (hmb : B ≤ mb) (hBw : B ≤ w.heap.size)
    (h : ∀ s, KeyR FreO t B mb s w (G s) ((f (.string s)).getD (.slice none 0 0))) (hv : (f (.string s)).getD (.slice none 0 0) = v)
    (hb : Below w.heap.size w w2) (hx : GclR FreO (t.new w.heap.size s c.id).ti B (fun k => FootG (t.new w.heap.size s c.id) B mb s k ∧ v.ownBlock ≠ some k ∧ k < w2.heap.size) w2 c cs)
    (hown : ∀ xs, w2.ownsRow 0 73 9 v (G s).length xs → w3.ownsRow 0 73 9 v' ((G s).length + 1) (xs ++ cs)) (hg : w2.grownBy w3 v.ownBlock) (hvv : v'.ownBlock = v.ownBlock ∨ v'.ownBlock = some w2.heap.size)
    (hf4 : MapV Tryd.prog 9 mb N' f' w4) (hg4 : w3.grownBy w4 (some mb)) (hf' : ∀ x, f' (.string x) = if x = s then some v' else f (.string x))
    (hG : G' s = G s ++ [c]) (hG2 : ∀ s', s' ≠ s → G' s' = G s') : GM FreO (t.new w.heap.size s c.id) B mb N' G' w4 := by
  have hks := h s
  rw [hv] at hks
  have hmbl := hf.lt
  have hsz := hb.size
  refine ⟨f', hf4, hmb, fun s' => ?_⟩
  by_cases hs : s' = s
  · subst hs
    rw [hf' s', if_pos rfl, hG]
    have h2 : KeyR FreO (t.new w.heap.size s' c.id) B mb s' w2 (G s') v := hks.move goodO fun k hk hs => ⟨hs.new hk _ _, Tags.new_ti hk _ _, hb.block k hk⟩
    have h3 : KeyR FreO (t.new w.heap.size s' c.id) B mb s' w3 (G s' ++ [c]) v' := by
      refine ⟨OwnR.push (goodGcl goodO _ _) h2.1 hown hg hvv (fun _ h => h) (Or.inr ⟨by omega, by omega, ?_⟩) hx, fun k hk => ?_⟩
      · show (if w2.heap.size < w.heap.size then _ else _) = some s'
        rw [if_neg (by omega)]
      · rcases hvv with e | e
        · exact h2.2 k (e ▸ hk)
        · rw [e] at hk; injection hk with hk; omega
    refine h3.move goodO fun k hk hs => ⟨hs, rfl, hg4.block k hk ?_⟩
    rcases hs with h1 | ⟨_, h1, _⟩
    · intro e; injection e with e; omega
    · intro e; injection e with e; exact h1 e
  · rw [hf' s', if_neg hs, hG2 s' hs]
    refine (h s').move goodO fun k hk hk2 => ⟨hk2.new hk _ _, Tags.new_ti hk _ _, ?_⟩
    have h1 : w4.heap[k]? = w3.heap[k]? := hg4.block k (Nat.lt_of_lt_of_le hk (Nat.le_trans hsz hg.size)) (by
      rcases hk2 with h1 | ⟨_, h1, _⟩
      · intro e; injection e with e; omega
      · intro e; injection e with e; exact h1 e)
    have h2 : w3.heap[k]? = w2.heap[k]? := hg.block k (Nat.lt_of_lt_of_le hk hsz) (by
      intro e
      have hB2 := hks.2 k e.symm
      obtain ⟨⟨xs, _, h6, _⟩, _⟩ := hks
      rcases h6 k e.symm with h7 | ⟨_, _, h7⟩
      · omega
      · rcases hk2 with h8 | ⟨_, _, h8⟩
        · omega
        · exact hs (by have := h8.symm.trans h7; injection this))
    exact h1.trans (h2.trans (hb.block k hk))
end
end Go.Proofs.YtnbhpicmflagcaaDoor
