/- WRqK: OnceK, WRqP, WRqF, WRqA, in one text. -/
import Derived.Test.YthagdeadmoidnaaDoorNetS
import Derived.Test.YthagdeadmoidnaaDoorWorld1
import Derived.Test.YthagdeadmoidnaaDoorMatO
import Derived.Test.YthagdeadmoidnaaDoorWLawA
import Derived.Test.YthagdeadmoidnaaDoorMatK
import Derived.Deep.RegionHeld3
set_option linter.unusedVariables false
namespace Go.Proofs.YthagdeadmoidnaaDoor
theorem findO_none {l : List Out} {key : List UInt8} (h : findO l key < 0) : ∀ o ∈ l, o.key ≠ key := by
  rcases idxF_bounds (keyP key) l with hx | ⟨k, o, hx, hkl, hok, hp, hpn⟩
  · intro o ho e
    have hm : l.findIdx? (keyP key) = none := by
      rcases hf : l.findIdx? (keyP key) with _ | k
      · rfl
      · have : idxF (keyP key) l = (k : Nat) := by unfold idxF; rw [hf]
        rw [this] at hx; omega
    rw [List.findIdx?_eq_none_iff] at hm
    have := hm o ho
    unfold keyP at this
    simp [e] at this
  · have : findO l key = (k : Nat) := hx
    omega
theorem findO_some {l : List Out} {key : List UInt8} (h : ¬ findO l key < 0) : ∃ k o, findO l key = (k : Nat) ∧ k < l.length ∧ l[k]? = some o ∧ o.key = key := by
  rcases idxF_bounds (keyP key) l with hx | ⟨k, o, hx, hkl, hok, hp, hpn⟩
  · have : findO l key = -1 := hx
    omega
  · exact ⟨k, o, hx, hkl, hok, by unfold keyP at hp; simpa using hp⟩
end Go.Proofs.YthagdeadmoidnaaDoor
set_option linter.unusedSimpArgs false
namespace Go.Proofs.YthagdeadmoidnaaDoor
open Go.RowKit
open Go.Lib (hid)
def sDo : List UInt8 := [100, 111]
def sUndo : List UInt8 := [117, 110, 100, 111]
noncomputable def doC (r : Req) : Cmd := ⟨sDo ++ keyF r, 1, [], keyF r, r.name, r.args⟩
noncomputable def unC (r : Req) : Cmd := ⟨sUndo ++ keyF r, 2, keyF r, [], [], []⟩
/-- distinct keys -/
def KeysNd (l : List Req) : Prop := ∀ i k, k < i → i < l.length → keyF (rq l k) ≠ keyF (rq l i)
theorem KeysNd.ne {l : List Req} (h : KeysNd l) {i k : Nat} (hi : i < l.length) (hk : k < l.length) (e : i ≠ k) : keyF (rq l k) ≠ keyF (rq l i) := by
  rcases Nat.lt_or_gt_of_ne e with h1 | h1
  · exact fun e2 => h k i h1 hk e2.symm
  · exact h i k h1 hi
theorem keyF_ne (r : Req) : keyF r ≠ [] := fun h => by
  have := keyF_len r
  rw [h] at this
  cases this
/-- the world behind the first i commands -/
noncomputable def doneW (l : List Req) (i : Nat) : WS := ⟨(l.take i).map doC, (l.take i).map fun r => outOf (doC r)⟩
theorem take_rq {l : List Req} {i : Nat} (hi : i < l.length) : l.take (i + 1) = l.take i ++ [rq l i] := by
  rw [List.take_add_one, at_rq hi]; rfl
theorem mem_take_rq {l : List Req} {i : Nat} {r : Req} (hi : i ≤ l.length) (h : r ∈ l.take i) : ∃ k, k < i ∧ r = rq l k := by
  obtain ⟨k, hk, rfl⟩ := List.getElem_of_mem h
  rw [List.length_take] at hk
  refine ⟨k, by omega, ?_⟩
  rw [List.getElem_take]
  have := at_rq (b := l) (j := k) (by omega)
  rw [List.getElem?_eq_getElem (by omega)] at this
  injection this
theorem rq_mem_take {l : List Req} {i k : Nat} (hi : i ≤ l.length) (h : k < i) : rq l k ∈ l.take i := by
  refine List.mem_of_getElem? (i := k) ?_
  rw [List.getElem?_take_of_lt h]
  exact at_rq (by omega)
theorem append_inj_len {a b c d : List UInt8} (h : a ++ b = c ++ d) (hl : a.length = c.length) : a = c ∧ b = d := List.append_inj h hl
theorem done_known {l : List Req} (hn : KeysNd l) {i j : Nat} (hi : i ≤ l.length) (hj : j < l.length) : isKnown (doneW l i).log (doC (rq l j)).key = true ↔ j < i := by
  rw [isKnown_iff]
  constructor
  · rintro ⟨c, hc, he⟩
    obtain ⟨r, hr, rfl⟩ := List.mem_map.1 hc
    obtain ⟨k, hk, rfl⟩ := mem_take_rq hi hr
    have := (append_inj_len he rfl).2
    refine Classical.byContradiction fun hji => ?_
    exact hn.ne (i := j) (k := k) hj (by omega) (by omega) this
  · intro h
    exact ⟨doC (rq l j), List.mem_map.2 ⟨_, rq_mem_take hi h, rfl⟩, rfl⟩
theorem done_find {l : List Req} (hn : KeysNd l) {i : Nat} (hi : i < l.length) : findO (doneW l i).force (keyF (rq l i)) < 0 := by
  refine Classical.byContradiction fun h => ?_
  obtain ⟨k, o, -, -, ho, hk⟩ := findO_some h
  obtain ⟨r, hr, rfl⟩ := List.mem_map.1 (List.mem_of_getElem? ho)
  obtain ⟨k, hk2, rfl⟩ := mem_take_rq (by omega) hr
  exact hn k.succ k (by omega) (by omega) |> fun _ => hn i k hk2 hi hk
theorem send_do {l : List Req} (hn : KeysNd l) {i : Nat} (hi : i < l.length) : sendF (doneW l i) (doC (rq l i)) 0 = (1, doneW l (i + 1)) := by
  have h1 : isKnown (doneW l i).log (doC (rq l i)).key = false := by
    cases hk : isKnown (doneW l i).log (doC (rq l i)).key with
    | false => rfl
    | true => have := (done_known hn (by omega) hi).1 hk; omega
  have h2 : stepF (doneW l i).force (doC (rq l i)) = (0, (doneW l i).force ++ [outOf (doC (rq l i))]) := by
    unfold stepF
    have hf := done_find hn hi
    rw [if_neg (show ¬ (doC (rq l i)).kind = 2 from fun h => by have h : (1 : Int) = 2 := h; omega), if_neg (show ¬ (doC (rq l i)).kind = 3 from fun h => by have h : (1 : Int) = 3 := h; omega), if_neg (show ¬ (doC (rq l i)).kind = 4 from fun h => by have h : (1 : Int) = 4 := h; omega), if_pos (show (doC (rq l i)).kind = 1 from rfl),
      if_neg (show ¬ (doC (rq l i)).new = [] from keyF_ne _), if_neg (show ¬ 0 ≤ findO (doneW l i).force (doC (rq l i)).new from fun h => by have : findO (doneW l i).force (keyF (rq l i)) < 0 := hf; have h9 : 0 ≤ findO (doneW l i).force (keyF (rq l i)) := h; omega)]
  have h3 : takeF (doneW l i) (doC (rq l i)) = (1, doneW l (i + 1)) := by
    unfold takeF
    rw [h1, h2]
    have hk : (doC (rq l i)).key ≠ [] := fun h => by cases h
    simp only [hk, if_false]
    unfold doneW
    rw [take_rq hi, List.map_append, List.map_append]
    rfl
  unfold sendF
  rw [if_neg (by decide), if_neg (by decide), if_neg (by decide), h3]
theorem send_do2 {l : List Req} (hn : KeysNd l) {i : Nat} (hi : i < l.length) : sendF (doneW l (i + 1)) (doC (rq l i)) 0 = (1, doneW l (i + 1)) := by
  have h1 : isKnown (doneW l (i + 1)).log (doC (rq l i)).key = true := (done_known hn (by omega) hi).2 (by omega)
  unfold sendF
  rw [if_neg (by decide), if_neg (by decide), if_neg (by decide)]
  unfold takeF
  rw [if_pos h1]
/-- behind i undos, from the s-th request on -/
structure UnInv (l : List Req) (s i : Nat) (x : WS) : Prop where
  len : x.force.length + i = l.length
  has : ∀ j, i ≤ j → j < l.length → ∃ o ∈ x.force, o.key = keyF (rq l ((j + s) % l.length))
  known : ∀ j, i ≤ j → j < l.length → isKnown x.log (sUndo ++ keyF (rq l ((j + s) % l.length))) = false
  log : x.log.length = l.length + i
theorem rot_ne {n s i j : Nat} (hi : i < n) (hj : j < n) (e : i ≠ j) : (i + s) % n ≠ (j + s) % n := by
  intro h
  rcases Nat.lt_or_gt_of_ne e with h1 | h1
  · have := Nat.sub_mod_eq_zero_of_mod_eq h.symm
    rw [show j + s - (i + s) = j - i by omega, Nat.mod_eq_of_lt (by omega)] at this
    omega
  · have := Nat.sub_mod_eq_zero_of_mod_eq h
    rw [show i + s - (j + s) = i - j by omega, Nat.mod_eq_of_lt (by omega)] at this
    omega
theorem un_start (l : List Req) (s : Nat) : UnInv l s 0 (doneW l l.length) := by
  unfold doneW
  refine ⟨by simp, fun j _ hj => ?_, fun j _ hj => ?_, by simp⟩
  · have hm := Nat.mod_lt (j + s) (show 0 < l.length by omega)
    refine ⟨outOf (doC (rq l ((j + s) % l.length))), List.mem_map.2 ⟨_, rq_mem_take (Nat.le_refl _) hm, rfl⟩, rfl⟩
  · cases hk : isKnown ((l.take l.length).map doC) (sUndo ++ keyF (rq l ((j + s) % l.length))) with
    | false => rfl
    | true =>
      obtain ⟨c, hc, he⟩ := isKnown_iff.1 hk
      obtain ⟨r, hr, rfl⟩ := List.mem_map.1 hc
      have : (sDo ++ keyF r)[0]? = (sUndo ++ keyF (rq l ((j + s) % l.length)))[0]? := by
        have he' : sDo ++ keyF r = sUndo ++ keyF (rq l ((j + s) % l.length)) := he
        rw [he']
      cases this
theorem send_un {l : List Req} (hn : KeysNd l) {s i : Nat} {x : WS} (h : UnInv l s i x) (hi : i < l.length) :
    (sendF x (unC (rq l ((i + s) % l.length))) 0).1 = 1 ∧ UnInv l s (i + 1) (sendF x (unC (rq l ((i + s) % l.length))) 0).2 := by
  have h0 : 0 < l.length := by omega
  have hmi := Nat.mod_lt (i + s) h0
  obtain ⟨r, hr⟩ : ∃ r, r = rq l ((i + s) % l.length) := ⟨_, rfl⟩
  rw [← hr]
  have h1 : isKnown x.log (unC r).key = false := by rw [hr]; exact h.known i (Nat.le_refl _) hi
  obtain ⟨o, ho, hok⟩ := h.has i (Nat.le_refl _) hi
  rw [← hr] at hok
  have hf : ¬ findO x.force (keyF r) < 0 := fun hc => findO_none hc o ho hok
  obtain ⟨k, o2, hk, hkl, ho2, hk2⟩ := findO_some hf
  have h2 : stepF x.force (unC r) = (0, x.force.eraseIdx k) := by
    unfold stepF
    have e : findO x.force (unC r).of = (k : Nat) := hk
    rw [if_pos (show (unC r).kind = 2 from rfl), e, if_neg (by omega), Int.toNat_natCast]
  have h3 : takeF x (unC r) = (1, ⟨x.log ++ [unC r], x.force.eraseIdx k⟩) := by
    unfold takeF
    rw [h1, h2]
    have hk : (unC r).key ≠ [] := fun h => by cases h
    simp only [hk, if_false]
    rfl
  have h4 : sendF x (unC r) 0 = (1, ⟨x.log ++ [unC r], x.force.eraseIdx k⟩) := by
    unfold sendF
    rw [if_neg (by decide), if_neg (by decide), if_neg (by decide), h3]
  rw [h4]
  have hlt : ∀ j, j < l.length → (j + s) % l.length < l.length := fun j _ => Nat.mod_lt _ h0
  have hne : ∀ j, i + 1 ≤ j → j < l.length → keyF (rq l ((j + s) % l.length)) ≠ keyF r := fun j h1 h2 => by
    rw [hr]
    exact hn.ne hmi (hlt j h2) (rot_ne hi h2 (by omega))
  refine ⟨rfl, ?_, fun j h5 h6 => ?_, fun j h5 h6 => ?_, ?_⟩
  · show (x.force.eraseIdx k).length + (i + 1) = l.length
    rw [List.length_eraseIdx_of_lt hkl]
    have := h.len; omega
  · obtain ⟨o3, ho3, hk3⟩ := h.has j (by omega) h6
    refine ⟨o3, ?_, hk3⟩
    obtain ⟨q, hq⟩ := List.getElem?_of_mem ho3
    refine List.mem_eraseIdx_iff_getElem?.2 ⟨q, fun e => ?_, hq⟩
    subst e
    rw [ho2] at hq
    injection hq with hq
    subst hq
    exact hne j h5 h6 (hk3.symm.trans hk2)
  · cases hkn : isKnown (x.log ++ [unC r]) (sUndo ++ keyF (rq l ((j + s) % l.length))) with
    | false => rfl
    | true =>
      obtain ⟨c, hc, he⟩ := isKnown_iff.1 hkn
      rcases List.mem_append.1 hc with hc | hc
      · have := h.known j (by omega) h6
        rw [isKnown_iff.2 ⟨c, hc, he⟩] at this
        cases this
      · rw [List.mem_singleton.1 hc] at he
        exact absurd (append_inj_len he rfl).2.symm (hne j h5 h6)
  · show (x.log ++ [unC r]).length = l.length + (i + 1)
    rw [List.length_append, h.log]
    rfl
theorem un_end {l : List Req} {s : Nat} {x : WS} (h : UnInv l s l.length x) : x.force = [] := List.eq_nil_of_length_eq_zero (by have := h.len; omega)
/-- Only of one side -/
theorem mate_nil (a : List Req) (i : Nat) : mateF a [] i = none := by
  unfold mateF restF freF
  simp
theorem only_nil_right (a : List Req) : ∀ k, k ≤ a.length → onlyF a [] k = a.take k
  | 0, _ => rfl
  | k + 1, hk => by rw [only_succ, only_nil_right a k (by omega), mate_nil, take_rq (by omega)]
end Go.Proofs.YthagdeadmoidnaaDoor
set_option linter.unusedSimpArgs false
namespace Go.Proofs.YthagdeadmoidnaaDoor
open Go.RowKit
open Go.Lib (hid)
def FlatP : Nat → List Val → Prop
  | 0, l => l.length = 0
  | d + 1, l => l.length ≤ 5 ∧ ∀ a ∈ l, a.s.length ≤ 100 ∧ a.t.length ≤ 100 ∧ FlatP d a.l
def FlatQ (d : Nat) (l : List Val) (w : World) (e : Ending) (w' : World) : Prop := ∃ r : Bool, e = .returned (.bool r) ∧ (r = true → FlatP d l) ∧ Below w.heap.size w w'
theorem FlatP.nil (d : Nat) {l : List Val} (h : l.length = 0) : FlatP d l := by
  cases d with
  | zero => exact h
  | succ d => exact ⟨by omega, fun a ha => by rw [List.eq_nil_of_length_eq_zero h] at ha; simp at ha⟩
def FlatK (d : Nat) (l : List Val) (k : Nat) : Prop := ∀ j a, j < k → l[j]? = some a → a.s.length ≤ 100 ∧ a.t.length ≤ 100 ∧ FlatP d a.l
theorem FlatK.step {d k : Nat} {l : List Val} {a : Val} (h : FlatK d l k) (ha : l[k]? = some a) (h1 : a.s.length ≤ 100) (h2 : a.t.length ≤ 100) (h3 : FlatP d a.l) : FlatK d l (k + 1) := fun j b hj hb => by
  by_cases e : j = k
  · subst e
    rw [ha] at hb
    injection hb with hb
    subst hb
    exact ⟨h1, h2, h3⟩
  · exact h j b (by omega) hb
theorem FlatK.all {d : Nat} {l : List Val} (h : FlatK (d - 1) l l.length) (hd : 1 ≤ d) (h5 : l.length ≤ 5) : FlatP d l := by
  obtain ⟨d, rfl⟩ : ∃ e, d = e + 1 := ⟨d - 1, by omega⟩
  exact ⟨h5, fun a ha => by
    obtain ⟨j, hj⟩ := List.getElem?_of_mem ha
    exact h j a (List.getElem?_eq_some_iff.1 hj).1 hj⟩
theorem vencF_le : ∀ f n, (vencF f n).length ≤ f
  | 0, n => by simp [vencF]
  | f + 1, n => by
    have := vencF_le f (n / 128)
    unfold vencF
    split
    · simp
    · simp only [List.length_cons]; omega
theorem venc_le (n : Nat) : (venc n).length ≤ 9 := vencF_le 9 n
theorem nenc_le (n : Int) : (nenc n).length ≤ 9 := by unfold nenc; split; simp; exact venc_le _
theorem tenc_le (s : List UInt8) : (tenc s).length ≤ 9 + s.length := by unfold tenc; rw [List.length_append]; have := venc_le s.length; omega
theorem headF_le (x : Val) : (headF x).length ≤ 6 * (10 + x.t.length + x.s.length) := by
  unfold headF
  simp only [List.length_append]
  have h1 := nenc_le x.kind
  have h2 := tenc_le x.t
  have h3 := ienc_bound x.n
  have h4 := ienc_bound x.m
  have h5 := tenc_le x.s
  have h6 := nenc_le x.l.length
  omega
def flatN : Nat → Nat
  | 0 => 1260
  | d + 1 => 1260 + 5 * flatN d
theorem flat_enc : ∀ (d : Nat) (x : Val), x.s.length ≤ 100 → x.t.length ≤ 100 → FlatP d x.l → (encF x).length ≤ flatN d
  | 0, x, h1, h2, h3 => by
    rw [encF_eq, List.eq_nil_of_length_eq_zero h3]
    have := headF_le x
    simp [flatN]
    omega
  | d + 1, x, h1, h2, h3 => by
    have hb : ∀ l : List Val, (∀ a ∈ l, a.s.length ≤ 100 ∧ a.t.length ≤ 100 ∧ FlatP d a.l) → ((l.map encF).flatten).length ≤ flatN d * l.length := by
      intro l hl
      induction l with
      | nil => simp
      | cons y l ih =>
        obtain ⟨k1, k2, k3⟩ := hl y List.mem_cons_self
        have h4 := flat_enc d y k1 k2 k3
        have h5 := ih fun a ha => hl a (List.mem_cons_of_mem _ ha)
        rw [List.map_cons, List.flatten_cons, List.length_append, List.length_cons, Nat.mul_add]
        omega
    have h4 := hb x.l h3.2
    have h5 := headF_le x
    have h6 : flatN d * x.l.length ≤ flatN d * 5 := Nat.mul_le_mul_left _ h3.1
    rw [encF_eq, List.length_append]
    simp only [flatN]
    omega
/-- a small request -/
def SmallR (r : Req) : Prop := r.path.length ≤ 100 ∧ r.name.length ≤ 100 ∧ FlatP 4 r.args
theorem small_key {r : Req} (h : SmallR r) : (keyS r).length ≤ 1048576 := by
  obtain ⟨h1, h2, h3, h4⟩ := h
  have hb : ∀ l : List Val, (∀ a ∈ l, a.s.length ≤ 100 ∧ a.t.length ≤ 100 ∧ FlatP 3 a.l) → ((l.map argF).flatten).length ≤ 196569 * l.length := by
    intro l hl
    induction l with
    | nil => simp
    | cons x l ih =>
      obtain ⟨k1, k2, k3⟩ := hl x List.mem_cons_self
      have h0 : (encF x).length ≤ 196560 := flat_enc 3 x k1 k2 k3
      have h4 : (argF x).length ≤ 9 + (bytesF x).length := tenc_le _
      have h5 : (bytesF x).length ≤ (encF x).length := by unfold bytesF; split; exact Nat.le_refl _; simp
      have h6 := ih fun a ha => hl a (List.mem_cons_of_mem _ ha)
      rw [List.map_cons, List.flatten_cons, List.length_append, List.length_cons]
      omega
  have h5 := hb r.args h4
  unfold keyS headK
  simp only [List.length_append]
  have a1 := tenc_le r.path
  have a2 := tenc_le r.name
  have a3 := ienc_bound r.ord
  have a4 := nenc_le r.args.length
  have h7 : 196569 * r.args.length ≤ 196569 * 5 := Nat.mul_le_mul_left _ h3
  omega
set_option maxHeartbeats 4000000 in
set_option maxRecDepth 100000 in
theorem flatP_of (l : List Val) (d : Nat) (S : Foot) (v : Value) (w : World) (hx : ValsR S w l v) (hl : l.length ≤ 1048576) (hd : d ≤ 100)
    (he : 1 ≤ d → ∀ a ∈ l, ∀ (va : Value) (W : World), ValsR S W a.l va → Calls Tryd.prog 6 #[va, iv ((d : Int) - 1)] W (FlatQ (d - 1) a.l W)) :
    Calls Tryd.prog 6 #[v, iv (d : Int)] w (FlatQ d l w) := by
  obtain ⟨ax, kx, rfl, -⟩ := hx.slice
  replace hx := hid hx
  replace he := hid he
  by_cases h5 : 5 < l.length
  · go_enter Tryd.func6, Tryd.ntmps6
    go_wp2
    go_ret
    exact ⟨false, rfl, (fun h => by cases h), Below.refl _ _⟩
  by_cases h0 : 0 < l.length
  · by_cases hd0 : d = 0
    · subst hd0
      go_enter Tryd.func6, Tryd.ntmps6
      go_wp2
      go_ret
      exact ⟨false, rfl, (fun h => by cases h), Below.refl _ _⟩
    · have hdz : ¬ (d : Int) = 0 := by omega
      have hdz2 : ((d : Int) == 0) = false := by simpa using hdz
      have h5i : ¬ (5 : Int) < (l.length : Int) := by omega
      have h0i : (0 : Int) < (l.length : Int) := by omega
      have hw : IntKind.i64.wrap ((d : Int) - 1) = (d : Int) - 1 := by rw [IntKind.wrap_i64]; omega
      go_enter Tryd.func6, Tryd.ntmps6
      go_wp2
      go_loopw [5] (fun i wr => ∃ k : Nat, i = .int .i64 k ∧ k ≤ l.length ∧ Hid (FlatK (d - 1) l k) ∧ Below w.heap.size w wr) (fun i _ => l.length - (intOf i).toNat)
      case atStart => exact ⟨0, rfl, Nat.zero_le _, hid (fun j a h => absurd h (by omega)), Below.refl _ _⟩
      case round =>
        obtain ⟨k, rfl, hk, hFK, hB⟩ := hrel
        by_cases hlt : k < l.length
        · obtain ⟨a, ha⟩ : ∃ a, l[k]? = some a := ⟨_, List.getElem?_eq_getElem hlt⟩
          obtain ⟨g, o, cs, hidx, hS, hg, hc, hR⟩ := (hx.out.below goodVal hB).at (P := Tryd.prog) (t := 26) (by kernel_rfl) (fun _ => by kernel_rfl) ha
          obtain ⟨a1, k1, rfl, hv⟩ := valR_open hR
          have hcall := hid (he.out (by omega) a (List.mem_of_getElem? ha) _ _ hv)
          have c1 := hc 1 _ rfl
          have c4 := hc 4 _ rfl
          have c5 := hc 5 _ rfl
          have ha0 := hid ha
          clear hc hR ha hv
          by_cases hs : 100 < a.s.length
          · have hsi : (100 : Int) < (a.s.length : Int) := by omega
            go_wp2
            go_ret
            exact ⟨false, rfl, (fun h => by cases h), hB⟩
          · have hsi : ¬ (100 : Int) < (a.s.length : Int) := by omega
            by_cases ht : 100 < a.t.length
            · have hti : (100 : Int) < (a.t.length : Int) := by omega
              go_wp2
              go_ret
              exact ⟨false, rfl, (fun h => by cases h), hB⟩
            · have hti : ¬ (100 : Int) < (a.t.length : Int) := by omega
              go_wp2_with fail
              refine hcall.out.mono ?_
              rintro e w2 ⟨r, rfl, hr2, hb2⟩
              have hB2 := hB.trans (hb2.mono hB.size)
              clear c1 c4 c5 hcall hidx
              cases r with
              | true =>
                have hFK2 : Hid (FlatK (d - 1) l (k + 1)) := hid (FlatK.step hFK.out ha0.out (by omega) (by omega) (hr2 rfl))
                clear hr2
                go_wp2
                exact ⟨⟨k + 1, by go_num, by omega, hFK2, hB2⟩, by simp [intOf]; omega⟩
              | false =>
                clear hr2
                go_wp2
                go_ret
                exact ⟨false, rfl, (fun h => by cases h), hB2⟩
        · have hkl : k = l.length := by omega
          subst hkl
          have hfin := hid (FlatK.all hFK.out (by omega) (by omega))
          go_wp2
          go_ret
          exact ⟨true, rfl, (fun _ => hfin.out), hB⟩
  · have h0z : l.length = 0 := by omega
    go_enter Tryd.func6, Tryd.ntmps6
    go_wp2
    go_loopw [5] (fun i wr => i = .int .i64 0 ∧ Below w.heap.size w wr) (fun i _ => 0)
    case atStart => exact ⟨rfl, Below.refl _ _⟩
    case round =>
      obtain ⟨rfl, hB⟩ := hrel
      have hfin := hid (FlatP.nil d h0z)
      go_wp2
      go_ret
      exact ⟨true, rfl, (fun _ => hfin.out), hB⟩
theorem flatP_any (d : Nat) (hd : d ≤ 100) : ∀ (l : List Val) (S : Foot) (v : Value) (w : World), ValsB l → ValsR S w l v → Calls Tryd.prog 6 #[v, iv (d : Int)] w (FlatQ d l w) := by
  induction d with
  | zero => intro l S v w hb hr; exact flatP_of l 0 S v w hr hb.1 hd fun h => absurd h (by omega)
  | succ d ih =>
    intro l S v w hb hr
    refine flatP_of l (d + 1) S v w hr hb.1 hd fun _ a ha va W hW => ?_
    have := ih (by omega) a.l S va W (hb.2 a ha).l hW
    rw [show ((d + 1 : Nat) : Int) - 1 = (d : Int) by omega]
    exact this
end Go.Proofs.YthagdeadmoidnaaDoor
set_option linter.unusedSimpArgs false
namespace Go.Proofs.YthagdeadmoidnaaDoor
open Go.RowKit
open Go.Lib (hid)
set_option maxRecDepth 100000 in
theorem netKey_any (r : Req) (hr : ReqB r) (hK : (keyS r).length ≤ 1048576) (S : Foot) (cs : List Value) (w : World) (ht : TabR w) (hR : ReqR S w r cs) :
    Calls Tryd.prog 7 #[.agg cs.toArray] w fun e w' => e = .returned (sv (keyF r)) ∧ Below w.heap.size w w' := by
  have hb0 : ∀ o, Below w.heap.size w (w.alloc o) := fun o => (Below.refl _ w).alloc (Nat.le_refl _) o
  have hcall := hid (fun o => key_any r hr hK S cs (w.alloc o) (ht.below (hb0 o) (Nat.le_refl _)) (goodReq.below hR (hb0 o)))
  obtain ⟨a1, k1, rfl, -⟩ := id hR
  replace hb0 := hid hb0
  clear ht hR
  go_enter Tryd.func7, Tryd.ntmps7
  go_wp2_with fail
  refine (hcall.out _).mono ?_
  rintro e w2 ⟨rfl, hb⟩
  have hB := hid ((hb0.out _).trans (hb.mono (hb0.out _).size))
  clear hb hcall hb0
  go_wp2_with fail
  go_ret
  exact ⟨rfl, hB.out⟩
theorem valsR_of {S : Foot} {w : World} {r : Req} {v : Value} (h : ReqR S w r (reqCs r v)) : ValsR S w r.args v := by
  obtain ⟨a, k, e, h1⟩ := h
  simp only [List.cons.injEq] at e
  obtain ⟨-, -, rfl, -⟩ := e
  exact h1
/-- the boxes of a and b -/
structure KM (n : Nat) (a b : Req) (ca cb : List Value) (W : World) : Prop where
  ha : W.heap[n]? = some (.cells ca.toArray 28 (0, 0))
  hb : W.heap[n + 1]? = some (.cells cb.toArray 28 (0, 0))
  ra : ReqR (fun _ => True) W a ca
  rb : ReqR (fun _ => True) W b cb
/-- one effect more behind the row -/
theorem push_out (w3 : World) (RL : List Out) (x : Out) (ar : Option Addr) (cr : Nat) (an : Option Addr) (kn B : Nat) (hB : B ≤ w3.heap.size) (hl : RL.length ≤ 1048576)
    (hO : OwnR 40 5 OutR (from_ B) w3 RL (.slice ar RL.length cr)) (hr : OutR (fun k => B ≤ k ∧ (Value.slice ar RL.length cr).ownBlock ≠ some k) w3 x (outCs x (.slice an x.args.length kn))) :
    ∃ a5 c5 W, AppRun Tryd.prog 32 32 32 (.slice ar RL.length cr) (.slice (some ⟨w3.heap.size, 0, none⟩) 1 1) (.slice a5 (RL.length + 1) c5) (w3.alloc (.cells (outCs x (.slice an x.args.length kn)).toArray 40)) W ∧
      OwnR 40 5 OutR (from_ B) W (RL ++ [x]) (.slice a5 (RL.length + 1) c5) ∧ Below B w3 W ∧ ∀ q, q < w3.heap.size → (Value.slice ar RL.length cr).ownBlock ≠ some q → W.heap[q]? = w3.heap[q]? := by
  obtain ⟨i0, hi, hz0, hz1, hz2⟩ := info_parts infoOut
  have hb : Below w3.heap.size w3 (w3.alloc (.cells (outCs x (.slice an x.args.length kn)).toArray 40)) := (Below.refl _ _).alloc (Nat.le_refl _) _
  have hz := heap_alloc_new' w3 (.cells (outCs x (.slice an x.args.length kn)).toArray 40)
  have hO1 := hO.below goodOut hb
  have hown := fun xs (hx : (w3.alloc (.cells (outCs x (.slice an x.args.length kn)).toArray 40)).ownsRow 0 40 5 (.slice ar RL.length cr) RL.length xs) => append_row _ 0 32 32 40 i0 _ 5 72 (by kernel_rfl) hi hz0 hz1 hz2 rfl (by decide) _ _ xs hx _ _ 1 _ (row_of_block hz rfl) (goodOut.one hr) (by unfold maxLen; omega) (by omega) (Nat.zero_le _)
  obtain ⟨xs, hxs, -, -⟩ := id hO1
  obtain ⟨v', W, hrun, -, hg, hvv⟩ := hown xs hxs
  have hsz : (w3.alloc (.cells (outCs x (.slice an x.args.length kn)).toArray 40)).heap.size = w3.heap.size + 1 := by simp
  have hOB : ∀ q, (Value.slice ar RL.length cr).ownBlock = some q → B ≤ q := fun q hq => by
    obtain ⟨ys, -, h2, -⟩ := id hO1
    exact h2 q hq
  have hpush : OwnR 40 5 OutR (from_ B) W (RL ++ [x]) v' := OwnR.push goodOut hO1 (fun ys hys => by
    obtain ⟨v2, w2', hr2, ho2, _⟩ := hown ys hys
    rw [hrun] at hr2
    injection hr2 with e1 e2
    subst e1 e2
    exact ho2) hg hvv (fun _ h => h) (by show B ≤ _; omega) (goodOut.move hr fun q hq hs => ⟨⟨hs.1, hs.2, by omega⟩, hb.block q hq⟩)
  obtain ⟨a5, c5, rfl, -, -⟩ := hpush.slice
  rw [List.length_append, List.length_singleton] at hrun hpush
  exact ⟨a5, c5, W, ⟨hrun⟩, hpush, (hb.mono hB).trans ⟨hg.os, hg.tape, hg.output, hg.size, fun q hq => hg.block q (by omega) (fun e => by have := hOB q e.symm; omega)⟩, fun q hq hn => (hg.block q (by omega) (fun e => hn e.symm)).trans (hb.block q hq)⟩
def effO (k : List UInt8) (r : Req) : Out := ⟨k, r.name, r.args, false, r.tick⟩
noncomputable def effF (r : Req) : Out := effO (keyF r) r
set_option maxHeartbeats 8000000 in
set_option maxRecDepth 100000 in
theorem effects_any (l : List Req) (hl : ReqsB l) (hK : ∀ x ∈ l, (keyS x).length ≤ 1048576) (S : Foot) (v : Value) (w : World) (ht : TabR w) (hR : ReqsR S w l v) :
    Calls Tryd.prog 17 #[v] w fun e w' => ∃ v', e = .returned v' ∧ OwnR 40 5 OutR (from_ w.heap.size) w' (l.map effF) v' ∧ Below w.heap.size w w' := by
  obtain ⟨a, c, rfl, -⟩ := hR.slice
  have hln := hl.1
  replace hR := hid (hR.mono goodReq (T := fun k => k < w.heap.size) fun k hk _ => hk)
  replace ht := hid ht
  replace hl := hid hl
  replace hK := hid hK
  go_enter Tryd.func17, Tryd.ntmps17
  go_wp2_with fail
  go_loopw [3, 8] (fun rs i wr => ∃ k : Nat, i = .int .i64 k ∧ k ≤ l.length ∧ Hid (OwnR 40 5 OutR (from_ w.heap.size) wr ((l.take k).map effF) rs) ∧ Hid (Below w.heap.size w wr)) (fun _ i _ => l.length - (intOf i).toNat)
  case atStart => exact ⟨0, rfl, Nat.zero_le _, hid (OwnR.nil _ _ _ _ _), hid (Below.refl _ _)⟩
  case round =>
    obtain ⟨k, rfl, hk, hO, hB⟩ := hrel
    by_cases hlt : k < l.length
    · obtain ⟨x, hx⟩ : ∃ x, l[k]? = some x := ⟨_, List.getElem?_eq_getElem hlt⟩
      have hxm := List.mem_of_getElem? hx
      have hxB := hl.out.2 x hxm
      have hxK := hK.out x hxm
      obtain ⟨g, o, cs, hidx, hS, hg, hc, hr⟩ := (hR.out.below goodReq hB.out).at (P := Tryd.prog) (t := 22) (by kernel_rfl) (fun _ => by kernel_rfl) hx
      obtain ⟨a1, k1, rfl, -⟩ := id hr
      have c0 := hc 0 _ rfl
      have c1 := hc 1 _ rfl
      have c2 := hc 2 _ rfl
      have c3 := hc 3 _ rfl
      have c4 := hc 4 _ rfl
      have c5 := hc 5 _ rfl
      have c6 := hc 6 _ rfl
      have c7 := hc 7 _ rfl
      rw [Nat.add_zero] at c0
      have hsz := hB.out.size
      have hbox := heap_alloc_new' wr (.cells (reqCs x (.slice a1 x.args.length k1)).toArray 28 (0, 0))
      have hb1 : Below wr.heap.size wr (wr.alloc (.cells (reqCs x (.slice a1 x.args.length k1)).toArray 28 (0, 0))) := (Below.refl _ wr).alloc (Nat.le_refl _) _
      have hr1 := hid (goodReq.below hr hb1)
      have hv1 := hid (valsR_of hr1.out)
      have ht1 := hid ((ht.out.below hB.out (Nat.le_refl _)).below hb1 (Nat.le_refl _))
      have hO1 := hid (hO.out.below goodOut hb1)
      have hBB1 := hid (hB.out.trans (hb1.mono hsz))
      have hbl := lt_of_some hbox
      obtain ⟨ar, cr, rfl, -, -⟩ := hO.out.slice
      have hown0 := hid (fun q (hq : _ = some q) => hO.out.lt hq)
      have hRl : ((l.take k).map effF).length = k := by simp; omega
      rw [hRl] at hO1 hown0 ⊢
      have htk : (l.take (k + 1)).map effF = (l.take k).map effF ++ [effF x] := by rw [List.take_add_one, hx]; simp
      replace htk := hid htk
      replace hbox := hid hbox
      replace hRl := hid hRl
      obtain ⟨ky, hky⟩ : ∃ ky, ky = keyF x := ⟨_, rfl⟩
      replace hky := hid hky
      clear hc hr hb1 hO
      go_wp2_with fail
      generalize (wr.alloc (.cells (reqCs x (.slice a1 x.args.length k1)).toArray 28 (0, 0))) = W1 at *
      have hb1' := hBB1.out.size
      refine wp_region_held_drew (S := (fun w9 => w9.heap[wr.heap.size]? = some (.cells (reqCs x (.slice a1 x.args.length k1)).toArray 28 (0, 0)))) (by kernel_rfl) ?_ (fun hHeld => ?_)
      · exact hbox.out
      have hHd : Below W1.heap.size W1 W1.drew := (Below.refl _ _).drew
      generalize W1.drew = wd at *
      refine wpAnyH_take (i := 0) (oi := ⟨_, _, _, _, _, _⟩) (v := ?_) rfl (by kernel_rfl) (by kernel_rfl) (by kernel_rfl) (fun _ _ _ h => h) (Or.inl ⟨by rfl, ?hy⟩) (by assumption) ?_
      case hy =>
        intro w hSw
        skip
        go_simp
        all_goals with_reducible rfl
      try simp only [Act.put, List.setIfInBounds_toArray, List.set_cons_zero, List.set_cons_succ]
      refine wpAnyH_take (i := 1) (oi := ⟨_, _, _, _, _, _⟩) (v := ?_) rfl (by kernel_rfl) (by kernel_rfl) (by kernel_rfl) (fun _ _ _ h => h) (Or.inl ⟨by rfl, ?hy⟩) (by assumption) ?_
      case hy =>
        intro w hSw
        have hrow := hSw
        have b0 : w.cell? ⟨wr.heap.size, 0, none⟩ = some (sv x.path) := (cell_of (i := 0) hrow).trans rfl
        have b1 : w.cell? ⟨wr.heap.size, 1, none⟩ = some (sv x.name) := (cell_of (i := 1) hrow).trans rfl
        have b2 : w.cell? ⟨wr.heap.size, 2, none⟩ = some (.slice a1 x.args.length k1) := (cell_of (i := 2) hrow).trans rfl
        have b3 : w.cell? ⟨wr.heap.size, 3, none⟩ = some (iv x.ord) := (cell_of (i := 3) hrow).trans rfl
        have b4 : w.cell? ⟨wr.heap.size, 4, none⟩ = some (sv x.reply) := (cell_of (i := 4) hrow).trans rfl
        have b5 : w.cell? ⟨wr.heap.size, 5, none⟩ = some (iv x.sent) := (cell_of (i := 5) hrow).trans rfl
        have b6 : w.cell? ⟨wr.heap.size, 6, none⟩ = some (iv x.tick) := (cell_of (i := 6) hrow).trans rfl
        have b7 : w.cell? ⟨wr.heap.size, 7, none⟩ = some (.bool x.opn) := (cell_of (i := 7) hrow).trans rfl
        go_simp
        all_goals with_reducible rfl
      try simp only [Act.put, List.setIfInBounds_toArray, List.set_cons_zero, List.set_cons_succ]
      refine wpAnyH_take (i := 3) (oi := ⟨_, _, _, _, _, _⟩) (v := ?_) rfl (by kernel_rfl) (by kernel_rfl) (by kernel_rfl) (fun _ _ _ h => h) (Or.inl ⟨by rfl, ?hy⟩) (by assumption) ?_
      case hy =>
        intro w hSw
        skip
        go_simp
        all_goals with_reducible rfl
      try simp only [Act.put, List.setIfInBounds_toArray, List.set_cons_zero, List.set_cons_succ]
      refine wpAnyH_take (i := 4) (oi := ⟨_, _, _, _, _, _⟩) (v := ?_) rfl (by kernel_rfl) (by kernel_rfl) (by kernel_rfl) (fun _ _ _ h => h) (Or.inl ⟨by rfl, ?hy⟩) (by assumption) ?_
      case hy =>
        intro w hSw
        have hrow := hSw
        have b1 : w.cell? ⟨wr.heap.size, 1, none⟩ = some (sv x.name) := (cell_of (i := 1) hrow).trans rfl
        go_simp
        all_goals with_reducible rfl
      try simp only [Act.put, List.setIfInBounds_toArray, List.set_cons_zero, List.set_cons_succ]
      refine wpAnyH_take (i := 5) (oi := ⟨_, _, _, _, _, _⟩) (v := ?_) rfl (by kernel_rfl) (by kernel_rfl) (by kernel_rfl) (fun _ _ _ h => h) (Or.inl ⟨by rfl, ?hy⟩) (by assumption) ?_
      case hy =>
        intro w hSw
        skip
        go_simp
        all_goals with_reducible rfl
      try simp only [Act.put, List.setIfInBounds_toArray, List.set_cons_zero, List.set_cons_succ]
      refine wpAnyH_take (i := 6) (oi := ⟨_, _, _, _, _, _⟩) (v := ?_) rfl (by kernel_rfl) (by kernel_rfl) (by kernel_rfl) (fun _ _ _ h => h) (Or.inl ⟨by rfl, ?hy⟩) (by assumption) ?_
      case hy =>
        intro w hSw
        have hrow := hSw
        have b2 : w.cell? ⟨wr.heap.size, 2, none⟩ = some (.slice a1 x.args.length k1) := (cell_of (i := 2) hrow).trans rfl
        go_simp
        all_goals with_reducible rfl
      try simp only [Act.put, List.setIfInBounds_toArray, List.set_cons_zero, List.set_cons_succ]
      refine wpAnyH_take (i := 8) (oi := ⟨_, _, _, _, _, _⟩) (v := ?_) rfl (by kernel_rfl) (by kernel_rfl) (by kernel_rfl) (fun _ _ _ h => h) (Or.inl ⟨by rfl, ?hy⟩) (by assumption) ?_
      case hy =>
        intro w hSw
        skip
        go_simp
        all_goals with_reducible rfl
      try simp only [Act.put, List.setIfInBounds_toArray, List.set_cons_zero, List.set_cons_succ]
      refine wpAnyH_take (i := 9) (oi := ⟨_, _, _, _, _, _⟩) (v := ?_) rfl (by kernel_rfl) (by kernel_rfl) (by kernel_rfl) (fun _ _ _ h => h) (Or.inl ⟨by rfl, ?hy⟩) (by assumption) ?_
      case hy =>
        intro w hSw
        have hrow := hSw
        have b6 : w.cell? ⟨wr.heap.size, 6, none⟩ = some (iv x.tick) := (cell_of (i := 6) hrow).trans rfl
        go_simp
        all_goals with_reducible rfl
      try simp only [Act.put, List.setIfInBounds_toArray, List.set_cons_zero, List.set_cons_succ]
      refine wpAnyH_ready (rs := [2]) (by kernel_rfl) (by simp) ?_
      refine AllReadyH.cons (o := ⟨_, _, _, _, _, _⟩) rfl (fun K hK => ?_) AllReadyH.nil
      go_simp
      go_at_call 7
      refine (netKey_any x hxB hxK _ (reqCs x (.slice a1 x.args.length k1)) _ (ht1.out.below hHd (Nat.le_refl _)) (goodReq.below hr1.out hHd)).mono ?_
      rintro e wq ⟨rfl, hbq⟩
      rw [← hky.out]
      have hHd2 := hHd.trans (hbq.mono hHd.size)
      clear hHd
      have hHd := hHd2
      clear hHd2
      have hZ := below_keep hHd hbox.out hbl
      refine hK.out _ _ ?_ (fun hHeld2 => ?_)
      · exact hZ
      clear hK K
      clear hHeld
      have hHeld := hHeld2
      clear hHeld2
      try simp only [Act.put, List.setIfInBounds_toArray, List.set_cons_zero, List.set_cons_succ]
      refine wpAnyH_ready (rs := [7]) (by kernel_rfl) (by simp) ?_
      refine AllReadyH.cons (o := ⟨_, _, _, _, _, _⟩) rfl (fun K hK => ?_) AllReadyH.nil
      go_simp
      go_at_call 31
      refine (cloneVals_any x.args hxB.1 _ (.slice a1 x.args.length k1) _ (hv1.out.below goodVal hHd)).mono ?_
      rintro e wp ⟨vn, rfl, hN, hbq⟩
      obtain ⟨an, kn, rfl, -, -⟩ := hN.slice
      have hsN := hHd.size
      replace hN := hid hN
      have hHd2 := hHd.trans (hbq.mono hHd.size)
      clear hHd
      have hHd := hHd2
      clear hHd2
      have hZ := below_keep hHd hbox.out hbl
      refine hK.out _ _ ?_ (fun hHeld2 => ?_)
      · exact hZ
      clear hK K
      clear hHeld
      have hHeld := hHeld2
      clear hHeld2
      try simp only [Act.put, List.setIfInBounds_toArray, List.set_cons_zero, List.set_cons_succ]
      have hs3 := hHd.size
      have hO3 := hO1.out.below goodOut hHd
      have hr3 : OutR (fun q => w.heap.size ≤ q ∧ (Value.slice ar k cr).ownBlock ≠ some q) wp (effO ky x) (outCs (effO ky x) (.slice an x.args.length kn)) := outR_shut (o := effO ky x) ((hN.out.sl goodVal).mono goodVal fun q hq hs => by
        have h9 : _ ≤ q := hs
        refine ⟨by omega, fun e => ?_⟩
        have h8 := hO1.out.lt e
        omega)
      obtain ⟨a5, c5, W5, hap, hO5, hF5, hK5⟩ := push_out wp ((l.take k).map effF) (effO ky x) ar cr an kn w.heap.size (by omega) (by rw [hRl.out]; omega) (by rw [hRl.out]; exact hO3) (by rw [hRl.out]; exact hr3)
      rw [hRl.out] at hap hO5 hK5
      have hO6 : Hid (OwnR 40 5 OutR (from_ w.heap.size) W5 ((l.take (k + 1)).map effF) (.slice a5 (k + 1) c5)) := hid (by
        rw [htk.out, show effF x = effO ky x by rw [hky.out]; rfl]
        exact hO5)
      have hB6 := hid ((hBB1.out.trans (hHd.mono hb1')).trans hF5)
      clear hO5 hF5 hO3 hr3
      refine wpAnyH_take (i := 10) (oi := ⟨_, _, _, _, _, _⟩) (v := ?_) rfl (by kernel_rfl) (by kernel_rfl) (by kernel_rfl) (fun _ _ _ h => h) (Or.inl ⟨by rfl, ?hy⟩) (by assumption) ?_
      case hy =>
        intro w hSw
        skip
        go_simp
        all_goals with_reducible rfl
      try simp only [Act.put, List.setIfInBounds_toArray, List.set_cons_zero, List.set_cons_succ]
      refine wpAnyH_ready (rs := [11]) (by kernel_rfl) (by simp) ?_
      refine AllReadyH.cons (o := ⟨_, _, _, _, _, _⟩) rfl (fun K hK => ?_) AllReadyH.nil
      go_simp
      have hS11 : Below W1.heap.size W1 (wp.alloc (.cells (outCs (effO ky x) (.slice an x.args.length kn)).toArray 40)) := hHd.alloc hHd.size _
      have hS12 := below_keep hS11 hbox.out hbl
      refine hK.out _ _ ?_ (fun hHeld2 => ?_)
      · exact hS12
      clear hK K
      clear hHeld
      have hHeld := hHeld2
      clear hHeld2
      try simp only [Act.put, List.setIfInBounds_toArray, List.set_cons_zero, List.set_cons_succ]
      refine wpAnyH_ready (rs := [12]) (by kernel_rfl) (by simp) ?_
      refine AllReadyH.cons (o := ⟨_, _, _, _, _, _⟩) rfl (fun K hK => ?_) AllReadyH.nil
      refine step_append_shut (by rfl) (.tmp 12) (.tmp 23) (by rfl) (by rfl) (by rfl) hap ?_
      have hS13 : W5.heap[wr.heap.size]? = _ := (hK5 wr.heap.size (by omega) (fun e => by have h8 := hO1.out.lt e; have h9 := hO1.out; obtain ⟨-, -, h7, -⟩ := id h9; have := hown0.out _ e; omega)).trans (below_keep hHd hbox.out hbl)
      refine hK.out _ _ hS13 (fun hHeld2 => ?_)
      clear hK K
      clear hHeld
      have hHeld := hHeld2
      clear hHeld2
      try simp only [Act.put, List.setIfInBounds_toArray, List.set_cons_zero, List.set_cons_succ]
      refine wpAnyH_take (i := 13) (oi := ⟨_, _, _, _, _, _⟩) (v := ?_) rfl (by kernel_rfl) (by kernel_rfl) (by kernel_rfl) (fun _ _ _ h => h) (Or.inl ⟨by rfl, ?hy⟩) (by assumption) ?_
      case hy =>
        intro w hSw
        skip
        go_simp
        all_goals with_reducible rfl
      try simp only [Act.put, List.setIfInBounds_toArray, List.set_cons_zero, List.set_cons_succ]
      refine wpAnyH_done (by kernel_rfl) ?_ _
      clear hap hN hO1 hBB1 hidx hbox
      go_wp2_with fail
      refine ⟨?_, by simp [intOf]; omega⟩
      repeat (first | exact ⟨⟨k + 1, by go_num, by omega, hO6, hB6⟩, rfl⟩ | exact ⟨k + 1, by go_num, by omega, hO6, hB6⟩ | apply Exists.intro)
    · obtain rfl : k = l.length := by omega
      have hO2 := hO.out
      rw [List.take_length] at hO2
      have hfin := hid hO2
      clear hO2
      go_wp2_with fail
      go_ret
      exact ⟨_, rfl, hfin.out, hB.out⟩
end Go.Proofs.YthagdeadmoidnaaDoor
