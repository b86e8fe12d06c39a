/- strings.Cut at a dot; value.isType, inRange, Path. -/
import Derived.Test.YtnbhpicmflagcaaDoorLexP
import Derived.Test.YtnbhpicmflagcaaDoorShelf
import Derived.Test.YtnbhpicmflagcaaDoorApiV
import Derived.BigQuiet
import Derived.Lib.IndexLaws
set_option linter.unusedVariables false
set_option linter.unusedSimpArgs false
namespace Go.Proofs.YtnbhpicmflagcaaDoor
open Go.RowKit
open Go.Lib (hid)
def dotI (s : List UInt8) : Int := Lib.indexByte s 46
theorem dotI_ge (s : List UInt8) : -1 ≤ dotI s := Lib.indexByte_ge s 46
theorem dotI_lt (s : List UInt8) (i : Nat) (h : dotI s = i) : i < s.length := (List.getElem?_eq_some_iff.1 (Lib.indexByte_some h).1).1
def cutF (s : List UInt8) : List UInt8 × List UInt8 × Bool := if dotI s < 0 then (s, [], false) else (s.take (dotI s).toNat, s.drop ((dotI s).toNat + 1), true)
def cutV (c : List UInt8 × List UInt8 × Bool) : Value := .tuple #[sv c.1, sv c.2.1, .bool c.2.2]
theorem cutF_len (s : List UInt8) : (cutF s).1.length ≤ s.length ∧ (cutF s).2.1.length ≤ s.length ∧ ((cutF s).2.2 = true → (cutF s).2.1.length < s.length) := by
  unfold cutF
  split
  · simp
  · have h := dotI_lt s (dotI s).toNat (by omega)
    simp
    omega
theorem ibyte_any (s : List UInt8) (w : World) : Calls Tryd.prog 62 #[sv s, .int .u8 46] w fun e w' => e = .returned (iv (dotI s)) ∧ w' = w := Tryd.stringslite_IndexByte ⟨s.toArray⟩ 46 w
set_option maxHeartbeats 1000000 in
set_option maxRecDepth 100000 in
theorem index_any (s : List UInt8) (w : World) : Calls Tryd.prog 79 #[sv s, sv [46]] w fun e w' => e = .returned (iv (dotI s)) ∧ w = w' := by
  have hc := hid (ibyte_any s w)
  by_cases h : s = [46]
  · subst h
    have hd : dotI [46] = 0 := by decide
    rw [hd]
    clear hd hc
    go_enter Tryd.func79, Tryd.ntmps79
    go_wp2_with fail
    go_ret
    exact ⟨rfl, rfl⟩
  · have b1 : (([46] : List UInt8) == s) = false := by simpa using fun e => h e.symm
    have b2 : ([46] : List UInt8) ≠ s := fun e => h e.symm
    go_enter Tryd.func79, Tryd.ntmps79
    go_wp2_with fail
    refine hc.out.mono ?_
    rintro e w1 ⟨rfl, rfl⟩
    go_wp2_with fail
    go_ret
    exact ⟨rfl, rfl⟩
set_option maxHeartbeats 1000000 in
set_option maxRecDepth 100000 in
theorem scut_any (s : List UInt8) (w : World) (hs : s.length ≤ 1048576) : Calls Tryd.prog 75 #[sv s, sv [46]] w fun e w' => e = .returned (cutV (cutF s)) ∧ Below w.heap.size w w' := by
  have hc := hid (index_any s w)
  rcases Int.lt_or_le (dotI s) 0 with h | h
  · have hv : cutF s = (s, [], false) := if_pos h
    rw [hv]
    have hd : dotI s = -1 := by have := dotI_ge s; omega
    rw [hd] at hc
    clear hd h hv
    go_enter Tryd.func75, Tryd.ntmps75
    go_wp2_with fail
    refine hc.out.mono ?_
    rintro e w1 ⟨rfl, rfl⟩
    go_wp2_with fail
    go_ret3
    exact ⟨rfl, Below.refl _ _⟩
  · obtain ⟨i, hi⟩ : ∃ i : Nat, dotI s = i := ⟨(dotI s).toNat, by omega⟩
    have hlt := dotI_lt s i hi
    have hv : cutF s = (s.take i, s.drop (i + 1), true) := by unfold cutF; rw [if_neg (by omega), hi]; simp
    rw [hv]
    rw [hi] at hc
    have e1 := ext_take s i
    have e2 := ext_drop s (i + 1)
    have c1 : (0 : Int) ≤ (i : Int) := by omega
    have c2 : (i : Int) ≤ (s.length : Int) := by omega
    have c3 : (0 : Int) ≤ (i : Int) + 1 := by omega
    have c4 : (i : Int) + 1 ≤ (s.length : Int) := by omega
    have c5 : IntKind.i64.wrap ((i : Int) + 1) = (i : Int) + 1 := i64_wrap_id _ (by omega) (by omega)
    have c6 : ((i : Int) + 1).toNat = i + 1 := by omega
    clear h hi hv hlt
    go_enter Tryd.func75, Tryd.ntmps75
    go_wp2_with fail
    refine hc.out.mono ?_
    rintro e w1 ⟨rfl, rfl⟩
    go_wp2_with fail
    go_quiet (fail)
    go_wp2_with fail
    go_ret3
    exact ⟨rfl, below_drewM (Below.refl _ _) _⟩
set_option maxRecDepth 100000 in
theorem cut_any (s : List UInt8) (w : World) (hs : s.length ≤ 1048576) : Calls Tryd.prog 71 #[sv s, sv [46]] w fun e w' => e = .returned (cutV (cutF s)) ∧ Below w.heap.size w w' := by
  have hc := hid (scut_any s w hs)
  generalize cutF s = c at *
  obtain ⟨a, b, f⟩ := c
  go_enter Tryd.func71, Tryd.ntmps71
  go_wp2_with fail
  refine hc.out.mono ?_
  rintro e w1 ⟨rfl, hb⟩
  unfold cutV
  go_wp2_with fail
  go_ret3
  exact ⟨rfl, hb⟩
theorem cd_le (k : Nat) (c : UInt8) : decide ((c.toNat : Int) ≤ (k : Int)) = decide (c.toNat ≤ k) := by rw [decide_eq_decide]; omega
theorem cd_ge (k : Nat) (c : UInt8) : decide ((k : Int) ≤ (c.toNat : Int)) = decide (k ≤ c.toNat) := by rw [decide_eq_decide]; omega
theorem cd_lt (k : Nat) (c : UInt8) : decide ((c.toNat : Int) < (k : Int)) = decide (c.toNat < k) := by rw [decide_eq_decide]; omega
theorem cd_gt (k : Nat) (c : UInt8) : decide ((k : Int) < (c.toNat : Int)) = decide (k < c.toNat) := by rw [decide_eq_decide]; omega
def tyB (c : UInt8) : Bool := decide (97 ≤ c.toNat) && decide (c.toNat ≤ 122) || decide (65 ≤ c.toNat) && decide (c.toNat ≤ 90) || decide (48 ≤ c.toNat) && decide (c.toNat ≤ 57) || decide (c.toNat = 95)
def upB (c : UInt8) : Bool := !decide (c.toNat < 65) && !decide (90 < c.toNat)
def typeF (s : List UInt8) : Bool := match s with
  | [] => false
  | c :: _ => upB c && s.all tyB
theorem hit_nextT {α : Type} {p : α → Bool} {l : List α} {k : Nat} {x : α} (hx : l[k]? = some x) (hp : p x = true) (hn : ∀ i y, i < k → l[i]? = some y → p y = true) : ∀ i y, i < k + 1 → l[i]? = some y → p y = true := fun i y hi hy => by
  by_cases e : i = k
  · subst e; rw [hx] at hy; injection hy with hy; rw [← hy]; exact hp
  · exact hn i y (by omega) hy
theorem all_good {α : Type} {p : α → Bool} {l : List α} (hn : ∀ i y, i < l.length → l[i]? = some y → p y = true) : l.all p = true := by
  rw [List.all_eq_true]
  intro y hy
  obtain ⟨i, hi⟩ := List.getElem?_of_mem hy
  exact hn i y (List.getElem?_eq_some_iff.1 hi).1 hi
theorem all_bad {α : Type} {p : α → Bool} {l : List α} {k : Nat} {x : α} (hx : l[k]? = some x) (hp : p x = false) : l.all p = false := by
  rw [List.all_eq_false]
  exact ⟨x, List.mem_of_getElem? hx, by rw [hp]; simp⟩
set_option maxHeartbeats 4000000 in
set_option maxRecDepth 100000 in
theorem type_loop (c0 : UInt8) (r0 : List UInt8) (w : World) (hs : (c0 :: r0).length ≤ 1048576) (h0 : upB c0 = true) : Calls Tryd.prog 59 #[sv (c0 :: r0)] w fun e w' => e = .returned (.bool ((c0 :: r0).all tyB)) ∧ Below w.heap.size w w' := by
  have g1 : ¬ c0.toNat < 65 := by intro h; simp [upB, h] at h0
  have g2 : ¬ 90 < c0.toNat := by intro h; simp [upB, h] at h0
  have d1 : decide ((c0.toNat : Int) < 65) = _ := cd_lt 65 c0
  have d2 : decide ((90 : Int) < (c0.toNat : Int)) = _ := cd_gt 90 c0
  simp only [g1, g2, decide_false] at d1 d2
  have hx0 := idx_str0 (P := Tryd.prog) 9 (by kernel_rfl) c0 r0
  obtain ⟨s, hsd⟩ : ∃ s, s = c0 :: r0 := ⟨_, rfl⟩
  have hne : ([] == s) = false := by rw [hsd]; rfl
  have hne2 : (s == []) = false := by rw [hsd]; rfl
  have hne3 : s ≠ [] := by rw [hsd]; simp
  rw [← hsd] at hs hx0 ⊢
  clear hsd g1 g2 h0
  have hidx := fun k c hc => idx_str (P := Tryd.prog) 9 (by kernel_rfl) s k c hc
  replace hidx := hid hidx
  obtain ⟨res, hres⟩ : ∃ res, res = s.all tyB := ⟨_, rfl⟩
  rw [← hres]
  replace hres := hid hres
  go_enter Tryd.func59, Tryd.ntmps59
  go_wp2_with fail
  go_loopw [19] (fun i wr => ∃ k : Nat, i = .int .i64 k ∧ k ≤ s.length ∧ Hid (∀ i y, i < k → s[i]? = some y → tyB y = true) ∧ wr = w) (fun i _ => s.length - (intOf i).toNat)
  case atStart => exact ⟨0, rfl, Nat.zero_le _, hid (fun i y h => absurd h (by omega)), rfl⟩
  case round =>
    obtain ⟨k, rfl, hk, hn, rfl⟩ := hrel
    clear hx0 d1 d2
    by_cases hlt : k < s.length
    · obtain ⟨c, hc⟩ : ∃ c, s[k]? = some c := ⟨_, List.getElem?_eq_getElem hlt⟩
      have hi := hidx.out k c hc
      replace hc := hid hc
      by_cases h7 : c.toNat = 95
      · have e7 : decide (c.toNat = 95) = true := decide_eq_true h7
        have h1 : ¬ 97 ≤ c.toNat := by omega
        have h2 : c.toNat ≤ 122 := by omega
        have h3 : 65 ≤ c.toNat := by omega
        have h4 : ¬ c.toNat ≤ 90 := by omega
        have h5 : 48 ≤ c.toNat := by omega
        have h6 : ¬ c.toNat ≤ 57 := by omega
        replace h7 := hid h7
        obtain ⟨t, ht⟩ : ∃ t, tyB c = t := ⟨_, rfl⟩
        have ht2 := ht
        simp only [tyB, h1, h2, h3, h4, h5, h6, e7, decide_true, decide_false, Bool.and_true, Bool.and_false, Bool.or_false, Bool.or_true, Bool.false_and, Bool.true_and, Bool.false_or, Bool.true_or] at ht2
        have d1 : decide ((97 : Int) ≤ (c.toNat : Int)) = _ := cd_ge 97 c
        have d2 : decide ((c.toNat : Int) ≤ 122) = _ := cd_le 122 c
        have d3 : decide ((65 : Int) ≤ (c.toNat : Int)) = _ := cd_ge 65 c
        have d4 : decide ((c.toNat : Int) ≤ 90) = _ := cd_le 90 c
        have d5 : decide ((48 : Int) ≤ (c.toNat : Int)) = _ := cd_ge 48 c
        have d6 : decide ((c.toNat : Int) ≤ 57) = _ := cd_le 57 c
        have d7 : ((c.toNat : Int) == 95) = decide (c.toNat = 95) := by rw [Bool.eq_iff_iff]; simp; omega
        simp only [h1, h2, h3, h4, h5, h6, e7, decide_true, decide_false] at d1 d2 d3 d4 d5 d6 d7
        have n7 : decide ((c.toNat : Int) = 95) = decide (c.toNat = 95) := by rw [decide_eq_decide]; omega
        simp only [e7] at n7
        rw [← ht2] at ht
        clear ht2
        have hnx := hid (fun e : tyB c = true => hit_nextT hc.out e hn.out)
        have hbad := hid (fun e : tyB c = false => all_bad hc.out e)
        rw [ht] at hnx hbad
        clear ht h1 h2 h3 h4 h5 h6 h7 e7
        go_wp2_with fail
        first
          | (have hfin := hid (show res = false from hres.out.trans (hbad.out (by trivial)))
             go_ret
             exact ⟨by rw [hfin.out]; rfl, Below.refl _ _⟩)
          | exact ⟨⟨k + 1, by go_num, by omega, hid (hnx.out (by trivial)), by trivial⟩, by simp [intOf]; omega⟩
      · have e7 : decide (c.toNat = 95) = false := decide_eq_false h7
        replace h7 := hid h7
        by_cases h1 : 97 ≤ c.toNat <;> by_cases h2 : c.toNat ≤ 122 <;> by_cases h3 : 65 ≤ c.toNat <;> by_cases h4 : c.toNat ≤ 90 <;> by_cases h5 : 48 ≤ c.toNat <;> by_cases h6 : c.toNat ≤ 57 <;> try omega
        all_goals
          obtain ⟨t, ht⟩ : ∃ t, tyB c = t := ⟨_, rfl⟩
          have ht2 := ht
          simp only [tyB, h1, h2, h3, h4, h5, h6, e7, decide_true, decide_false, Bool.and_true, Bool.and_false, Bool.or_false, Bool.or_true, Bool.false_and, Bool.true_and, Bool.false_or, Bool.true_or] at ht2
          have d1 : decide ((97 : Int) ≤ (c.toNat : Int)) = _ := cd_ge 97 c
          have d2 : decide ((c.toNat : Int) ≤ 122) = _ := cd_le 122 c
          have d3 : decide ((65 : Int) ≤ (c.toNat : Int)) = _ := cd_ge 65 c
          have d4 : decide ((c.toNat : Int) ≤ 90) = _ := cd_le 90 c
          have d5 : decide ((48 : Int) ≤ (c.toNat : Int)) = _ := cd_ge 48 c
          have d6 : decide ((c.toNat : Int) ≤ 57) = _ := cd_le 57 c
          have d7 : ((c.toNat : Int) == 95) = decide (c.toNat = 95) := by rw [Bool.eq_iff_iff]; simp; omega
          simp only [h1, h2, h3, h4, h5, h6, e7, decide_true, decide_false] at d1 d2 d3 d4 d5 d6 d7
          have n7 : decide ((c.toNat : Int) = 95) = decide (c.toNat = 95) := by rw [decide_eq_decide]; omega
          simp only [e7] at n7
          rw [← ht2] at ht
          clear ht2
          have hnx := hid (fun e : tyB c = true => hit_nextT hc.out e hn.out)
          have hbad := hid (fun e : tyB c = false => all_bad hc.out e)
          rw [ht] at hnx hbad
          clear ht h1 h2 h3 h4 h5 h6 h7 e7
          go_wp2_with fail
          first
            | (have hfin := hid (show res = false from hres.out.trans (hbad.out (by trivial)))
               go_ret
               exact ⟨by rw [hfin.out]; rfl, Below.refl _ _⟩)
            | exact ⟨⟨k + 1, by go_num, by omega, hid (hnx.out (by trivial)), by trivial⟩, by simp [intOf]; omega⟩
    · have hkl : k = s.length := by omega
      subst hkl
      have hfin := hid (show res = true from hres.out.trans (all_good hn.out))
      go_wp2_with fail
      go_ret
      exact ⟨by rw [hfin.out]; rfl, Below.refl _ _⟩
set_option maxHeartbeats 4000000 in
set_option maxRecDepth 100000 in
theorem type_any (s : List UInt8) (w : World) (hs : s.length ≤ 1048576) : Calls Tryd.prog 59 #[sv s] w fun e w' => e = .returned (.bool (typeF s)) ∧ Below w.heap.size w w' := by
  rcases s with _ | ⟨c, r⟩
  · show Calls Tryd.prog 59 #[sv []] w fun e w' => e = .returned (.bool false) ∧ Below w.heap.size w w'
    go_enter Tryd.func59, Tryd.ntmps59
    go_wp2_with fail
    go_ret
    exact ⟨rfl, Below.refl _ _⟩
  · cases h0 : upB c with
    | true =>
      have e : typeF (c :: r) = (c :: r).all tyB := by show (upB c && _) = _; rw [h0]; rfl
      rw [e]
      exact type_loop c r w hs h0
    | false =>
      have e : typeF (c :: r) = false := by show (upB c && _) = _; rw [h0]; rfl
      rw [e]
      have d1 : decide ((c.toNat : Int) < 65) = _ := cd_lt 65 c
      have d2 : decide ((90 : Int) < (c.toNat : Int)) = _ := cd_gt 90 c
      have hx0 := idx_str0 (P := Tryd.prog) 9 (by kernel_rfl) c r
      have hne : ([] == (c :: r)) = false := rfl
      by_cases g1 : c.toNat < 65
      · simp only [g1, decide_true] at d1
        clear h0 e d2 g1
        go_enter Tryd.func59, Tryd.ntmps59
        go_wp2_with fail
        go_ret
        exact ⟨rfl, Below.refl _ _⟩
      · have g2 : 90 < c.toNat := by
          rcases Nat.lt_or_ge 90 c.toNat with h | h
          · exact h
          · exfalso; simp [upB, g1] at h0; omega
        simp only [g1, g2, decide_true, decide_false] at d1 d2
        clear h0 e g1 g2
        go_enter Tryd.func59, Tryd.ntmps59
        go_wp2_with fail
        go_ret
        exact ⟨rfl, Below.refl _ _⟩
def rangeB (n : Int) : Bool := decide (-9007199254740992 ≤ n) && decide (n ≤ 9007199254740992)
theorem range_any (n : Int) (w : World) : Calls Tryd.prog 60 #[iv n] w fun e w' => e = .returned (.bool (rangeB n)) ∧ w = w' := by
  by_cases h1 : -9007199254740992 ≤ n
  · by_cases h2 : n ≤ 9007199254740992
    · have e : rangeB n = true := by simp [rangeB, h1, h2]
      rw [e]
      go_enter Tryd.func60, Tryd.ntmps60
      go_wp2_with fail
      go_ret
      exact ⟨rfl, rfl⟩
    · have e : rangeB n = false := by simp [rangeB, h2]
      have d : decide (n ≤ 9007199254740992) = false := decide_eq_false h2
      rw [e]
      go_enter Tryd.func60, Tryd.ntmps60
      go_wp2_with fail
      go_ret
      exact ⟨rfl, rfl⟩
  · have e : rangeB n = false := by simp [rangeB, h1]
    have d : decide (-9007199254740992 ≤ n) = false := decide_eq_false h1
    rw [e]
    go_enter Tryd.func60, Tryd.ntmps60
    go_wp2_with fail
    go_ret
    exact ⟨rfl, rfl⟩
/-- the rest of a path: whether each part is a number -/
def pathG : Nat → List UInt8 → Bool → Bool
  | _, _, false => true
  | 0, _, true => true
  | f + 1, rest, true => (parse (cutF rest).1 0 9007199254740992).isSome && pathG f (cutF rest).2.1 (cutF rest).2.2
def len2 : Value → Value → Nat
  | .string b, .bool m => b.data.size + (if m then 1 else 0)
  | _, _ => 0
theorem len2_sv (l : List UInt8) (m : Bool) : len2 (sv l) (.bool m) = l.length + (if m then 1 else 0) := by simp [len2]
theorem pathG_false (f : Nat) (s : List UInt8) : pathG f s false = true := by cases f <;> rfl
theorem pathG_step (f : Nat) (s : List UInt8) : pathG (f + 1) s true = ((parse (cutF s).1 0 9007199254740992).isSome && pathG f (cutF s).2.1 (cutF s).2.2) := rfl
def pathF (s : List UInt8) : Bool := decide (s.length ≤ 200) && decide ((cutF s).1 = [48]) && pathG s.length (cutF s).2.1 (cutF s).2.2
set_option maxHeartbeats 4000000 in
set_option maxRecDepth 100000 in
theorem path_any (s : List UInt8) (w : World) (hs : s.length ≤ 1048576) : Calls Tryd.prog 61 #[sv s] w fun e w' => e = .returned (.bool (pathF s)) ∧ Below w.heap.size w w' := by
  obtain ⟨res, hres⟩ : ∃ res, pathF s = res := ⟨_, rfl⟩
  rw [hres]
  by_cases h1 : s.length ≤ 200
  · have hc := hid (cut_any s w hs)
    have hlen := cutF_len s
    have q1 : decide ((200 : Int) < (s.length : Int)) = false := decide_eq_false (by omega)
    have q2 : decide (200 < s.length) = false := decide_eq_false (by omega)
    have q3 : ¬ (200 < s.length) := by omega
    have hp : pathF s = (decide ((cutF s).1 = [48]) && pathG s.length (cutF s).2.1 (cutF s).2.2) := by unfold pathF; rw [decide_eq_true h1]; rfl
    rw [hp] at hres
    clear hp
    generalize cutF s = c at *
    obtain ⟨first, rest, more⟩ := c
    simp only at hlen hres
    by_cases h2 : first = [48]
    · subst h2
      have hres2 := hid (show pathG s.length rest more = res by simpa using hres)
      clear hres
      obtain ⟨-, hl1, hl2⟩ := hlen
      replace hl2 := hid hl2
      go_enter Tryd.func61, Tryd.ntmps61
      go_wp2_with fail
      refine hc.out.mono ?_
      rintro e w1 ⟨rfl, hb1⟩
      unfold cutV
      clear hc
      go_wp2_with fail
      go_loopw [4, 5] (fun rv mv wr => ∃ (r : List UInt8) (m : Bool) (f : Nat), rv = sv r ∧ mv = .bool m ∧ Hid (pathG f r m = res) ∧ Hid (m = true → r.length < f) ∧ r.length ≤ s.length ∧ Below w.heap.size w wr) (fun rv mv _ => len2 rv mv)
      case atStart => exact ⟨rest, more, s.length, rfl, rfl, hres2, hl2, hl1, hb1⟩
      case round =>
        clear hl2 hres2 q1 q2 q3
        obtain ⟨r, m, f, rfl, rfl, hf, hm, hr, hB⟩ := hrel
        cases m with
        | false =>
          have hfin : true = res := by rw [← hf.out, pathG_false]
          replace hfin := hid hfin
          go_wp2_with fail
          go_ret
          exact ⟨by rw [← hfin.out]; rfl, hB⟩
        | true =>
          obtain ⟨g, rfl⟩ : ∃ g, f = g + 1 := ⟨f - 1, by have := hm.out rfl; omega⟩
          have hfg := hf.out
          rw [pathG_step] at hfg
          have hc := hid (cut_any r wr (by omega))
          have hcl := cutF_len r
          have hmg := hm.out rfl
          generalize cutF r = c at *
          obtain ⟨a, b, m2⟩ := c
          simp only at hcl hfg
          obtain ⟨hc1, hc2, hc3⟩ := hcl
          replace hc3 := hid hc3
          have hp := hid (fun W => parse_any a 0 9007199254740992 W (by omega))
          clear hf hm
          cases hq : (parse a 0 9007199254740992).isSome with
          | true =>
            have hnx := hid (show pathG g b m2 = res by rw [← hfg, hq]; rfl)
            clear hfg
            generalize parse a 0 9007199254740992 = o at *
            obtain ⟨n, rfl⟩ : ∃ n, o = some n := Option.isSome_iff_exists.1 hq
            clear hq
            go_wp2_with fail
            refine hc.out.mono ?_
            rintro e w2 ⟨rfl, hb2⟩
            unfold cutV
            go_wp2_with fail
            refine (hp.out _).mono ?_
            rintro e w3 ⟨rfl, hb3⟩
            have hB3 := hB.trans ((hb2.trans (hb3.mono hb2.size)).mono hB.size)
            go_wp2_with fail
            refine ⟨⟨b, m2, g, rfl, rfl, hnx, hid (fun e => by have := hc3.out e; omega), by omega, hB3⟩, ?_⟩
            rw [len2_sv, len2_sv]
            cases m2 with
            | true => have := hc3.out rfl; simp; omega
            | false => simp; omega
          | false =>
            have hfin := hid (show res = false by rw [← hfg, hq]; rfl)
            clear hfg
            generalize parse a 0 9007199254740992 = o at *
            obtain rfl : o = none := Option.isSome_eq_false_iff.1 hq |> Option.isNone_iff_eq_none.1
            clear hq
            go_wp2_with fail
            refine hc.out.mono ?_
            rintro e w2 ⟨rfl, hb2⟩
            unfold cutV
            go_wp2_with fail
            refine (hp.out _).mono ?_
            rintro e w3 ⟨rfl, hb3⟩
            have hB3 := hB.trans ((hb2.trans (hb3.mono hb2.size)).mono hB.size)
            go_wp2_with fail
            go_ret
            exact ⟨by rw [hfin.out]; rfl, hB3⟩
    · have hfin := hid (show res = false by rw [← hres]; simp [h2])
      have b2 : (first == [48]) = false := by simpa using h2
      clear hres
      go_enter Tryd.func61, Tryd.ntmps61
      go_wp2_with fail
      refine hc.out.mono ?_
      rintro e w1 ⟨rfl, hb1⟩
      unfold cutV
      go_wp2_with fail
      go_ret
      exact ⟨by rw [hfin.out]; rfl, hb1⟩
  · have hfin := hid (show res = false by rw [← hres]; simp [pathF, h1])
    have q1 : decide ((200 : Int) < (s.length : Int)) = true := decide_eq_true (by omega)
    have q2 : decide (200 < s.length) = true := decide_eq_true (by omega)
    clear hres
    go_enter Tryd.func61, Tryd.ntmps61
    go_wp2_with fail
    go_ret
    exact ⟨by rw [hfin.out]; rfl, Below.refl _ _⟩
end Go.Proofs.YtnbhpicmflagcaaDoor
