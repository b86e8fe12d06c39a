/- Chapter 02 (code): walks: List and Nums of both, few, SameTexts, SameInts. -/
import Derived.Test.YtmlcnmpfjallkaaCodeW3
import Derived.Deep.QuietTactic
import Derived.BigQuiet
set_option linter.unusedVariables false
namespace Go.Proofs.Ytmlcnmpfjallkaa
open Go.RowKit
open Go.Lib (hid IsBuilder byteCells)

theorem list_any (ss : List (List UInt8)) (v : Value) (w : World) (hr : Row w.heap.size w 1 v ss.length (ss.map sv)) (hs : (lenc ss).length ≤ 1000000000) (hl : ss.length ≤ 1000000000) (hx : ∀ x ∈ ss, x.length ≤ 1000000000) :
    Calls Try.prog 17 #[v] w fun e w' => e = .returned (sv (lenc ss)) ∧ Below w.heap.size w w' := by
  go_enter Try.func17, Try.ntmps17
  go_wp2_with (go_at_call 46; refine (encodeS ss v _ hr hs hl hx).mono ?_; rintro e w1 ⟨rfl, hb1⟩)
  go_ret
  exact ⟨rfl, hb1⟩
theorem nums_any (ss : List Int) (v : Value) (w : World) (hr : Row w.heap.size w 1 v ss.length (ss.map iv)) (hs : (msenc ss).length ≤ 1000000000) (hl : ss.length ≤ 1000000000) :
    Calls Try.prog 19 #[v] w fun e w' => e = .returned (sv (msenc ss)) ∧ Below w.heap.size w w' := by
  go_enter Try.func19, Try.ntmps19
  go_wp2_with (go_at_call 47; refine (encodeI ss v _ hr hs hl).mono ?_; rintro e w1 ⟨rfl, hb1⟩)
  go_ret
  exact ⟨rfl, hb1⟩

set_option maxHeartbeats 400000 in
theorem rlist_any (ss : List (List UInt8)) (v : Value) (w : World) (hr : Row w.heap.size w 1 v ss.length (ss.map sv)) (hs : (lenc ss).length ≤ 1000000000) (hl : ss.length ≤ 1000000000) (hx : ∀ x ∈ ss, x.length ≤ 1000000000) :
    Calls Try.prog 18 #[v] w fun e w' => e = .returned (sv (lenc ss)) ∧ Below w.heap.size w w' := by
  obtain ⟨a, cap, b, off, rfl, h2, h3, h4⟩ := hr
  have hb2 := (venc_bound ss.length (by omega)).2
  have hT : (lenc ss).length = (venc ss.length).length + ((ss.map tenc).flatten).length := by simp only [lenc, List.length_append]
  have HT := hid hT
  clear hT
  go_enter Try.func18, Try.ntmps18
  go_wp2_with (go_at_call 12; refine (rnum_pos _ _ (by omega) (by omega)).mono ?_; rw [Int.toNat_natCast]; rintro e w1 ⟨rfl, hb1⟩)
  go_loopw [3, 4] (fun s i wr => ∃ k : Nat, k ≤ ss.length ∧ i = .int .i64 k ∧ s = sv (venc ss.length ++ ((ss.take k).map tenc).flatten) ∧ Below w.heap.size w wr) (fun _ i _ => ss.length - (intOf i).toNat)
  case atStart => exact ⟨0, Nat.zero_le _, rfl, by simp, hb1⟩
  case round =>
    obtain ⟨k, hk, rfl, rfl, hB⟩ := hrel
    clear hb1
    have hsz := hB.size
    by_cases hlt : k < ss.length
    · obtain ⟨x, hx1⟩ : ∃ x, ss[k]? = some x := ⟨_, List.getElem?_eq_getElem hlt⟩
      have hfl := flat_snoc tenc ss k x hx1
      have hle := flat_take tenc ss (k + 1)
      rw [hfl, List.length_append] at hle
      have hxl := hx x (List.mem_of_getElem? hx1)
      have hT2 := HT.out
      obtain ⟨hidx, hcell⟩ := row_at1 (P := Try.prog) (t := 22) (by kernel_rfl) (fun _ => by kernel_rfl) h2 h3 h4 hB cap k hlt (u := sv x) (by simp [hx1])
      have hto : (venc ss.length ++ ((ss.take k).map tenc).flatten).length + (tenc x).length ≤ 1000000000 := by
        rw [List.length_append]; omega
      have Hfl := hid hfl
      clear hfl hT2 hx1
      generalize hacc : venc ss.length ++ ((ss.take k).map tenc).flatten = acc at *
      have Hacc := hid hacc
      clear hacc
      go_wp2_with (go_at_call 16; refine (rtext_any x _ (by omega)).mono ?_; rintro e w1 ⟨rfl, hb1⟩)
      refine ⟨⟨k + 1, by omega, by go_num, ?_, hB.trans (hb1.mono (by omega))⟩, by simp [intOf]; omega⟩
      rw [Hfl.out, ← List.append_assoc, Hacc.out, ByteArray.mk_append_mk]
    · have hkl : k = ss.length := by omega
      subst hkl
      rw [List.take_length]
      go_wp2
      go_ret
      exact ⟨rfl, hB⟩

def sumT (ss : List (List UInt8)) (k : Nat) : Nat := ((ss.take k).map List.length).sum
def fewB (ss : List (List UInt8)) : Bool := decide (ss.length ≤ 100) && decide (sumT ss 200 ≤ 10000)
theorem sumT_succ (ss : List (List UInt8)) (k : Nat) (x : List UInt8) (h : ss[k]? = some x) : sumT ss (k + 1) = sumT ss k + x.length := by
  unfold sumT; rw [List.take_add_one, h]; simp
theorem sumT_le (ss : List (List UInt8)) (hx : ∀ x ∈ ss, x.length ≤ 140737488355328) : ∀ k, k ≤ 200 → sumT ss k ≤ k * 140737488355328 := by
  intro k
  induction k with
  | zero => intro _; simp [sumT]
  | succ k ih =>
    intro hk
    rcases h : ss[k]? with _ | x
    · have e : sumT ss (k + 1) = sumT ss k := by unfold sumT; rw [List.take_add_one, h]; simp
      have := ih (by omega); omega
    · have := hx x (List.mem_of_getElem? h)
      have := ih (by omega)
      rw [sumT_succ ss k x h]; omega
set_option maxHeartbeats 400000 in
set_option maxRecDepth 100000 in
theorem few_any (ss : List (List UInt8)) (v : Value) (w : World) (hr : Row w.heap.size w 1 v ss.length (ss.map sv)) (hl : ss.length ≤ 140737488355328) (hx : ∀ x ∈ ss, x.length ≤ 140737488355328) :
    Calls Try.prog 10 #[v] w fun e w' => e = .returned (.bool (fewB ss)) ∧ Below w.heap.size w w' := by
  obtain ⟨a, cap, b, off, rfl, h2, h3, h4⟩ := hr
  replace h4 := hid h4
  go_enter Try.func10, Try.ntmps10
  go_wp2
  go_loop [3, 4] (fun s i => ∃ k : Nat, k ≤ ss.length ∧ k ≤ 200 ∧ i = .int .i64 k ∧ s = .int .i64 (sumT ss k)) (fun _ i => 200 - (intOf i).toNat)
  case atStart => exact ⟨0, Nat.zero_le _, by omega, rfl, rfl⟩
  case round =>
    obtain ⟨k, hk, hk2, rfl, rfl⟩ := hrel
    have hsum : sumT ss k ≤ 28147497671065600 := by have := sumT_le ss hx k hk2; omega
    by_cases hlt : k < ss.length
    · by_cases hlt2 : k < 200
      · obtain ⟨x, hx1⟩ : ∃ x, ss[k]? = some x := ⟨_, List.getElem?_eq_getElem hlt⟩
        have hfl := sumT_succ ss k x hx1
        have hxl := hx x (List.mem_of_getElem? hx1)
        obtain ⟨hidx, hcell⟩ := row_at1 (P := Try.prog) (t := 22) (by kernel_rfl) (fun _ => by kernel_rfl) h2 h3 h4.out (Below.refl _ _) cap k hlt (u := sv x) (by simp [hx1])
        have Hfl := hid hfl
        clear hfl hx1 hx
        go_wp2
        go_round
        case rel => exact ⟨k + 1, by omega, by omega, by go_num, by rw [Hfl.out]; go_num⟩
        case measure => simp [intOf]; omega
      · have e : k = 200 := by omega
        subst e
        have hd1 : decide ((ss.length : Int) ≤ 100) = false := by simp; omega
        go_wp2
        go_ret
        exact ⟨ret_bool (by simp [fewB]; omega), Below.refl _ _⟩
    · have hkl : k = ss.length := by omega
      subst hkl
      have e2 : sumT ss 200 = sumT ss ss.length := by
        unfold sumT; rw [List.take_of_length_le (by omega), List.take_of_length_le (Nat.le_refl _)]
      have E2 := hid e2
      clear e2
      by_cases h100 : ss.length ≤ 100
      · have hd1 : decide ((ss.length : Int) ≤ 100) = true := by simp; omega
        go_wp2
        go_ret
        exact ⟨ret_bool (by unfold fewB; rw [E2.out]; simp [h100]; omega), Below.refl _ _⟩
      · have hd1 : decide ((ss.length : Int) ≤ 100) = false := by simp; omega
        go_wp2
        go_ret
        exact ⟨ret_bool (by simp [fewB]; omega), Below.refl _ _⟩

theorem same_step (f : List (List UInt8)) (g : List (List UInt8)) (k : Nat) (x y : List UInt8) (hx : f[k]? = some x) (hy : g[k]? = some y) (h : f.take k = g.take k) (e : x = y) : f.take (k + 1) = g.take (k + 1) := by
  rw [List.take_add_one, List.take_add_one, hx, hy, h, e]

set_option maxHeartbeats 400000 in
theorem sameTexts (f g : List (List UInt8)) (v u : Value) (w : World) (hr : Row w.heap.size w 1 v f.length (f.map sv)) (hu : Row w.heap.size w 1 u g.length (g.map sv)) (hl : f.length ≤ 140737488355328) :
    Calls Try.prog 29 #[v, u] w fun e w' => e = .returned (.bool (decide (f = g))) ∧ Below w.heap.size w w' := by
  obtain ⟨a, cap, b, off, rfl, h2, h3, h4⟩ := hr
  replace h4 := hid h4
  obtain ⟨a', cap', b', off', rfl, h2', h3', h4'⟩ := hu
  replace h4' := hid h4'
  by_cases hn : f.length = g.length
  · have hb : ((f.length : Int) != (g.length : Int)) = false := by simp; omega
    go_enter Try.func29, Try.ntmps29
    go_wp2
    go_loopw [5] (fun i wr => ∃ k : Nat, k ≤ f.length ∧ i = .int .i64 k ∧ f.take k = g.take k ∧ Below w.heap.size w wr) (fun i _ => f.length - (intOf i).toNat)
    case atStart => exact ⟨0, Nat.zero_le _, rfl, by simp, Below.refl _ _⟩
    case round =>
      obtain ⟨k, hk, rfl, he, hB⟩ := hrel
      have He := hid he
      clear he
      by_cases hlt : k < f.length
      · obtain ⟨x, hx1⟩ : ∃ x, f[k]? = some x := ⟨_, List.getElem?_eq_getElem hlt⟩
        obtain ⟨y, hy1⟩ : ∃ y, g[k]? = some y := ⟨_, List.getElem?_eq_getElem (by omega)⟩
        obtain ⟨hidx, hcell⟩ := row_at1 (P := Try.prog) (t := 22) (by kernel_rfl) (fun _ => by kernel_rfl) h2 h3 h4.out hB cap k hlt (u := sv x) (by simp [hx1])
        obtain ⟨hidx', hcell'⟩ := row_at1 (P := Try.prog) (t := 22) (by kernel_rfl) (fun _ => by kernel_rfl) h2' h3' h4'.out hB cap' k (by omega) (u := sv y) (by simp [hy1])
        have Hx := hid hx1
        have Hy := hid hy1
        have Hn := hid hn
        clear hx1 hy1 hn
        by_cases hxy : x = y
        · have ht : (x == y) = true := by simp [hxy]
          have Hxy := hid hxy
          clear hxy
          go_wp2
          go_quiet (fail)
          go_wp2
          refine ⟨⟨k + 1, by omega, by go_num, same_step f g k x y Hx.out Hy.out He.out Hxy.out, below_drewN hB _⟩, by simp [intOf]; omega⟩
        · have ht : (x == y) = false := by simp [hxy]
          have hne : decide (f = g) = false := by
            simp only [decide_eq_false_iff_not]
            intro e
            rw [← e] at Hy
            have := Hx.out.symm.trans Hy.out
            simp at this
            exact hxy this
          replace hne := hid hne
          go_wp2
          go_quiet (fail)
          go_wp2
          go_ret
          exact ⟨ret_bool hne.out.symm, below_drewN hB _⟩
      · have e : decide (f = g) = true := by
          have := He.out
          rw [List.take_of_length_le (by omega), List.take_of_length_le (by omega)] at this
          simp [this]
        replace e := hid e
        go_wp2
        go_ret
        exact ⟨ret_bool e.out.symm, hB⟩
  · have hb : ((f.length : Int) != (g.length : Int)) = true := by simp; omega
    have hne : decide (f = g) = false := by
      simp only [decide_eq_false_iff_not]
      intro e; rw [e] at hn; exact hn rfl
    replace hne := hid hne
    go_enter Try.func29, Try.ntmps29
    go_wp2
    go_ret
    exact ⟨ret_bool hne.out.symm, Below.refl _ _⟩
end Go.Proofs.Ytmlcnmpfjallkaa
