/- Chapter 02 (code): walks: the reference's Nums, SameInts. -/
import Derived.Test.YtmlcnmpfjallkaaCodeW4
set_option linter.unusedVariables false
namespace Go.Proofs.Ytmlcnmpfjallkaa
open Go.RowKit
open Go.Lib (hid IsBuilder byteCells)

set_option maxHeartbeats 400000 in
theorem rnums_any (ss : List Int) (v : Value) (w : World) (hr : Row w.heap.size w 1 v ss.length (ss.map iv)) (hs : (msenc ss).length ≤ 1000000000) (hl : ss.length ≤ 1000000000) :
    Calls Try.prog 20 #[v] w fun e w' => e = .returned (sv (msenc ss)) ∧ Below w.heap.size w w' := by
  obtain ⟨a, cap, b, off, rfl, h2, h3, h4⟩ := hr
  have hb2 := (venc_bound ss.length (by omega)).2
  have hT : (msenc ss).length = (venc ss.length).length + ((ss.map ienc).flatten).length := by simp only [msenc, List.length_append]
  have HT := hid hT
  clear hT
  go_enter Try.func20, Try.ntmps20
  go_wp2_with (go_at_call 12; refine (rnum_pos _ _ (by omega) (by omega)).mono ?_; rw [Int.toNat_natCast]; rintro e w1 ⟨rfl, hb1⟩)
  go_loopw [3, 4] (fun s i wr => ∃ k : Nat, k ≤ ss.length ∧ i = .int .i64 k ∧ s = sv (venc ss.length ++ ((ss.take k).map ienc).flatten) ∧ Below w.heap.size w wr) (fun _ i _ => ss.length - (intOf i).toNat)
  case atStart => exact ⟨0, Nat.zero_le _, rfl, by simp, hb1⟩
  case round =>
    obtain ⟨k, hk, rfl, rfl, hB⟩ := hrel
    clear hb1
    have hsz := hB.size
    by_cases hlt : k < ss.length
    · obtain ⟨x, hx1⟩ : ∃ x, ss[k]? = some x := ⟨_, List.getElem?_eq_getElem hlt⟩
      have hfl := flat_snoc ienc ss k x hx1
      have hle := flat_take ienc ss (k + 1)
      rw [hfl, List.length_append] at hle
      have hT2 := HT.out
      obtain ⟨hidx, hcell⟩ := row_at1 (P := Try.prog) (t := 23) (by kernel_rfl) (fun _ => by kernel_rfl) h2 h3 h4 hB cap k hlt (u := iv x) (by simp [hx1])
      have hto : (venc ss.length ++ ((ss.take k).map ienc).flatten).length + (ienc x).length ≤ 1000000000 := by
        rw [List.length_append]; omega
      have Hfl := hid hfl
      clear hfl hT2 hx1
      generalize hacc : venc ss.length ++ ((ss.take k).map ienc).flatten = acc at *
      have Hacc := hid hacc
      clear hacc
      go_wp2_with (go_at_call 14; refine (rint_any x _).mono ?_; rintro e w1 ⟨rfl, hb1⟩)
      refine ⟨⟨k + 1, by omega, by go_num, ?_, hB.trans (hb1.mono (by omega))⟩, by simp [intOf]; omega⟩
      rw [Hfl.out, ← List.append_assoc, Hacc.out, ByteArray.mk_append_mk]
    · have hkl : k = ss.length := by omega
      subst hkl
      rw [List.take_length]
      go_wp2
      go_ret
      exact ⟨rfl, hB⟩

theorem same_stepI (f : List Int) (g : List Int) (k : Nat) (x y : Int) (hx : f[k]? = some x) (hy : g[k]? = some y) (h : f.take k = g.take k) (e : x = y) : f.take (k + 1) = g.take (k + 1) := by
  rw [List.take_add_one, List.take_add_one, hx, hy, h, e]

set_option maxHeartbeats 400000 in
theorem sameInts (f g : List Int) (v u : Value) (w : World) (hr : Row w.heap.size w 1 v f.length (f.map iv)) (hu : Row w.heap.size w 1 u g.length (g.map iv)) (hl : f.length ≤ 140737488355328) :
    Calls Try.prog 32 #[v, u] w fun e w' => e = .returned (.bool (decide (f = g))) ∧ Below w.heap.size w w' := by
  obtain ⟨a, cap, b, off, rfl, h2, h3, h4⟩ := hr
  replace h4 := hid h4
  obtain ⟨a', cap', b', off', rfl, h2', h3', h4'⟩ := hu
  replace h4' := hid h4'
  by_cases hn : f.length = g.length
  · have hb : ((f.length : Int) != (g.length : Int)) = false := by simp; omega
    go_enter Try.func32, Try.ntmps32
    go_wp2
    go_loopw [5] (fun i wr => ∃ k : Nat, k ≤ f.length ∧ i = .int .i64 k ∧ f.take k = g.take k ∧ Below w.heap.size w wr) (fun i _ => f.length - (intOf i).toNat)
    case atStart => exact ⟨0, Nat.zero_le _, rfl, by simp, Below.refl _ _⟩
    case round =>
      obtain ⟨k, hk, rfl, he, hB⟩ := hrel
      have He := hid he
      clear he
      by_cases hlt : k < f.length
      · obtain ⟨x, hx1⟩ : ∃ x, f[k]? = some x := ⟨_, List.getElem?_eq_getElem hlt⟩
        obtain ⟨y, hy1⟩ : ∃ y, g[k]? = some y := ⟨_, List.getElem?_eq_getElem (by omega)⟩
        obtain ⟨hidx, hcell⟩ := row_at1 (P := Try.prog) (t := 23) (by kernel_rfl) (fun _ => by kernel_rfl) h2 h3 h4.out hB cap k hlt (u := iv x) (by simp [hx1])
        obtain ⟨hidx', hcell'⟩ := row_at1 (P := Try.prog) (t := 23) (by kernel_rfl) (fun _ => by kernel_rfl) h2' h3' h4'.out hB cap' k (by omega) (u := iv y) (by simp [hy1])
        have Hx := hid hx1
        have Hy := hid hy1
        have Hn := hid hn
        clear hx1 hy1 hn
        by_cases hxy : x = y
        · have ht : (x == y) = true := by simp [hxy]
          have Hxy := hid hxy
          clear hxy
          go_wp2
          go_quiet (fail)
          go_wp2
          refine ⟨⟨k + 1, by omega, by go_num, same_stepI f g k x y Hx.out Hy.out He.out Hxy.out, below_drewN hB _⟩, by simp [intOf]; omega⟩
        · have ht : (x == y) = false := by simp [hxy]
          have hne : decide (f = g) = false := by
            simp only [decide_eq_false_iff_not]
            intro e
            rw [← e] at Hy
            have := Hx.out.symm.trans Hy.out
            simp at this
            exact hxy this
          replace hne := hid hne
          go_wp2
          go_quiet (fail)
          go_wp2
          go_ret
          exact ⟨ret_bool hne.out.symm, below_drewN hB _⟩
      · have e : decide (f = g) = true := by
          have := He.out
          rw [List.take_of_length_le (by omega), List.take_of_length_le (by omega)] at this
          simp [this]
        replace e := hid e
        go_wp2
        go_ret
        exact ⟨ret_bool e.out.symm, hB⟩
  · have hb : ((f.length : Int) != (g.length : Int)) = true := by simp; omega
    have hne : decide (f = g) = false := by
      simp only [decide_eq_false_iff_not]
      intro e; rw [e] at hn; exact hn rfl
    replace hne := hid hne
    go_enter Try.func32, Try.ntmps32
    go_wp2
    go_ret
    exact ⟨ret_bool hne.out.symm, Below.refl _ _⟩
end Go.Proofs.Ytmlcnmpfjallkaa
