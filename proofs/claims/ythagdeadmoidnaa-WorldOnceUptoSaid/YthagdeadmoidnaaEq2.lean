/- Effects and commands are equal, or not; the reference's count and Same. -/
import Derived.Test.YthagdeadmoidnaaEqual
import Derived.Test.YthagdeadmoidnaaNetFold
set_option linter.unusedVariables false
namespace Go.Proofs.Ythagdeadmoidnaa
open Go.RowKit
open Go.Lib (hid)
theorem cmd_eq {x y : Cmd} (h1 : x.key = y.key) (h2 : x.kind = y.kind) (h3 : x.of = y.of) (h4 : x.new = y.new) (h5 : x.name = y.name) : x = y ↔ x.args = y.args := by
  cases x; cases y
  simp only at h1 h2 h3 h4 h5
  subst h1 h2 h3 h4 h5
  simp
/-- two effects are equal, their ticks aside -/
def OutEq (x y : Out) : Prop := x.key = y.key ∧ x.name = y.name ∧ x.part = y.part ∧ x.args = y.args
theorem out_eq {x y : Out} (h1 : x.key = y.key) (h2 : x.name = y.name) (h3 : x.part = y.part) : OutEq x y ↔ x.args = y.args := by simp [OutEq, h1, h2, h3]

set_option maxHeartbeats 4000000 in
set_option maxRecDepth 100000 in
theorem sameCmd_of (x y : Cmd) (vx vy : Value) (w : World) (hs : ∀ W, Below w.heap.size w W → Calls Try.prog 34 #[vx, vy] W fun e w' => e = .returned (.bool (dec (x.args = y.args))) ∧ Below W.heap.size W w') : Calls Try.prog 21 #[.agg (cmdCs x vx).toArray, .agg (cmdCs y vy).toArray] w fun e w' => e = .returned (.bool (dec (x = y))) ∧ Below w.heap.size w w' := by
  have hb : Below w.heap.size w ((w.alloc (.cells (cmdCs x vx).toArray 32)).alloc (.cells (cmdCs y vy).toArray 32)) := ((Below.refl _ w).alloc (Nat.le_refl _) _).alloc (by simp) _
  replace hs := hid hs
  by_cases h0 : x.key = y.key
  · skip
    by_cases h1 : x.kind = y.kind
    · skip
      by_cases h2 : x.of = y.of
      · skip
        by_cases h3 : x.new = y.new
        · skip
          by_cases h4 : x.name = y.name
          · skip
            have hc := hid (dec_iff (cmd_eq h0 h1 h2 h3 h4))
            go_enter Try.func21, Try.ntmps21
            go_wp2_with fail
            refine (hs.out _ hb).mono ?_
            rintro e w3 ⟨rfl, hb3⟩
            cases hd : dec (x.args = y.args) with
            | true =>
              rw [hd] at hc
              go_wp2_with fail
              go_ret
              rw [hc.out]
              exact ⟨rfl, hb.trans (hb3.mono hb.size)⟩
            | false =>
              rw [hd] at hc
              go_wp2_with fail
              go_ret
              rw [hc.out]
              exact ⟨rfl, hb.trans (hb3.mono hb.size)⟩
          · skip
            have hne : dec (x = y) = false := dec_false (fun e => h4 (by rw [e]))
            rw [hne]
            go_enter Try.func21, Try.ntmps21
            go_wp2_with fail
            all_goals
              go_ret
              exact ⟨rfl, hb⟩
        · skip
          have hne : dec (x = y) = false := dec_false (fun e => h3 (by rw [e]))
          rw [hne]
          go_enter Try.func21, Try.ntmps21
          go_wp2_with fail
          all_goals
            go_ret
            exact ⟨rfl, hb⟩
      · skip
        have hne : dec (x = y) = false := dec_false (fun e => h2 (by rw [e]))
        rw [hne]
        go_enter Try.func21, Try.ntmps21
        go_wp2_with fail
        all_goals
          go_ret
          exact ⟨rfl, hb⟩
    · skip
      have hne : dec (x = y) = false := dec_false (fun e => h1 (by rw [e]))
      rw [hne]
      go_enter Try.func21, Try.ntmps21
      go_wp2_with fail
      all_goals
        go_ret
        exact ⟨rfl, hb⟩
  · skip
    have hne : dec (x = y) = false := dec_false (fun e => h0 (by rw [e]))
    rw [hne]
    go_enter Try.func21, Try.ntmps21
    go_wp2_with fail
    all_goals
      go_ret
      exact ⟨rfl, hb⟩

set_option maxHeartbeats 4000000 in
set_option maxRecDepth 100000 in
theorem rEqOut_of (x y : Out) (vx vy : Value) (w : World) (hs : ∀ W, Below w.heap.size w W → Calls Try.prog 34 #[vx, vy] W fun e w' => e = .returned (.bool (dec (x.args = y.args))) ∧ Below W.heap.size W w') : Calls Try.prog 45 #[.agg (outCs x vx).toArray, .agg (outCs y vy).toArray, .bool false] w fun e w' => e = .returned (.bool (dec (OutEq x y))) ∧ Below w.heap.size w w' := by
  have hb : Below w.heap.size w ((w.alloc (.cells (outCs x vx).toArray 54)).alloc (.cells (outCs y vy).toArray 54)) := ((Below.refl _ w).alloc (Nat.le_refl _) _).alloc (by simp) _
  replace hs := hid hs
  by_cases h0 : x.key = y.key
  · skip
    by_cases h1 : x.name = y.name
    · skip
      by_cases h2 : x.part = y.part
      · skip
        have b2 : (x.part == y.part) = true := by simpa using h2
        have hc := hid (dec_iff (out_eq h0 h1 h2))
        go_enter Try.func45, Try.ntmps45
        go_wp2_with fail
        refine (hs.out _ hb).mono ?_
        rintro e w3 ⟨rfl, hb3⟩
        cases hd : dec (x.args = y.args) with
        | true =>
          rw [hd] at hc
          go_wp2_with fail
          go_ret
          rw [hc.out]
          exact ⟨rfl, hb.trans (hb3.mono hb.size)⟩
        | false =>
          rw [hd] at hc
          go_wp2_with fail
          go_ret
          rw [hc.out]
          exact ⟨rfl, hb.trans (hb3.mono hb.size)⟩
      · skip
        have b2 : (x.part == y.part) = false := by simpa using h2
        have hne : dec (OutEq x y) = false := dec_false (fun e => h2 e.2.2.1)
        rw [hne]
        go_enter Try.func45, Try.ntmps45
        go_wp2_with fail
        all_goals
          go_ret
          exact ⟨rfl, hb⟩
    · skip
      have hne : dec (OutEq x y) = false := dec_false (fun e => h1 e.2.1)
      rw [hne]
      go_enter Try.func45, Try.ntmps45
      go_wp2_with fail
      all_goals
        go_ret
        exact ⟨rfl, hb⟩
  · skip
    have hne : dec (OutEq x y) = false := dec_false (fun e => h0 e.1)
    rw [hne]
    go_enter Try.func45, Try.ntmps45
    go_wp2_with fail
    all_goals
      go_ret
      exact ⟨rfl, hb⟩

set_option maxHeartbeats 4000000 in
set_option maxRecDepth 100000 in
theorem nEqOut_of (x y : Out) (vx vy : Value) (w : World) (hs : ∀ W, Below w.heap.size w W → Calls Try.prog 51 #[vx, vy] W fun e w' => e = .returned (.bool (dec (x.args = y.args))) ∧ Below W.heap.size W w') : Calls Try.prog 38 #[.agg (outCs x vx).toArray, .agg (outCs y vy).toArray] w fun e w' => e = .returned (.bool (dec (OutEq x y))) ∧ Below w.heap.size w w' := by
  have hb : Below w.heap.size w ((w.alloc (.cells (outCs x vx).toArray 54)).alloc (.cells (outCs y vy).toArray 54)) := ((Below.refl _ w).alloc (Nat.le_refl _) _).alloc (by simp) _
  replace hs := hid hs
  by_cases h0 : x.key = y.key
  · skip
    by_cases h1 : x.name = y.name
    · skip
      by_cases h2 : x.part = y.part
      · skip
        have b2 : (x.part == y.part) = true := by simpa using h2
        have hc := hid (dec_iff (out_eq h0 h1 h2))
        go_enter Try.func38, Try.ntmps38
        go_wp2_with fail
        refine (hs.out _ hb).mono ?_
        rintro e w3 ⟨rfl, hb3⟩
        cases hd : dec (x.args = y.args) with
        | true =>
          rw [hd] at hc
          go_wp2_with fail
          go_ret
          rw [hc.out]
          exact ⟨rfl, hb.trans (hb3.mono hb.size)⟩
        | false =>
          rw [hd] at hc
          go_wp2_with fail
          go_ret
          rw [hc.out]
          exact ⟨rfl, hb.trans (hb3.mono hb.size)⟩
      · skip
        have b2 : (x.part == y.part) = false := by simpa using h2
        have hne : dec (OutEq x y) = false := dec_false (fun e => h2 e.2.2.1)
        rw [hne]
        go_enter Try.func38, Try.ntmps38
        go_wp2_with fail
        all_goals
          go_ret
          exact ⟨rfl, hb⟩
    · skip
      have hne : dec (OutEq x y) = false := dec_false (fun e => h1 e.2.1)
      rw [hne]
      go_enter Try.func38, Try.ntmps38
      go_wp2_with fail
      all_goals
        go_ret
        exact ⟨rfl, hb⟩
  · skip
    have hne : dec (OutEq x y) = false := dec_false (fun e => h0 e.1)
    rw [hne]
    go_enter Try.func38, Try.ntmps38
    go_wp2_with fail
    all_goals
      go_ret
      exact ⟨rfl, hb⟩

theorem sameCmd_any (x y : Cmd) (hx : ValsB x.args) (hy : ValsB y.args) (S T : Foot) (ca cb : List Value) (w : World) (h1 : CmdR S w x ca) (h2 : CmdR T w y cb) : Calls Try.prog 21 #[.agg ca.toArray, .agg cb.toArray] w fun e w' => e = .returned (.bool (dec (x = y))) ∧ Below w.heap.size w w' := by
  obtain ⟨a1, k1, rfl, q1⟩ := h1
  obtain ⟨a2, k2, rfl, q2⟩ := h2
  exact sameCmd_of x y _ _ w (fun W hW => rSame_any x.args y.args hx hy S T _ _ W (q1.below goodVal hW) (q2.below goodVal hW))
theorem rEqOut_any (x y : Out) (hx : ValsB x.args) (hy : ValsB y.args) (S T : Foot) (ca cb : List Value) (w : World) (h1 : OutR S w x ca) (h2 : OutR T w y cb) : Calls Try.prog 45 #[.agg ca.toArray, .agg cb.toArray, .bool false] w fun e w' => e = .returned (.bool (dec (OutEq x y))) ∧ Below w.heap.size w w' := by
  obtain ⟨a1, k1, rfl, q1⟩ := h1
  obtain ⟨a2, k2, rfl, q2⟩ := h2
  exact rEqOut_of x y _ _ w (fun W hW => rSame_any x.args y.args hx hy S T _ _ W (q1.below goodVal hW) (q2.below goodVal hW))
theorem nEqOut_any (x y : Out) (hx : ValsB x.args) (hy : ValsB y.args) (S T : Foot) (ca cb : List Value) (w : World) (h1 : OutR S w x ca) (h2 : OutR T w y cb) : Calls Try.prog 38 #[.agg ca.toArray, .agg cb.toArray] w fun e w' => e = .returned (.bool (dec (OutEq x y))) ∧ Below w.heap.size w w' := by
  obtain ⟨a1, k1, rfl, q1⟩ := h1
  obtain ⟨a2, k2, rfl, q2⟩ := h2
  exact nEqOut_of x y _ _ w (fun W hW => vSame_any x.args y.args hx hy S T _ _ W (q1.below goodVal hW) (q2.below goodVal hW))
set_option maxHeartbeats 4000000 in
set_option maxRecDepth 100000 in
theorem sameCmds_of (x y : List Cmd) (S T : Foot) (vx vy : Value) (w : World) (hx : SlR 6 CmdR S w x vx) (hy : SlR 6 CmdR T w y vy) (hl : x.length ≤ 1048576) (hly : y.length ≤ 1048576)
    (he : ∀ a ∈ x, ∀ b ∈ y, ∀ (S T : Foot) (ca cb : List Value) (W : World), CmdR S W a ca → CmdR T W b cb → Calls Try.prog 21 #[.agg ca.toArray, .agg cb.toArray] W fun e w' => e = .returned (.bool (dec (a = b))) ∧ Below W.heap.size W w') :
    Calls Try.prog 14 #[vx, vy] w fun e w' => e = .returned (.bool (dec (x = y))) ∧ Below w.heap.size w w' := by
  obtain ⟨ax, kx, rfl, -⟩ := hx.slice
  obtain ⟨ay, ky, rfl, hky⟩ := hy.slice
  replace hx := hid hx
  replace hy := hid hy
  replace he := hid he
  generalize hr : dec (x = y) = r
  replace hr := hid hr
  by_cases hlen : x.length = y.length
  · rw [← hlen] at hy hky ⊢
    replace hlen := hid hlen
    go_enter Try.func14, Try.ntmps14
    go_wp2
    go_loopw [5] (fun i wr => ∃ k : Nat, i = .int .i64 k ∧ k ≤ x.length ∧ x.take k = y.take k ∧ Below w.heap.size w wr) (fun i _ => x.length - (intOf i).toNat)
    case atStart => exact ⟨0, rfl, Nat.zero_le _, rfl, Below.refl _ _⟩
    case round =>
      obtain ⟨k, rfl, hk, ht, hB⟩ := hrel
      replace ht := hid ht
      by_cases hlt : k < x.length
      · obtain ⟨a, ha⟩ : ∃ a, x[k]? = some a := ⟨_, List.getElem?_eq_getElem hlt⟩
        obtain ⟨b, hb⟩ : ∃ b, y[k]? = some b := ⟨_, List.getElem?_eq_getElem (by rw [← hlen.out]; exact hlt)⟩
        obtain ⟨g, o, cs, hidx, hS, hg, hc, hR⟩ := (hx.out.below goodCmd hB).at (P := Try.prog) (t := 36) (by kernel_rfl) (fun _ => by kernel_rfl) ha
        obtain ⟨g2, o2, cs2, hidx2, hS2, hg2, hc2, hR2⟩ := (hy.out.below goodCmd hB).at (P := Try.prog) (t := 36) (by kernel_rfl) (fun _ => by kernel_rfl) hb
        have hdr : Below wr.heap.size wr wr.drew := (Below.refl _ _).drew
        have hcall := hid (he.out a (List.mem_of_getElem? ha) b (List.mem_of_getElem? hb) _ _ _ _ _ (goodCmd.below hR hdr) (goodCmd.below hR2 hdr))
        obtain ⟨a1, k1, rfl, -⟩ := id hR
        obtain ⟨a2, k2, rfl, -⟩ := id hR2
        have c0 := hc 0 _ rfl
        have c1 := hc 1 _ rfl
        have c2 := hc 2 _ rfl
        have c3 := hc 3 _ rfl
        have c4 := hc 4 _ rfl
        have c5 := hc 5 _ rfl
        have d0 := hc2 0 _ rfl
        have d1 := hc2 1 _ rfl
        have d2 := hc2 2 _ rfl
        have d3 := hc2 3 _ rfl
        have d4 := hc2 4 _ rfl
        have d5 := hc2 5 _ rfl
        rw [Nat.add_zero] at c0 d0
        clear hc hc2 hR hR2 hdr
        replace ha := hid ha
        replace hb := hid hb
        go_wp2_with fail
        go_still_tail 8, (by kernel_rfl)
        go_wp2_with fail
        refine hcall.out.mono ?_
        rintro e w2 ⟨rfl, hb2⟩
        have hB2 := hB.trans ((show Below wr.heap.size wr w2 from ((Below.refl _ _).drew).trans hb2).mono hB.size)
        clear c0 c1 c2 c3 c4 c5 d0 d1 d2 d3 d4 d5 hcall hb2 hidx hidx2
        rcases dec_cases (a = b) with ⟨hab, hd⟩ | ⟨hab, hd⟩
        · rw [hd]
          have hnx := hid (take_eq_succ ht.out ha.out hb.out hab)
          clear hab hd
          go_wp2
          exact ⟨⟨k + 1, by go_num, by omega, hnx.out, hB2⟩, by simp [intOf]; omega⟩
        · rw [hd]
          have hne : dec (x = y) = false := dec_false (fun e => hab (by have h1 := ha.out; rw [e, hb.out] at h1; injection h1 with h1; exact h1.symm))
          rw [hr.out] at hne
          replace hne := hid hne
          clear hab hd
          go_wp2
          go_ret
          exact ⟨by rw [hne.out]; rfl, hB2⟩
      · have hkl : k = x.length := by omega
        subst hkl
        have heq : dec (x = y) = true := dec_true (by have := ht.out; rw [List.take_of_length_le (Nat.le_refl _), List.take_of_length_le (by rw [hlen.out]; exact Nat.le_refl _)] at this; exact this)
        rw [hr.out] at heq
        replace heq := hid heq
        go_wp2
        go_ret
        exact ⟨by rw [heq.out]; rfl, hB⟩
  · have hne : dec (x = y) = false := dec_false (fun e => hlen (by rw [e]))
    have hne2 : ((x.length : Int) == (y.length : Int)) = false := by simp; omega
    rw [hr.out] at hne
    replace hne := hid hne
    go_enter Try.func14, Try.ntmps14
    go_wp2
    go_ret
    exact ⟨by rw [hne.out]; rfl, Below.refl _ _⟩
theorem sameCmds_any (x y : List Cmd) (hlx : x.length ≤ 1048576) (hly : y.length ≤ 1048576) (hx : ∀ c ∈ x, ValsB c.args) (hy : ∀ c ∈ y, ValsB c.args) (S T : Foot) (vx vy : Value) (w : World) (h1 : SlR 6 CmdR S w x vx) (h2 : SlR 6 CmdR T w y vy) : Calls Try.prog 14 #[vx, vy] w fun e w' => e = .returned (.bool (dec (x = y))) ∧ Below w.heap.size w w' :=
  sameCmds_of x y S T vx vy w h1 h2 hlx hly fun a ha b hb S T ca cb W h1 h2 => sameCmd_any a b (hx a ha) (hy b hb) S T ca cb W h1 h2
end Go.Proofs.Ythagdeadmoidnaa
