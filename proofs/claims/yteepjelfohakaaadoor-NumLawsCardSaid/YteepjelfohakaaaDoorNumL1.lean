/- Chapter 01 (num): the law NumLaws. -/
import Derived.Test.YteepjelfohakaaaDoorNumL0
set_option linter.unusedVariables false
namespace Go.Proofs.YteepjelfohakaaaDoor
open Go.RowKit
open Go.Lib (hid itoa)

set_option maxRecDepth 100000 in
set_option maxHeartbeats 8000000 in
theorem NumLaws_walk (a b c : Int) (w : World) (ht : Hid (Tab w)) : Calls Tryd.prog 4 #[iv a, iv b, iv c] w fun e w' => e = .returned (.bool true) ∧ Below w.heap.size w w' := by
  go_enter Tryd.func4, Tryd.ntmps4
  go_wp2_with fail
  refine (small_any w ht).mono ?_
  rintro e w1 ⟨rfl, hB⟩
  clear ht
  go_wp2_with fail
  refine (add_any a b _).mono ?_
  rintro e w2 ⟨rfl, rfl⟩
  go_wp2_with fail
  refine (add_any b a _).mono ?_
  rintro e w2 ⟨rfl, rfl⟩
  rw [(add_comm' b a).1, (add_comm' b a).2]
  go_wp2_with fail
  refine (same_yes _ _ _).mono ?_
  rintro e w2 ⟨rfl, rfl⟩
  go_wp2_with fail
  refine (mul_any a b _).mono ?_
  rintro e w2 ⟨rfl, rfl⟩
  go_wp2_with fail
  refine (mul_any b a _).mono ?_
  rintro e w2 ⟨rfl, rfl⟩
  rw [(mul_comm' b a).1, (mul_comm' b a).2]
  go_wp2_with fail
  refine (same_yes _ _ _).mono ?_
  rintro e w2 ⟨rfl, rfl⟩
  go_wp2_with fail
  refine (neg_any a _).mono ?_
  rintro e w2 ⟨rfl, rfl⟩
  go_wp2_with fail
  refine (sub_any 0 a _).mono ?_
  rintro e w2 ⟨rfl, rfl⟩
  rw [← (neg_sub a).1, ← (neg_sub a).2]
  go_wp2_with fail
  refine (same_yes _ _ _).mono ?_
  rintro e w2 ⟨rfl, rfl⟩
  cases hok : add2 a b with
  | false =>
    go_wp2_with fail
    refine (add_any b c _).mono ?_
    rintro e w2 ⟨rfl, rfl⟩
    go_wp2_with fail
    refine (mul_any a c _).mono ?_
    rintro e w2 ⟨rfl, rfl⟩
    cases hone : mul2 a b with
    | false => 
      go_wp2_with fail
      go_ret
      exact ⟨rfl, hB⟩
    | true =>
      cases hsix : mul2 a c with
      | false =>
        go_wp2_with fail
        go_ret
        exact ⟨rfl, hB⟩
      | true =>
        cases hfive : add2 b c with
        | false =>
          go_wp2_with fail
          go_ret
          exact ⟨rfl, hB⟩
        | true =>
          have hd := hid (mul_add' hone hsix hfive)
          go_wp2_with fail
          refine (add_any (mul1 a b) (mul1 a c) _).mono ?_
          rintro e w2 ⟨rfl, rfl⟩
          rw [hd.out.1, hd.out.2]
          go_wp2_with fail
          refine (mul_any a (add1 b c) _).mono ?_
          rintro e w2 ⟨rfl, rfl⟩
          go_wp2_with fail
          refine (same_yes _ _ _).mono ?_
          rintro e w2 ⟨rfl, rfl⟩
          go_wp2_with fail
          go_ret
          exact ⟨rfl, hB⟩
  | true =>
    obtain ⟨s1, s2, s3, s4⟩ := sub_back hok
    go_wp2_with fail
    refine (sub_any (add1 a b) b _).mono ?_
    rintro e w2 ⟨rfl, rfl⟩
    rw [s1, s2]
    clear s1 s2
    go_wp2_with fail
    refine (add_any b c _).mono ?_
    rintro e w2 ⟨rfl, rfl⟩
    go_wp2_with fail
    refine (mul_any a c _).mono ?_
    rintro e w2 ⟨rfl, rfl⟩
    cases hfive : add2 b c with
    | false =>
      cases hone : mul2 a b with
      | false =>
        go_wp2_with fail
        go_ret
        exact ⟨rfl, hB⟩
      | true =>
        cases hsix : mul2 a c with
        | false =>
          go_wp2_with fail
          go_ret
          exact ⟨rfl, hB⟩
        | true =>
          go_wp2_with fail
          go_ret
          exact ⟨rfl, hB⟩
    | true =>
      have hs := hid (add_assoc' hok hfive)
      go_wp2_with fail
      refine (add_any (add1 a b) c _).mono ?_
      rintro e w2 ⟨rfl, rfl⟩
      rw [hs.out.1, hs.out.2]
      go_wp2_with fail
      refine (add_any a (add1 b c) _).mono ?_
      rintro e w2 ⟨rfl, rfl⟩
      go_wp2_with fail
      refine (same_yes _ _ _).mono ?_
      rintro e w2 ⟨rfl, rfl⟩
      cases hone : mul2 a b with
      | false =>
        go_wp2_with fail
        go_ret
        exact ⟨rfl, hB⟩
      | true =>
        cases hsix : mul2 a c with
        | false =>
          go_wp2_with fail
          go_ret
          exact ⟨rfl, hB⟩
        | true =>
          have hd := hid (mul_add' hone hsix hfive)
          go_wp2_with fail
          refine (add_any (mul1 a b) (mul1 a c) _).mono ?_
          rintro e w2 ⟨rfl, rfl⟩
          rw [hd.out.1, hd.out.2]
          go_wp2_with fail
          refine (mul_any a (add1 b c) _).mono ?_
          rintro e w2 ⟨rfl, rfl⟩
          go_wp2_with fail
          refine (same_yes _ _ _).mono ?_
          rintro e w2 ⟨rfl, rfl⟩
          go_wp2_with fail
          go_ret
          exact ⟨rfl, hB⟩
end Go.Proofs.YteepjelfohakaaaDoor
