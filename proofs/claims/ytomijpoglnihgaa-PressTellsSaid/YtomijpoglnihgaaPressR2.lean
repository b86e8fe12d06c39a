/- press: the reference's literal and Pack. -/
import Derived.Test.YtomijpoglnihgaaPressR1
import Derived.Test.YtomijpoglnihgaaPressW5
set_option linter.unusedVariables false
namespace Go.Proofs.Ytomijpoglnihgaa
open Go.RowKit
open Go.Lib (hid byteCells)
def litE (s : List UInt8) : List UInt8 := if s = [] then [] else venc (2 * s.length) ++ s
theorem encs_litE (s : List UInt8) {a b : Nat} (hb : b ≤ s.length) : encs (litT s a b) = litE ((s.take b).drop a) := by
  unfold litE
  have hl : ((s.take b).drop a).length = b - a := by simp; omega
  by_cases h : a < b
  · rw [if_neg (by intro e; rw [e] at hl; simp at hl; omega), encs_lit h hb, hl]
  · rw [if_pos (by rw [← List.length_eq_zero_iff, hl]; omega)]; simp [litT, h, encs]
theorem rnum_nat (n : Nat) (w : World) (h : n < 9223372036854775808) :
    Calls Try.prog 27 #[iv n] w fun e w' => e = .returned (sv (venc n)) ∧ Below w.heap.size w w' := by
  have := rnum_any (n : Int) w (by omega)
  have hv : nenc (n : Int) = venc n := by unfold nenc; rw [if_neg (by omega), Int.toNat_natCast]
  rw [hv] at this
  exact this
set_option maxHeartbeats 2000000 in
set_option maxRecDepth 100000 in
theorem rliteral_any (s : List UInt8) (w : World) (hs : s.length ≤ 16777216) :
    Calls Try.prog 29 #[sv s] w fun e w' => e = .returned (sv (litE s)) ∧ Below w.heap.size w w' := by
  rcases s with _ | ⟨c, r⟩
  · go_enter Try.func29, Try.ntmps29
    go_wp2_with fail
    go_ret
    exact ⟨rfl, Below.refl _ _⟩
  · have hres : litE (c :: r) = venc (2 * (r.length + 1)) ++ c :: r := by unfold litE; rw [if_neg (by simp)]; rfl
    generalize litE (c :: r) = res at *
    have hn := rnum_nat (2 * (r.length + 1)) w (by rw [List.length_cons] at hs; omega)
    have hvl := venc_small (2 * (r.length + 1))
    have hrl : r.length + 1 ≤ 16777216 := hs
    rw [show ((2 * (r.length + 1) : Nat) : Int) = 2 * ((r.length : Int) + 1) by omega] at hn
    generalize venc (2 * (r.length + 1)) = V at *
    replace hn := hid hn
    replace hres := hid hres
    go_enter Try.func29, Try.ntmps29
    go_wp2_with fail
    refine hn.out.mono ?_
    rintro e w1 ⟨rfl, hb⟩
    go_wp2_with fail
    go_ret
    exact ⟨by rw [hres.out, ByteArray.mk_append_mk]; simp, hb⟩
set_option maxHeartbeats 2000000 in
set_option maxRecDepth 100000 in
theorem rpack_any (s : List UInt8) (w : World) (hs : s.length ≤ 1000000) :
    Calls Try.prog 13 #[sv s] w fun e w' => e = .returned (sv (packF s)) ∧ Below w.heap.size w w' := by
  have hres : packF s = venc s.length ++ encs (parse s s.length 0 0) := by unfold packF; rw [if_neg (by omega)]
  generalize packF s = res at *
  have q1 : decide (16777216 < (s.length : Int)) = false := decide_eq_false (by omega)
  have hn := rnum_nat s.length w (by omega)
  have hvl := venc_small s.length
  generalize venc s.length = V at *
  replace hn := hid hn
  replace hres := hid hres
  go_enter Try.func13, Try.ntmps13
  go_wp2_with fail
  refine hn.out.mono ?_
  rintro e w1 ⟨rfl, hb1⟩
  replace hb1 := hid hb1
  clear hn
  go_wp2_with fail
  go_loopw [3, 4, 5] (fun ov av bv wr => ∃ (a i f : Nat) (acc : List UInt8), ov = sv acc ∧ av = .int .i64 a ∧ bv = .int .i64 i ∧ a ≤ i ∧ i ≤ s.length ∧ s.length - i ≤ f ∧ acc.length ≤ 9 + 40 * a ∧ Hid (Below w.heap.size w wr) ∧ Hid (res = acc ++ encs (parse s f a i))) (fun _ _ bv _ => s.length - (intOf bv).toNat)
  case atStart => exact ⟨0, 0, s.length, V, rfl, rfl, rfl, Nat.le_refl _, Nat.zero_le _, Nat.le_refl _, by omega, hb1, hres⟩
  case round =>
    clear hb1 hres hvl
    obtain ⟨a, i, f, acc, rfl, rfl, rfl, hai, hil, hf, hal, hB, hres⟩ := hrel
    have i1 : (a : Int) ≤ (i : Int) := by omega
    have i2 : (i : Int) ≤ (s.length : Int) := by omega
    have i3 : (a : Int) ≤ (s.length : Int) := by omega
    by_cases hlt : i < s.length
    · obtain ⟨f, rfl⟩ : ∃ g, f = g + 1 := ⟨f - 1, by omega⟩
      have q2 : decide ((i : Int) < (s.length : Int)) = true := decide_eq_true (by omega)
      have hlong := rlongest_any s (by omega) i wr hlt
      have hrs := hres.out
      rw [parse, if_neg (by omega)] at hrs
      clear hres
      by_cases hk : (longF s i).1 < 4
      · rw [if_pos hk] at hrs
        generalize longF s i = kd at *
        obtain ⟨k, d⟩ := kd
        simp only at hlong hk
        have q3 : decide ((k : Int) < 4) = true := decide_eq_true (by omega)
        have q3' : decide (k < 4) = true := decide_eq_true (by omega)
        clear hk
        replace hlong := hid hlong
        replace hrs := hid hrs
        go_wp2_with fail
        refine hlong.out.mono ?_
        rintro e w2 ⟨rfl, hb2⟩
        have hB2 := hid (hB.out.trans (hb2.mono hB.out.size))
        clear hlong hB hb2
        go_wp2_with fail
        exact ⟨⟨a, i + 1, f, acc, rfl, rfl, rfl, by omega, by omega, by omega, hal, hB2, hrs⟩, by simp only [intOf]; omega⟩
      · rw [if_neg hk] at hrs
        have hle := longF_le s i
        have hd := (longF_ok (s := s) (i := i) (by omega)).2.2.2
        generalize longF s i = kd at *
        obtain ⟨k, d⟩ := kd
        simp only at hlong hrs hle hk hd
        have hea : encs (litT s a i ++ [.mat k d] ++ parse s f (i + k) (i + k)) = litE ((s.take i).drop a) ++ (venc (2 * k + 1) ++ venc d) ++ encs (parse s f (i + k) (i + k)) := by rw [← encs_litE s hil]; simp [encs, Tok.enc]
        rw [hea] at hrs
        clear hea
        have q3 : decide ((k : Int) < 4) = false := decide_eq_false (by omega)
        have q3' : decide (k < 4) = false := decide_eq_false (by omega)
        have hex : (ByteArray.mk s.toArray).extract a i = ⟨((s.take i).drop a).toArray⟩ := ext_mid s a i
        have hel : (litE ((s.take i).drop a)).length ≤ 9 + (i - a) := by
          have hl : ((s.take i).drop a).length = i - a := by simp; omega
          unfold litE
          split
          · simp
          · have := venc_small (2 * ((s.take i).drop a).length)
            rw [List.length_append]; omega
        have hlit := fun w => rliteral_any ((s.take i).drop a) w (by simp; omega)
        have hn1 := fun w => rnum_nat (2 * k + 1) w (by omega)
        rw [show ((2 * k + 1 : Nat) : Int) = 2 * (k : Int) + 1 by omega] at hn1
        have hn2 := fun w => rnum_nat d w (by omega)
        have hv1 := venc_small (2 * k + 1)
        have hv2 := venc_small d
        generalize litE ((s.take i).drop a) = A at *
        generalize venc (2 * k + 1) = V1 at *
        generalize venc d = V2 at *
        have hu : Hid (acc.length + A.length + V1.length + V2.length ≤ 9 + 40 * (i + k)) := hid (by omega)
        have b1 : acc.length ≤ 40000009 := by omega
        have b2 : A.length ≤ 1000009 := by omega
        have hk4 : 4 ≤ k := by omega
        clear hk hel
        replace hlong := hid hlong
        replace hrs := hid hrs
        replace hlit := hid hlit
        replace hn1 := hid hn1
        replace hn2 := hid hn2
        go_wp2_with fail
        refine hlong.out.mono ?_
        rintro e w2 ⟨rfl, hb2⟩
        have hB2 := hid (hB.out.trans (hb2.mono hB.out.size))
        clear hlong hB hb2
        go_wp2_with fail
        refine (hlit.out w2).mono ?_
        rintro e w3 ⟨rfl, hb3⟩
        have hB3 := hid (hB2.out.trans (hb3.mono hB2.out.size))
        clear hlit hB2 hb3
        go_wp2_with fail
        refine (hn1.out w3).mono ?_
        rintro e w4 ⟨rfl, hb4⟩
        have hB4 := hid (hB3.out.trans (hb4.mono hB3.out.size))
        clear hn1 hB3 hb4
        go_wp2_with fail
        refine (hn2.out w4).mono ?_
        rintro e w5 ⟨rfl, hb5⟩
        have hB5 := hid (hB4.out.trans (hb5.mono hB4.out.size))
        clear hn2 hB4 hb5
        go_wp2_with fail
        refine ⟨⟨i + k, i + k, f, acc ++ A ++ V1 ++ V2, ?_, rfl, rfl, Nat.le_refl _, by omega, by omega, by have := hu.out; simp only [List.length_append]; omega, hB5, hid ?_⟩, by simp only [intOf]; omega⟩
        · simp [ByteArray.mk_append_mk]
        · rw [hrs.out]; simp
    · have q2 : decide ((i : Int) < (s.length : Int)) = false := decide_eq_false (by omega)
      have hrs := hres.out
      have hpe : parse s f a i = litT s a s.length := by
        cases f with
        | zero => rfl
        | succ f => rw [parse, if_pos (by omega)]
      rw [hpe, encs_litE s (Nat.le_refl _), List.take_length] at hrs
      clear hres hpe
      have hex : (ByteArray.mk s.toArray).extract a s.length = ⟨(s.drop a).toArray⟩ := ext_drop s a
      have hlit := rliteral_any (s.drop a) wr (by simp; omega)
      have hel : (litE (s.drop a)).length ≤ 1000009 := by
        unfold litE
        split
        · simp
        · have := venc_small (2 * (s.drop a).length)
          rw [List.length_append]; simp at this ⊢; omega
      generalize litE (s.drop a) = A at *
      have b1 : acc.length ≤ 40000009 := by omega
      replace hlit := hid hlit
      replace hrs := hid hrs
      go_wp2_with fail
      refine hlit.out.mono ?_
      rintro e w5 ⟨rfl, hb5⟩
      have hB5 := hid (hB.out.trans (hb5.mono hB.out.size))
      clear hlit hB hb5
      go_wp2_with fail
      go_ret
      exact ⟨by rw [hrs.out, ByteArray.mk_append_mk]; simp, hB5.out⟩
end Go.Proofs.Ytomijpoglnihgaa
