/- lex: LexOffsets. -/
import Derived.Test.YtlfcdfpbgjmcfaaDoorLexL1
import Derived.Deep.CutRange
set_option linter.unusedVariables false
set_option linter.unusedSimpArgs false
namespace Go.Proofs.YtlfcdfpbgjmcfaaDoor
open Go.RowKit
open Go.Lib (hid byteCells itoa)
section
variable {α : Type} {sz : Nat} {R : Rel α} {S T : Foot} {w w' : World} {l : List α} {v : Value}
theorem SlR.take {a : Option Addr} {n cap k : Nat} (h : SlR sz R S w l (.slice a n cap)) (hk : k ≤ n) : SlR sz R S w (l.take k) (.slice a k cap) := by
  obtain ⟨a', cap', b, off, cs, he, hle, ha, hc, hx⟩ := h
  simp only [Value.slice.injEq] at he
  obtain ⟨rfl, rfl, rfl⟩ := he
  have hl : (l.take k).length = k := by rw [List.length_take]; omega
  refine ⟨a, cap, b, off, cs, by rw [hl], by omega, fun h0 => ha (by omega), fun i hi => hc i (by omega), fun i x hix => hx i x ?_⟩
  rw [List.getElem?_take_of_lt (by have := (List.getElem?_eq_some_iff.1 hix).1; omega)] at hix; exact hix
theorem SlR.drop {a : Addr} {n cap k : Nat} {a2 : Addr} (h : SlR sz R S w l (.slice (some a) n cap)) (hk : k ≤ n) (h2 : k < n → a2 = ⟨a.block, a.off + k * sz, none⟩) : SlR sz R S w (l.drop k) (.slice (some a2) (n - k) (cap - k)) := by
  obtain ⟨a', cap', b, off, cs, he, hle, ha, hc, hx⟩ := h
  simp only [Value.slice.injEq] at he
  obtain ⟨rfl, rfl, rfl⟩ := he
  have hl : (l.drop k).length = l.length - k := List.length_drop ..
  refine ⟨some a2, cap - k, b, off + k * sz, fun i => cs (k + i), by rw [hl], by omega, fun h0 => ?_, fun i hi j u hu => ?_, fun i x hix => hx (k + i) x ?_⟩
  · obtain ⟨e, hs, hb⟩ := ha (by omega)
    injection e with e
    rw [h2 (by omega), e]
    exact ⟨rfl, hs, hb⟩
  · have := hc (k + i) (by omega) j u hu
    rw [Nat.add_mul] at this
    rw [show off + k * sz + i * sz + j = off + (k * sz + i * sz) + j by omega]; exact this
  · rw [List.getElem?_drop] at hix; exact hix
end
theorem scan_ok' {s : List UInt8} {l : List Tk} {w : World} (hs : s.length ≤ 1000000) (h : ∃ l1, scanF s = .ok l1 ∧ l1.map tkey = l.map tkey) : Calls Tryd.prog 9 #[sv s] w fun e w' => ∃ v l1, e = .returned (.tuple #[v, iv 0, iv 0]) ∧ SlR 4 TkR (from_ w.heap.size) w' l1 v ∧ sameF l1 l = true ∧ l1.length = l.length ∧ Below w.heap.size w w' := by
  obtain ⟨l1, h1, h2⟩ := h
  refine (scan_ok hs h1).mono ?_
  rintro e w' ⟨v, rfl, hO, hb⟩
  exact ⟨v, l1, rfl, hO.sl goodTk, decide_eq_true h2, len_key h2, hb⟩
set_option maxHeartbeats 4000000 in
set_option maxRecDepth 100000 in
theorem LexOffsets_walk (s : List UInt8) (w : World) (ht : Hid (Tab w)) :
    Calls Tryd.prog 4 #[.string ⟨s.toArray⟩] w fun e w' => e = .returned (.bool true) ∧ Below w.heap.size w w' := by
  by_cases hs : 2000 < s.length
  · have q1 : decide ((s.length : Int) > 2000) = true := decide_eq_true (by omega)
    have q1i : (2000 : Int) < (s.length : Int) := by omega
    go_enter Tryd.func4, Tryd.ntmps4
    go_wp2_with fail
    refine (small_any _ ht).mono ?_
    rintro e w1 ⟨rfl, hB⟩
    go_wp2_with fail
    go_ret
    exact ⟨rfl, hB⟩
  · have q1 : decide ((s.length : Int) > 2000) = false := decide_eq_false (by omega)
    have q1i : ¬ (2000 : Int) < (s.length : Int) := by omega
    cases hsc : scanF s with
    | error x =>
      obtain ⟨e1, e2, e3⟩ := err_law hsc
      have p1 : (x.1 != 0) = true := by simp [e1]
      have p2 : (x.1 == 0) = false := by simp [e1]
      go_enter Tryd.func4, Tryd.ntmps4
      go_wp2_with fail
      refine (small_any _ ht).mono ?_
      rintro e w1 ⟨rfl, hB1⟩
      go_wp2_with fail
      refine (scan_err (by omega) hsc).mono ?_
      rintro e w2 ⟨rfl, hb2⟩
      have hB2 := hid (hB1.trans (hb2.mono hB1.size))
      go_wp2_with fail
      go_ret
      exact ⟨rfl, hB2.out⟩
    | ok l =>
      obtain ⟨_, _, hS⟩ := scanF_scans hsc
      have hll := hS.bound.1
      have hs6 : s.length ≤ 1000000 := by omega
      have hoff := hid (fun i t (hi : l[i]? = some t) => off_law hsc hi)
      clear hS
      go_enter Tryd.func4, Tryd.ntmps4
      go_wp2_with fail
      refine (small_any _ ht).mono ?_
      rintro e w1 ⟨rfl, hB1⟩
      go_wp2_with fail
      refine (scan_ok hs6 hsc).mono ?_
      rintro e w2 ⟨v, rfl, hO, hb2⟩
      have hB2 := hid (hB1.trans (hb2.mono hB1.size))
      have hsl := hO.sl goodTk
      obtain ⟨a, cap, rfl, hcap⟩ := hsl.slice
      replace hsl := hid hsl
      clear hO hb2 hB1 hsc
      go_wp2_with fail
      go_loopw [7] (fun z wr => ∃ i : Nat, z = .int .i64 i ∧ i ≤ l.length ∧ i ≤ 40 ∧ Hid (SlR 4 TkR (from_ w1.heap.size) wr l (.slice a l.length cap)) ∧ Hid (Below w.heap.size w wr)) (fun z _ => 40 - (intOf z).toNat)
      case atStart => exact ⟨0, rfl, Nat.zero_le _, Nat.zero_le _, hsl, hB2⟩
      case round =>
        clear hsl hB2
        obtain ⟨i, rfl, hi1, hi2, hsl, hB⟩ := hrel
        by_cases hil : i < l.length
        · have p1 : decide ((i : Int) < (l.length : Int)) = true := decide_eq_true (by omega)
          have p1i : (i : Int) < (l.length : Int) := by omega
          by_cases hi40 : i < 40
          · have p2 : decide ((i : Int) < 40) = true := decide_eq_true (by omega)
            have p2i : (i : Int) < 40 := by omega
            obtain ⟨t, hit⟩ : ∃ t, l[i]? = some t := ⟨_, List.getElem?_eq_getElem hil⟩
            obtain ⟨p, e, o1, o2, o3, o4, o5, o6, o7⟩ := hoff.out i t hit
            have hone : ∃ l1, scanF ((s.drop p).take (e - p)) = .ok l1 ∧ l1.map tkey = [t].map tkey := o6
            obtain ⟨g, o, ds, hidx, -, hg, hcl, hR⟩ := hsl.out.at (P := Tryd.prog) (t := 22) (by kernel_rfl) (fun _ => by kernel_rfl) hit
            obtain ⟨d0, d1, d2, d3⟩ := tkR_at hR hcl
            rw [o1] at d3
            have hex1 := ext_mid s ((s.drop p).take (e - p)) ((s.drop p).drop (e - p)) p e (List.take_append_drop _ _).symm (by rw [List.length_take, List.length_drop]; omega)
            have hex2 := ext_drop s p
            have hUl : ((s.drop p).take (e - p)).length ≤ 1000000 := by rw [List.length_take, List.length_drop]; omega
            have hVl : (s.drop p).length ≤ 1000000 := by rw [List.length_drop]; omega
            have hdrop1 : (l.drop i).take 1 = [t] := by rw [drop_atT hit]; rfl
            have f1 : (p : Int) < (e : Int) := by omega
            have f2 : (e : Int) ≤ (s.length : Int) := by omega
            have f3 : decide ((p : Int) < 0) = false := decide_eq_false (by omega)
            have f4 : decide ((p : Int) ≥ (e : Int)) = false := decide_eq_false (by omega)
            have f5 : decide ((e : Int) > (s.length : Int)) = false := decide_eq_false (by omega)
            have f6 : (0 : Int) ≤ (p : Int) := by omega
            have f7 : (p : Int) ≤ (e : Int) := by omega
            have f8 : (p : Int) ≤ (s.length : Int) := by omega
            have f9 : IntKind.i64.wrap ((i : Int) + 1) = (i : Int) + 1 := i64_wrap_id _ (by omega) (by omega)
            generalize (s.drop p).take (e - p) = U at *
            generalize s.drop p = V at *
            clear hcl hR o6
            replace hone := hid hone
            replace o7 := hid o7
            replace hit := hid hit
            go_upto_if 45 with (fail)
            go_cut [8] from 29 to 121 (fun z wx => z = iv e ∧ wx = wr)
            case first =>
              by_cases hi1l : i + 1 < l.length
              · obtain ⟨t', hit'⟩ : ∃ t', l[i + 1]? = some t' := ⟨_, List.getElem?_eq_getElem hi1l⟩
                have o4' := o4 hi1l t' hit'
                obtain ⟨g', o', ds', hidx', -, -, hcl', hR'⟩ := hsl.out.at (P := Tryd.prog) (t := 22) (by kernel_rfl) (fun _ => by kernel_rfl) hit'
                obtain ⟨d0', d1', d2', d3'⟩ := tkR_at hR' hcl'
                rw [o4'] at d3'
                rw [show ((i + 1 : Nat) : Int) = (i : Int) + 1 by omega] at hidx'
                clear hcl' hR' o4 o4' hit'
                have p3 : decide ((i : Int) + 1 < (l.length : Int)) = true := decide_eq_true (by omega)
                have p3i : (i : Int) + 1 < (l.length : Int) := by omega
                go_wp2_with fail
                go_meet
                case rel => exact ⟨rfl, rfl⟩
              · have p3 : decide ((i : Int) + 1 < (l.length : Int)) = false := decide_eq_false (by omega)
                have p3i : ¬ (i : Int) + 1 < (l.length : Int) := by omega
                have he : e = s.length := o5 hi1l
                replace he := hid he
                clear o4 o5
                go_wp2_with fail
                go_meet
                case rel => exact ⟨by rw [he.out], rfl⟩
            case rest =>
              obtain ⟨rfl, rfl⟩ := hcut
              clear o4 o5
              go_wp2_with fail
              refine (scan_ok' hUl hone.out).mono ?_
              rintro e3 w3 ⟨v3, l1, rfl, hs3, hk3, hn3, hb3⟩
              have hB3 := hid (hB.out.trans (hb3.mono hB.out.size))
              have c3 := (hb3.cell (p := ⟨g, o + 3, none⟩) hg).trans d3
              have hslc := hid (hsl.out.below goodTk hb3)
              have hg3 : g < w3.heap.size := Nat.lt_of_lt_of_le hg hb3.size
              clear hb3 d0 d1 d2 d3 hsl
              replace hs3 := hid hs3
              go_wp2_with fail
              refine (scan_ok' hVl o7.out).mono ?_
              rintro e4 w4 ⟨v4, l2, rfl, hs4, hk4, hn4, hb4⟩
              have hB4 := hid (hB3.out.trans (hb4.mono hB3.out.size))
              have hslc4 := hid (hslc.out.below goodTk hb4)
              have hs34 := hid (hs3.out.below goodTk hb4)
              clear hb4 c3 hslc hs3
              replace hs4 := hid hs4
              replace hk3 := hid hk3
              replace hk4 := hid hk4
              obtain ⟨a', cap', b0, off0, cs0, hv0, hle0, ha0, -, -⟩ := hslc4.out
              simp only [Value.slice.injEq] at hv0
              obtain ⟨rfl, -, rfl⟩ := hv0
              obtain ⟨rfl, -, -⟩ := ha0 (by omega)
              have k1 : (i : Int) + 1 ≤ (cap : Int) := by omega
              have k2 : (i : Int) ≤ (i : Int) + 1 := by omega
              have k3 : (0 : Int) ≤ (i : Int) := by omega
              have k4 : (0 : Int) ≤ (i : Int) + 1 := by omega
              have k5 : (i : Int) ≤ (l.length : Int) := by omega
              have k6 : ((i : Int) + 1).toNat - i = 1 := by omega
              have k7 : ¬ (cap = i) := by omega
              go_wp2_with fail
              have hdr := hslc4.out.drop (k := i) (a2 := ⟨b0, off0 + i * 4, none⟩) (by omega) (fun _ => rfl)
              have htk := hdr.take (k := 1) (by omega)
              rw [hdrop1] at htk
              refine (same_any l1 [t] v3 _ _ _ w4 hs34.out htk (by rw [hn3]; simp)).mono ?_
              rintro e5 w5 ⟨rfl, hb5⟩
              rw [hk3.out]
              have hB5 := hid (hB4.out.trans (hb5.mono hB4.out.size))
              have hdr5 := hid (hdr.below goodTk hb5)
              have hs45 := hid (hs4.out.below goodTk hb5)
              have hsl5 := hid (hslc4.out.below goodTk hb5)
              clear hb5 hdr htk hs4 hs34 hslc4
              have hl2 : l2.length ≤ 140737488355328 := by rw [hn4, List.length_drop]; omega
              go_wp2_with fail
              refine (same_any l2 (l.drop i) v4 _ _ _ w5 hs45.out hdr5.out hl2).mono ?_
              rintro e6 w6 ⟨rfl, hb6⟩
              rw [hk4.out]
              have hB6 := hid (hB5.out.trans (hb6.mono hB5.out.size))
              have hsl6 := hid (hsl5.out.below goodTk hb6)
              clear hb6 hdr5 hs45 hsl5
              go_wp2_with fail
              refine ⟨?_, by simp [intOf]; omega⟩
              repeat (first | exact ⟨⟨i + 1, rfl, by omega, by omega, hsl6, hB6⟩, rfl⟩ | exact ⟨i + 1, rfl, by omega, by omega, hsl6, hB6⟩ | apply Exists.intro)
          · have p2 : decide ((i : Int) < 40) = false := decide_eq_false (by omega)
            have p2i : ¬ (i : Int) < 40 := by omega
            go_wp2_with fail
            go_ret
            exact ⟨rfl, hB.out⟩
        · have p1 : decide ((i : Int) < (l.length : Int)) = false := decide_eq_false (by omega)
          have p1i : ¬ (i : Int) < (l.length : Int) := by omega
          go_wp2_with fail
          go_ret
          exact ⟨rfl, hB.out⟩
end Go.Proofs.YtlfcdfpbgjmcfaaDoor
