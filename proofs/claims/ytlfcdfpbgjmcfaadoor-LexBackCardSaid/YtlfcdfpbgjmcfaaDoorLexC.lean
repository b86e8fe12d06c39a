/- lex: walks: what kind of byte, of string. -/
import Derived.Test.YtlfcdfpbgjmcfaaDoorChecked
import Derived.Test.YtlfcdfpbgjmcfaaDoorLexM
import Derived.Test.YtlfcdfpbgjmcfaaDoorRel
import Derived.Test.YtlfcdfpbgjmcfaaDoorShelf
set_option linter.unusedVariables false
namespace Go.Proofs.YtlfcdfpbgjmcfaaDoor
open Go.RowKit
open Go.Lib (hid byteCells)
set_option linter.unusedSimpArgs false
theorem di_le (k : Nat) (c : UInt8) : decide ((c.toNat : Int) ≤ (k : Int)) = decide (c.toNat ≤ k) := by rw [decide_eq_decide]; omega
theorem di_ge (k : Nat) (c : UInt8) : decide ((k : Int) ≤ (c.toNat : Int)) = decide (k ≤ c.toNat) := by rw [decide_eq_decide]; omega
abbrev bv (c : UInt8) : Value := .int .u8 (c.toNat : Int)
theorem isLetter_any (c : UInt8) (w : World) : Calls Tryd.prog 18 #[bv c] w fun e w' => e = .returned (.bool (isLet c)) ∧ w' = w := by
  by_cases h1 : 97 ≤ c.toNat <;> by_cases h2 : c.toNat ≤ 122 <;> by_cases h3 : 65 ≤ c.toNat <;> by_cases h4 : c.toNat ≤ 90 <;> try omega
  all_goals
    obtain ⟨r, hr⟩ : ∃ r, r = isLet c := ⟨_, rfl⟩
    have hr2 := hr
    simp only [isLet, h1, h2, h3, h4, decide_true, decide_false, Bool.and_true, Bool.and_false, Bool.or_false, Bool.or_true, Bool.false_and, Bool.true_and, Bool.false_or, Bool.true_or] at hr2
    rw [← hr]
    clear hr
    subst hr2
    have d1 : decide ((97 : Int) ≤ (c.toNat : Int)) = _ := di_ge 97 c
    have d2 : decide ((c.toNat : Int) ≤ 122) = _ := di_le 122 c
    have d3 : decide ((65 : Int) ≤ (c.toNat : Int)) = _ := di_ge 65 c
    have d4 : decide ((c.toNat : Int) ≤ 90) = _ := di_le 90 c
    simp only [h1, h2, h3, h4, decide_true, decide_false] at d1 d2 d3 d4
    go_enter Tryd.func18, Tryd.ntmps18
    go_wp2_with fail
    go_ret
    exact ⟨rfl, rfl⟩
theorem isDigit_any (c : UInt8) (w : World) : Calls Tryd.prog 20 #[bv c] w fun e w' => e = .returned (.bool (isDg c)) ∧ w' = w := by
  by_cases h1 : 48 ≤ c.toNat <;> by_cases h2 : c.toNat ≤ 57 <;> try omega
  all_goals
    obtain ⟨r, hr⟩ : ∃ r, r = isDg c := ⟨_, rfl⟩
    have hr2 := hr
    simp only [isDg, h1, h2, decide_true, decide_false, Bool.and_true, Bool.and_false, Bool.or_false, Bool.or_true, Bool.false_and, Bool.true_and, Bool.false_or, Bool.true_or] at hr2
    rw [← hr]
    clear hr
    subst hr2
    have d1 : decide ((48 : Int) ≤ (c.toNat : Int)) = _ := di_ge 48 c
    have d2 : decide ((c.toNat : Int) ≤ 57) = _ := di_le 57 c
    simp only [h1, h2, decide_true, decide_false] at d1 d2
    go_enter Tryd.func20, Tryd.ntmps20
    go_wp2_with fail
    go_ret
    exact ⟨rfl, rfl⟩
theorem isWord_any (c : UInt8) (w : World) : Calls Tryd.prog 33 #[bv c] w fun e w' => e = .returned (.bool (isWd c)) ∧ w' = w := by
  have hl := hid (isLetter_any c w)
  have hd := hid (isDigit_any c w)
  by_cases h3 : c = 95
  · subst h3
    obtain ⟨r, hr⟩ : ∃ r, r = isWd 95 := ⟨_, rfl⟩
    have h2 : r = true := by rw [hr]; decide
    have e1 : isLet 95 = false := by decide
    have e2 : isDg 95 = false := by decide
    rw [← hr]; subst h2; clear hr
    rw [e1] at hl; rw [e2] at hd
    go_enter Tryd.func33, Tryd.ntmps33
    go_wp2_with fail
    refine hl.out.mono ?_
    rintro e w1 ⟨rfl, rfl⟩
    go_wp2_with fail
    refine hd.out.mono ?_
    rintro e w1 ⟨rfl, rfl⟩
    go_wp2_with fail
    go_ret
    exact ⟨rfl, rfl⟩
  · have hne : ((c.toNat : Int) == 95) = false := by
      rw [beq_eq_false_iff_ne]; intro e; exact h3 (UInt8.toNat_inj.1 (by show c.toNat = 95; omega))
    have hne2 : ¬ ((c.toNat : Int) = 95) := by simpa using hne
    have hne3 : ¬ c.toNat = 95 := by omega
    obtain ⟨r, hr⟩ : ∃ r, r = isWd c := ⟨_, rfl⟩
    have hr2 : r = (isLet c || isDg c) := by rw [hr]; simp [isWd, h3]
    rw [← hr]; clear hr
    generalize isLet c = a at *
    generalize isDg c = b at *
    cases a <;> cases b <;> simp only [Bool.or_false, Bool.or_true] at hr2 <;> subst hr2
    all_goals
      go_enter Tryd.func33, Tryd.ntmps33
      go_wp2_with fail
      refine hl.out.mono ?_
      rintro e w1 ⟨rfl, rfl⟩
      go_wp2_with fail
      try
        refine hd.out.mono ?_
        rintro e w1 ⟨rfl, rfl⟩
        go_wp2_with fail
      go_ret
      exact ⟨rfl, rfl⟩
set_option maxRecDepth 100000 in
theorem isMark_any (s : List UInt8) (w : World) : Calls Tryd.prog 25 #[sv s] w fun e w' => e = .returned (.bool (isMk s)) ∧ w' = w := by
  go_enter Tryd.func25, Tryd.ntmps25
  go_wp2_with fail
  all_goals first
    | (exfalso; simp_all; done)
    | (go_ret; exact ⟨by simp_all [isMk, marks], rfl⟩)
theorem all_take_succ {s : List UInt8} {k : Nat} {c : UInt8} (hc : s[k]? = some c) (p : UInt8 → Bool) : (s.take (k + 1)).all p = ((s.take k).all p && p c) := by
  rw [List.take_add_one, hc]
  simp [List.all_append]
theorem all_take_false {s : List UInt8} {k : Nat} {c : UInt8} (hc : s[k]? = some c) {p : UInt8 → Bool} (h : p c = false) : s.all p = false := by
  rw [Bool.eq_false_iff]
  intro h2
  rw [List.all_eq_true] at h2
  have := h2 c (List.mem_of_getElem? hc)
  rw [h] at this; cases this
set_option maxRecDepth 100000 in
theorem isName_any (s : List UInt8) (w : World) (hs : s.length ≤ 140737488355328) : Calls Tryd.prog 24 #[sv s] w fun e w' => e = .returned (.bool (isNm s)) ∧ w' = w := by
  rcases s with _ | ⟨c, r⟩
  · go_enter Tryd.func24, Tryd.ntmps24
    go_wp2_with fail
    go_ret
    exact ⟨rfl, rfl⟩
  · have hix := idx_str0 (P := Tryd.prog) 9 (by kernel_rfl) c r
    have hle := hid (isLetter_any c w)
    cases hcl : isLet c with
    | false =>
      have hn : isNm (c :: r) = false := by simp [isNm, hcl]
      rw [hn]; rw [hcl] at hle
      clear hn hcl
      go_enter Tryd.func24, Tryd.ntmps24
      go_wp2_with fail
      refine hle.out.mono ?_
      rintro e w1 ⟨rfl, rfl⟩
      go_wp2_with fail
      go_ret
      exact ⟨rfl, rfl⟩
    | true =>
      have hn : isNm (c :: r) = (c :: r).all isWd := by simp [isNm, hcl]
      rw [hn]; rw [hcl] at hle
      generalize hres : (c :: r).all isWd = res
      replace hres := hid hres
      clear hn hcl
      have hsz : (ByteArray.mk (c :: r).toArray).size = (c :: r).length := by rw [ByteArray.size_mk', List.size_toArray]
      go_enter Tryd.func24, Tryd.ntmps24
      go_wp2_with fail
      refine hle.out.mono ?_
      rintro e w1 ⟨rfl, rfl⟩
      clear hix hle
      generalize c :: r = s at *
      go_wp2_with fail
      go_loop [14] (fun i => ∃ k : Nat, i = .int .i64 k ∧ k ≤ s.length ∧ Hid ((s.take k).all isWd = true)) (fun i => s.length - (intOf i).toNat)
      case atStart => exact ⟨0, rfl, Nat.zero_le _, hid rfl⟩
      case round =>
        obtain ⟨k, rfl, hk, hall⟩ := hrel
        by_cases hlt : k < s.length
        · have q1 : decide ((k : Int) < (s.length : Int)) = true := decide_eq_true (by omega)
          have q1' : decide (k < s.length) = true := decide_eq_true hlt
          have q1i : (k : Int) < (s.length : Int) := by omega
          obtain ⟨d, hd⟩ : ∃ d, s[k]? = some d := ⟨_, List.getElem?_eq_getElem hlt⟩
          have hix := idx_str (P := Tryd.prog) 9 (by kernel_rfl) s k d hd
          have hw := hid (fun W => isWord_any d W)
          have hst := all_take_succ hd isWd
          rw [hall.out, Bool.true_and] at hst
          have hfl := fun h => all_take_false hd (p := isWd) h
          replace hst := hid hst
          replace hd := hid hd
          cases hwd : isWd d with
          | true =>
            rw [hwd] at hw hst
            clear hwd hfl
            go_wp2_with fail
            refine (hw.out _).mono ?_
            rintro e w1 ⟨rfl, rfl⟩
            go_wp2_with fail
            exact ⟨⟨k + 1, by go_num, by omega, hst⟩, by simp [intOf]; omega⟩
          | false =>
            have hv := hid (hres.out.symm.trans (hfl hwd))
            rw [hwd] at hw
            clear hwd hfl hst
            go_wp2_with fail
            refine (hw.out _).mono ?_
            rintro e w1 ⟨rfl, rfl⟩
            go_wp2_with fail
            go_ret
            exact ⟨by rw [hv.out]; rfl, rfl⟩
        · have hk2 : k = s.length := by omega
          subst hk2
          have q1 : decide ((s.length : Int) < (s.length : Int)) = false := by simp
          have hv := hall.out
          rw [List.take_length] at hv
          replace hv := hid (hres.out.symm.trans hv)
          clear hall hk hlt
          go_wp2_with fail
          go_ret
          exact ⟨by rw [hv.out]; rfl, rfl⟩
theorem unescape_any (c : UInt8) (w : World) : Calls Tryd.prog 32 #[bv c] w fun e w' => e = .returned (.tuple #[bv ((unesc c).getD 0), .bool (unesc c).isSome]) ∧ w' = w := by
  by_cases h1 : c = 110
  · subst h1
    go_enter Tryd.func32, Tryd.ntmps32
    go_wp2_with fail
    go_ret2
    exact ⟨rfl, rfl⟩
  · by_cases h2 : c = 116
    · subst h2
      go_enter Tryd.func32, Tryd.ntmps32
      go_wp2_with fail
      go_ret2
      exact ⟨rfl, rfl⟩
    · by_cases h3 : c = 34
      · subst h3
        go_enter Tryd.func32, Tryd.ntmps32
        go_wp2_with fail
        go_ret2
        exact ⟨rfl, rfl⟩
      · by_cases h4 : c = 92
        · subst h4
          go_enter Tryd.func32, Tryd.ntmps32
          go_wp2_with fail
          go_ret2
          exact ⟨rfl, rfl⟩
        · have e : unesc c = none := by simp [unesc, h1, h2, h3, h4]
          rw [e]
          have b1 : ((c.toNat : Int) == 110) = false := by rw [beq_eq_false_iff_ne]; intro e; exact h1 (UInt8.toNat_inj.1 (by show c.toNat = 110; omega))
          have b2 : ((c.toNat : Int) == 116) = false := by rw [beq_eq_false_iff_ne]; intro e; exact h2 (UInt8.toNat_inj.1 (by show c.toNat = 116; omega))
          have b3 : ((c.toNat : Int) == 34) = false := by rw [beq_eq_false_iff_ne]; intro e; exact h3 (UInt8.toNat_inj.1 (by show c.toNat = 34; omega))
          have b4 : ((c.toNat : Int) == 92) = false := by rw [beq_eq_false_iff_ne]; intro e; exact h4 (UInt8.toNat_inj.1 (by show c.toNat = 92; omega))
          clear h1 h2 h3 h4 e
          go_enter Tryd.func32, Tryd.ntmps32
          go_wp2_with fail
          go_ret2
          exact ⟨rfl, rfl⟩
theorem hasPrefix_any (s : List UInt8) (w : World) : Calls Tryd.prog 28 #[sv s, sv [47, 47]] w fun e w' => e = .returned (.bool (decide (s.take 2 = [47, 47]))) ∧ w' = w := by
  refine (Tryd.strings_HasPrefix ⟨s.toArray⟩ ⟨[47, 47].toArray⟩ w).mono ?_
  rintro e w' ⟨rfl, rfl⟩
  refine ⟨?_, rfl⟩
  show Ending.returned (.bool ([47, 47].isPrefixOf s)) = _
  congr 2
  rcases s with _ | ⟨a, _ | ⟨b, r⟩⟩
  · rfl
  · simp [List.isPrefixOf]
  · simp only [List.isPrefixOf, List.take_succ_cons, List.take_zero, Bool.and_true]
    rw [Bool.eq_iff_iff]
    simp
    constructor
    · rintro ⟨rfl, rfl⟩; exact ⟨rfl, rfl⟩
    · rintro ⟨rfl, rfl⟩; exact ⟨rfl, rfl⟩
end Go.Proofs.YtlfcdfpbgjmcfaaDoor
