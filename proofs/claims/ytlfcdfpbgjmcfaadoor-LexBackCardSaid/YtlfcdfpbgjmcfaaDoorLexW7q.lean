/- lex: walks: quote. -/
import Derived.Test.YtlfcdfpbgjmcfaaDoorLexW7
set_option linter.unusedVariables false
set_option linter.unusedSimpArgs false
namespace Go.Proofs.YtlfcdfpbgjmcfaaDoor
open Go.RowKit
open Go.Lib (hid byteCells itoa)
def escF (c : UInt8) : List UInt8 := if c = 10 then [92, 110] else if c = 9 then [92, 116] else if c = 34 ∨ c = 92 then [92, c] else [c]
def escs (s : List UInt8) : List UInt8 := (s.map escF).flatten
def quoteF (s : List UInt8) : List UInt8 := 34 :: (escs s ++ [34])
theorem escF_len (c : UInt8) : (escF c).length ≤ 2 := by unfold escF; split; simp; split; simp; split <;> simp
theorem escs_len (s : List UInt8) : (escs s).length ≤ 2 * s.length := by
  induction s with
  | nil => simp [escs]
  | cons c s ih =>
    have := escF_len c
    simp only [escs, List.map_cons, List.flatten_cons, List.length_append, List.length_cons] at ih ⊢
    omega
theorem escs_snoc {s : List UInt8} {k : Nat} {c : UInt8} (hc : s[k]? = some c) : escs (s.take (k + 1)) = escs (s.take k) ++ escF c := by
  unfold escs
  rw [List.take_add_one, hc]
  simp
set_option maxHeartbeats 2000000 in
set_option maxRecDepth 100000 in
theorem quote_any (G : Foot) (B b : Nat) (l s : List UInt8) (w : World) (h : BldF G b l w) (hg : GOk G B w) (hlen : l.length + 2 * s.length + 10 ≤ 140737488355327) :
    Calls Tryd.prog 15 #[pt b, sv s] w fun e w' => e = .returned (.tuple #[]) ∧ BldF G b (l ++ quoteF s) w' ∧ Fr G w w' := by
  have hwb := hid (fun W L c h g q => wb_any G B b L c W h g q)
  have hwr := hid (fun W L c h g q => wr_any G B b L c W h g q)
  replace h := hid h
  replace hg := hid hg
  go_enter Tryd.func15, Tryd.ntmps15
  go_wp2_with fail
  refine (hwb.out w l 34 h.out hg.out (by omega)).mono ?_
  rintro e w1 ⟨rfl, hb1, hf1⟩
  replace hb1 := hid hb1
  replace hf1 := hid hf1
  clear h
  go_wp2_with fail
  go_loopw [10] (fun z wr => ∃ k : Nat, z = .int .i64 k ∧ k ≤ s.length ∧ Hid (BldF G b (l ++ (34 :: escs (s.take k))) wr) ∧ Hid (Fr G w wr)) (fun z _ => s.length - (intOf z).toNat)
  case atStart => exact ⟨0, rfl, Nat.zero_le _, hb1, hf1⟩
  case round =>
    clear hb1 hf1
    obtain ⟨k, rfl, hk, hb, hf⟩ := hrel
    have hel := escs_len (s.take k)
    have htl : (s.take k).length ≤ s.length := by rw [List.length_take]; omega
    by_cases hlt : k < s.length
    · have q1 : decide ((k : Int) < (s.length : Int)) = true := decide_eq_true (by omega)
      have q1i : (k : Int) < (s.length : Int) := by omega
      obtain ⟨c, hc⟩ : ∃ c, s[k]? = some c := ⟨_, List.getElem?_eq_getElem hlt⟩
      have hix := idx_str (P := Tryd.prog) 9 (by kernel_rfl) s k c hc
      have hes := escs_snoc hc
      have hg1 := hg.out.self hf.out
      have hL : (l ++ (34 :: escs (s.take k))).length ≤ 140737488355320 := by simp; omega
      clear hc hel htl
      obtain ⟨pre1, hp1⟩ : ∃ p, p = s.take (k + 1) := ⟨_, rfl⟩
      rw [← hp1] at hes
      replace hp1 := hid hp1
      generalize s.take k = pre at *
      by_cases c1 : c = 10
      · subst c1
        have hee : escF 10 = [92, 110] := by decide
        rw [hee] at hes
        replace hes := hid hes
        go_wp2_with fail
        refine (hwr.out _ _ [92, 110] hb.out hg1 (by simp at hL ⊢; omega)).mono ?_
        rintro e w2 ⟨rfl, hb2, hf2⟩
        have hb3 := hid (show BldF G b (l ++ (34 :: escs (s.take (k + 1)))) w2 by rw [← hp1.out, hes.out]; simpa using hb2)
        have hf3 := hid (hf.out.trans hf2)
        clear hb2 hf2
        go_wp2_with fail
        refine ⟨?_, by simp [intOf]; omega⟩
        repeat (first | exact ⟨⟨k + 1, rfl, by omega, hb3, hf3⟩, rfl⟩ | exact ⟨k + 1, rfl, by omega, hb3, hf3⟩ | apply Exists.intro)
      · obtain ⟨a1, a1', a1''⟩ : ((c.toNat : Int) == 10) = false ∧ ¬ ((c.toNat : Int) = 10) ∧ ¬ c.toNat = 10 := bn c 10 10 rfl c1
        by_cases c2 : c = 9
        · subst c2
          have hee : escF 9 = [92, 116] := by decide
          rw [hee] at hes
          replace hes := hid hes
          go_wp2_with fail
          refine (hwr.out _ _ [92, 116] hb.out hg1 (by simp at hL ⊢; omega)).mono ?_
          rintro e w2 ⟨rfl, hb2, hf2⟩
          have hb3 := hid (show BldF G b (l ++ (34 :: escs (s.take (k + 1)))) w2 by rw [← hp1.out, hes.out]; simpa using hb2)
          have hf3 := hid (hf.out.trans hf2)
          clear hb2 hf2
          go_wp2_with fail
          refine ⟨?_, by simp [intOf]; omega⟩
          repeat (first | exact ⟨⟨k + 1, rfl, by omega, hb3, hf3⟩, rfl⟩ | exact ⟨k + 1, rfl, by omega, hb3, hf3⟩ | apply Exists.intro)
        · obtain ⟨a2, a2', a2''⟩ : ((c.toNat : Int) == 9) = false ∧ ¬ ((c.toNat : Int) = 9) ∧ ¬ c.toNat = 9 := bn c 9 9 rfl c2
          by_cases c3 : c = 34 ∨ c = 92
          · have hee : escF c = [92, c] := by unfold escF; rw [if_neg c1, if_neg c2, if_pos c3]
            rw [hee] at hes
            replace hes := hid hes
            rcases c3 with rfl | rfl
            · go_wp2_with fail
              refine (hwb.out _ _ 92 hb.out hg1 (by omega)).mono ?_
              rintro e w2 ⟨rfl, hb2, hf2⟩
              have hg2 := hg1.self hf2
              have hf3 := hid (hf.out.trans hf2)
              clear hf2
              replace hb2 := hid hb2
              go_wp2_with fail
              refine (hwb.out _ _ 34 hb2.out hg2 (by rw [List.length_append]; simp at hL ⊢; omega)).mono ?_
              rintro e w3 ⟨rfl, hb3', hf3'⟩
              have hb3 := hid (show BldF G b (l ++ (34 :: escs (s.take (k + 1)))) w3 by rw [← hp1.out, hes.out]; simpa using hb3')
              have hf4 := hid (hf3.out.trans hf3')
              clear hb3' hf3' hb2
              go_wp2_with fail
              refine ⟨?_, by simp [intOf]; omega⟩
              repeat (first | exact ⟨⟨k + 1, rfl, by omega, hb3, hf4⟩, rfl⟩ | exact ⟨k + 1, rfl, by omega, hb3, hf4⟩ | apply Exists.intro)
            · go_wp2_with fail
              refine (hwb.out _ _ 92 hb.out hg1 (by omega)).mono ?_
              rintro e w2 ⟨rfl, hb2, hf2⟩
              have hg2 := hg1.self hf2
              have hf3 := hid (hf.out.trans hf2)
              clear hf2
              replace hb2 := hid hb2
              go_wp2_with fail
              refine (hwb.out _ _ 92 hb2.out hg2 (by rw [List.length_append]; simp at hL ⊢; omega)).mono ?_
              rintro e w3 ⟨rfl, hb3', hf3'⟩
              have hb3 := hid (show BldF G b (l ++ (34 :: escs (s.take (k + 1)))) w3 by rw [← hp1.out, hes.out]; simpa using hb3')
              have hf4 := hid (hf3.out.trans hf3')
              clear hb3' hf3' hb2
              go_wp2_with fail
              refine ⟨?_, by simp [intOf]; omega⟩
              repeat (first | exact ⟨⟨k + 1, rfl, by omega, hb3, hf4⟩, rfl⟩ | exact ⟨k + 1, rfl, by omega, hb3, hf4⟩ | apply Exists.intro)
          · have hee : escF c = [c] := by unfold escF; rw [if_neg c1, if_neg c2, if_neg c3]
            rw [hee] at hes
            replace hes := hid hes
            obtain ⟨a3, a3', a3''⟩ : ((c.toNat : Int) == 34) = false ∧ ¬ ((c.toNat : Int) = 34) ∧ ¬ c.toNat = 34 := bn c 34 34 rfl (fun e => c3 (Or.inl e))
            obtain ⟨a4, a4', a4''⟩ : ((c.toNat : Int) == 92) = false ∧ ¬ ((c.toNat : Int) = 92) ∧ ¬ c.toNat = 92 := bn c 92 92 rfl (fun e => c3 (Or.inr e))
            go_wp2_with fail
            refine (hwb.out _ _ c hb.out hg1 (by omega)).mono ?_
            rintro e w2 ⟨rfl, hb2, hf2⟩
            have hb3 := hid (show BldF G b (l ++ (34 :: escs (s.take (k + 1)))) w2 by rw [← hp1.out, hes.out]; simpa using hb2)
            have hf3 := hid (hf.out.trans hf2)
            clear hb2 hf2
            go_wp2_with fail
            refine ⟨?_, by simp [intOf]; omega⟩
            repeat (first | exact ⟨⟨k + 1, rfl, by omega, hb3, hf3⟩, rfl⟩ | exact ⟨k + 1, rfl, by omega, hb3, hf3⟩ | apply Exists.intro)
    · have hks : k = s.length := by omega
      subst hks
      rw [List.take_length] at hb hel
      have hg1 := hg.out.self hf.out
      clear htl hlt
      go_wp2_with fail
      refine (hwb.out _ _ 34 hb.out hg1 (by rw [List.length_append]; simp; omega)).mono ?_
      rintro e w2 ⟨rfl, hb2, hf2⟩
      have hb3 := hid (show BldF G b (l ++ quoteF s) w2 by unfold quoteF; simpa using hb2)
      have hf3 := hid (hf.out.trans hf2)
      clear hb2 hf2
      go_wp2_with fail
      go_end0
      exact ⟨rfl, hb3.out, hf3.out⟩
end Go.Proofs.YtlfcdfpbgjmcfaaDoor
