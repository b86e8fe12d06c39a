/- lex: walks: the scanner in memory; skip, word. -/
import Derived.Test.YtlfcdfpbgjmcfaaDoorLexC
import Derived.Deep.LoopGhost
import Derived.StillTailTactics
import Derived.BigQuiet
import Derived.BigRegion
import Derived.Deep.QuietTactic
set_option linter.unusedVariables false
set_option linter.unusedSimpArgs false
namespace Go.Proofs.YtlfcdfpbgjmcfaaDoor
open Go.RowKit
open Go.Lib (hid byteCells)
/-- block b is a scanner of s that stands behind k bytes -/
def Sc (b : Nat) (s : List UInt8) (k : Nat) (w : World) : Prop := w.heap[b]? = some (.cells #[sv s, iv k] 49 (0, 0))
theorem Sc.c0 {b : Nat} {s : List UInt8} {k : Nat} {w : World} (h : Sc b s k w) : w.cell? ⟨b, 0, none⟩ = some (sv s) := by rw [cell_of h]; rfl
theorem Sc.c1 {b : Nat} {s : List UInt8} {k : Nat} {w : World} (h : Sc b s k w) : w.cell? ⟨b, 1, none⟩ = some (iv k) := by rw [cell_of h]; rfl
theorem Sc.f {b : Nat} {s : List UInt8} {k : Nat} {w : World} (h : Sc b s k w) (i : Nat) : w.frozen? ⟨b, i, none⟩ = false := free_of h
theorem Sc.set {b : Nat} {s : List UInt8} {k : Nat} {w : World} (h : Sc b s k w) (n : Nat) : Sc b s n (w.setCell ⟨b, 1, none⟩ (iv n)) := heap_setCell_same h _
theorem Sc.fr {b : Nat} {s : List UInt8} {k : Nat} {w w' : World} (h : Sc b s k w) {S : Nat → Prop} (hf : Fr S w w') (hs : ¬ S b) : Sc b s k w' := hf.keep h hs
theorem Sc.below {b : Nat} {s : List UInt8} {k : Nat} {w w' : World} (h : Sc b s k w) (hf : Below w.heap.size w w') : Sc b s k w' := below_keep hf h (lt_of_heap h)
theorem fr_drewN {S : Nat → Prop} {w w' : World} (h : Fr S w w') (n : Nat) : Fr S w (w'.drewN n) := ⟨h.os, h.tape, h.output, h.size, h.block⟩
theorem fr_set1 {b : Nat} {w w' : World} (h : Fr (one b) w w') (i : Nat) (v : Value) : Fr (one b) w (w'.setCell ⟨b, i, none⟩ v) := h.setCell (p := ⟨b, i, none⟩) (Or.inl rfl) v
theorem drop_at {s : List UInt8} {k : Nat} {c : UInt8} (h : s[k]? = some c) : s.drop k = c :: s.drop (k + 1) := by
  obtain ⟨hk, rfl⟩ := List.getElem?_eq_some_iff.1 h
  exact List.drop_eq_getElem_cons hk
theorem bn (c d : UInt8) (n : Nat) (hd : d.toNat = n) (h : c ≠ d) : ((c.toNat : Int) == (n : Int)) = false ∧ ¬ ((c.toNat : Int) = (n : Int)) ∧ ¬ c.toNat = n := by
  have h3 : ¬ c.toNat = n := fun e => h (UInt8.toNat_inj.1 (e.trans hd.symm))
  have h2 : ¬ ((c.toNat : Int) = (n : Int)) := by omega
  exact ⟨by rw [beq_eq_false_iff_ne]; exact h2, h2, h3⟩
theorem byte_eq {c d : UInt8} (h : c = d) : ((c.toNat : Int) == (d.toNat : Int)) = true := by subst h; simp
theorem byte_ne' {c d : UInt8} (h : c ≠ d) : ((c.toNat : Int) == (d.toNat : Int)) = false := by
  simp only [beq_eq_false_iff_ne, ne_eq, Int.natCast_inj]
  intro e; exact h (UInt8.toNat_inj.1 e)
theorem skip_stop {c : UInt8} {D r : List UInt8} (hD : D = c :: r) (hw : isWs c = false) (hp : ¬ D.take 2 = [47, 47]) : skipM false D = D := by
  subst hD
  rw [skipM, if_neg (by rw [hw]; decide), if_neg]
  rintro ⟨rfl, h2⟩
  apply hp
  cases r with
  | nil => simp at h2
  | cons d r => simp at h2; subst h2; rfl
theorem skip_cm {D : List UInt8} (hp : D.take 2 = [47, 47]) : skipM false D = skipM true D ∧ D.head? = some 47 := by
  match D, hp with
  | a :: b :: r, hp =>
    simp at hp
    obtain ⟨rfl, rfl⟩ := hp
    exact ⟨rfl, rfl⟩
set_option maxHeartbeats 2000000 in
set_option maxRecDepth 100000 in
theorem skip_any (b : Nat) (s : List UInt8) (k : Nat) (w : World) (hS : Sc b s k w) (hk : k ≤ s.length) (hs : s.length ≤ 140737488355328) :
    Calls Tryd.prog 17 #[pt b] w fun e w' => e = .returned (.tuple #[]) ∧ Sc b s (s.length - (skipM false (s.drop k)).length) w' ∧ Fr (one b) w w' := by
  obtain ⟨T, hT⟩ : ∃ T, T = skipM false (s.drop k) := ⟨_, rfl⟩
  rw [← hT]
  go_enter Tryd.func17, Tryd.ntmps17
  go_wp2_with fail
  go_loopg [2] (s.length - k) (fun g _ wr => ∃ k' : Nat, k' + g = s.length ∧ Hid (skipM false (s.drop k') = T) ∧ Hid (Sc b s k' wr) ∧ Hid (Fr (one b) w wr))
  case atStart => exact ⟨k, by omega, hid hT.symm, hid hS, hid (Fr.refl _ _)⟩
  case round =>
    clear hS hT
    obtain ⟨k', hkg, hT, hS, hF⟩ := hrel
    have c0 := hS.out.c0
    have c1 := hS.out.c1
    by_cases hlt : k' < s.length
    · have q1 : decide ((k' : Int) < (s.length : Int)) = true := decide_eq_true (by omega)
      have q1' : decide (k' < s.length) = true := decide_eq_true hlt
      have q1i : (k' : Int) < (s.length : Int) := by omega
      have q0i : (0 : Int) ≤ (k' : Int) := by omega
      obtain ⟨c, hc⟩ : ∃ c, s[k']? = some c := ⟨_, List.getElem?_eq_getElem hlt⟩
      have hix := idx_str (P := Tryd.prog) 9 (by kernel_rfl) s k' c hc
      go_wp2_with fail
      go_quiet (fail)
      replace hS := hid (show Sc b s k' (wr.drewN nq) from hS.out)
      replace hF := hid (fr_drewN hF.out nq)
      clear c0 c1
      generalize wr.drewN nq = w1 at *
      have c0 := hS.out.c0
      have c1 := hS.out.c1
      go_wp2_with fail
      go_quiet (fail)
      replace hS := hid (show Sc b s k' (w1.drewN nq) from hS.out)
      replace hF := hid (fr_drewN hF.out nq)
      clear c0 c1
      generalize w1.drewN nq = w2 at *
      have c0 := hS.out.c0
      have c1 := hS.out.c1
      have f1 := hS.out.f 1
      have e1 : IntKind.i64.wrap ((k' : Int) + 1) = (k' : Int) + 1 := i64_wrap_id _ (by omega) (by omega)
      have hd := drop_at hc
      have hcs : c = 9 ∨ c = 10 ∨ c = 13 ∨ c = 32 ∨ isWs c = false := by
        by_cases a1 : c = 9; exact Or.inl a1
        by_cases a2 : c = 10; exact Or.inr (Or.inl a2)
        by_cases a3 : c = 13; exact Or.inr (Or.inr (Or.inl a3))
        by_cases a4 : c = 32; exact Or.inr (Or.inr (Or.inr (Or.inl a4)))
        exact Or.inr (Or.inr (Or.inr (Or.inr (by simp [isWs, a1, a2, a3, a4]))))
      have hstep : isWs c = true → Hid (skipM false (s.drop (k' + 1)) = T) := fun hw => hid (by rw [← hT.out, hd, skipM, if_pos hw])
      have hset := hid (hS.out.set (k' + 1))
      have hFs := hid (fr_set1 hF.out 1 (iv (k' + 1 : Nat)))
      have hpush : ((k' + 1 : Nat) : Int) = (k' : Int) + 1 := by omega
      rw [hpush] at hset hFs
      replace hc := hid hc
      replace hd := hid hd
      clear hpush
      rcases hcs with rfl | rfl | rfl | rfl | hw
      rotate_left 4
      · clear hstep hset hFs e1 f1
        obtain ⟨b1, b1', b1''⟩ : ((c.toNat : Int) == 9) = false ∧ ¬ ((c.toNat : Int) = 9) ∧ ¬ c.toNat = 9 := bn c 9 9 rfl (by rintro rfl; exact absurd hw (by decide))
        obtain ⟨b2, b2', b2''⟩ : ((c.toNat : Int) == 10) = false ∧ ¬ ((c.toNat : Int) = 10) ∧ ¬ c.toNat = 10 := bn c 10 10 rfl (by rintro rfl; exact absurd hw (by decide))
        obtain ⟨b3, b3', b3''⟩ : ((c.toNat : Int) == 13) = false ∧ ¬ ((c.toNat : Int) = 13) ∧ ¬ c.toNat = 13 := bn c 13 13 rfl (by rintro rfl; exact absurd hw (by decide))
        obtain ⟨b4, b4', b4''⟩ : ((c.toNat : Int) == 32) = false ∧ ¬ ((c.toNat : Int) = 32) ∧ ¬ c.toNat = 32 := bn c 32 32 rfl (by rintro rfl; exact absurd hw (by decide))
        have hps := hid (fun W => hasPrefix_any (s.drop k') W)
        have hex := ext_drop s k'
        have hk'i : (k' : Int) ≤ (s.length : Int) := by omega
        generalize hD : s.drop k' = D at *
        go_wp2_with fail
        by_cases hp : D.take 2 = [47, 47]
        · obtain ⟨hcm, h47⟩ := skip_cm hp
          have hT2 := hid (hcm.symm.trans hT.out)
          rw [show decide (D.take 2 = [47, 47]) = true from decide_eq_true hp] at hps
          have hc47 : c = 47 := by rw [hd.out] at h47; simpa using h47
          clear hp hcm h47
          go_quiet (first | (go_at_call 28; refine Calls.quiet_of_same (hps.out _)))
          replace hS := hid (show Sc b s k' (w2.drewN nq) from hS.out)
          replace hF := hid (fr_drewN hF.out nq)
          clear c0 c1 hix b1 b1' b1'' b2 b2' b2'' b3 b3' b3'' b4 b4' b4'' hps hex hw
          generalize w2.drewN nq = w3 at *
          generalize gk = go at *
          subst hD
          subst hc47
          go_wp2_with fail
          go_loopg [76] (s.length - k') (fun g _ wr => ∃ k2 : Nat, k2 + g = s.length ∧ k' ≤ k2 ∧ Hid (skipM true (s.drop k2) = T) ∧ Hid (Sc b s k2 wr) ∧ Hid (Fr (one b) w wr))
          case atStart => exact ⟨k', by omega, Nat.le_refl _, hT2, hS, hF⟩
          case round =>
            clear hS hF hT2 hd hk'i
            obtain ⟨k2, hg2, hk2, hT2, hS, hF⟩ := hrel
            have c0 := hS.out.c0
            have c1 := hS.out.c1
            by_cases hl2 : k2 < s.length
            · have p1 : decide ((k2 : Int) < (s.length : Int)) = true := decide_eq_true (by omega)
              have p1i : (k2 : Int) < (s.length : Int) := by omega
              obtain ⟨d, hdd⟩ : ∃ d, s[k2]? = some d := ⟨_, List.getElem?_eq_getElem hl2⟩
              have hix := idx_str (P := Tryd.prog) 9 (by kernel_rfl) s k2 d hdd
              have hd2 := drop_at hdd
              have e2 : IntKind.i64.wrap ((k2 : Int) + 1) = (k2 : Int) + 1 := i64_wrap_id _ (by omega) (by omega)
              by_cases h10 : d = 10
              · subst h10
                have hkk : k' ≠ k2 := by rintro rfl; rw [hc.out] at hdd; simp at hdd
                have hT3 := hid (show skipM false (s.drop k2) = T by rw [← hT2.out, hd2]; rfl)
                replace hdd := hid hdd
                clear hd2
                go_wp2_with fail
                go_quiet (fail)
                replace hS := hid (show Sc b s k2 (wr.drewN nq) from hS.out)
                replace hF := hid (fr_drewN hF.out nq)
                go_wp2_with fail
                go_roundg (s.length - k2)
                case measure => omega
                case rel => exact ⟨k2, by omega, hT3, hS, hF⟩
              · obtain ⟨b1, b1', b1''⟩ : ((d.toNat : Int) == 10) = false ∧ ¬ ((d.toNat : Int) = 10) ∧ ¬ d.toNat = 10 := bn d 10 10 rfl h10
                have hT3 := hid (show skipM true (s.drop (k2 + 1)) = T by rw [← hT2.out, hd2, skipM, if_neg h10])
                replace hdd := hid hdd
                clear hd2
                go_wp2_with fail
                go_quiet (fail)
                replace hS := hid (show Sc b s k2 (wr.drewN nq) from hS.out)
                replace hF := hid (fr_drewN hF.out nq)
                clear c0 c1
                generalize wr.drewN nq = w4 at *
                have c0 := hS.out.c0
                have c1 := hS.out.c1
                have f1 := hS.out.f 1
                have hset := hid (hS.out.set (k2 + 1))
                have hFs := hid (fr_set1 hF.out 1 (iv (k2 + 1 : Nat)))
                rw [show ((k2 + 1 : Nat) : Int) = (k2 : Int) + 1 by omega] at hset hFs
                go_wp2_with fail
                go_roundg (gk - 1)
                case measure => omega
                case rel => exact ⟨k2 + 1, by omega, by omega, hT3, hset, hFs⟩
            · have p1 : decide ((k2 : Int) < (s.length : Int)) = false := decide_eq_false (by omega)
              have hkl : k2 = s.length := by omega
              have hT3 := hid (show skipM false (s.drop k2) = T by rw [← hT2.out, hkl, List.drop_length]; rfl)
              have hkk : k' ≠ k2 := by omega
              go_wp2_with fail
              go_quiet (fail)
              replace hS := hid (show Sc b s k2 (wr.drewN nq) from hS.out)
              replace hF := hid (fr_drewN hF.out nq)
              go_wp2_with fail
              go_roundg (s.length - k2)
              case measure => omega
              case rel => exact ⟨k2, by omega, hT3, hS, hF⟩
        · have hst := skip_stop hd.out hw hp
          rw [show decide (D.take 2 = [47, 47]) = false from decide_eq_false hp] at hps
          have hlen : s.length - T.length = k' := by
            rw [← hT.out, hst, ← hD, List.length_drop]; omega
          clear hp hst
          go_quiet (first | (go_at_call 28; refine Calls.quiet_of_same (hps.out _)))
          replace hS := hid (show Sc b s k' (w2.drewN nq) from hS.out)
          replace hF := hid (fr_drewN hF.out nq)
          go_wp2_with fail
          refine bodyPost_ret (v := .tuple #[]) (results_none rfl _ _ _) rfl ⟨rfl, by rw [hlen]; exact hS.out, hF.out⟩
      all_goals
        have hst := hstep (by decide)
        clear hstep hix
        go_wp2_with fail
        go_roundg (gk - 1)
        case measure => omega
        case rel => exact ⟨k' + 1, by omega, hst, hset, hFs⟩
    · have q1 : decide ((k' : Int) < (s.length : Int)) = false := decide_eq_false (by omega)
      have hkl : k' = s.length := by omega
      have hlen : s.length - T.length = k' := by
        rw [← hT.out, hkl, List.drop_length]; simp [skipM]
      go_wp2_with fail
      go_quiet (fail)
      replace hS := hid (show Sc b s k' (wr.drewN nq) from hS.out)
      replace hF := hid (fr_drewN hF.out nq)
      go_wp2_with fail
      go_end0
      exact ⟨rfl, by rw [hlen]; exact hS.out, hF.out⟩
theorem tw_stop {p : UInt8 → Bool} {D U r : List UInt8} (hD : D = U ++ r) (hU : U.all p = true) (hr : ∀ c, r.head? = some c → p c = false) : D.takeWhile p = U ∧ D.dropWhile p = r := by
  subst hD
  induction U with
  | nil =>
    cases r with
    | nil => exact ⟨rfl, rfl⟩
    | cons c r =>
      have := hr c rfl
      simp [this]
  | cons a U ih =>
    simp only [List.all_cons, Bool.and_eq_true] at hU
    have := ih hU.2
    simp [hU.1, this.1, this.2]
theorem ext_mid (s U r : List UInt8) (k k2 : Nat) (h : s.drop k = U ++ r) (hk : k + U.length = k2) : (ByteArray.mk s.toArray).extract k k2 = ⟨U.toArray⟩ := by
  rw [ByteArray.extract_mk]
  congr 1
  apply Array.toList_inj.1
  simp only [Array.toList_extract, List.extract_eq_take_drop]
  rw [show (k2 - k) = U.length by omega, h]
  simp
set_option maxHeartbeats 2000000 in
set_option maxRecDepth 100000 in
theorem word_any (b : Nat) (s : List UInt8) (k : Nat) (w : World) (hS : Sc b s k w) (hk : k ≤ s.length) (hs : s.length ≤ 140737488355328) :
    Calls Tryd.prog 29 #[pt b] w fun e w' => e = .returned (sv ((s.drop k).takeWhile isWd)) ∧ Sc b s (s.length - ((s.drop k).dropWhile isWd).length) w' ∧ Fr (one b) w w' := by
  obtain ⟨T, hT⟩ : ∃ T, T = (s.drop k).takeWhile isWd := ⟨_, rfl⟩
  obtain ⟨R, hR⟩ : ∃ R, R = (s.drop k).dropWhile isWd := ⟨_, rfl⟩
  rw [← hT, ← hR]
  replace hT := hid hT
  replace hR := hid hR
  have c0 := hS.c0
  have c1 := hS.c1
  replace hS := hid hS
  go_enter Tryd.func29, Tryd.ntmps29
  go_wp2_with fail
  go_loopg [29] (s.length - k) (fun g _ wr => ∃ (k2 : Nat) (U : List UInt8), k2 + g = s.length ∧ k + U.length = k2 ∧ Hid (s.drop k = U ++ s.drop k2) ∧ Hid (U.all isWd = true) ∧ Hid (Sc b s k2 wr) ∧ Hid (Fr (one b) w wr))
  case atStart => exact ⟨k, [], by omega, rfl, hid rfl, hid rfl, hS, hid (Fr.refl _ _)⟩
  case round =>
    clear hS c0 c1
    obtain ⟨k2, U, hg, hkU, hU, hall, hS, hF⟩ := hrel
    have c0 := hS.out.c0
    have c1 := hS.out.c1
    by_cases hlt : k2 < s.length
    · have q1 : decide ((k2 : Int) < (s.length : Int)) = true := decide_eq_true (by omega)
      have q1i : (k2 : Int) < (s.length : Int) := by omega
      obtain ⟨c, hc⟩ : ∃ c, s[k2]? = some c := ⟨_, List.getElem?_eq_getElem hlt⟩
      have hix := idx_str (P := Tryd.prog) 9 (by kernel_rfl) s k2 c hc
      have hd := hid (drop_at hc)
      have hw := hid (fun W => isWord_any c W)
      clear hc
      have e1 : IntKind.i64.wrap ((k2 : Int) + 1) = (k2 : Int) + 1 := i64_wrap_id _ (by omega) (by omega)
      cases hwd : isWd c with
      | true =>
        rw [hwd] at hw
        have hU2 := hid (show s.drop k = (U ++ [c]) ++ s.drop (k2 + 1) by rw [hU.out, hd.out]; simp)
        have hall2 := hid (show (U ++ [c]).all isWd = true by rw [List.all_append, hall.out]; simp [hwd])
        have hlen2 : k + (U ++ [c]).length = k2 + 1 := by rw [List.length_append]; simp; omega
        clear hwd
        go_wp2_with fail
        go_quiet (first | (go_at_call 33; refine Calls.quiet_of_same (hw.out _)))
        replace hS := hid (show Sc b s k2 (wr.drewN nq) from hS.out)
        replace hF := hid (fr_drewN hF.out nq)
        clear c0 c1
        generalize wr.drewN nq = w4 at *
        have c0 := hS.out.c0
        have c1 := hS.out.c1
        have f1 := hS.out.f 1
        have hset := hid (hS.out.set (k2 + 1))
        have hFs := hid (fr_set1 hF.out 1 (iv (k2 + 1 : Nat)))
        rw [show ((k2 + 1 : Nat) : Int) = (k2 : Int) + 1 by omega] at hset hFs
        go_wp2_with fail
        go_roundg (gk - 1)
        case measure => omega
        case rel => exact ⟨k2 + 1, U ++ [c], by omega, hlen2, hU2, hall2, hset, hFs⟩
      | false =>
        rw [hwd] at hw
        obtain ⟨t1, t2⟩ := tw_stop hU.out hall.out (fun x hx => by rw [hd.out] at hx; simp at hx; subst hx; exact hwd)
        have hex := ext_mid s U (s.drop k2) k k2 hU.out hkU
        have hTU : T = U := hT.out.trans t1
        have hRl : s.length - R.length = k2 := by rw [hR.out, t2, List.length_drop]; omega
        have l1 : (k : Int) ≤ (k2 : Int) := by omega
        have l2 : (k2 : Int) ≤ (s.length : Int) := by omega
        replace hTU := hid hTU
        clear hwd t1 t2
        go_wp2_with fail
        go_quiet (first | (go_at_call 33; refine Calls.quiet_of_same (hw.out _)))
        replace hS := hid (show Sc b s k2 (wr.drewN nq) from hS.out)
        replace hF := hid (fr_drewN hF.out nq)
        clear c0 c1
        generalize wr.drewN nq = w4 at *
        have c0 := hS.out.c0
        have c1 := hS.out.c1
        go_wp2_with fail
        go_quiet (fail)
        replace hS := hid (show Sc b s k2 (w4.drewN nq) from hS.out)
        replace hF := hid (fr_drewN hF.out nq)
        go_wp2_with fail
        go_ret
        exact ⟨by rw [hTU.out]; rfl, by rw [hRl]; exact hS.out, hF.out⟩
    · have q1 : decide ((k2 : Int) < (s.length : Int)) = false := decide_eq_false (by omega)
      have hkl : k2 = s.length := by omega
      obtain ⟨t1, t2⟩ := tw_stop hU.out hall.out (fun x hx => by rw [hkl, List.drop_length] at hx; simp at hx)
      have hex := ext_mid s U (s.drop k2) k k2 hU.out hkU
      have hTU : T = U := hT.out.trans t1
      have hRl : s.length - R.length = k2 := by rw [hR.out, t2, List.length_drop]; omega
      have l1 : (k : Int) ≤ (k2 : Int) := by omega
      have l2 : (k2 : Int) ≤ (s.length : Int) := by omega
      replace hTU := hid hTU
      clear t1 t2
      subst hkl
      go_wp2_with fail
      go_quiet (fail)
      replace hS := hid (show Sc b s s.length (wr.drewN nq) from hS.out)
      replace hF := hid (fr_drewN hF.out nq)
      clear c0 c1
      generalize wr.drewN nq = w4 at *
      have c0 := hS.out.c0
      have c1 := hS.out.c1
      go_wp2_with fail
      go_quiet (fail)
      replace hS := hid (show Sc b s s.length (w4.drewN nq) from hS.out)
      replace hF := hid (fr_drewN hF.out nq)
      go_wp2_with fail
      go_ret
      exact ⟨by rw [hTU.out]; rfl, by rw [hRl]; exact hS.out, hF.out⟩
end Go.Proofs.YtlfcdfpbgjmcfaaDoor
