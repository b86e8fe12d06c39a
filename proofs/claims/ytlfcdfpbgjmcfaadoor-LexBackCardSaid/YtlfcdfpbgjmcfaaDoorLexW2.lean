/- lex: walks: name, integer, mark. -/
import Derived.Test.YtlfcdfpbgjmcfaaDoorLexW1
import Derived.Test.YtlfcdfpbgjmcfaaDoorLexP
import Derived.Laws.ResultCell
set_option linter.unusedVariables false
set_option linter.unusedSimpArgs false
namespace Go.Proofs.YtlfcdfpbgjmcfaaDoor
open Go.RowKit
open Go.Lib (hid byteCells)
def tkc (t : Tk) : List Value := [iv t.kind, sv t.text, iv t.n, iv t.pos]
/-- a token as a value -/
def tkv (t : Tk) : Value := .agg #[iv t.kind, sv t.text, iv t.n, iv t.pos]
/-- block R holds a token -/
def TR (R : Nat) (t : Tk) (w : World) : Prop := w.heap[R]? = some (.cells #[iv t.kind, sv t.text, iv t.n, iv t.pos] 32 (0, 0))
def tk0 : Tk := ⟨0, [], 0, 0⟩
theorem TR.cell {R : Nat} {t : Tk} {w : World} (h : TR R t w) : w.cell? ⟨R, 0, none⟩ = some (iv t.kind) ∧ w.cell? ⟨R, 1, none⟩ = some (sv t.text) ∧ w.cell? ⟨R, 2, none⟩ = some (iv t.n) ∧ w.cell? ⟨R, 3, none⟩ = some (iv t.pos) :=
  ⟨(cell_of h).trans rfl, (cell_of h).trans rfl, (cell_of h).trans rfl, (cell_of h).trans rfl⟩
theorem TR.f {R : Nat} {t : Tk} {w : World} (h : TR R t w) (i : Nat) : w.frozen? ⟨R, i, none⟩ = false := free_of h
theorem TR.fr {R : Nat} {t : Tk} {w w' : World} (h : TR R t w) {S : Nat → Prop} (hf : Fr S w w') (hs : ¬ S R) : TR R t w' := hf.keep h hs
theorem TR.below {R : Nat} {t : Tk} {w w' : World} (h : TR R t w) (hf : Below w.heap.size w w') : TR R t w' := below_keep hf h (lt_of_heap h)
theorem TR.new (w : World) : TR w.heap.size tk0 (w.alloc (.cells #[.int .i64 0, .string ⟨#[]⟩, .int .i64 0, .int .i64 0] 32)) := heap_alloc_new' _ _
theorem TR.set4 {R : Nat} {t : Tk} {w : World} (h : TR R t w) (y : Tk) : TR R y ((((w.setCell ⟨R, 0, none⟩ (iv y.kind)).setCell ⟨R, 1, none⟩ (sv y.text)).setCell ⟨R, 2, none⟩ (iv y.n)).setCell ⟨R, 3, none⟩ (iv y.pos)) := by
  have a0 := heap_setCell_same (i := 0) h (iv y.kind)
  have a1 := heap_setCell_same (i := 1) a0 (sv y.text)
  have a2 := heap_setCell_same (i := 2) a1 (iv y.n)
  exact heap_setCell_same (i := 3) a2 (iv y.pos)
theorem fr_set4 {S : Nat → Prop} {R : Nat} {a w : World} (h : Fr S a w) (hR : a.heap.size ≤ R) (v0 v1 v2 v3 : Value) : Fr S a ((((w.setCell ⟨R, 0, none⟩ v0).setCell ⟨R, 1, none⟩ v1).setCell ⟨R, 2, none⟩ v2).setCell ⟨R, 3, none⟩ v3) :=
  (((h.setCell (p := ⟨R, 0, none⟩) (Or.inr hR) v0).setCell (p := ⟨R, 1, none⟩) (Or.inr hR) v1).setCell (p := ⟨R, 2, none⟩) (Or.inr hR) v2).setCell (p := ⟨R, 3, none⟩) (Or.inr hR) v3
theorem Sc.other4 {b R : Nat} {s : List UInt8} {k : Nat} {w : World} (h : Sc b s k w) (hb : b ≠ R) (v0 v1 v2 v3 : Value) : Sc b s k ((((w.setCell ⟨R, 0, none⟩ v0).setCell ⟨R, 1, none⟩ v1).setCell ⟨R, 2, none⟩ v2).setCell ⟨R, 3, none⟩ v3) :=
  ((heap_setCell_other _ hb).trans ((heap_setCell_other _ hb).trans ((heap_setCell_other _ hb).trans (heap_setCell_other _ hb)))).trans h
/-- what a method that cuts a token off does -/
def TokPost (b : Nat) (s : List UInt8) (w : World) (r : Except Int (Tk × List UInt8)) (e : Ending) (w' : World) : Prop :=
  Fr (one b) w w' ∧ match r with
  | .ok (t, r') => e = .returned (.tuple #[tkv t, iv 0]) ∧ Sc b s (s.length - r'.length) w'
  | .error x => e = .returned (.tuple #[tkv tk0, iv x])
set_option maxHeartbeats 2000000 in
set_option maxRecDepth 100000 in
theorem name_any (b : Nat) (s : List UInt8) (k : Nat) (w : World) (hS : Sc b s k w) (hk : k ≤ s.length) (hs : s.length ≤ 140737488355328) :
    Calls Tryd.prog 19 #[pt b] w fun e w' => e = .returned (tkv ⟨1, (s.drop k).takeWhile isWd, 0, 0⟩) ∧ Sc b s (s.length - ((s.drop k).dropWhile isWd).length) w' ∧ Fr (one b) w w' := by
  have hlt := lt_of_heap hS
  have hwd := hid (fun W h => word_any b s k W h hk hs)
  generalize (s.drop k).takeWhile isWd = T at *
  generalize s.length - ((s.drop k).dropWhile isWd).length = k2 at *
  replace hS := hid hS
  go_enter Tryd.func19, Tryd.ntmps19
  go_wp2_with fail
  have hR := hid (TR.new w)
  have hF := hid ((Fr.refl (one b) w).alloc (.cells #[.int .i64 0, .string ⟨#[]⟩, .int .i64 0, .int .i64 0] 32))
  replace hS := hid (show Sc b s k (w.alloc (.cells #[.int .i64 0, .string ⟨#[]⟩, .int .i64 0, .int .i64 0] 32)) from (Below.heap_alloc _ _ _ hlt).trans hS.out)
  generalize w.alloc (.cells #[.int .i64 0, .string ⟨#[]⟩, .int .i64 0, .int .i64 0] 32) = w0 at *
  refine (hwd.out w0 hS.out).mono ?_
  rintro e w1 ⟨rfl, hS1, hF1⟩
  have hR1 := hR.out.fr hF1 (by unfold one; omega)
  obtain ⟨c0, c1, c2, c3⟩ := hR1.cell
  have f0 := hR1.f 0
  have f1 := hR1.f 1
  have f2 := hR1.f 2
  have f3 := hR1.f 3
  have hfin := hid (hR1.set4 ⟨1, T, 0, 0⟩)
  have hFf := hid (fr_set4 (R := w.heap.size) (hF.out.trans hF1) (Nat.le_refl _) (iv 1) (sv T) (iv 0) (iv 0))
  have hSf := hid (hS1.other4 (R := w.heap.size) (by omega) (iv 1) (sv T) (iv 0) (iv 0))
  clear hS1 hF1 hR1 hS hR hF hwd
  go_wp2_with fail
  refine bodyPost_ret (v := tkv ⟨1, T, 0, 0⟩) (results_cell_row (by rfl) _ _ w.heap.size 32 _ (0, 0) _ (by rfl) hfin.out Tryd.underlying32 rfl (by kernel_rfl)) rfl ⟨rfl, hSf.out, hFf.out⟩
theorem results_tok {fn : Func} {p u : Tmp} (h : fn.results = #[.cell p 32, .tmp u]) (tmps : Array Value) (w : World) (R : Nat) (t : Tk) (x : Int) (hp : tmps.getD p undef = .pointer (some ⟨R, 0, none⟩)) (hu : tmps.getD u undef = iv x) (hR : TR R t w) :
    (results fn tmps).run Tryd.prog w = .ok (.tuple #[tkv t, iv x]) w := by
  rw [results_cell_tmp h, hp, hu]
  simp only [asAddr, Sem.run_pure, Result.andThen_ok]
  rw [run_loadVar_row w R 32 32 _ (0, 0) _ hR Tryd.underlying32 rfl (by kernel_rfl)]
  rfl
theorem all_pos {s : List UInt8} (h : s ≠ []) : ∃ c r, s = c :: r := by
  cases s with
  | nil => exact absurd rfl h
  | cons c r => exact ⟨c, r, rfl⟩
set_option maxHeartbeats 4000000 in
set_option maxRecDepth 100000 in
theorem integer_any (b : Nat) (s : List UInt8) (k : Nat) (w : World) (hS : Sc b s k w) (hk : k ≤ s.length) (hs : s.length ≤ 140737488355328) (hne : (s.drop k).takeWhile isWd ≠ []) :
    Calls Tryd.prog 21 #[pt b] w (TokPost b s w (integerF (s.drop k))) := by
  have hlt := lt_of_heap hS
  have hwd := hid (fun W h => word_any b s k W h hk hs)
  have hTl : ((s.drop k).takeWhile isWd).length ≤ s.length := by
    have h1 := (List.takeWhile_prefix isWd (l := s.drop k)).length_le
    rw [List.length_drop] at h1; omega
  obtain ⟨res, hres⟩ : ∃ r, r = integerF (s.drop k) := ⟨_, rfl⟩
  rw [← hres]
  unfold integerF at hres
  generalize (s.drop k).takeWhile isWd = T at *
  generalize (s.drop k).dropWhile isWd = D at *
  replace hS := hid hS
  replace hres := hid hres
  obtain ⟨post, hpost⟩ : ∃ p, p = TokPost b s w res := ⟨_, rfl⟩
  rw [← hpost]
  replace hpost := hid hpost
  go_enter Tryd.func21, Tryd.ntmps21
  go_wp2_with fail
  have hR := hid (TR.new w)
  have hF := hid ((Fr.refl (one b) w).alloc (.cells #[.int .i64 0, .string ⟨#[]⟩, .int .i64 0, .int .i64 0] 32))
  replace hS := hid (show Sc b s k (w.alloc (.cells #[.int .i64 0, .string ⟨#[]⟩, .int .i64 0, .int .i64 0] 32)) from (Below.heap_alloc _ _ _ hlt).trans hS.out)
  generalize w.alloc (.cells #[.int .i64 0, .string ⟨#[]⟩, .int .i64 0, .int .i64 0] 32) = w0 at *
  refine (hwd.out w0 hS.out).mono ?_
  rintro e w1 ⟨rfl, hS1, hF1⟩
  have hR1 := hR.out.fr hF1 (by unfold one; omega)
  have hF2 := hid (hF.out.trans hF1)
  replace hR1 := hid hR1
  replace hS1 := hid hS1
  have hsz : (ByteArray.mk T.toArray).size = T.length := by rw [ByteArray.size_mk', List.size_toArray]
  clear hS hR hF hwd hF1
  go_wp2_with fail
  go_loop [12] (fun i => ∃ k : Nat, i = .int .i64 k ∧ k ≤ T.length ∧ Hid ((T.take k).all isDg = true)) (fun i => T.length - (intOf i).toNat)
  case atStart => exact ⟨0, rfl, Nat.zero_le _, hid rfl⟩
  case round =>
    obtain ⟨j, rfl, hj, hall⟩ := hrel
    by_cases hl2 : j < T.length
    · have q1 : decide ((j : Int) < (T.length : Int)) = true := decide_eq_true (by omega)
      have q1i : (j : Int) < (T.length : Int) := by omega
      obtain ⟨d, hd⟩ : ∃ d, T[j]? = some d := ⟨_, List.getElem?_eq_getElem hl2⟩
      have hix := idx_str (P := Tryd.prog) 9 (by kernel_rfl) T j d hd
      have hw := hid (fun W => isDigit_any d W)
      have hst := all_take_succ hd isDg
      rw [hall.out, Bool.true_and] at hst
      have hfl := fun h => all_take_false hd (p := isDg) h
      replace hst := hid hst
      replace hd := hid hd
      cases hwd : isDg d with
      | true =>
        rw [hwd] at hw hst
        clear hwd hfl
        go_wp2_with fail
        refine (hw.out _).mono ?_
        rintro e w2 ⟨rfl, rfl⟩
        go_wp2_with fail
        exact ⟨⟨j + 1, by go_num, by omega, hst⟩, by simp [intOf]; omega⟩
      | false =>
        have hv : res = .error 2 := by rw [hres.out]; unfold intF; rw [if_pos (hfl hwd)]
        rw [hwd] at hw
        replace hv := hid hv
        clear hwd hfl hst
        obtain ⟨c0, c1, c2, c3⟩ := hR1.out.cell
        have f0 := hR1.out.f 0
        have f1 := hR1.out.f 1
        have f2 := hR1.out.f 2
        have f3 := hR1.out.f 3
        have hfin := hid (hR1.out.set4 tk0)
        have hFf := hid (fr_set4 (R := w.heap.size) hF2.out (Nat.le_refl _) (iv 0) (sv []) (iv 0) (iv 0))
        go_wp2_with fail
        refine (hw.out _).mono ?_
        rintro e w2 ⟨rfl, rfl⟩
        go_wp2_with fail
        refine bodyPost_ret (v := .tuple #[tkv tk0, iv 2]) (results_tok (by rfl) _ _ w.heap.size tk0 2 (by rfl) (by rfl) hfin.out) rfl ?_
        rw [hpost.out, hv.out]
        exact ⟨hFf.out, rfl⟩
    · have hjl : j = T.length := by omega
      have hall' : T.all isDg = true := by have := hall.out; rwa [hjl, List.take_length] at this
      have q1 : decide ((j : Int) < (T.length : Int)) = false := decide_eq_false (by omega)
      have q1i : ¬ (j : Int) < (T.length : Int) := by omega
      obtain ⟨c, r, hcr⟩ := all_pos hne
      subst hcr
      have hi1 : intF (c :: r) = if (c :: r).head? = some 48 ∧ (c :: r) ≠ [48] then .error 2 else match parse (c :: r) 0 9007199254740992 with | some n => .ok n | none => .error 6 := by
        unfold intF; rw [if_neg (by rw [hall']; decide)]; rfl
      have hix0 := idx_str0 (P := Tryd.prog) 9 (by kernel_rfl) c r
      clear hall hall' hl2 hj
      by_cases h48 : c = 48
      · subst h48
        cases r with
        | nil =>
          have hint : intF [48] = match parse [48] 0 9007199254740992 with | some n => .ok n | none => .error 6 := by rw [hi1, if_neg]; simp
          clear hi1
          obtain ⟨pr, hpr⟩ : ∃ pr, pr = parse [48] 0 9007199254740992 := ⟨_, rfl⟩
          have hpa := hid (fun W => parse_any [48] 0 9007199254740992 W (by omega))
          rw [← hpr] at hpa hint
          clear hpr
          cases pr with
          | none =>
            have hv := hid (show res = .error 6 by rw [hres.out, hint])
            clear hint
            go_wp2_with fail
            refine (hpa.out _).mono ?_
            rintro e w2 ⟨rfl, hb2⟩
            replace hF2 := hid (hF2.out.trans (Fr.of_below hb2 _))
            replace hR1 := hid (hR1.out.below hb2)
            clear hb2 hpa
            obtain ⟨c0, c1, c2, c3⟩ := hR1.out.cell
            have f0 := hR1.out.f 0
            have f1 := hR1.out.f 1
            have f2 := hR1.out.f 2
            have f3 := hR1.out.f 3
            have hfin := hid (hR1.out.set4 tk0)
            have hFf := hid (fr_set4 (R := w.heap.size) hF2.out (Nat.le_refl _) (iv 0) (sv []) (iv 0) (iv 0))
            go_wp2_with fail
            refine bodyPost_ret (v := .tuple #[tkv tk0, iv 6]) (results_tok (by rfl) _ _ w.heap.size tk0 6 (by rfl) (by rfl) hfin.out) rfl ?_
            rw [hpost.out, hv.out]
            exact ⟨hFf.out, rfl⟩
          | some n =>
            have hv := hid (show res = .ok (⟨2, [], n, 0⟩, D) by rw [hres.out, hint])
            clear hint
            go_wp2_with fail
            refine (hpa.out _).mono ?_
            rintro e w2 ⟨rfl, hb2⟩
            replace hF2 := hid (hF2.out.trans (Fr.of_below hb2 _))
            replace hR1 := hid (hR1.out.below hb2)
            replace hS1 := hid (hS1.out.below hb2)
            clear hb2 hpa
            obtain ⟨c0, c1, c2, c3⟩ := hR1.out.cell
            have f0 := hR1.out.f 0
            have f1 := hR1.out.f 1
            have f2 := hR1.out.f 2
            have f3 := hR1.out.f 3
            have hfin := hid (hR1.out.set4 ⟨2, [], n, 0⟩)
            have hFf := hid (fr_set4 (R := w.heap.size) hF2.out (Nat.le_refl _) (iv 2) (sv []) (iv n) (iv 0))
            have hSf := hid (hS1.out.other4 (R := w.heap.size) (by omega) (iv 2) (sv []) (iv n) (iv 0))
            go_wp2_with fail
            refine bodyPost_ret (v := .tuple #[tkv ⟨2, [], n, 0⟩, iv 0]) (results_tok (by rfl) _ _ w.heap.size ⟨2, [], n, 0⟩ 0 (by rfl) (by rfl) hfin.out) rfl ?_
            rw [hpost.out, hv.out]
            exact ⟨hFf.out, rfl, hSf.out⟩
        | cons d r =>
          have hint : intF (48 :: d :: r) = .error 2 := by rw [hi1, if_pos]; simp
          have hv := hid (show res = .error 2 by rw [hres.out, hint])
          have hstr : ((48 :: d :: r) == ([48] : List UInt8)) = false := by simp
          have hstr2 : ¬ (48 :: d :: r) = ([48] : List UInt8) := by simp
          clear hint hi1
          obtain ⟨c0, c1, c2, c3⟩ := hR1.out.cell
          have f0 := hR1.out.f 0
          have f1 := hR1.out.f 1
          have f2 := hR1.out.f 2
          have f3 := hR1.out.f 3
          have hfin := hid (hR1.out.set4 tk0)
          have hFf := hid (fr_set4 (R := w.heap.size) hF2.out (Nat.le_refl _) (iv 0) (sv []) (iv 0) (iv 0))
          go_wp2_with fail
          refine bodyPost_ret (v := .tuple #[tkv tk0, iv 2]) (results_tok (by rfl) _ _ w.heap.size tk0 2 (by rfl) (by rfl) hfin.out) rfl ?_
          rw [hpost.out, hv.out]
          exact ⟨hFf.out, rfl⟩
      · obtain ⟨b1, b1', b1''⟩ : ((c.toNat : Int) == 48) = false ∧ ¬ ((c.toNat : Int) = 48) ∧ ¬ c.toNat = 48 := bn c 48 48 rfl h48
        have hint : intF (c :: r) = match parse (c :: r) 0 9007199254740992 with | some n => .ok n | none => .error 6 := by rw [hi1, if_neg]; simp [h48]
        clear hi1 h48
        · skip
          obtain ⟨pr, hpr⟩ : ∃ pr, pr = parse (c :: r) 0 9007199254740992 := ⟨_, rfl⟩
          have hpa := hid (fun W => parse_any (c :: r) 0 9007199254740992 W (by omega))
          rw [← hpr] at hpa hint
          clear hpr
          cases pr with
          | none =>
            have hv := hid (show res = .error 6 by rw [hres.out, hint])
            clear hint
            go_wp2_with fail
            refine (hpa.out _).mono ?_
            rintro e w2 ⟨rfl, hb2⟩
            replace hF2 := hid (hF2.out.trans (Fr.of_below hb2 _))
            replace hR1 := hid (hR1.out.below hb2)
            clear hb2 hpa
            obtain ⟨c0, c1, c2, c3⟩ := hR1.out.cell
            have f0 := hR1.out.f 0
            have f1 := hR1.out.f 1
            have f2 := hR1.out.f 2
            have f3 := hR1.out.f 3
            have hfin := hid (hR1.out.set4 tk0)
            have hFf := hid (fr_set4 (R := w.heap.size) hF2.out (Nat.le_refl _) (iv 0) (sv []) (iv 0) (iv 0))
            go_wp2_with fail
            refine bodyPost_ret (v := .tuple #[tkv tk0, iv 6]) (results_tok (by rfl) _ _ w.heap.size tk0 6 (by rfl) (by rfl) hfin.out) rfl ?_
            rw [hpost.out, hv.out]
            exact ⟨hFf.out, rfl⟩
          | some n =>
            have hv := hid (show res = .ok (⟨2, [], n, 0⟩, D) by rw [hres.out, hint])
            clear hint
            go_wp2_with fail
            refine (hpa.out _).mono ?_
            rintro e w2 ⟨rfl, hb2⟩
            replace hF2 := hid (hF2.out.trans (Fr.of_below hb2 _))
            replace hR1 := hid (hR1.out.below hb2)
            replace hS1 := hid (hS1.out.below hb2)
            clear hb2 hpa
            obtain ⟨c0, c1, c2, c3⟩ := hR1.out.cell
            have f0 := hR1.out.f 0
            have f1 := hR1.out.f 1
            have f2 := hR1.out.f 2
            have f3 := hR1.out.f 3
            have hfin := hid (hR1.out.set4 ⟨2, [], n, 0⟩)
            have hFf := hid (fr_set4 (R := w.heap.size) hF2.out (Nat.le_refl _) (iv 2) (sv []) (iv n) (iv 0))
            have hSf := hid (hS1.out.other4 (R := w.heap.size) (by omega) (iv 2) (sv []) (iv n) (iv 0))
            go_wp2_with fail
            refine bodyPost_ret (v := .tuple #[tkv ⟨2, [], n, 0⟩, iv 0]) (results_tok (by rfl) _ _ w.heap.size ⟨2, [], n, 0⟩ 0 (by rfl) (by rfl) hfin.out) rfl ?_
            rw [hpost.out, hv.out]
            exact ⟨hFf.out, rfl, hSf.out⟩
end Go.Proofs.YtlfcdfpbgjmcfaaDoor
