/- lex: walks: mark. -/
import Derived.Test.YtlfcdfpbgjmcfaaDoorLexW2
set_option linter.unusedVariables false
set_option linter.unusedSimpArgs false
namespace Go.Proofs.YtlfcdfpbgjmcfaaDoor
open Go.RowKit
open Go.Lib (hid byteCells)
theorem mkF_some {R : List UInt8} {z m : Nat} (hm : m = min 2 R.length) (h1 : 1 ≤ z) (h2 : z ≤ m) (hz : isMk (R.take z) = true) (hb : ∀ q, z < q → q ≤ m → isMk (R.take q) = false) : mkF R = some z := by
  unfold mkF
  have : z = 1 ∨ z = 2 := by omega
  rcases this with rfl | rfl
  · rw [if_neg, if_pos ⟨by omega, hz⟩]
    rintro ⟨a, b⟩
    rw [hb 2 (by omega) (by omega)] at b
    cases b
  · rw [if_pos ⟨by omega, hz⟩]
theorem mkF_none {R : List UInt8} {m : Nat} (hm : m = min 2 R.length) (hb : ∀ q, 0 < q → q ≤ m → isMk (R.take q) = false) : mkF R = none := by
  unfold mkF
  rw [if_neg, if_neg]
  · rintro ⟨a, b⟩
    rw [hb 1 (by omega) (by omega)] at b
    cases b
  · rintro ⟨a, b⟩
    rw [hb 2 (by omega) (by omega)] at b
    cases b
set_option maxHeartbeats 4000000 in
set_option maxRecDepth 100000 in
theorem mark_any (b : Nat) (s : List UInt8) (k : Nat) (w : World) (hS : Sc b s k w) (hk : k < s.length) (hs : s.length ≤ 140737488355328) :
    Calls Tryd.prog 23 #[pt b] w (TokPost b s w (markF (s.drop k))) := by
  have hlt := lt_of_heap hS
  obtain ⟨res, hres⟩ : ∃ r, r = markF (s.drop k) := ⟨_, rfl⟩
  rw [← hres]
  replace hS := hid hS
  replace hres := hid hres
  obtain ⟨post, hpost⟩ : ∃ p, p = TokPost b s w res := ⟨_, rfl⟩
  rw [← hpost]
  replace hpost := hid hpost
  obtain ⟨m, hm⟩ : ∃ m, m = min 2 (s.drop k).length := ⟨_, rfl⟩
  have hml : m = min 2 (s.length - k) := by rw [hm, List.length_drop]
  replace hm := hid hm
  have hR := hid (TR.new w)
  have hF := hid ((Fr.refl (one b) w).alloc (.cells #[.int .i64 0, .string ⟨#[]⟩, .int .i64 0, .int .i64 0] 32))
  replace hS := hid (show Sc b s k (w.alloc (.cells #[.int .i64 0, .string ⟨#[]⟩, .int .i64 0, .int .i64 0] 32)) from (Below.heap_alloc _ _ _ hlt).trans hS.out)
  have c0 := hS.out.c0
  have c1 := hS.out.c1
  have e1 : IntKind.i64.wrap ((s.length : Int) - (k : Int)) = ((s.length - k : Nat) : Int) := by rw [i64_wrap_id _ (by omega) (by omega)]; omega
  have hmin : min (2 : Int) ((s.length - k : Nat) : Int) = (m : Int) := by omega
  have hm2 : m ≤ 2 := by omega
  have hm3 : m ≤ s.length - k := by omega
  replace hml := hid hml
  go_enter Tryd.func23, Tryd.ntmps23
  go_wp2_with fail
  generalize w.alloc (.cells #[.int .i64 0, .string ⟨#[]⟩, .int .i64 0, .int .i64 0] 32) = w0 at *
  go_quiet (fail)
  replace hS := hid (show Sc b s k (w0.drewN nq) from hS.out)
  replace hR := hid (show TR w.heap.size tk0 (w0.drewN nq) from hR.out)
  replace hF := hid (fr_drewN hF.out nq)
  clear c0 c1 hmin e1
  generalize w0.drewN nq = w1 at *
  go_wp2_with fail
  go_loopw [4] (fun z wr => ∃ n : Nat, z = .int .i64 n ∧ n ≤ m ∧ Hid (∀ q, n < q → q ≤ m → isMk ((s.drop k).take q) = false) ∧ Hid (Sc b s k wr) ∧ Hid (TR w.heap.size tk0 wr) ∧ Hid (Fr (one b) w wr)) (fun z _ => (intOf z).toNat)
  case atStart => exact ⟨m, rfl, Nat.le_refl _, hid (fun q h1 h2 => by omega), hS, hR, hF⟩
  case round =>
    clear hS hR hF
    obtain ⟨z, rfl, hz, hno, hS, hR, hF⟩ := hrel
    by_cases h0 : 0 < z
    · have q1 : decide ((z : Int) > 0) = true := decide_eq_true (by omega)
      have q1i : (0 : Int) < (z : Int) := by omega
      have c0 := hS.out.c0
      have c1 := hS.out.c1
      have e1 : IntKind.i64.wrap ((k : Int) + (z : Int)) = (k : Int) + (z : Int) := i64_wrap_id _ (by omega) (by omega)
      have e2 : IntKind.i64.wrap ((z : Int) - 1) = ((z - 1 : Nat) : Int) := by rw [i64_wrap_id _ (by omega) (by omega)]; omega
      have hex := ext_mid s ((s.drop k).take z) ((s.drop k).drop z) k (k + z) (List.take_append_drop _ _).symm (by rw [List.length_take, List.length_drop]; omega)
      have n1 : ((k : Int) + (z : Int)).toNat = k + z := by omega
      have l0 : (0 : Int) ≤ (k : Int) := by omega
      have l1 : (k : Int) ≤ (k : Int) + (z : Int) := by omega
      have l2 : (k : Int) + (z : Int) ≤ (s.length : Int) := by omega
      have hmk := hid (fun W => isMark_any ((s.drop k).take z) W)
      have hres2 : isMk ((s.drop k).take z) = true → Hid (res = .ok (⟨4, (s.drop k).take z, 0, 0⟩, (s.drop k).drop z)) := fun h => hid (by
        rw [hres.out]; unfold markF; rw [mkF_some hm.out (by omega) hz h hno.out])
      have hno2 : isMk ((s.drop k).take z) = false → Hid (∀ q, z - 1 < q → q ≤ m → isMk ((s.drop k).take q) = false) := fun h => hid (fun q h1 h2 => by
        by_cases hq : q = z
        · rw [hq]; exact h
        · exact hno.out q (by omega) h2)
      have hlen : s.length - ((s.drop k).drop z).length = k + z := by rw [List.length_drop, List.length_drop]; omega
      generalize (s.drop k).take z = U at *
      generalize (s.drop k).drop z = D at *
      go_wp2_with fail
      go_quiet (fail)
      replace hS := hid (show Sc b s k (wr.drewN nq) from hS.out)
      replace hR := hid (show TR w.heap.size tk0 (wr.drewN nq) from hR.out)
      replace hF := hid (fr_drewN hF.out nq)
      clear c0 c1 hex
      generalize wr.drewN nq = w2 at *
      go_wp2_with fail
      cases hmz : isMk U with
      | true =>
        have hv := hres2 hmz
        rw [hmz] at hmk
        clear hmz hres2 hno2
        refine (hmk.out _).mono ?_
        rintro e w3 ⟨rfl, rfl⟩
        have c1 := hS.out.c1
        have f1 := hS.out.f 1
        obtain ⟨t0, t1, t2, t3⟩ := hR.out.cell
        have g0 := hR.out.f 0
        have g1 := hR.out.f 1
        have g2 := hR.out.f 2
        have g3 := hR.out.f 3
        have hSs := hS.out.set (k + z)
        have hFs := fr_set1 hF.out 1 (iv (k + z : Nat))
        have hRs : TR w.heap.size tk0 (w3.setCell ⟨b, 1, none⟩ (iv (k + z : Nat))) := (heap_setCell_other _ (by omega)).trans hR.out
        rw [show ((k + z : Nat) : Int) = (k : Int) + (z : Int) by omega] at hSs hFs hRs
        have hfin := hid (hRs.set4 ⟨4, U, 0, 0⟩)
        have hFf := hid (fr_set4 (R := w.heap.size) hFs (Nat.le_refl _) (iv 4) (sv U) (iv 0) (iv 0))
        have hSf := hid (hSs.other4 (R := w.heap.size) (by omega) (iv 4) (sv U) (iv 0) (iv 0))
        clear hSs hFs hRs hS hF hR
        go_wp2_with fail
        refine bodyPost_ret (v := .tuple #[tkv ⟨4, U, 0, 0⟩, iv 0]) (results_tok (by rfl) _ _ w.heap.size ⟨4, U, 0, 0⟩ 0 (by rfl) (by rfl) hfin.out) rfl ?_
        rw [hpost.out, hv.out]
        exact ⟨hFf.out, rfl, by rw [hlen]; exact hSf.out⟩
      | false =>
        have hno3 := hno2 hmz
        rw [hmz] at hmk
        clear hmz hres2 hno2
        refine (hmk.out _).mono ?_
        rintro e w3 ⟨rfl, rfl⟩
        go_wp2_with fail
        refine ⟨?_, by simp [intOf]; omega⟩
        repeat (first | exact ⟨⟨z - 1, rfl, by omega, hno3, hS, hR, hF⟩, rfl⟩ | exact ⟨z - 1, rfl, by omega, hno3, hS, hR, hF⟩ | apply Exists.intro)
    · have hz0 : z = 0 := by omega
      subst hz0
      have hv := hid (show res = .error 2 by rw [hres.out]; unfold markF; rw [mkF_none hm.out hno.out])
      clear h0 hz
      obtain ⟨t0, t1, t2, t3⟩ := hR.out.cell
      have g0 := hR.out.f 0
      have g1 := hR.out.f 1
      have g2 := hR.out.f 2
      have g3 := hR.out.f 3
      have hfin := hid (hR.out.set4 tk0)
      have hFf := hid (fr_set4 (R := w.heap.size) hF.out (Nat.le_refl _) (iv 0) (sv []) (iv 0) (iv 0))
      go_wp2_with fail
      refine bodyPost_ret (v := .tuple #[tkv tk0, iv 2]) (results_tok (by rfl) _ _ w.heap.size tk0 2 (by rfl) (by rfl) hfin.out) rfl ?_
      rw [hpost.out, hv.out]
      exact ⟨hFf.out, rfl⟩
end Go.Proofs.YtlfcdfpbgjmcfaaDoor
