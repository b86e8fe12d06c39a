/- Chapter 05 (disk): walks: Append, starts. -/
import Derived.Test.YtffmmhofgocldaaDiskW3
set_option linter.unusedVariables false
namespace Go.Proofs.Ytffmmhofgocldaa
open Go.RowKit
open Go.Lib (hid)
/-- one call of a method behind another -/
theorem DP.then {T E : TypeId} {F F1 : Nat → Prop} {b : Nat} {w w1 w2 : World} {v : Value} {d2 : DS} {e : Ending} (hf : Fr F w w1) (hF : ∀ k, F1 k → F k ∨ w.heap.size ≤ k) (h : DP T E F1 b w1 v d2 e w2) : DP T E F b w v d2 e w2 := by
  obtain ⟨he, F2, h2, f2, g2⟩ := h
  refine ⟨he, F2, h2, hf.trans' f2 (fun _ x => x) (fun k hk hx => by rcases hF k hx with h | h; exact h; omega), fun k hk => ?_⟩
  rcases g2 k hk with h | h
  · exact hF k h
  · exact Or.inr (Nat.le_trans hf.size h)

theorem DP.drewN {T E : TypeId} {F : Nat → Prop} {b : Nat} {w : World} {v : Value} {d : DS} (h : Dk T E F b d w) (n : Nat) : DP T E F b w v d (.returned v) (w.drewN n) := by
  obtain ⟨ho, vs, h1, h2⟩ := h
  exact DP.mk ho (h1.fr ((Fr.refl (fun _ => False) w).drewN n) (fun _ _ h => h)) ((Fr.refl _ _).drewN n) (fun k hk => Or.inl (h2 k hk))
theorem DV.keeps {T E : TypeId} {b : Nat} {vs : Nat → Value} {d : DS} {w : World} (h : DV T E b vs d w) {kf : Nat → Nat} (he : d.keep = kf) :
    w.cell? ⟨b, 19, none⟩ = some (iv (kf 0)) ∧ w.cell? ⟨b, 20, none⟩ = some (iv (kf 1)) ∧ w.cell? ⟨b, 21, none⟩ = some (iv (kf 2)) ∧ w.cell? ⟨b, 22, none⟩ = some (iv (kf 3)) ∧
    w.cell? ⟨b, 23, none⟩ = some (iv (kf 4)) ∧ w.cell? ⟨b, 24, none⟩ = some (iv (kf 5)) ∧ w.cell? ⟨b, 25, none⟩ = some (iv (kf 6)) ∧ w.cell? ⟨b, 26, none⟩ = some (iv (kf 7)) := by
  subst he
  exact ⟨h.cell 19, h.cell 20, h.cell 21, h.cell 22, h.cell 23, h.cell 24, h.cell 25, h.cell 26⟩
set_option maxRecDepth 100000 in
set_option maxHeartbeats 2000000 in
theorem append_any (F : Nat → Prop) (b : Nat) (d : DS) (f : Int) (s : List UInt8) (w : World) (h : DkD F b d w) (hs : s.length ≤ 140737488351232) : Calls Try.prog 13 #[pt b, iv f, sv s] w (DPD F b w (iv (app1 f s d)) (app2 f s d)) := by
  have h0 := h
  obtain ⟨ho, vs, hv, hF⟩ := h
  have c16 := hv.cell 16
  rw [show (dCells vs d).toArray[16]? = some (.bool d.down) from rfl] at c16
  clear hv hF
  cases hd : d.down with
  | true =>
    have e1 := hid (show app1 f s d = 12 by unfold app1; rw [hd]; rfl)
    have e2 := hid (show app2 f s d = d by unfold app2; rw [hd]; rfl)
    rw [hd] at c16
    replace h0 := hid h0
    clear hd
    go_enter Try.func13, Try.ntmps13
    go_wp2_with fail
    go_ret
    rw [e1.out, e2.out]
    exact DP.same h0.out
  | false =>
    rw [hd] at c16
    replace h0 := hid h0
    cases hu : due1 d with
    | false =>
      have e1 := hid (show app1 f s d = ext1 f s (due2 d) by unfold app1; rw [hd, hu]; rfl)
      have e2 := hid (show app2 f s d = ext2 f s (due2 d) by unfold app2; rw [hd, hu]; rfl)
      clear hd
      go_enter Try.func13, Try.ntmps13
      go_wp2_with fail
      refine (due_any F b d _ h0.out).mono ?_
      rintro e w1 ⟨rfl, F1, h1, f1, g1⟩
      rw [hu]
      go_wp2_with fail
      refine (extend_any F1 b (due2 d) f s _ h1 hs).mono ?_
      rintro e w2 ⟨rfl, F2, h2, f2, g2⟩
      go_wp2_with fail
      go_ret
      rw [e1.out, e2.out]
      exact DP.then f1 g1 ⟨rfl, F2, h2, f2, g2⟩
    | true =>
      have e1 := hid (show app1 f s d = 12 by unfold app1; rw [hd, hu]; rfl)
      have e2 := hid (show app2 f s d = dFall d.keep (ext2 f s (due2 d)) by unfold app2; rw [hd, hu]; rfl)
      have hkp : (ext2 f s (due2 d)).keep = d.keep := by unfold ext2; split <;> rfl
      have hok := ho.keep
      clear hd
      go_enter Try.func13, Try.ntmps13
      go_wp2_with fail
      refine (due_any F b d _ h0.out).mono ?_
      rintro e w1 ⟨rfl, F1, h1, f1, g1⟩
      rw [hu]
      go_wp2_with fail
      refine (extend_any F1 b (due2 d) f s _ h1 hs).mono ?_
      rintro e w2 ⟨rfl, F2, h2, f2, g2⟩
      have h2' := h2
      obtain ⟨_, vs2, hv2, _⟩ := h2'
      obtain ⟨k0, k1, k2, k3, k4, k5, k6, k7⟩ := hv2.keeps hkp
      replace h2 := hid h2
      replace hok := hid hok
      clear hv2
      go_wp2_with fail
      refine (fall_any F2 b _ d.keep _ h2.out hok.out).mono ?_
      rintro e w3 ⟨rfl, F3, h3, f3, g3⟩
      clear k0 k1 k2 k3 k4 k5 k6 k7
      go_wp2_with fail
      go_ret
      rw [e1.out, e2.out]
      exact DP.then f1 g1 (DP.then f2 g2 ⟨rfl, F3, h3, f3, g3⟩)

set_option maxRecDepth 100000 in
set_option maxHeartbeats 2000000 in
theorem starts_any (F : Nat → Prop) (b : Nat) (d : DS) (w : World) (h : DkD F b d w) : Calls Try.prog 48 #[pt b] w (DPD F b w (iv (start1 d)) (start2 d)) := by
  have h0 := h
  obtain ⟨ho, vs, hv, hF⟩ := h
  have c16 := hv.cell 16
  rw [show (dCells vs d).toArray[16]? = some (.bool d.down) from rfl] at c16
  clear hv hF
  cases hd : d.down with
  | true =>
    have e1 := hid (show start1 d = 12 by unfold start1; rw [hd]; rfl)
    have e2 := hid (show start2 d = d by unfold start2; rw [hd]; rfl)
    rw [hd] at c16
    replace h0 := hid h0
    clear hd
    go_enter Try.func48, Try.ntmps48
    go_wp2_with fail
    go_ret
    rw [e1.out, e2.out]
    exact DP.same h0.out
  | false =>
    rw [hd] at c16
    replace h0 := hid h0
    cases hu : due1 d with
    | false =>
      have e1 := hid (show start1 d = 0 by unfold start1; rw [hd, hu]; rfl)
      have e2 := hid (show start2 d = due2 d by unfold start2; rw [hd, hu]; rfl)
      clear hd
      go_enter Try.func48, Try.ntmps48
      go_wp2_with fail
      refine (due_any F b d _ h0.out).mono ?_
      rintro e w1 ⟨rfl, F1, h1, f1, g1⟩
      rw [hu]
      go_wp2_with fail
      go_ret
      rw [e1.out, e2.out]
      exact ⟨rfl, F1, h1, f1, g1⟩
    | true =>
      have e1 := hid (show start1 d = 12 by unfold start1; rw [hd, hu]; rfl)
      have e2 := hid (show start2 d = dFall d.keep (due2 d) by unfold start2; rw [hd, hu]; rfl)
      have hok := hid ho.keep
      clear hd
      go_enter Try.func48, Try.ntmps48
      go_wp2_with fail
      refine (due_any F b d _ h0.out).mono ?_
      rintro e w1 ⟨rfl, F1, h1, f1, g1⟩
      rw [hu]
      have h1' := h1
      obtain ⟨_, vs2, hv2, _⟩ := h1'
      obtain ⟨k0, k1, k2, k3, k4, k5, k6, k7⟩ := hv2.keeps (kf := d.keep) rfl
      replace h1 := hid h1
      clear hv2
      go_wp2_with fail
      refine (fall_any F1 b _ d.keep _ h1.out hok.out).mono ?_
      rintro e w3 ⟨rfl, F3, h3, f3, g3⟩
      clear k0 k1 k2 k3 k4 k5 k6 k7
      go_wp2_with fail
      go_ret
      rw [e1.out, e2.out]
      exact DP.then f1 g1 ⟨rfl, F3, h3, f3, g3⟩
end Go.Proofs.Ytffmmhofgocldaa
