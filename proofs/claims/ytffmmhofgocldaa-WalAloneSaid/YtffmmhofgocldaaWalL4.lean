/- Chapter 06 (wal): two Logs on one Disk. -/
import Derived.Test.YtffmmhofgocldaaWalL2
set_option linter.unusedVariables false
namespace Go.Proofs.Ytffmmhofgocldaa
open Go.RowKit
open Go.Lib (hid byteCells)
/-- two Logs of one Disk, in new memory, apart -/
def W2 (B db bx fx : Nat) (rx : List (List UInt8)) (b2 fy : Nat) (ry : List (List UInt8)) (d : DS) (w : World) : Prop :=
  ∃ vx vy, DkD (from_ B) db d w ∧ LV bx db fx vx rx w ∧ LV b2 db fy vy ry w ∧ (∀ k, footL vx bx k → B ≤ k) ∧ (∀ k, footL vy b2 k → B ≤ k) ∧ (∀ k, footL vx bx k → ¬ footL vy b2 k) ∧ B ≤ w.heap.size
section
variable {B db bx fx b2 fy : Nat} {rx ry : List (List UInt8)} {d : DS} {w w' : World}
theorem W2.swap (h : W2 B db bx fx rx b2 fy ry d w) : W2 B db b2 fy ry bx fx rx d w := by
  obtain ⟨vx, vy, h1, h2, h3, h4, h5, h6, h7⟩ := h
  exact ⟨vy, vx, h1, h3, h2, h5, h4, fun k h8 h9 => h6 k h9 h8, h7⟩
theorem W2.fst (h : W2 B db bx fx rx b2 fy ry d w) : WSt (from_ B) db bx fx rx d w := by
  obtain ⟨vx, vy, h1, h2, h3, h4, h5, h6, h7⟩ := h
  exact ⟨vx, h1, h2, h4, fun k hk => Nat.le_trans h7 hk⟩
theorem W2.below (h : W2 B db bx fx rx b2 fy ry d w) (hb : Below w.heap.size w w') : W2 B db bx fx rx b2 fy ry d w' := by
  obtain ⟨vx, vy, h1, h2, h3, h4, h5, h6, h7⟩ := h
  exact ⟨vx, vy, h1.fr (Fr.of_below hb (fun _ => False)) (fun _ _ h => h), h2.below hb, h3.below hb, h4, h5, h6, Nat.le_trans h7 hb.size⟩
/-- a call of the first Log -/
theorem W2.op (h : W2 B db bx fx rx b2 fy ry d w) : ∃ (G : Foot) (vx : Value), DkD G db d w ∧ LV bx db fx vx rx w ∧ (∀ k, G k ∨ footL vx bx k → B ≤ k) ∧
    ∀ r d' rx' e w', LP G bx db fx vx w r d' rx' e w' → e = .returned r ∧ W2 B db bx fx rx' b2 fy ry d' w' ∧ Below B w w' := by
  obtain ⟨vx, vy, h1, h2, h3, h4, h5, h6, h7⟩ := h
  obtain ⟨G, g1, g2, g3, g4⟩ := dk_exact h1
  refine ⟨G, vx, g1, h2, fun k hk => hk.elim (g2 k) (h4 k), fun r d' rx' e w' ⟨he, F', v', k1, k2, k3, k4, k5⟩ => ⟨he, ⟨v', vy, k1.mono (fun k _ hk => ?_), k2, h3.fr k3 (fun k hk hs => ?_), fun k hk => ?_, h5, fun k hk hy => ?_, Nat.le_trans h7 k3.size⟩, k3.to_below h7 (fun k hk hs => ?_)⟩⟩
  · rcases k4 k hk with h | h
    · exact g2 k h
    · exact Nat.le_trans h7 h
  · rcases hs with h | h
    · exact g4 _ _ _ _ _ h3 k hk h
    · exact h6 k h hk
  · rcases k5 k hk with h | h
    · exact h4 k h
    · exact Nat.le_trans h7 h
  · rcases k5 k hk with h | h
    · exact h6 k h hy
    · have := h3.foot_lt hy; omega
  · rcases hs with h | h
    · have := g2 k h; unfold from_ at this; omega
    · have := h4 k h; omega
theorem w2_append (h : W2 B db bx fx rx b2 fy ry d w) (s : List UInt8) (hn : rx.length ≤ 1000000) (hs : s.length ≤ 140737488355328) :
    Calls Try.prog 19 #[pt bx, sv s] w fun e w' => e = .returned (iv (wapp1 fx s d)) ∧ W2 B db bx fx (wrow s rx (wapp1 fx s d)) b2 fy ry (wapp2 fx s d) w' ∧ Below B w w' := by
  obtain ⟨G, vx, g1, g2, g3, g4⟩ := h.op
  exact (lappend_any G bx db fx vx rx d s w g1 g2 hn hs).mono fun e w' h => g4 _ _ _ _ _ h
theorem w2_rewrite (h : W2 B db bx fx rx b2 fy ry d w) (m : List (List UInt8)) (mv : Value) (hf : fx ≤ 6) (hn : m.length ≤ 1000000) (hp : Pay m) (hX : (recs m).length ≤ 100000000) (hm : ∀ w', Below B w w' → StrsR w' mv m) :
    Calls Try.prog 17 #[pt bx, mv] w fun e w' => e = .returned (iv (rew1 fx m d)) ∧ W2 B db bx fx (rewR fx m rx d) b2 fy ry (rew2 fx m d) w' ∧ Below B w w' := by
  have hB : B ≤ w.heap.size := by obtain ⟨vx, vy, h1, h2, h3, h4, h5, h6, h7⟩ := h; exact h7
  obtain ⟨G, vx, g1, g2, g3, g4⟩ := h.op
  exact (rewrite_any G bx db fx vx rx m mv d w g1 g2 hf hn hp hX (fun w' hf => hm w' (hf.to_below hB (fun k hk hs => by have := g3 k hs; omega)))).mono fun e w' h => g4 _ _ _ _ _ h
theorem w2_flush (h : W2 B db bx fx rx b2 fy ry d w) :
    Calls Try.prog 20 #[pt bx] w fun e w' => e = .returned (iv (flush1 fx d)) ∧ Below B w w' := by
  have h1 := wst_flush h.fst
  have hB : B ≤ w.heap.size := by obtain ⟨vx, vy, h1, h2, h3, h4, h5, h6, h7⟩ := h; exact h7
  exact h1.mono fun e w' ⟨he, _, hf⟩ => ⟨he, fr_from hf (fun _ h => h) hB⟩
theorem w1_open (h : WSt (from_ B) db bx fx rx d w) (hB : B ≤ w.heap.size) (hf : fy ≤ 6) (h0 : opn1 fy d = 0) :
    Calls Try.prog 14 #[pt db, iv fy] w fun e w' => ∃ b2, e = .returned (.tuple #[pt b2, iv 0]) ∧ W2 B db bx fx rx b2 fy (rowsOf (d.data fy)) (opn2 fy d) w' ∧ Below B w w' := by
  obtain ⟨vx, h1, h2, h3, h4⟩ := h
  obtain ⟨G, g1, g2, g3, g4⟩ := dk_exact h1
  have hc : Calls Try.prog 14 #[pt db, iv fy] w (OP G db fy d w) := by
    by_cases hr : read1 fy d = 0
    · exact open_ok _ db fy d w g1 hf hr
    · exact open_fail _ db fy d w g1 hf hr
  refine hc.mono fun e w' ⟨F', k1, k2, k3, k4⟩ => ?_
  rcases k4 with ⟨_, b, v, he, k5, k6⟩ | ⟨k5, _⟩
  · refine ⟨b, he, ⟨vx, v, k1.mono (fun k _ hk => ?_), h2.fr k2 (g4 _ _ _ _ _ h2), k5, h3, fun k hk => Nat.le_trans hB (k6 k hk), fun k hk hy => ?_, Nat.le_trans hB k2.size⟩, k2.to_below hB (fun k hk hs => ?_)⟩
    · rcases k3 k hk with h | h
      · exact g2 k h
      · exact Nat.le_trans hB h
    · have a1 := h2.foot_lt hk
      have a2 := k6 k hy
      omega
    · have := g2 k hs; unfold from_ at this; omega
  · exact absurd h0 k5
end
end Go.Proofs.Ytffmmhofgocldaa
