/- Chapter 06 (wal), plain: what Logs do on a machine where nothing fails; sums of lengths. -/
import Derived.Test.YtffmmhofgocldaaWalW5
import Derived.Test.YtffmmhofgocldaaWalW7
set_option linter.unusedVariables false
namespace Go.Proofs.Ytffmmhofgocldaa
open Go.RowKit
/-- nothing fails -/
structure Calm (d : DS) : Prop where
  down : d.down = false
  armed : d.armed = 0
  lost : d.lost = 0
theorem calm_new : Calm dNew := ⟨rfl, rfl, rfl⟩
section
variable {d : DS}
theorem Calm.due (h : Calm d) : due1 d = false ∧ due2 d = { d with armed := 0 } := by
  refine ⟨by unfold due1; rw [h.armed]; rfl, ?_⟩
  unfold due2; rw [h.armed]
theorem Calm.due2 (h : Calm d) : due2 d = d := by
  rw [h.due.2]
  obtain ⟨a, b, c, e, g, k⟩ := d
  have := h.armed
  simp only at this
  subst this; rfl
theorem Calm.start (h : Calm d) : start1 d = 0 ∧ start2 d = d := by
  unfold start1 start2
  rw [h.down, h.due.1, h.due2]
  exact ⟨rfl, rfl⟩
theorem vF_nat {f : Nat} (hf : f < 8) : vF (f : Int) = true := (vF_iff _).2 (by omega)
theorem Calm.app (h : Calm d) {f : Nat} (hf : f < 8) (s : List UInt8) (hs : (d.data f).length + s.length ≤ 16777216) : app1 f s d = 0 ∧ app2 f s d = { d with data := upd d.data f (d.data f ++ s) } := by
  have he : ext1 f s d = 0 := by
    unfold ext1
    rw [vF_nat hf, if_pos rfl, Int.toNat_natCast, if_neg (by omega)]
  unfold app1 app2
  rw [h.down, h.due.1, h.due2]
  simp only [Bool.false_eq_true, if_false]
  refine ⟨he, ?_⟩
  unfold ext2
  rw [he, if_pos rfl, Int.toNat_natCast, h.down]
theorem Calm.flush (h : Calm d) {f : Nat} (hf : f < 8) : flush1 f d = 0 ∧ flush2 f d = { d with dur := upd d.dur f (d.data f).length } := by
  unfold flush1 flush2
  rw [h.start.1, h.start.2, vF_nat hf, h.lost]
  simp
  exact h.lost
theorem Calm.cut (h : Calm d) {f n : Nat} (hf : f < 8) (hn : n ≤ (d.data f).length) : cut1 f n d = 0 ∧ cut2 f n d = { d with data := upd d.data f ((d.data f).take n), dur := upd d.dur f (min (d.dur f) n) } := by
  have e : cut1 f n d = 0 := by
    unfold cut1
    rw [h.start.1, vF_nat hf]
    simp; omega
  refine ⟨e, ?_⟩
  unfold cut2
  rw [e, if_pos rfl, h.start.2, Int.toNat_natCast, Int.toNat_natCast]
theorem Calm.turn (h : Calm d) {f g : Nat} (hf : f < 8) (hg : g < 8) (hne : f ≠ g) (hd : (d.data g).length ≤ d.dur g) : turn1 f g d = 0 ∧ turn2 f g d = { d with data := upd (upd d.data f (d.data g)) g [], dur := upd (upd d.dur f (d.dur g)) g 0 } := by
  have e : turn1 f g d = 0 := by
    unfold turn1
    rw [h.start.1, vF_nat hf, vF_nat hg]
    have : decide ((f : Int) = (g : Int)) = false := decide_eq_false (by omega)
    rw [this]
    simp; omega
  refine ⟨e, ?_⟩
  unfold turn2
  rw [e, if_pos rfl, h.start.2, Int.toNat_natCast, Int.toNat_natCast]
theorem Calm.size {f : Nat} (hf : f < 8) (d : DS) : size1 f d = (d.data f).length := by unfold size1; rw [vF_nat hf, if_pos rfl, Int.toNat_natCast]
theorem cast1 (f : Nat) : (f : Int) + 1 = ((f + 1 : Nat) : Int) := by omega
theorem Calm.clr (h : Calm d) {f : Nat} (hf : f < 7) : clr1 f d = 0 ∧ Calm (clr2 f d) ∧ (clr2 f d).data = upd d.data (f + 1) [] ∧ (clr2 f d).dur f = d.dur f := by
  unfold clr1 clr2
  rw [cast1, Calm.size (by omega)]
  by_cases h0 : (d.data (f + 1)).length = 0
  · rw [if_pos h0, if_pos h0]
    refine ⟨rfl, h, ?_, rfl⟩
    have := List.length_eq_zero_iff.1 h0
    funext k
    unfold upd
    split
    · rename_i e; rw [e, this]
    · rfl
  · rw [if_neg h0, if_neg h0]
    obtain ⟨e1, e2⟩ := h.cut (f := f + 1) (n := 0) (by omega) (Nat.zero_le _)
    have e1' : cut1 ((f + 1 : Nat) : Int) 0 d = 0 := e1
    have e2' : cut2 ((f + 1 : Nat) : Int) 0 d = _ := e2
    rw [e1', e2']
    refine ⟨rfl, ⟨h.down, h.armed, h.lost⟩, by simp, ?_⟩
    exact upd_other _ _ _ _ (by omega)
theorem Calm.read (h : Calm d) {f : Nat} (hf : f < 8) : read1 f d = 0 ∧ read2 f d = d.data f := by
  have e : read1 f d = 0 := by unfold read1; rw [h.down, vF_nat hf]; rfl
  refine ⟨e, ?_⟩
  unfold read2
  rw [e, if_pos rfl, Int.toNat_natCast]
theorem Calm.trim (h : Calm d) {f : Nat} (hf : f < 8) : trim1 f d = 0 ∧ Calm (trim2 f d) ∧ (trim2 f d).data = upd d.data f (recs (rowsOf (d.data f))) := by
  obtain ⟨r, e, _, _⟩ := rows_spec (d.data f)
  have hv : validLen (d.data f) = (recs (rowsOf (d.data f))).length := rfl
  have ht : (d.data f).take (validLen (d.data f)) = recs (rowsOf (d.data f)) := by
    have := congrArg (List.take (validLen (d.data f))) e
    rwa [hv, List.take_left] at this
  unfold trim1 trim2
  by_cases hlt : validLen (d.data f) < (d.data f).length
  · rw [if_pos hlt, if_pos hlt]
    obtain ⟨e1, e2⟩ := h.cut (f := f) (n := validLen (d.data f)) hf (by omega)
    rw [e1, e2, ht]
    exact ⟨rfl, ⟨h.down, h.armed, h.lost⟩, rfl⟩
  · rw [if_neg hlt, if_neg hlt]
    refine ⟨rfl, h, ?_⟩
    rw [List.take_of_length_le (by omega)] at ht
    funext k
    unfold upd
    split
    · rename_i e; rw [e]; exact ht
    · rfl
theorem Calm.opn (h : Calm d) {f : Nat} (hf : f < 7) : opn1 f d = 0 ∧ Calm (opn2 f d) ∧ (opn2 f d).data = upd (upd d.data f (recs (rowsOf (d.data f)))) (f + 1) [] := by
  obtain ⟨t1, t2, t3⟩ := h.trim (f := f) (by omega)
  obtain ⟨c1, c2, c3, _⟩ := t2.clr (f := f) hf
  obtain ⟨g1, g2⟩ := c2.flush (f := f) (by omega)
  have hr := (h.read (f := f) (by omega)).1
  unfold opn1 opn2
  rw [hr, t1, c1, g1, g2]
  simp only [ne_eq, not_true_eq_false, if_false]
  refine ⟨trivial, ⟨c2.down, c2.armed, c2.lost⟩, ?_⟩
  show (clr2 f (trim2 f d)).data = _
  rw [c3, t3]
theorem Calm.wapp (h : Calm d) {f : Nat} (hf : f < 8) (s : List UInt8) (hs : s.length ≤ 1048576) (hl : (d.data f).length + (recF s).length ≤ 16777216) : wapp1 f s d = 0 ∧ Calm (wapp2 f s d) ∧ (wapp2 f s d).data = upd d.data f (d.data f ++ recF s) := by
  obtain ⟨e1, e2⟩ := h.app hf (recF s) hl
  unfold wapp1 wapp2
  rw [if_neg (by omega), if_neg (by omega), e1, e2]
  exact ⟨rfl, ⟨h.down, h.armed, h.lost⟩, rfl⟩
theorem Calm.rew (h : Calm d) {f : Nat} (hf : f < 7) (m : List (List UInt8)) (hl : (recs m).length ≤ 16777216) : rew1 f m d = 0 ∧ Calm (rew2 f m d) ∧ (rew2 f m d).data = upd (upd d.data f (recs m)) (f + 1) [] := by
  obtain ⟨c1, c2, c3, _⟩ := h.clr (f := f) hf
  have hd : (clr2 f d).data (f + 1) = [] := by rw [c3, upd_same]
  obtain ⟨a1, a2⟩ := c2.app (f := f + 1) (by omega) (recs m) (by rw [hd]; simpa using hl)
  rw [hd, List.nil_append, c3] at a2
  have c4 : Calm (app2 ((f + 1 : Nat) : Int) (recs m) (clr2 f d)) := by rw [a2]; exact ⟨c2.down, c2.armed, c2.lost⟩
  obtain ⟨g1, g2⟩ := c4.flush (f := f + 1) (by omega)
  have c5 : Calm (flush2 ((f + 1 : Nat) : Int) (app2 ((f + 1 : Nat) : Int) (recs m) (clr2 f d))) := by rw [g2]; exact ⟨c4.down, c4.armed, c4.lost⟩
  have hdd : (app2 ((f + 1 : Nat) : Int) (recs m) (clr2 f d)).data (f + 1) = recs m := by rw [a2]; exact upd_same _ _ _
  obtain ⟨t1, t2⟩ := c5.turn (f := f) (g := f + 1) (by omega) (by omega) (by omega) (by
    rw [g2]
    show _ ≤ upd _ (f + 1) _ (f + 1)
    rw [upd_same]
    exact Nat.le_refl _)
  unfold rew1 rew2 rewB1 rewB2 rewC1 rewC2
  rw [cast1, c1, a1, g1, t1, t2]
  simp only [ne_eq, not_true_eq_false, if_false]
  refine ⟨trivial, ⟨c5.down, c5.armed, c5.lost⟩, ?_⟩
  rw [g2]
  show upd (upd (app2 ((f + 1 : Nat) : Int) (recs m) (clr2 f d)).data f ((app2 ((f + 1 : Nat) : Int) (recs m) (clr2 f d)).data (f + 1))) (f + 1) [] = _
  rw [hdd, a2]
  funext k
  show upd (upd (upd (upd d.data (f + 1) []) (f + 1) (recs m)) f (recs m)) (f + 1) [] k = _
  unfold upd
  by_cases h1 : k = f + 1
  · rw [if_pos h1, if_pos h1]
  · by_cases h2 : k = f
    · rw [if_neg h1, if_pos h2, if_neg h1, if_pos h2]
    · simp [h1, h2]
end
/-! ### sums -/
def sumL (l : List (List UInt8)) : Nat := (l.map List.length).sum
theorem sumL_nil : sumL [] = 0 := rfl
theorem sumL_cons (p : List UInt8) (l : List (List UInt8)) : sumL (p :: l) = p.length + sumL l := by simp [sumL]
theorem sumL_app (l m : List (List UInt8)) : sumL (l ++ m) = sumL l + sumL m := by simp [sumL]
theorem sumL_take {l : List (List UInt8)} {k : Nat} {x : List UInt8} (h : l[k]? = some x) : sumL (l.take (k + 1)) = sumL (l.take k) + x.length := by
  rw [List.take_add_one, h, sumL_app]; simp [sumL]
theorem sumL_mem {l : List (List UInt8)} {x : List UInt8} (h : x ∈ l) : x.length ≤ sumL l := by
  induction l with
  | nil => cases h
  | cons a l ih =>
    rw [sumL_cons]
    rcases List.mem_cons.1 h with rfl | h
    · omega
    · have := ih h; omega
theorem sumL_le (l : List (List UInt8)) (M : Nat) (h : ∀ x ∈ l, x.length ≤ M) : ∀ k, sumL (l.take k) ≤ k * M := by
  intro k
  induction k with
  | zero => simp [sumL]
  | succ k ih =>
    cases hk : l[k]? with
    | none => rw [List.take_add_one, hk]; simp [sumL] at ih ⊢; exact Nat.le_trans ih (Nat.mul_le_mul_right _ (by omega))
    | some x =>
      rw [sumL_take hk, Nat.succ_mul]
      have := h x (List.mem_of_getElem? hk)
      omega
theorem pay_small {l : List (List UInt8)} {N : Nat} (h : sumL l ≤ N) (hN : N ≤ 1048576) : Pay l := fun p hp => by have := sumL_mem hp; omega
theorem recs_small : ∀ (l : List (List UInt8)), sumL l ≤ 4000 → (recs l).length ≤ 21 * l.length + 2 * sumL l
  | [], _ => by simp [recs]
  | p :: l, h => by
    rw [sumL_cons] at h
    have h1 := rec_small (p := p) (by omega)
    have h2 := recs_small l (by omega)
    rw [recs_cons, sumL_cons, List.length_append, List.length_cons]; omega
end Go.Proofs.Ytffmmhofgocldaa
