/- Chapter 05 (disk): do, on a Disk whose memory is not all that is new; begins. -/
import Derived.Test.YtdapjoapndemkaaDiskW11
import Derived.Test.YtdapjoapndemkaaDiskL2
set_option linter.unusedVariables false
namespace Go.Proofs.Ytdapjoapndemkaa
open Go.RowKit
open Go.Lib (hid)
theorem row_frG {B : Nat} {G : Nat → Prop} {w w' : World} {v : Value} {n : Nat} {cs : List Value} (h : Row B w 1 v n cs) (hB : B ≤ w.heap.size) (hG : ∀ k, G k → B ≤ k) (hf : Fr G w w') : Row B w' 1 v n cs :=
  h.kept fun k hk => hf.block k (by omega) (fun e => by have := hG k e; omega)

set_option maxHeartbeats 8000000 in
set_option maxRecDepth 100000 in
theorem do_gen (G : Nat → Prop) (B b : Nat) (d : DS) (a : AC) (vk : Value) (w : World) (h : DkD G b d w) (hG : ∀ k, w.heap.size ≤ k → G k) (hGB : ∀ k, G k → B ≤ k) (hB : B ≤ w.heap.size) (ha : ActOk a) (hv : Row B w 1 vk a.keep.length (a.keep.map iv)) :
    Calls Try.prog 20 #[pt b, aga a vk] w fun e w' => e = .returned (.tuple #[sv (do0 a d), iv (do1 a d)]) ∧ DkD G b (do2 a d) w' ∧ Fr G w w' := by
  have hv' := hv
  obtain ⟨ka, kc, kb, ko, rfl, -, -, -⟩ := hv'
  generalize hkn : a.keep.length = kn at hv ⊢
  obtain ⟨hop, hf, hg, hn, hs, hkl, hkx⟩ := ha
  have hA := heap_alloc_new' w (.cells #[iv a.op, iv a.f, iv a.g, iv a.n, sv a.s, .slice ka kn kc] 39)
  have h1 := dk_alloc h (.cells #[iv a.op, iv a.f, iv a.g, iv a.n, sv a.s, .slice ka kn kc] 39)
  have hB1 : Below B w (w.alloc (.cells #[iv a.op, iv a.f, iv a.g, iv a.n, sv a.s, .slice ka kn kc] 39)) := (Below.refl _ _).alloc hB _
  have hf1 : Fr G w (w.alloc (.cells #[iv a.op, iv a.f, iv a.g, iv a.n, sv a.s, .slice ka kn kc] 39)) := (Fr.refl _ _).alloc _
  have hG1 : ∀ k, (w.alloc (.cells #[iv a.op, iv a.f, iv a.g, iv a.n, sv a.s, .slice ka kn kc] 39)).heap.size ≤ k → G k := fun k hk => hG k (by simp at hk; omega)
  replace hG1 := hid hG1
  have hv1 := hid (hv.below hB1 (Nat.le_refl _))
  have hsz : B ≤ (w.alloc (.cells #[iv a.op, iv a.f, iv a.g, iv a.n, sv a.s, .slice ka kn kc] 39)).heap.size := by simp; omega
  obtain ⟨c0, c1, c2, c3, c4, c5⟩ := cells6 hA
  have hp := hid (fun w' => pick_any a.op w' hop)
  replace hkx := hid hkx
  clear hA hv
  rcases (by omega : a.op % 11 = 0 ∨ a.op % 11 = 1 ∨ a.op % 11 = 2 ∨ a.op % 11 = 3 ∨ a.op % 11 = 4 ∨ a.op % 11 = 5 ∨ a.op % 11 = 6 ∨ a.op % 11 = 7 ∨ a.op % 11 = 8 ∨ a.op % 11 = 9 ∨ a.op % 11 = 10) with hk | hk | hk | hk | hk | hk | hk | hk | hk | hk | hk
  · have e0 : do0 a d = [] := by simp [do0, hk]
    have e1 : do1 a d = app1 a.f a.s d := by simp [do1, hk]
    have e2 : do2 a d = app2 a.f a.s d := by simp [do2, hk]
    rw [e0, e1, e2]
    clear e0 e1 e2
    go_enter Try.func20, Try.ntmps20
    go_wp2_with fail
    refine (hp.out _).mono ?_
    rintro e w1 ⟨rfl, rfl⟩
    rw [hk]
    go_wp2_with fail
    refine (append_any G b d a.f a.s _ h1 (by omega)).mono ?_
    rintro e w2 h9
    obtain ⟨rfl, h2, hf2⟩ := h9.absorb hG1.out
    go_wp2
    go_ret2
    exact ⟨rfl, h2, hf1.trans hf2⟩
  · have e0 : do0 a d = [] := by simp [do0, hk]
    have e1 : do1 a d = app1 a.f a.s d := by simp [do1, hk]
    have e2 : do2 a d = app2 a.f a.s d := by simp [do2, hk]
    rw [e0, e1, e2]
    clear e0 e1 e2
    go_enter Try.func20, Try.ntmps20
    go_wp2_with fail
    refine (hp.out _).mono ?_
    rintro e w1 ⟨rfl, rfl⟩
    rw [hk]
    go_wp2_with fail
    refine (append_any G b d a.f a.s _ h1 (by omega)).mono ?_
    rintro e w2 h9
    obtain ⟨rfl, h2, hf2⟩ := h9.absorb hG1.out
    go_wp2
    go_ret2
    exact ⟨rfl, h2, hf1.trans hf2⟩
  · have e0 : do0 a d = [] := by simp [do0, hk]
    have e1 : do1 a d = flush1 a.f d := by simp [do1, hk]
    have e2 : do2 a d = flush2 a.f d := by simp [do2, hk]
    rw [e0, e1, e2]
    clear e0 e1 e2
    go_enter Try.func20, Try.ntmps20
    go_wp2_with fail
    refine (hp.out _).mono ?_
    rintro e w1 ⟨rfl, rfl⟩
    rw [hk]
    go_wp2_with fail
    refine (flush_any G b d a.f _ h1).mono ?_
    rintro e w2 h9
    obtain ⟨rfl, h2, hf2⟩ := h9.absorb hG1.out
    go_wp2
    go_ret2
    exact ⟨rfl, h2, hf1.trans hf2⟩
  · have e0 : do0 a d = [] := by simp [do0, hk]
    have e1 : do1 a d = cut1 a.f a.n d := by simp [do1, hk]
    have e2 : do2 a d = cut2 a.f a.n d := by simp [do2, hk]
    rw [e0, e1, e2]
    clear e0 e1 e2
    go_enter Try.func20, Try.ntmps20
    go_wp2_with fail
    refine (hp.out _).mono ?_
    rintro e w1 ⟨rfl, rfl⟩
    rw [hk]
    go_wp2_with fail
    refine (cut_any G b d a.f a.n _ h1).mono ?_
    rintro e w2 h9
    obtain ⟨rfl, h2, hf2⟩ := h9.absorb hG1.out
    go_wp2
    go_ret2
    exact ⟨rfl, h2, hf1.trans hf2⟩
  · have e0 : do0 a d = [] := by simp [do0, hk]
    have e1 : do1 a d = turn1 a.f a.g d := by simp [do1, hk]
    have e2 : do2 a d = turn2 a.f a.g d := by simp [do2, hk]
    rw [e0, e1, e2]
    clear e0 e1 e2
    go_enter Try.func20, Try.ntmps20
    go_wp2_with fail
    refine (hp.out _).mono ?_
    rintro e w1 ⟨rfl, rfl⟩
    rw [hk]
    go_wp2_with fail
    refine (turn_any G b d a.f a.g _ h1).mono ?_
    rintro e w2 h9
    obtain ⟨rfl, h2, hf2⟩ := h9.absorb hG1.out
    go_wp2
    go_ret2
    exact ⟨rfl, h2, hf1.trans hf2⟩
  · have e0 : do0 a d = [] := by simp [do0, hk]
    have e1 : do1 a d = 0 := by simp [do1, hk]
    have e2 : do2 a d = dCrash a.keep d := by simp [do2, hk]
    rw [e0, e1, e2]
    clear e0 e1 e2
    go_enter Try.func20, Try.ntmps20
    go_wp2_with fail
    refine (hp.out _).mono ?_
    rintro e w1 ⟨rfl, rfl⟩
    rw [hk]
    go_wp2_with fail
    refine (crash_any G b d a.keep _ _ h1 (by rw [hkn]; exact hv1.out.mono hsz) (by omega) hkx.out).mono ?_
    rintro e w2 h9
    obtain ⟨rfl, h2, hf2⟩ := h9.absorb hG1.out
    go_wp2
    go_ret2
    exact ⟨rfl, h2, hf1.trans hf2⟩
  · have e0 : do0 a d = [] := by simp [do0, hk]
    have e1 : do1 a d = 0 := by simp [do1, hk]
    have e2 : do2 a d = dLose a.n d := by simp [do2, hk]
    rw [e0, e1, e2]
    clear e0 e1 e2
    go_enter Try.func20, Try.ntmps20
    go_wp2_with fail
    refine (hp.out _).mono ?_
    rintro e w1 ⟨rfl, rfl⟩
    rw [hk]
    go_wp2_with fail
    refine (lose_any G b d a.n _ h1 hn.2).mono ?_
    rintro e w2 h9
    obtain ⟨rfl, h2, hf2⟩ := h9.absorb hG1.out
    go_wp2
    go_ret2
    exact ⟨rfl, h2, hf1.trans hf2⟩
  · have e0 : do0 a d = [] := by simp [do0, hk]
    have e1 : do1 a d = 0 := by simp [do1, hk]
    have e2 : do2 a d = dStart d := by simp [do2, hk]
    rw [e0, e1, e2]
    clear e0 e1 e2
    go_enter Try.func20, Try.ntmps20
    go_wp2_with fail
    refine (hp.out _).mono ?_
    rintro e w1 ⟨rfl, rfl⟩
    rw [hk]
    go_wp2_with fail
    refine (start_any G b d _ h1).mono ?_
    rintro e w2 h9
    obtain ⟨rfl, h2, hf2⟩ := h9.absorb hG1.out
    go_wp2
    go_ret2
    exact ⟨rfl, h2, hf1.trans hf2⟩
  · have e0 : do0 a d = read2 a.f d := by simp [do0, hk]
    have e1 : do1 a d = read1 a.f d := by simp [do1, hk]
    have e2 : do2 a d = d := by simp [do2, hk]
    rw [e0, e1, e2]
    clear e0 e1 e2
    go_enter Try.func20, Try.ntmps20
    go_wp2_with fail
    refine (hp.out _).mono ?_
    rintro e w1 ⟨rfl, rfl⟩
    rw [hk]
    go_wp2_with fail
    refine (read_any G b d a.f _ h1).mono ?_
    rintro e w2 ⟨rfl, rfl⟩
    go_wp2
    go_ret2
    exact ⟨rfl, h1, hf1⟩
  · have e0 : do0 a d = [] := by simp [do0, hk]
    have e1 : do1 a d = 0 := by simp [do1, hk]
    have e2 : do2 a d = d := by simp [do2, hk]
    rw [e0, e1, e2]
    clear e0 e1 e2
    go_enter Try.func20, Try.ntmps20
    go_wp2_with fail
    refine (hp.out _).mono ?_
    rintro e w1 ⟨rfl, rfl⟩
    rw [hk]
    go_wp2
    go_ret2
    exact ⟨rfl, h1, hf1⟩
  · have e0 : do0 a d = [] := by simp [do0, hk]
    have e1 : do1 a d = 0 := by simp [do1, hk]
    have e2 : do2 a d = dArm a.n a.keep d := by simp [do2, hk]
    rw [e0, e1, e2]
    clear e0 e1 e2
    go_enter Try.func20, Try.ntmps20
    go_wp2_with fail
    refine (hp.out _).mono ?_
    rintro e w1 ⟨rfl, rfl⟩
    rw [hk]
    go_wp2_with fail
    refine (arm_any G b d a.n a.keep _ _ h1 hn.2 (fun w9 hf9 => by rw [hkn]; exact (row_frG hv1.out hsz hGB hf9).mono (Nat.le_trans hsz hf9.size)) (by omega) hkx.out).mono ?_
    rintro e w2 h9
    obtain ⟨rfl, h2, hf2⟩ := h9.absorb hG1.out
    go_wp2
    go_ret2
    exact ⟨rfl, h2, hf1.trans hf2⟩
set_option maxRecDepth 100000 in
theorem begins_any (s t : List UInt8) (w : World) (h : t <+: s) (hs : s.length ≤ 1000000000) : Calls Try.prog 22 #[sv s, sv t] w fun e w' => e = .returned (.bool true) ∧ w = w' := by
  have hl := h.length_le
  have he : s.take t.length = t := (List.prefix_iff_eq_take.1 h).symm
  have hx := ext_take s t.length
  rw [he] at hx
  have hd : decide ((t.length : Int) ≤ (s.length : Int)) = true := by simp; omega
  clear h he
  go_enter Try.func22, Try.ntmps22
  go_wp2
  go_ret
  exact ⟨rfl, rfl⟩
end Go.Proofs.Ytdapjoapndemkaa
