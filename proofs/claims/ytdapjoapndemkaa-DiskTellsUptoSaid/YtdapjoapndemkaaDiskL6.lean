/- Chapter 05 (disk): the law DiskTells. -/
import Derived.Test.YtdapjoapndemkaaDiskR6
import Derived.Test.YtdapjoapndemkaaDiskL2
set_option linter.unusedVariables false
namespace Go.Proofs.Ytdapjoapndemkaa
open Go.RowKit
open Go.Lib (hid)
theorem dk_drewM {F : Nat → Prop} {b : Nat} {d : DS} {w : World} (h : DkD F b d w) (n : Nat) : DkD F b d (w.drewN n) := h.fr ((Fr.refl (fun _ => False) w).drewN n) (fun _ _ h => h)
/-- the program's machine (block b) and the reference's (block r), in memory of their own from B on -/
def Two (B b r : Nat) (d : DS) (x : RS) (w : World) : Prop :=
  B ≤ w.heap.size ∧ ∃ F R : Nat → Prop, DkD F b d w ∧ Rk R r x w ∧ (∀ k, F k → B ≤ k ∧ k < w.heap.size ∧ ¬ R k) ∧ ∀ k, R k → B ≤ k ∧ k < w.heap.size
theorem Two.left {B b r : Nat} {d : DS} {x : RS} {w : World} (h : Two B b r d x w) : ∃ G : Nat → Prop, DkD G b d w ∧ (∀ k, w.heap.size ≤ k → G k) ∧ (∀ k, G k → B ≤ k) ∧ ∀ w' d', DkD G b d' w' → Fr G w w' → Two B b r d' x w' := by
  obtain ⟨hB, F, R, hd, hr, hF, hR⟩ := h
  refine ⟨fun k => B ≤ k ∧ ¬ R k, hd.mono (fun k _ hk => ⟨(hF k hk).1, (hF k hk).2.2⟩), fun k hk => ⟨by omega, fun h => by have := (hR k h).2; omega⟩, fun k h => h.1, fun w' d' h1 hf => ⟨Nat.le_trans hB hf.size, fun k => (B ≤ k ∧ ¬ R k) ∧ k < w'.heap.size, R, h1.mono (fun k hk h => ⟨h, hk⟩), hr.fr hf (fun k h h2 => h2.2 h), fun k hk => ⟨hk.1.1, hk.2, hk.1.2⟩, fun k hk => ⟨(hR k hk).1, Nat.lt_of_lt_of_le (hR k hk).2 hf.size⟩⟩⟩
theorem Two.right {B b r : Nat} {d : DS} {x : RS} {w : World} (h : Two B b r d x w) : ∃ G : Nat → Prop, Rk G r x w ∧ (∀ k, w.heap.size ≤ k → G k) ∧ (∀ k, G k → B ≤ k) ∧ ∀ w' x', Rk G r x' w' → Fr G w w' → Two B b r d x' w' := by
  obtain ⟨hB, F, R, hd, hr, hF, hR⟩ := h
  refine ⟨fun k => B ≤ k ∧ ¬ F k, hr.mono (fun k _ hk => ⟨(hR k hk).1, fun h => (hF k h).2.2 hk⟩), fun k hk => ⟨by omega, fun h => by have := (hF k h).2.1; omega⟩, fun k h => h.1, fun w' x' h1 hf => ⟨Nat.le_trans hB hf.size, F, fun k => (B ≤ k ∧ ¬ F k) ∧ k < w'.heap.size, hd.fr hf (fun k h h2 => h2.2 h), h1.mono (fun k hk h => ⟨h, hk⟩), fun k hk => ⟨(hF k hk).1, Nat.lt_of_lt_of_le (hF k hk).2.1 hf.size, fun h => h.1.2 hk⟩, fun k hk => ⟨hk.1.1, hk.2⟩⟩⟩
theorem Two.below {B b r : Nat} {d : DS} {x : RS} {w w' : World} (h : Two B b r d x w) (hb : Below w.heap.size w w') : Two B b r d x w' := by
  obtain ⟨hB, F, R, hd, hr, hF, hR⟩ := h
  exact ⟨Nat.le_trans hB hb.size, F, R, dk_below hd hb, hr.fr (Fr.of_below hb (fun _ => False)) (fun _ _ h => h), fun k hk => ⟨(hF k hk).1, Nat.lt_of_lt_of_le (hF k hk).2.1 hb.size, (hF k hk).2.2⟩, fun k hk => ⟨(hR k hk).1, Nat.lt_of_lt_of_le (hR k hk).2 hb.size⟩⟩
theorem Two.drewN {B b r : Nat} {d : DS} {x : RS} {w : World} (h : Two B b r d x w) (n : Nat) : Two B b r d x (w.drewN n) := h.below (below_drewN (Below.refl _ _) n)
theorem Two.new {B b r : Nat} {d : DS} {x : RS} {w w' : World} (hd : DkD (from_ B) b d w) (hB : B ≤ w.heap.size) (hr : Rk (from_ w.heap.size) r x w') (hb : Below w.heap.size w w') : Two B b r d x w' :=
  ⟨Nat.le_trans hB hb.size, fun k => B ≤ k ∧ k < w.heap.size, fun k => w.heap.size ≤ k ∧ k < w'.heap.size, dk_below (hd.mono (fun k h1 h2 => ⟨h2, h1⟩)) hb, hr.mono (fun k h1 h2 => ⟨h2, h1⟩), fun k hk => ⟨hk.1, Nat.lt_of_lt_of_le hk.2 hb.size, fun h => by omega⟩, fun k hk => ⟨by omega, hk.2⟩⟩
/-- a copy is made (block c); the old machine goes its own way; then the reference is copied as well -/
theorem Two.copied {B b r : Nat} {d : DS} {x : RS} {w : World} (h : Two B b r d x w) {c : Nat} {w1 : World} (h1 : DkD (from_ w.heap.size) c d w1) (hb : Below w.heap.size w w1) :
    ∃ G : Nat → Prop, DkD G b d w1 ∧ (∀ k, w1.heap.size ≤ k → G k) ∧ (∀ k, G k → B ≤ k) ∧ ∀ w3, Fr G w1 w3 → Rk (fun _ => True) r x w3 ∧ ∀ r' w4, Rk (from_ w3.heap.size) r' x w4 → Below w3.heap.size w3 w4 → Two B c r' d x w4 := by
  obtain ⟨hB, F, R, hd, hr, hF, hR⟩ := h
  have hs := hb.size
  refine ⟨fun k => F k ∨ w1.heap.size ≤ k, (dk_below hd hb).mono (fun k _ hk => Or.inl hk), fun k hk => Or.inr hk, fun k hk => by rcases hk with hk | hk; exact (hF k hk).1; omega, fun w3 hf => ?_⟩
  have hr1 : Rk R r x w1 := hr.fr (Fr.of_below hb (fun _ => False)) (fun _ _ h => h)
  have hc1 : DkD (fun k => w.heap.size ≤ k ∧ k < w1.heap.size) c d w1 := h1.mono (fun k h1 h2 => ⟨h2, h1⟩)
  have hc3 := hc1.fr hf (fun k hk h2 => by rcases h2 with h2 | h2; have := (hF k h2).2.1; omega; omega)
  have hr3 := hr1.fr hf (fun k hk h2 => by rcases h2 with h2 | h2; exact (hF k h2).2.2 hk; have := (hR k hk).2; omega)
  have hs3 := hf.size
  refine ⟨hr3.mono (fun _ _ _ => trivial), fun r' w4 h4 hb4 => ?_⟩
  have hs4 := hb4.size
  exact ⟨by omega, fun k => w.heap.size ≤ k ∧ k < w1.heap.size, fun k => w3.heap.size ≤ k ∧ k < w4.heap.size, dk_below hc3 hb4, h4.mono (fun k h1 h2 => ⟨h2, h1⟩), fun k hk => ⟨by omega, by omega, fun h => by omega⟩, fun k hk => ⟨by omega, hk.2⟩⟩
theorem rcopy_g (R : Nat → Prop) (b : Nat) (x : RS) (w : World) (h : Rk R b x w) : Calls Try.prog 27 #[pt b] w fun e w' => ∃ b', e = .returned (pt b') ∧ Rk (from_ w.heap.size) b' x w' ∧ Below w.heap.size w w' := by
  obtain ⟨ho, fb, cp, vk, hv, hF⟩ := h
  exact rcopy_any b fb cp vk x w hv ho
theorem act9 {y : AC} (h : y.op % 11 = 9) (d : DS) : do2 y d = d := by simp [do2, h]
set_option maxHeartbeats 16000000 in
set_option maxRecDepth 100000 in
theorem DiskTells_walk (l : List AC) (v : Value) (w : World) (hr : ARow w.heap.size w v l) (hl : l.length ≤ 1048576) (hs : ∀ k, sumA l k ≤ 1048576) (hok : ∀ a ∈ l, ActOk a) :
    Calls Try.prog 7 #[v] w fun e w' => e = .returned (.bool true) ∧ Below w.heap.size w w' := by
  obtain ⟨a, cap, rfl⟩ := hr.slice
  have hR := hid hr
  have hS := hid hs
  have hO := hid hok
  clear hr hs hok
  go_enter Try.func7, Try.ntmps7
  go_wp2_with fail
  refine (small_any _).mono ?_
  rintro e w1 ⟨rfl, hB⟩
  go_wp2_with fail
  refine (new_any _).mono ?_
  rintro e w2 ⟨rfl, h, hb, hz⟩
  have hP : w.heap.size ≤ w1.heap.size := hB.size
  replace hB := hB.trans (hb.mono hP)
  have hwB : w1.heap.size ≤ w2.heap.size := hb.size
  clear hb hz
  have hd := hid h
  clear h
  generalize w1.heap.size = B at *
  go_wp2_with fail
  refine (few_any _ l _ _ (hR.out.below hB) hB.size hl hS.out).mono ?_
  rintro e w3 ⟨rfl, hb⟩
  replace hB := hB.trans (hb.mono hB.size)
  replace hd := hid (dk_below hd.out hb)
  replace hwB := Nat.le_trans hwB hb.size
  clear hb
  cases hfa : fewA l with
  | false =>
    go_wp2
    go_ret
    exact ⟨rfl, hB⟩
  | true =>
    go_wp2_with fail
    refine (rnew_any _).mono ?_
    rintro e w4 ⟨rfl, h, hb⟩
    have hT := Two.new hd.out hwB h hb
    replace hB := hB.trans (hb.mono hB.size)
    clear hb h hd hwB hfa
    replace hT := hid hT
    replace hB := hid hB
    generalize w3.heap.size + 1 = r0 at *
    go_wp2_with fail
    go_loopw [4, 5, 6] (fun dv xv i wr => ∃ (k b r : Nat) (d : DS) (x : RS), dv = pt b ∧ xv = pt r ∧ i = .int .i64 k ∧ k ≤ l.length ∧ Two B b r d x wr ∧ Sim d x ∧ Below w.heap.size w wr) (fun _ _ i _ => l.length - (intOf i).toNat)
    case atStart => exact ⟨0, B, r0, dNew, rNew, rfl, rfl, rfl, Nat.zero_le _, hT.out, Sim.new, hB.out⟩
    case round =>
      clear hT hB
      obtain ⟨k, b, r, d, x, rfl, rfl, rfl, hk, hT, hSim, hB⟩ := hrel
      replace hSim := hid hSim
      by_cases hlt : k < l.length
      · obtain ⟨y, hy⟩ : ∃ y, l[k]? = some y := ⟨_, List.getElem?_eq_getElem hlt⟩
        have hyo := hid (hO.out y (List.mem_of_getElem? hy))
        have hAt := hid (fun (W : World) (hW : Below w.heap.size w W) => (hR.out.below hW).at hy)
        obtain ⟨g, o, hidx, vy, e0, -⟩ := hAt.out wr hB
        clear hy
        replace hT := hid hT
        go_wp2_with fail
        refine (pick_any y.op _ hyo.out.op).mono ?_
        rintro e w5 ⟨rfl, rfl⟩
        clear hidx e0
        rcases (by omega : y.op % 11 = 9 ∨ y.op % 11 ≠ 9) with h9 | h9
        · rw [h9]
          have hb0 := hT.out.1
          go_wp2_with fail
          obtain ⟨F0, hF0⟩ : ∃ F0, DkD F0 b d wr := by obtain ⟨_, F, R, h1, _⟩ := hT.out; exact ⟨F, h1⟩
          replace hF0 := hid hF0
          refine (copy_any F0 b d _ hF0.out).mono ?_
          rintro e w6 ⟨rfl, h6, hb6⟩
          obtain ⟨G, hG1, hG2, hG3, hG4⟩ := hT.out.copied h6 hb6
          replace hG1 := hid hG1
          replace hG2 := hid hG2
          replace hG3 := hid hG3
          replace hG4 := hid hG4
          have hB6 := hB.trans (hb6.mono hB.size)
          clear h6 hb6 hF0 hB
          generalize wr.heap.size = c at *
          go_wp2_with fail
          refine (append_any G b d 0 [103, 111, 110, 101] _ hG1.out (by decide)).mono ?_
          rintro e w7 h
          obtain ⟨rfl, h7, hf7⟩ := h.absorb hG2.out
          have hs7 := hf7.size
          replace h7 := hid h7
          replace hf7 := hid hf7
          clear h hG1
          go_wp2_with fail
          refine (crash_any G b _ [] (.slice none 0 0) _ h7.out (Row.nil _ _ _ _) (by simp) (by simp)).mono ?_
          rintro e w8 h
          obtain ⟨rfl, h8, hf8⟩ := h.absorb (fun k hk => hG2.out k (Nat.le_trans hs7 hk))
          have hf68 := hf7.out.trans hf8
          obtain ⟨hx8, hT8⟩ := hG4.out _ hf68
          have hB8 := hB6.trans (hf68.to_below hB6.size (fun k hk h => by have := hG3.out k h; omega))
          replace hx8 := hid hx8
          replace hT8 := hid hT8
          clear h h7 h8 hf7 hf8 hf68 hG2 hG3 hG4 hs7 hB6 hT
          go_wp2_with fail
          refine (rcopy_g _ r x _ hx8.out).mono ?_
          rintro e w9 ⟨r9, rfl, h9', hb9⟩
          have hT := hid (hT8.out _ _ h9' hb9)
          have hB := hB8.trans (hb9.mono hB8.size)
          clear h9' hb9 hT8 hx8 hB8
          obtain ⟨G, hG1, hG2, hG3, hG4⟩ := hT.out.left
          obtain ⟨g, o, hidx, vy, e0, e1, e2, e3, e4, e5, ry⟩ := hAt.out w9 hB
          have ry1 := hid (ry.mono (Nat.le_refl _))
          obtain ⟨ya, yc, yb, yo, rfl, -⟩ := ry
          have hact := hSim.out.act y
          replace hG1 := hid hG1
          replace hG2 := hid hG2
          replace hG3 := hid hG3
          replace hG4 := hid hG4
          go_wp2_with fail
          refine (do_gen G w.heap.size c d y _ _ hG1.out hG2.out (fun k h => Nat.le_trans hP (hG3.out k h)) hB.size hyo.out ry1.out).mono ?_
          rintro e wa ⟨rfl, h, hf⟩
          rw [hact.1, hact.2.1]
          have hTa := hG4.out _ _ h hf
          have hBa := hB.trans (hf.to_below hB.size (fun k hk h => by have := hG3.out k h; omega))
          have hSa := hid hact.2.2
          clear hidx e0 e1 e2 e3 e4 e5 ry1 h hf hG1 hG2 hG3 hG4 hact hB hT
          obtain ⟨G, hG1, hG2, hG3, hG4⟩ := hTa.right
          obtain ⟨g, o, hidx, vy, e0, e1, e2, e3, e4, e5, ry⟩ := hAt.out wa hBa
          have ry1 := hid (ry.mono (Nat.le_refl _))
          obtain ⟨ya, yc, yb, yo, rfl, -⟩ := ry
          replace hG1 := hid hG1
          replace hG2 := hid hG2
          replace hG3 := hid hG3
          replace hG4 := hid hG4
          replace hTa := hid hTa
          go_wp2_with fail
          refine (twin_gen G w.heap.size _ x y _ _ hG1.out hG2.out (fun k h => Nat.le_trans hP (hG3.out k h)) hBa.size hyo.out ry1.out).mono ?_
          rintro e wb ⟨rfl, h, hf⟩
          have hTb := hid (hG4.out _ _ h hf)
          have hBb := hBa.trans (hf.to_below hBa.size (fun k hk h => by have := hG3.out k h; omega))
          clear hidx e0 e1 e2 e3 e4 e5 ry1 h hf hG1 hG2 hG3 hG4 hTa hBa
          obtain ⟨g, o, hidx, vy, -, e1, -⟩ := hAt.out wb hBb
          generalize t0 y x = S at *
          generalize t1 y x = E at *
          generalize do2 y d = d1 at *
          generalize t2 y x = x1 at *
          have hdn := hid hSa.out.down
          have hsz := hid (hSa.out.size y.f)
          obtain ⟨F1, R1, hd1, hx1⟩ : ∃ F1 R1, DkD F1 c d1 wb ∧ Rk R1 _ x1 wb := by obtain ⟨_, F, R, h1, h2, _⟩ := hTb.out; exact ⟨F, R, h1, h2⟩
          replace hd1 := hid hd1
          replace hx1 := hid hx1
          have q1 := hid (fun n => (down_any F1 _ d1 (wb.drewN n) (dk_drewM hd1.out n)).mono fun e w' (h : _ ∧ _) => (⟨by rw [← hdn.out]; exact h.1, h.2.symm⟩ : e = .returned (.bool x1.down) ∧ w' = wb.drewN n))
          have q2 := hid (fun n => (rdown_any R1 _ x1 (wb.drewN n) (hx1.out.drewN n)).mono fun e w' (h : _ ∧ _) => (⟨h.1, h.2.symm⟩ : e = .returned (.bool x1.down) ∧ w' = wb.drewN n))
          have q3 := hid (fun n => (size_any F1 _ d1 y.f (wb.drewN n) (dk_drewM hd1.out n)).mono fun e w' (h : _ ∧ _) => (⟨by rw [← hsz.out]; exact h.1, h.2.symm⟩ : e = .returned (iv (rSize y.f x1)) ∧ w' = wb.drewN n))
          have q4 := hid (fun n => rsize_any R1 _ x1 y.f (wb.drewN n) (hx1.out.drewN n))
          go_wp2_with fail
          go_quiet ((first | (go_at_call 19; exact Calls.quiet_of_same (q1.out _)) | (go_at_call 29; exact Calls.quiet_of_same (q2.out _)) | (go_at_call 17; exact Calls.quiet_of_same (q3.out _)) | (go_at_call 30; exact Calls.quiet_of (q4.out _))))
          go_wp2
          exact ⟨⟨k + 1, _, _, d1, x1, rfl, rfl, by go_num, by omega, hTb.out.drewN _, hSa.out, below_drewN hBb _⟩, by simp [intOf]; omega⟩
        · have h9e : (y.op % 11 == 9) = false := by simpa using h9
          obtain ⟨G, hG1, hG2, hG3, hG4⟩ := hT.out.left
          obtain ⟨g, o, hidx, vy, e0, e1, e2, e3, e4, e5, ry⟩ := hAt.out wr hB
          have ry1 := hid (ry.mono (Nat.le_refl _))
          obtain ⟨ya, yc, yb, yo, rfl, -⟩ := ry
          have hact := hSim.out.act y
          replace hG1 := hid hG1
          replace hG2 := hid hG2
          replace hG3 := hid hG3
          replace hG4 := hid hG4
          generalize hm9 : y.op % 11 = m9 at h9 h9e ⊢
          clear hm9
          go_wp2_with fail
          refine (do_gen G w.heap.size b d y _ _ hG1.out hG2.out (fun k h => Nat.le_trans hP (hG3.out k h)) hB.size hyo.out ry1.out).mono ?_
          rintro e wa ⟨rfl, h, hf⟩
          rw [hact.1, hact.2.1]
          have hTa := hG4.out _ _ h hf
          have hBa := hB.trans (hf.to_below hB.size (fun k hk h => by have := hG3.out k h; omega))
          have hSa := hid hact.2.2
          clear hidx e0 e1 e2 e3 e4 e5 ry1 h hf hG1 hG2 hG3 hG4 hact hB hT
          obtain ⟨G, hG1, hG2, hG3, hG4⟩ := hTa.right
          obtain ⟨g, o, hidx, vy, e0, e1, e2, e3, e4, e5, ry⟩ := hAt.out wa hBa
          have ry1 := hid (ry.mono (Nat.le_refl _))
          obtain ⟨ya, yc, yb, yo, rfl, -⟩ := ry
          replace hG1 := hid hG1
          replace hG2 := hid hG2
          replace hG3 := hid hG3
          replace hG4 := hid hG4
          replace hTa := hid hTa
          go_wp2_with fail
          refine (twin_gen G w.heap.size _ x y _ _ hG1.out hG2.out (fun k h => Nat.le_trans hP (hG3.out k h)) hBa.size hyo.out ry1.out).mono ?_
          rintro e wb ⟨rfl, h, hf⟩
          have hTb := hid (hG4.out _ _ h hf)
          have hBb := hBa.trans (hf.to_below hBa.size (fun k hk h => by have := hG3.out k h; omega))
          clear hidx e0 e1 e2 e3 e4 e5 ry1 h hf hG1 hG2 hG3 hG4 hTa hBa
          obtain ⟨g, o, hidx, vy, -, e1, -⟩ := hAt.out wb hBb
          generalize t0 y x = S at *
          generalize t1 y x = E at *
          generalize do2 y d = d1 at *
          generalize t2 y x = x1 at *
          have hdn := hid hSa.out.down
          have hsz := hid (hSa.out.size y.f)
          obtain ⟨F1, R1, hd1, hx1⟩ : ∃ F1 R1, DkD F1 b d1 wb ∧ Rk R1 _ x1 wb := by obtain ⟨_, F, R, h1, h2, _⟩ := hTb.out; exact ⟨F, R, h1, h2⟩
          replace hd1 := hid hd1
          replace hx1 := hid hx1
          have q1 := hid (fun n => (down_any F1 _ d1 (wb.drewN n) (dk_drewM hd1.out n)).mono fun e w' (h : _ ∧ _) => (⟨by rw [← hdn.out]; exact h.1, h.2.symm⟩ : e = .returned (.bool x1.down) ∧ w' = wb.drewN n))
          have q2 := hid (fun n => (rdown_any R1 _ x1 (wb.drewN n) (hx1.out.drewN n)).mono fun e w' (h : _ ∧ _) => (⟨h.1, h.2.symm⟩ : e = .returned (.bool x1.down) ∧ w' = wb.drewN n))
          have q3 := hid (fun n => (size_any F1 _ d1 y.f (wb.drewN n) (dk_drewM hd1.out n)).mono fun e w' (h : _ ∧ _) => (⟨by rw [← hsz.out]; exact h.1, h.2.symm⟩ : e = .returned (iv (rSize y.f x1)) ∧ w' = wb.drewN n))
          have q4 := hid (fun n => rsize_any R1 _ x1 y.f (wb.drewN n) (hx1.out.drewN n))
          go_wp2_with fail
          go_quiet ((first | (go_at_call 19; exact Calls.quiet_of_same (q1.out _)) | (go_at_call 29; exact Calls.quiet_of_same (q2.out _)) | (go_at_call 17; exact Calls.quiet_of_same (q3.out _)) | (go_at_call 30; exact Calls.quiet_of (q4.out _))))
          go_wp2
          exact ⟨⟨k + 1, _, _, d1, x1, rfl, rfl, by go_num, by omega, hTb.out.drewN _, hSa.out, below_drewN hBb _⟩, by simp [intOf]; omega⟩
      · have hkl : k = l.length := by omega
        subst hkl
        have hT1 := hT
        obtain ⟨G, hG1, hG2, hG3, hG4⟩ := hT.left
        replace hG1 := hid hG1
        replace hG2 := hid hG2
        replace hG3 := hid hG3
        replace hG4 := hid hG4
        replace hT := hid hT
        clear hT1
        go_wp2_with fail
        refine (start_any G _ d _ hG1.out).mono ?_
        rintro e wa h
        obtain ⟨rfl, h, hf⟩ := h.absorb hG2.out
        have hTa := hG4.out _ _ h hf
        have hBa := hB.trans (hf.to_below hB.size (fun k hk h => by have := hG3.out k h; omega))
        clear h hf hG1 hG2 hG3 hG4 hB hT
        obtain ⟨G, hG1, hG2, hG3, hG4⟩ := hTa.right
        replace hG1 := hid hG1
        replace hG2 := hid hG2
        replace hG3 := hid hG3
        replace hG4 := hid hG4
        replace hTa := hid hTa
        go_wp2_with fail
        refine (rstart_any G _ x _ hG1.out).mono ?_
        rintro e wb ⟨rfl, h, hf⟩
        have hTb := hid (hG4.out _ _ h hf)
        have hBb := hid (hBa.trans (hf.to_below hBa.size (fun k hk h => by have := hG3.out k h; omega)))
        clear h hf hG1 hG2 hG3 hG4 hTa hBa
        have hSb := hid hSim.out.up
        have hup2 : (dStart d).down = false := rfl
        replace hup2 := hid hup2
        clear hSim
        generalize dStart d = d1 at *
        generalize rStart x = x1 at *
        go_wp2_with fail
        go_loopw [12] (fun i wr => ∃ f : Nat, i = .int .i64 f ∧ f ≤ 8 ∧ Two B b r d1 x1 wr ∧ Below w.heap.size w wr) (fun i _ => 8 - (intOf i).toNat)
        case atStart => exact ⟨0, rfl, by omega, hTb.out, hBb.out⟩
        case round =>
          clear hTb hBb
          obtain ⟨f, rfl, hf8, hTb, hBb⟩ := hrel
          by_cases hf9 : f < 8
          · have hf9I : (f : Int) < 8 := by omega
            obtain ⟨F1, R1, hd1, hx1⟩ : ∃ F1 R1, DkD F1 b d1 wr ∧ Rk R1 r x1 wr := by obtain ⟨_, F, R, h1, h2, _⟩ := hTb; exact ⟨F, R, h1, h2⟩
            replace hd1 := hid hd1
            replace hx1 := hid hx1
            replace hTb := hid hTb
            have hrd := hid ((hSb.out.read f).2)
            have hrd1 := hid (show read1 (f : Int) d1 = 0 from (read_up hup2.out (f := (f : Int)) ((vF_iff _).2 ⟨by omega, by omega⟩)).1)
            go_wp2_with fail
            refine (read_any F1 b d1 f _ hd1.out).mono ?_
            rintro e w10 ⟨rfl, rfl⟩
            rw [hrd.out, hrd1.out]
            go_wp2_with fail
            refine (rread_any R1 r x1 f _ hx1.out).mono ?_
            rintro e w11 ⟨rfl, nq, rfl⟩
            generalize rRead2 (f : Int) x1 = S at *
            generalize rMay (f : Int) x1 = E at *
            go_wp2
            exact ⟨⟨f + 1, by go_num, by omega, hTb.out.drewN _, below_drewN hBb _⟩, by simp [intOf]; omega⟩
          · have hf10 : f = 8 := by omega
            subst hf10
            go_wp2
            go_ret
            exact ⟨rfl, hBb⟩
end Go.Proofs.Ytdapjoapndemkaa
