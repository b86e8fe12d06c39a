/- Chapter 05 (disk): twin: the law's acts on the reference. -/
import Derived.Test.YtdapjoapndemkaaDiskR5
set_option linter.unusedVariables false
namespace Go.Proofs.Ytdapjoapndemkaa
open Go.RowKit
open Go.Lib (hid)
theorem ROk.app {x : RS} (h : ROk x) (f : Int) (s : List UInt8) : ROk (rApp2 f s x) := by
  have hc := h.comes f s
  unfold rApp2
  split
  · rename_i hz
    unfold rApp1 at hz
    by_cases hm : rMay f (rComes f s x) = 0
    · have hv := (rMay_zero hm).2
      rw [hm, if_neg (by simp)] at hz
      have hb : ¬ 16777216 < rSize f (rComes f s x) + s.length := fun hb => by rw [if_pos hb] at hz; cases hz
      unfold rSize at hb
      rw [hv] at hb
      simp only [if_true] at hb
      exact hc.grow (by omega)
    · rw [if_pos hm] at hz; exact absurd hz hm
  · exact hc
theorem ROk.flush {x : RS} (h : ROk x) (f : Int) : ROk (rFlush2 f x) := by
  have hc := h.comes 0 []
  unfold rFlush2
  split
  · exact hc
  · rename_i hm
    have hv := (rMay_zero (f := f) (x := rComes 0 [] x) (by simpa using hm)).2
    split
    · exact ⟨hc.len, by show (rComes 0 [] x).lost - 1 ≤ _; have := hc.lost; omega, hc.armed, hc.keep⟩
    · exact hc.set (by rw [List.length_append]; have := hc.len _ (vF_lt hv); simp; omega)
theorem ROk.cut {x : RS} (h : ROk x) (f n : Int) : ROk (rCut2 f n x) := by
  have hc := h.comes 0 []
  unfold rCut2
  split
  · rename_i hz
    unfold rCut1 at hz
    by_cases hm : rMay f (rComes 0 [] x) = 0
    · have hv := (rMay_zero hm).2
      have := hc.len _ (vF_lt hv)
      refine hc.set ?_
      unfold cutL cutR
      split
      · simp; omega
      · simp; omega
    · rw [if_pos hm] at hz; exact absurd hz hm
  · exact hc
theorem ROk.turn {x : RS} (h : ROk x) (f g : Int) : ROk (rTurn2 f g x) := by
  have hc := h.comes 0 []
  unfold rTurn2
  split
  · rename_i hz
    unfold rTurn1 at hz
    by_cases hm : rMay f (rComes 0 [] x) = 0
    · rw [if_neg (by simpa using hm)] at hz
      by_cases hg : rMay g (rComes 0 [] x) = 0
      · have hv := (rMay_zero hg).2
        exact (hc.set (hc.len _ (vF_lt hv))).set (by simp)
      · rw [if_pos hg] at hz; exact absurd hz hg
    · rw [if_pos hm] at hz; exact absurd hz hm
  · exact hc
theorem VP.rk {G : Nat → Prop} {b fb cp : Nat} {vk : Value} {w : World} {v : Value} {x' : RS} {e : Ending} {w' : World} (h : VP b fb cp vk w v x' e w') (ho : ROk x') (hG : ∀ k, rfoot b fb vk k → G k) : RP G b w v x' e w' :=
  ⟨h.1, ⟨ho, fb, cp, vk, h.2.1, hG⟩, h.2.2.mono (fun k _ hk => by rcases hk with hk | hk; exact hG k (Or.inl hk); exact hG k (Or.inr (Or.inl hk)))⟩
theorem gApp (G : Nat → Prop) (b : Nat) (x : RS) (f : Int) (s : List UInt8) (w : World) (h : Rk G b x w) (hs : s.length ≤ 1048576) : Calls Try.prog 40 #[pt b, iv f, sv s] w (RP G b w (iv (rApp1 f s x)) (rApp2 f s x)) := by
  obtain ⟨ho, fb, cp, vk, hv, hF⟩ := h
  exact (rapp_any b fb cp vk x f s w hv ho hs).mono fun _ _ h => h.rk (ho.app f s) hF
theorem gFlush (G : Nat → Prop) (b : Nat) (x : RS) (f : Int) (w : World) (h : Rk G b x w) : Calls Try.prog 41 #[pt b, iv f] w (RP G b w (iv (rFlush1 f x)) (rFlush2 f x)) := by
  obtain ⟨ho, fb, cp, vk, hv, hF⟩ := h
  exact (rflush_any b fb cp vk x f w hv ho).mono fun _ _ h => h.rk (ho.flush f) hF
theorem gCut (G : Nat → Prop) (b : Nat) (x : RS) (f n : Int) (w : World) (h : Rk G b x w) (hn : -9223372036854775808 ≤ n ∧ n ≤ 9223372036854775807) : Calls Try.prog 42 #[pt b, iv f, iv n] w (RP G b w (iv (rCut1 f n x)) (rCut2 f n x)) := by
  obtain ⟨ho, fb, cp, vk, hv, hF⟩ := h
  exact (rcut_any b fb cp vk x f n w hv ho hn).mono fun _ _ h => h.rk (ho.cut f n) hF
theorem gTurn (G : Nat → Prop) (b : Nat) (x : RS) (f g : Int) (w : World) (h : Rk G b x w) : Calls Try.prog 43 #[pt b, iv f, iv g] w (RP G b w (iv (rTurn1 f g x)) (rTurn2 f g x)) := by
  obtain ⟨ho, fb, cp, vk, hv, hF⟩ := h
  exact (rturn_any b fb cp vk x f g w hv ho).mono fun _ _ h => h.rk (ho.turn f g) hF
theorem gCrash (G : Nat → Prop) (b : Nat) (x : RS) (l : List Int) (v : Value) (w : World) (h : Rk G b x w) (hv : ∀ w', Fr G w w' → Row w'.heap.size w' 1 v l.length (l.map iv)) (hl : l.length ≤ 1048576) (hlx : ∀ z ∈ l, z ≤ 9223372036854775807) : Calls Try.prog 44 #[pt b, v] w (RP G b w (.tuple #[]) (rCrash l x)) := by
  obtain ⟨ho, fb, cp, vk, hv2, hF⟩ := h
  exact (rcrash_any b fb cp vk x l v w hv2 ho (fun w' hf => hv w' (hf.mono (fun k _ hk => by rcases hk with hk | hk; exact hF k (Or.inl hk); exact hF k (Or.inr (Or.inl hk))))) hl hlx).mono fun _ _ h => h.rk (ho.crash l) hF
theorem gArm (G : Nat → Prop) (b : Nat) (x : RS) (n : Int) (l : List Int) (v : Value) (w : World) (h : Rk G b x w) (hG : ∀ k, w.heap.size ≤ k → G k) (hn : n ≤ 9223372036854775807) (hv : ∀ w', Fr G w w' → Row w'.heap.size w' 1 v l.length (l.map iv)) (hl : l.length ≤ 1048576) (hlx : ∀ z ∈ l, z ≤ 9223372036854775807) : Calls Try.prog 46 #[pt b, iv n, v] w (RP G b w (.tuple #[]) (rArm n l x)) := by
  obtain ⟨ho, fb, cp, vk, hv2, hF⟩ := h
  refine (rarm_any b fb cp vk x n l v w hv2 hn (fun w' hf => hv w' (hf.mono (fun k _ hk => by rcases hk with hk | hk; exact hF k (Or.inl hk); exact hF k (Or.inr (Or.inl hk))))) hl).mono ?_
  rintro e w' ⟨rfl, ⟨vk', h1, h2⟩, h3⟩
  refine ⟨rfl, ⟨⟨ho.len, ho.lost, by show n.toNat ≤ _; omega, hl, hlx⟩, fb, cp, vk', h1, fun k hk => ?_⟩, h3.mono (fun k _ hk => by rcases hk with hk | hk; exact hF k (Or.inl hk); exact hF k (Or.inr (Or.inl hk)))⟩
  rcases hk with hk | hk | hk
  · exact hF k (Or.inl hk)
  · exact hF k (Or.inr (Or.inl hk))
  · exact hG k (h2 k hk)

theorem Rk.alloc {F : Nat → Prop} {b : Nat} {x : RS} {w : World} (h : Rk F b x w) (o : Obj) : Rk F b x (w.alloc o) := h.fr ((Fr.refl (fun _ => False) w).alloc o) (fun _ _ h => h)
theorem Rk.drewN {F : Nat → Prop} {b : Nat} {x : RS} {w : World} (h : Rk F b x w) (n : Nat) : Rk F b x (w.drewN n) := h.fr ((Fr.refl (fun _ => False) w).drewN n) (fun _ _ h => h)
def t0 (a : AC) (x : RS) : List UInt8 := if a.op % 11 = 8 then rRead2 a.f x else []
def t1 (a : AC) (x : RS) : Int := if a.op % 11 ≤ 1 then rApp1 a.f a.s x else if a.op % 11 = 2 then rFlush1 a.f x else if a.op % 11 = 3 then rCut1 a.f a.n x else if a.op % 11 = 4 then rTurn1 a.f a.g x else if a.op % 11 = 8 then rMay a.f x else 0
def t2 (a : AC) (x : RS) : RS := if a.op % 11 ≤ 1 then rApp2 a.f a.s x else if a.op % 11 = 2 then rFlush2 a.f x else if a.op % 11 = 3 then rCut2 a.f a.n x else if a.op % 11 = 4 then rTurn2 a.f a.g x else if a.op % 11 = 5 then rCrash a.keep x else if a.op % 11 = 6 then rLose a.n x
  else if a.op % 11 = 7 then rStart x else if a.op % 11 = 10 then rArm a.n a.keep x else x
theorem Sim.act {d : DS} {x : RS} (h : Sim d x) (a : AC) : do0 a d = t0 a x ∧ do1 a d = t1 a x ∧ Sim (do2 a d) (t2 a x) := by
  unfold do0 do1 do2 t0 t1 t2
  refine ⟨?_, ?_, ?_⟩
  · split
    · exact (h.read _).2
    · rfl
  · split
    · exact (h.app _ _).1
    · split
      · exact (h.flush _).1
      · split
        · exact (h.cut _ _).1
        · split
          · exact (h.turn _ _).1
          · split
            · exact (h.read _).1
            · rfl
  · split
    · exact (h.app _ _).2
    · split
      · exact (h.flush _).2
      · split
        · exact (h.cut _ _).2
        · split
          · exact (h.turn _ _).2
          · split
            · exact h.crash _
            · split
              · exact h.lose _
              · split
                · exact h.up
                · split
                  · exact h.arm _ _
                  · exact h

set_option maxHeartbeats 8000000 in
set_option maxRecDepth 100000 in
theorem twin_gen (G : Nat → Prop) (B b : Nat) (x : RS) (a : AC) (vk : Value) (w : World) (h : Rk G b x w) (hG : ∀ k, w.heap.size ≤ k → G k) (hGB : ∀ k, G k → B ≤ k) (hB : B ≤ w.heap.size) (ha : ActOk a) (hv : Row B w 1 vk a.keep.length (a.keep.map iv)) :
    Calls Try.prog 28 #[pt b, aga a vk] w fun e w' => e = .returned (.tuple #[sv (t0 a x), iv (t1 a x)]) ∧ Rk G b (t2 a x) w' ∧ Fr G w w' := by
  have hv' := hv
  obtain ⟨ka, kc, kb, ko, rfl, -, -, -⟩ := hv'
  generalize hkn : a.keep.length = kn at hv ⊢
  obtain ⟨hop, hf, hg, hn, hs, hkl, hkx⟩ := ha
  have hA := heap_alloc_new' w (.cells #[iv a.op, iv a.f, iv a.g, iv a.n, sv a.s, .slice ka kn kc] 39)
  have h1 := h.alloc (.cells #[iv a.op, iv a.f, iv a.g, iv a.n, sv a.s, .slice ka kn kc] 39)
  have hB1 : Below B w (w.alloc (.cells #[iv a.op, iv a.f, iv a.g, iv a.n, sv a.s, .slice ka kn kc] 39)) := (Below.refl _ _).alloc hB _
  have hf1 : Fr G w (w.alloc (.cells #[iv a.op, iv a.f, iv a.g, iv a.n, sv a.s, .slice ka kn kc] 39)) := (Fr.refl _ _).alloc _
  have hG1 : ∀ k, (w.alloc (.cells #[iv a.op, iv a.f, iv a.g, iv a.n, sv a.s, .slice ka kn kc] 39)).heap.size ≤ k → G k := fun k hk => hG k (by simp at hk; omega)
  replace hG1 := hid hG1
  have hv1 := hid (hv.below hB1 (Nat.le_refl _))
  have hsz : B ≤ (w.alloc (.cells #[iv a.op, iv a.f, iv a.g, iv a.n, sv a.s, .slice ka kn kc] 39)).heap.size := by simp; omega
  obtain ⟨c0, c1, c2, c3, c4, c5⟩ := cells6 hA
  have hp := hid (fun w' => pick_any a.op w' hop)
  replace hkx := hid hkx
  clear hA hv
  rcases (by omega : a.op % 11 = 0 ∨ a.op % 11 = 1 ∨ a.op % 11 = 2 ∨ a.op % 11 = 3 ∨ a.op % 11 = 4 ∨ a.op % 11 = 5 ∨ a.op % 11 = 6 ∨ a.op % 11 = 7 ∨ a.op % 11 = 8 ∨ a.op % 11 = 9 ∨ a.op % 11 = 10) with hk | hk | hk | hk | hk | hk | hk | hk | hk | hk | hk
  · have e0 : t0 a x = [] := by simp [t0, hk]
    have e1 : t1 a x = rApp1 a.f a.s x := by simp [t1, hk]
    have e2 : t2 a x = rApp2 a.f a.s x := by simp [t2, hk]
    rw [e0, e1, e2]
    clear e0 e1 e2
    go_enter Try.func28, Try.ntmps28
    go_wp2_with fail
    refine (hp.out _).mono ?_
    rintro e w1 ⟨rfl, rfl⟩
    rw [hk]
    go_wp2_with fail
    refine (gApp G b x a.f a.s _ h1 (by omega)).mono ?_
    rintro e w2 ⟨rfl, h2, hf2⟩
    go_wp2
    go_ret2
    exact ⟨rfl, h2, hf1.trans hf2⟩
  · have e0 : t0 a x = [] := by simp [t0, hk]
    have e1 : t1 a x = rApp1 a.f a.s x := by simp [t1, hk]
    have e2 : t2 a x = rApp2 a.f a.s x := by simp [t2, hk]
    rw [e0, e1, e2]
    clear e0 e1 e2
    go_enter Try.func28, Try.ntmps28
    go_wp2_with fail
    refine (hp.out _).mono ?_
    rintro e w1 ⟨rfl, rfl⟩
    rw [hk]
    go_wp2_with fail
    refine (gApp G b x a.f a.s _ h1 (by omega)).mono ?_
    rintro e w2 ⟨rfl, h2, hf2⟩
    go_wp2
    go_ret2
    exact ⟨rfl, h2, hf1.trans hf2⟩
  · have e0 : t0 a x = [] := by simp [t0, hk]
    have e1 : t1 a x = rFlush1 a.f x := by simp [t1, hk]
    have e2 : t2 a x = rFlush2 a.f x := by simp [t2, hk]
    rw [e0, e1, e2]
    clear e0 e1 e2
    go_enter Try.func28, Try.ntmps28
    go_wp2_with fail
    refine (hp.out _).mono ?_
    rintro e w1 ⟨rfl, rfl⟩
    rw [hk]
    go_wp2_with fail
    refine (gFlush G b x a.f _ h1).mono ?_
    rintro e w2 ⟨rfl, h2, hf2⟩
    go_wp2
    go_ret2
    exact ⟨rfl, h2, hf1.trans hf2⟩
  · have e0 : t0 a x = [] := by simp [t0, hk]
    have e1 : t1 a x = rCut1 a.f a.n x := by simp [t1, hk]
    have e2 : t2 a x = rCut2 a.f a.n x := by simp [t2, hk]
    rw [e0, e1, e2]
    clear e0 e1 e2
    go_enter Try.func28, Try.ntmps28
    go_wp2_with fail
    refine (hp.out _).mono ?_
    rintro e w1 ⟨rfl, rfl⟩
    rw [hk]
    go_wp2_with fail
    refine (gCut G b x a.f a.n _ h1 hn).mono ?_
    rintro e w2 ⟨rfl, h2, hf2⟩
    go_wp2
    go_ret2
    exact ⟨rfl, h2, hf1.trans hf2⟩
  · have e0 : t0 a x = [] := by simp [t0, hk]
    have e1 : t1 a x = rTurn1 a.f a.g x := by simp [t1, hk]
    have e2 : t2 a x = rTurn2 a.f a.g x := by simp [t2, hk]
    rw [e0, e1, e2]
    clear e0 e1 e2
    go_enter Try.func28, Try.ntmps28
    go_wp2_with fail
    refine (hp.out _).mono ?_
    rintro e w1 ⟨rfl, rfl⟩
    rw [hk]
    go_wp2_with fail
    refine (gTurn G b x a.f a.g _ h1).mono ?_
    rintro e w2 ⟨rfl, h2, hf2⟩
    go_wp2
    go_ret2
    exact ⟨rfl, h2, hf1.trans hf2⟩
  · have e0 : t0 a x = [] := by simp [t0, hk]
    have e1 : t1 a x = 0 := by simp [t1, hk]
    have e2 : t2 a x = rCrash a.keep x := by simp [t2, hk]
    rw [e0, e1, e2]
    clear e0 e1 e2
    go_enter Try.func28, Try.ntmps28
    go_wp2_with fail
    refine (hp.out _).mono ?_
    rintro e w1 ⟨rfl, rfl⟩
    rw [hk]
    go_wp2_with fail
    refine (gCrash G b x a.keep _ _ h1 (fun w9 hf9 => by rw [hkn]; exact (row_frG hv1.out hsz hGB hf9).mono (Nat.le_trans hsz hf9.size)) (by omega) hkx.out).mono ?_
    rintro e w2 ⟨rfl, h2, hf2⟩
    go_wp2
    go_ret2
    exact ⟨rfl, h2, hf1.trans hf2⟩
  · have e0 : t0 a x = [] := by simp [t0, hk]
    have e1 : t1 a x = 0 := by simp [t1, hk]
    have e2 : t2 a x = rLose a.n x := by simp [t2, hk]
    rw [e0, e1, e2]
    clear e0 e1 e2
    go_enter Try.func28, Try.ntmps28
    go_wp2_with fail
    refine (hp.out _).mono ?_
    rintro e w1 ⟨rfl, rfl⟩
    rw [hk]
    go_wp2_with fail
    refine (rlose_any G b x a.n _ h1 hn.2).mono ?_
    rintro e w2 ⟨rfl, h2, hf2⟩
    go_wp2
    go_ret2
    exact ⟨rfl, h2, hf1.trans hf2⟩
  · have e0 : t0 a x = [] := by simp [t0, hk]
    have e1 : t1 a x = 0 := by simp [t1, hk]
    have e2 : t2 a x = rStart x := by simp [t2, hk]
    rw [e0, e1, e2]
    clear e0 e1 e2
    go_enter Try.func28, Try.ntmps28
    go_wp2_with fail
    refine (hp.out _).mono ?_
    rintro e w1 ⟨rfl, rfl⟩
    rw [hk]
    go_wp2_with fail
    refine (rstart_any G b x _ h1).mono ?_
    rintro e w2 ⟨rfl, h2, hf2⟩
    go_wp2
    go_ret2
    exact ⟨rfl, h2, hf1.trans hf2⟩
  · have e0 : t0 a x = rRead2 a.f x := by simp [t0, hk]
    have e1 : t1 a x = rMay a.f x := by simp [t1, hk]
    have e2 : t2 a x = x := by simp [t2, hk]
    rw [e0, e1, e2]
    clear e0 e1 e2
    go_enter Try.func28, Try.ntmps28
    go_wp2_with fail
    refine (hp.out _).mono ?_
    rintro e w1 ⟨rfl, rfl⟩
    rw [hk]
    go_wp2_with fail
    refine (rread_any G b x a.f _ h1).mono ?_
    rintro e w2 ⟨rfl, nq, rfl⟩
    go_wp2
    go_ret2
    exact ⟨rfl, h1.drewN _, hf1.drewN _⟩
  · have e0 : t0 a x = [] := by simp [t0, hk]
    have e1 : t1 a x = 0 := by simp [t1, hk]
    have e2 : t2 a x = x := by simp [t2, hk]
    rw [e0, e1, e2]
    clear e0 e1 e2
    go_enter Try.func28, Try.ntmps28
    go_wp2_with fail
    refine (hp.out _).mono ?_
    rintro e w1 ⟨rfl, rfl⟩
    rw [hk]
    go_wp2
    go_ret2
    exact ⟨rfl, h1, hf1⟩
  · have e0 : t0 a x = [] := by simp [t0, hk]
    have e1 : t1 a x = 0 := by simp [t1, hk]
    have e2 : t2 a x = rArm a.n a.keep x := by simp [t2, hk]
    rw [e0, e1, e2]
    clear e0 e1 e2
    go_enter Try.func28, Try.ntmps28
    go_wp2_with fail
    refine (hp.out _).mono ?_
    rintro e w1 ⟨rfl, rfl⟩
    rw [hk]
    go_wp2_with fail
    refine (gArm G b x a.n a.keep _ _ h1 hG1.out hn.2 (fun w9 hf9 => by rw [hkn]; exact (row_frG hv1.out hsz hGB hf9).mono (Nat.le_trans hsz hf9.size)) (by omega) hkx.out).mono ?_
    rintro e w2 ⟨rfl, h2, hf2⟩
    go_wp2
    go_ret2
    exact ⟨rfl, h2, hf1.trans hf2⟩
end Go.Proofs.Ytdapjoapndemkaa
