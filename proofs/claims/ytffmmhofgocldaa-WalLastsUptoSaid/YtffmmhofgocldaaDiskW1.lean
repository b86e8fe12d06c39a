/- Chapter 05 (disk): walks: the small methods. -/
import Derived.Test.YtffmmhofgocldaaDiskC
set_option linter.unusedVariables false
namespace Go.Proofs.Ytffmmhofgocldaa
open Go.RowKit
open Go.Lib (hid)
abbrev DkD (F : Nat → Prop) (b : Nat) (d : DS) (w : World) : Prop := Dk 63 5 F b d w
abbrev DPD (F : Nat → Prop) (b : Nat) (w : World) (v : Value) (d' : DS) : Ending → World → Prop := DP 63 5 F b w v d'
theorem hTE : 63 ≠ 5 := by decide

theorem valid_any (f : Int) (w : World) : Calls Try.prog 36 #[iv f] w fun e w' => e = .returned (.bool (vF f)) ∧ w = w' := by
  by_cases h1 : 0 ≤ f
  · by_cases h2 : f < 8
    · have hr := hid ((vF_iff f).2 ⟨h1, h2⟩)
      go_enter Try.func36, Try.ntmps36
      go_wp2
      go_ret
      exact ⟨ret_bool hr.out.symm, rfl⟩
    · have hr := hid ((vF_not f).2 (by omega))
      go_enter Try.func36, Try.ntmps36
      go_wp2
      go_ret
      exact ⟨ret_bool hr.out.symm, rfl⟩
  · have hr := hid ((vF_not f).2 (by omega))
    have hd : decide (0 ≤ f) = false := by simp; omega
    go_enter Try.func36, Try.ntmps36
    go_wp2
    go_ret
    exact ⟨ret_bool hr.out.symm, rfl⟩

/-- a scalar cell is set: the Disk's memory and frame after it -/
theorem DP.mk {T E : TypeId} {F : Nat → Prop} {b : Nat} {w w' : World} {v : Value} {d' : DS} {vs' : Nat → Value} (ho : Ok d') (h : DV T E b vs' d' w') (hf : Fr F w w') (hs : ∀ k, foot vs' b k → F k ∨ w.heap.size ≤ k) : DP T E F b w v d' (.returned v) w' :=
  ⟨rfl, fun k => F k ∨ w.heap.size ≤ k, ⟨ho, vs', h, hs⟩, hf, fun k hk => hk⟩
theorem DP.same {T E : TypeId} {F : Nat → Prop} {b : Nat} {w : World} {v : Value} {d : DS} (h : Dk T E F b d w) : DP T E F b w v d (.returned v) w := by
  obtain ⟨ho, vs, h1, h2⟩ := h
  exact DP.mk ho h1 (Fr.refl _ _) (fun k hk => Or.inl (h2 k hk))

theorem down_any (F : Nat → Prop) (b : Nat) (d : DS) (w : World) (h : DkD F b d w) : Calls Try.prog 24 #[pt b] w fun e w' => e = .returned (.bool d.down) ∧ w = w' := by
  obtain ⟨ho, vs, hv, hF⟩ := h
  have c := hv.cell 16
  rw [show (dCells vs d).toArray[16]? = some (.bool d.down) from rfl] at c
  clear hv hF
  go_enter Try.func24, Try.ntmps24
  go_wp2
  go_ret
  exact ⟨rfl, rfl⟩
theorem start_any (F : Nat → Prop) (b : Nat) (d : DS) (w : World) (h : DkD F b d w) : Calls Try.prog 28 #[pt b] w (DPD F b w (.tuple #[]) (dStart d)) := by
  obtain ⟨ho, vs, hv, hF⟩ := h
  have c := hv.cell 16
  rw [show (dCells vs d).toArray[16]? = some (.bool d.down) from rfl] at c
  have f := hv.free 16
  have hs := hid (hv.set (d' := dStart d) hTE 16 (.bool false) rfl rfl)
  have hF' := hid hF
  replace ho := hid ho
  clear hv hF
  go_enter Try.func28, Try.ntmps28
  go_wp2
  go_end0
  exact DP.mk ho.out.up hs.out (Fr.setCell (Fr.refl _ _) (p := ⟨b, 16, none⟩) (Or.inl (hF'.out b (Or.inl rfl))) _) (fun k hk => Or.inl (hF'.out k hk))
theorem lose_any (F : Nat → Prop) (b : Nat) (d : DS) (n : Int) (w : World) (h : DkD F b d w) (hn : n ≤ 9223372036854775807) : Calls Try.prog 22 #[pt b, iv n] w (DPD F b w (.tuple #[]) (dLose n d)) := by
  obtain ⟨ho, vs, hv, hF⟩ := h
  have c := hv.cell 17
  rw [show (dCells vs d).toArray[17]? = some (iv d.lost) from rfl] at c
  have f := hv.free 17
  have hF' := hid hF
  by_cases h0 : 0 ≤ n
  · have e : n = ((n.toNat : Nat) : Int) := by omega
    have hs := hv.set (d' := dLose n d) hTE 17 (iv n) (by rw [e]; rfl) rfl
    replace hs := hid hs
    replace ho := hid ho
    clear hv hF e
    go_enter Try.func22, Try.ntmps22
    go_wp2
    go_end0
    exact DP.mk (ho.out.lose n hn) hs.out (Fr.setCell (Fr.refl _ _) (p := ⟨b, 17, none⟩) (Or.inl (hF'.out b (Or.inl rfl))) _) (fun k hk => Or.inl (hF'.out k hk))
  · have e : n.toNat = 0 := by omega
    have hs := hid (hv.set (d' := dLose n d) hTE 17 (iv 0) (by unfold dLose; rw [e]; rfl) rfl)
    replace ho := hid ho
    clear hv hF e
    go_enter Try.func22, Try.ntmps22
    go_wp2
    go_end0
    exact DP.mk (ho.out.lose n hn) hs.out (Fr.setCell (Fr.refl _ _) (p := ⟨b, 17, none⟩) (Or.inl (hF'.out b (Or.inl rfl))) _) (fun k hk => Or.inl (hF'.out k hk))
set_option maxRecDepth 100000 in
theorem due_any (F : Nat → Prop) (b : Nat) (d : DS) (w : World) (h : DkD F b d w) : Calls Try.prog 29 #[pt b] w (DPD F b w (.bool (due1 d)) (due2 d)) := by
  obtain ⟨ho, vs, hv, hF⟩ := h
  have c := hv.cell 18
  rw [show (dCells vs d).toArray[18]? = some (iv d.armed) from rfl] at c
  have f := hv.free 18
  have hF' := hid hF
  have hle := ho.armed
  by_cases h0 : d.armed = 0
  · have e1 := hid (show due1 d = false by unfold due1; rw [h0]; rfl)
    have e2 := hid (show due2 d = d by unfold due2; rw [h0]; cases d; simp_all)
    rw [h0] at c
    replace ho := hid ho
    replace hv := hid hv
    clear hF h0
    go_enter Try.func29, Try.ntmps29
    go_wp2
    go_ret
    rw [e1.out, e2.out]
    exact DP.same ⟨ho.out, vs, hv.out, hF'.out⟩
  · have e1 := hid (show ((d.armed : Int) - 1 == 0) = due1 d by unfold due1; rw [Bool.eq_iff_iff]; simp; omega)
    have hs := hid (hv.set (d' := due2 d) hTE 18 (iv ((d.armed : Int) - 1)) (by rw [show ((d.armed : Int) - 1) = ((d.armed - 1 : Nat) : Int) by omega]; rfl) rfl)
    replace ho := hid ho
    clear hF hv
    have h0' : ((d.armed : Int) == 0) = false := by simp; omega
    have h1 : 1 ≤ d.armed := by omega
    clear h0
    go_enter Try.func29, Try.ntmps29
    go_wp2
    go_ret
    exact ⟨ret_bool e1.out, (DP.mk (v := .bool (due1 d)) ho.out.due hs.out (Fr.setCell (Fr.refl _ _) (p := ⟨b, 18, none⟩) (Or.inl (hF'.out b (Or.inl rfl))) _) (fun k hk => Or.inl (hF'.out k hk))).2⟩

theorem zero_disk (w : World) : DV 63 5 w.heap.size (fun _ => .slice none 0 0) dNew (w.alloc (.cells (dCells (fun _ => .slice none 0 0) dNew).toArray 63)) :=
  ⟨heap_alloc_new' _ _, fun f hf => World.ownsRow_nil _ _ _ _, fun f g _ _ _ => Or.inl rfl⟩
theorem new_any (w : World) : Calls Try.prog 12 #[] w fun e w' => e = .returned (pt w.heap.size) ∧ DkD (from_ w.heap.size) w.heap.size dNew w' ∧ Below w.heap.size w w' ∧ w'.heap.size = w.heap.size + 1 := by
  have hz := hid (zero_disk w)
  go_enter Try.func12, Try.ntmps12
  go_wp2
  go_ret
  exact ⟨rfl, ⟨Ok.new, _, hz.out, fun k hk => by rcases hk with rfl | ⟨f, _, h⟩; exact Nat.le_refl _; cases h⟩, (Below.refl _ _).alloc (Nat.le_refl _) _, by simp⟩

theorem idx8 {F : Nat → Prop} (f : Int) (h : vF f = true) : ∃ n : Nat, n < 8 ∧ f = (n : Int) ∧ f.toNat = n := by
  rw [vF_iff] at h; exact ⟨f.toNat, by omega, by omega, rfl⟩
theorem own_len {w : World} {base : Nat} {e : TypeId} {sz n : Nat} {v : Value} {xs : List Value} (h : w.ownsRow base e sz v n xs) : ∃ a c, v = .slice a n c ∧ n ≤ c ∧ c ≤ maxLen := by
  rcases h.2 with ⟨rfl, rfl⟩ | ⟨g, cap, cur, rfl, _, _, hn, hm, _⟩
  · exact ⟨none, 0, rfl, Nat.le_refl _, by simp [maxLen]⟩
  · exact ⟨_, cap, rfl, hn, hm⟩
theorem size_any (F : Nat → Prop) (b : Nat) (d : DS) (f : Int) (w : World) (h : DkD F b d w) : Calls Try.prog 16 #[pt b, iv f] w fun e w' => e = .returned (iv (size1 f d)) ∧ w = w' := by
  obtain ⟨ho, vs, hv, hF⟩ := h
  cases hf : vF f with
  | false =>
    have e := hid (show size1 f d = 0 by unfold size1; rw [hf]; rfl)
    clear hv hF
    go_enter Try.func16, Try.ntmps16
    go_wp2_with (go_at_call 36; refine (valid_any f _).mono ?_; rintro e w' ⟨rfl, rfl⟩; rw [hf])
    go_ret
    exact ⟨by rw [e.out]; rfl, rfl⟩
  | true =>
    obtain ⟨n, hn, rfl, hn2⟩ := idx8 (F := F) f hf
    have e := hid (show size1 (n : Int) d = (d.data n).length by unfold size1; rw [hf, hn2]; rfl)
    have c := hv.cell (n * 2)
    rw [dCells_data vs d n hn] at c
    obtain ⟨a, cp, hvn, hc1, hc2⟩ := own_len (hv.own n hn)
    rw [hvn] at c
    clear hv hF hvn hn2
    go_enter Try.func16, Try.ntmps16
    go_wp2_with (go_at_call 36; refine (valid_any n _).mono ?_; rintro e w' ⟨rfl, rfl⟩; rw [hf])
    go_ret
    exact ⟨by rw [e.out]; rfl, rfl⟩
end Go.Proofs.Ytffmmhofgocldaa
