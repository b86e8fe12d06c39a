/- Chapter 05 (disk): walks: Turn, Arm. -/
import Derived.Test.YtffmmhofgocldaaDiskW7
set_option linter.unusedVariables false
namespace Go.Proofs.Ytffmmhofgocldaa
open Go.RowKit
open Go.Lib (hid)
/-- the Disk after file g has taken file f's place -/
theorem DV.turn {T E : TypeId} {b : Nat} {vs : Nat → Value} {d : DS} {w : World} (h : DV T E b vs d w) (hTE : T ≠ E) (f g : Nat) (hf : f < 8) (hg : g < 8) (hne : f ≠ g) :
    DV T E b (upd (upd vs f (vs g)) g (.slice none 0 0)) { d with data := upd (upd d.data f (d.data g)) g [], dur := upd (upd d.dur f (d.dur g)) g 0 }
      ((((w.setCell ⟨b, f * 2, none⟩ (vs g)).setCell ⟨b, f * 2 + 1, none⟩ (iv (d.dur g))).setCell ⟨b, g * 2, none⟩ (.slice none 0 0)).setCell ⟨b, g * 2 + 1, none⟩ (iv 0)) := by
  have b1 := heap_setCell_same (i := f * 2) h.blk (vs g)
  rw [dCells_set_data vs d (vs g) (d.data g) f hf] at b1
  have b2 := heap_setCell_same (i := f * 2 + 1) b1 (iv (d.dur g))
  rw [dCells_set_dur _ _ _ f hf] at b2
  have b3 := heap_setCell_same (i := g * 2) b2 (.slice none 0 0)
  rw [dCells_set_data _ _ _ [] g hg] at b3
  have b4 := heap_setCell_same (i := g * 2 + 1) b3 (iv 0)
  rw [show iv 0 = iv ((0 : Nat) : Int) from rfl, dCells_set_dur _ _ 0 g hg] at b4
  have hoth : ∀ k, k ≠ b → ((((w.setCell ⟨b, f * 2, none⟩ (vs g)).setCell ⟨b, f * 2 + 1, none⟩ (iv (d.dur g))).setCell ⟨b, g * 2, none⟩ (.slice none 0 0)).setCell ⟨b, g * 2 + 1, none⟩ (iv 0)).heap[k]? = w.heap[k]? := fun k hk => by
    rw [heap_setCell_other _ hk, heap_setCell_other _ hk, heap_setCell_other _ hk, heap_setCell_other _ hk]
  refine ⟨b4, fun i hi => ?_, fun i j hi hj hij => ?_⟩
  · show World.ownsRow _ 0 E 1 (upd (upd vs f (vs g)) g (.slice none 0 0) i) (upd (upd d.data f (d.data g)) g [] i).length (u8s (upd (upd d.data f (d.data g)) g [] i))
    by_cases e : i = g
    · subst e
      rw [upd_same, upd_same]
      exact World.ownsRow_nil _ _ _ _
    · rw [upd_other _ _ _ _ e, upd_other _ _ _ _ e]
      by_cases e2 : i = f
      · subst e2
        rw [upd_same, upd_same]
        exact owns_blk (h.own g hg) (fun k hk => hoth k (fun e => h.ne hTE hg (by rw [hk, e]))) (fun _ _ => Nat.zero_le _)
      · rw [upd_other _ _ _ _ e2, upd_other _ _ _ _ e2]
        exact owns_blk (h.own i hi) (fun k hk => hoth k (fun e => h.ne hTE hi (by rw [hk, e]))) (fun _ _ => Nat.zero_le _)
  · by_cases e : i = g
    · subst e; rw [upd_same]; exact Or.inl rfl
    · rw [upd_other _ _ _ _ e]
      by_cases e3 : j = g
      · subst e3
        rw [upd_same]
        have hn : (Value.slice none 0 0).ownBlock = none := rfl
        rw [hn]
        rcases Option.eq_none_or_eq_some (upd vs f (vs j) i).ownBlock with h8 | ⟨k8, h8⟩
        · exact Or.inl h8
        · exact Or.inr (by rw [h8]; simp)
      · rw [upd_other _ _ _ _ e3]
        by_cases e2 : i = f
        · subst e2
          rw [upd_same, upd_other _ _ _ _ (fun e => hij e.symm)]
          exact h.apart g j hg hj (fun e => e3 e.symm)
        · rw [upd_other _ _ _ _ e2]
          by_cases e4 : j = f
          · subst e4; rw [upd_same]; exact h.apart i g hi hg e
          · rw [upd_other _ _ _ _ e4]; exact h.apart i j hi hj hij
theorem DV.drewN {T E : TypeId} {b : Nat} {vs : Nat → Value} {d : DS} {w : World} (h : DV T E b vs d w) (n : Nat) : DV T E b vs d (w.drewN n) := ⟨h.blk, h.own, h.apart⟩
theorem foot_turn {vs : Nat → Value} {b f g : Nat} (hg : g < 8) : ∀ k, foot (upd (upd vs f (vs g)) g (.slice none 0 0)) b k → foot vs b k := by
  intro k hk
  rcases hk with rfl | ⟨i, hi, hk⟩
  · exact Or.inl rfl
  · by_cases e : i = g
    · subst e; rw [upd_same] at hk; cases hk
    · rw [upd_other _ _ _ _ e] at hk
      by_cases e2 : i = f
      · subst e2; rw [upd_same] at hk; exact Or.inr ⟨g, hg, hk⟩
      · rw [upd_other _ _ _ _ e2] at hk; exact Or.inr ⟨i, hi, hk⟩
theorem turn1_bad {f g : Int} {d : DS} (hs : start1 d = 0) (h : vF f = false ∨ vF g = false ∨ f = g) : turn1 f g d = 1 := by
  unfold turn1
  rw [if_neg (by omega), if_neg]
  rcases h with h | h | h <;> simp [h]
set_option maxRecDepth 100000 in
set_option maxHeartbeats 4000000 in
theorem turn_any (F : Nat → Prop) (b : Nat) (d : DS) (f g : Int) (w : World) (h : DkD F b d w) : Calls Try.prog 40 #[pt b, iv f, iv g] w (DPD F b w (iv (turn1 f g d)) (turn2 f g d)) := by
  have h0 := hid h
  rcases start1_cases d with hs | hs
  · have hz := start1_zero hs
    have hz2 := hid hz.2.2
    have hbad : ∀ (_ : vF f = false ∨ vF g = false ∨ f = g), turn1 f g d = 1 ∧ turn2 f g d = start2 d := fun hh => by
      have := turn1_bad hs hh
      exact ⟨this, by unfold turn2; rw [this]; rfl⟩
    cases hf : vF f with
    | false =>
      obtain ⟨e1, e2⟩ := hbad (Or.inl hf)
      replace e1 := hid e1
      replace e2 := hid e2
      clear h hz hbad
      go_enter Try.func40, Try.ntmps40
      go_wp2_with fail
      refine (starts_any F b d _ h0.out).mono ?_
      rintro e w1 ⟨rfl, F1, h1, f1, g1⟩
      rw [hs]
      go_wp2_with (go_at_call 36; refine (valid_any f _).mono ?_; rintro e w' ⟨rfl, rfl⟩; rw [hf])
      go_ret
      rw [e1.out, e2.out]
      exact ⟨rfl, F1, h1, f1, g1⟩
    | true =>
      cases hg : vF g with
      | false =>
        obtain ⟨e1, e2⟩ := hbad (Or.inr (Or.inl hg))
        replace e1 := hid e1
        replace e2 := hid e2
        clear h hz hbad
        go_enter Try.func40, Try.ntmps40
        go_wp2_with fail
        refine (starts_any F b d _ h0.out).mono ?_
        rintro e w1 ⟨rfl, F1, h1, f1, g1⟩
        rw [hs]
        go_wp2_with (go_at_call 36; refine (valid_any _ _).mono ?_; rintro e w' ⟨rfl, rfl⟩; first | rw [hf] | rw [hg])
        go_ret
        rw [e1.out, e2.out]
        exact ⟨rfl, F1, h1, f1, g1⟩
      | true =>
        by_cases hfg : f = g
        · obtain ⟨e1, e2⟩ := hbad (Or.inr (Or.inr hfg))
          replace e1 := hid e1
          replace e2 := hid e2
          subst hfg
          clear h hz hbad
          go_enter Try.func40, Try.ntmps40
          go_wp2_with fail
          refine (starts_any F b d _ h0.out).mono ?_
          rintro e w1 ⟨rfl, F1, h1, f1, g1⟩
          rw [hs]
          go_wp2_with (go_at_call 36; refine (valid_any _ _).mono ?_; rintro e w' ⟨rfl, rfl⟩; rw [hf])
          go_ret
          rw [e1.out, e2.out]
          exact ⟨rfl, F1, h1, f1, g1⟩
        · obtain ⟨n, hn, rfl, hn2⟩ := idx8 (F := F) f hf
          obtain ⟨m, hm, rfl, hm2⟩ := idx8 (F := F) g hg
          have hnI : (n : Int) < 8 := by omega
          have hmI : (m : Int) < 8 := by omega
          have hnm : n ≠ m := by omega
          have hfgb : ((n : Int) == (m : Int)) = false := by simpa using hfg
          have hlm := h.1.len m hm
          have hdm := h.1.dur m hm
          by_cases hdd : d.dur m < (d.data m).length
          · have e1 := hid (show turn1 (n : Int) (m : Int) d = 16 by unfold turn1; rw [hs, hf, hg, hm2]; simp [hdd, hfg])
            have e2 := hid (show turn2 (n : Int) (m : Int) d = start2 d by unfold turn2; rw [e1.out]; rfl)
            clear h hz hbad hfg
            go_enter Try.func40, Try.ntmps40
            go_wp2_with fail
            refine (starts_any F b d _ h0.out).mono ?_
            rintro e w1 ⟨rfl, F1, h1, f1, g1⟩
            rw [hs]
            have h1' := hid h1
            obtain ⟨ho, vs, hv, hF⟩ := h1
            rw [hz2.out] at hv
            have cd := hv.cell (m * 2)
            rw [dCells_data _ _ m hm] at cd
            have cu := hv.cell (m * 2 + 1)
            rw [dCells_dur _ _ m hm] at cu
            replace cu : w1.cell? ⟨b, m * 2 + 1, none⟩ = some (iv (d.dur m)) := cu
            have hown : w1.ownsRow 0 5 1 (vs m) (d.data m).length (u8s (d.data m)) := hv.own m hm
            obtain ⟨a, cp, hvn, hc1, hc2⟩ := own_len hown
            rw [hvn] at cd
            replace hvn := hid hvn
            replace hown := hid hown
            clear hv ho hF
            go_wp2_with (go_at_call 36; refine (valid_any _ _).mono ?_; rintro e w' ⟨rfl, rfl⟩; first | rw [hf] | rw [hg])
            go_quiet (fail)
            go_wp2_with fail
            go_ret
            rw [e1.out, e2.out]
            exact DP.then f1 g1 (DP.drewN h1'.out _)
          · have e1 := hid (show turn1 (n : Int) (m : Int) d = 0 by unfold turn1; rw [hs, hf, hg, hm2]; simp [hdd, hfg])
            have e2 := hid (show turn2 (n : Int) (m : Int) d = { due2 d with data := upd (upd d.data n (d.data m)) m [], dur := upd (upd d.dur n (d.dur m)) m 0 } by unfold turn2; rw [e1.out, hn2, hm2, hz2.out]; rfl)
            have hok := h.1.turn (n : Int) (m : Int)
            rw [e2.out] at hok
            replace hok := hid hok
            have hdd2 : (d.data m).length = d.dur m := by omega
            clear h hz hbad hfg hdd
            go_enter Try.func40, Try.ntmps40
            go_wp2_with fail
            refine (starts_any F b d _ h0.out).mono ?_
            rintro e w1 ⟨rfl, F1, h1, f1, g1⟩
            rw [hs]
            obtain ⟨ho, vs, hv, hF⟩ := h1
            rw [hz2.out] at hv
            have cd := hv.cell (m * 2)
            rw [dCells_data _ _ m hm] at cd
            have cu := hv.cell (m * 2 + 1)
            rw [dCells_dur _ _ m hm] at cu
            replace cu : w1.cell? ⟨b, m * 2 + 1, none⟩ = some (iv (d.dur m)) := cu
            have zd := hv.free (m * 2)
            have zu := hv.free (m * 2 + 1)
            have cd2 := hv.cell (n * 2)
            rw [dCells_data _ _ n hn] at cd2
            have cu2 := hv.cell (n * 2 + 1)
            rw [dCells_dur _ _ n hn] at cu2
            have zd2 := hv.free (n * 2)
            have zu2 := hv.free (n * 2 + 1)
            have hown : w1.ownsRow 0 5 1 (vs m) (d.data m).length (u8s (d.data m)) := hv.own m hm
            obtain ⟨a, cp, hvn, hc1, hc2⟩ := own_len hown
            rw [hvn, hdd2] at cd
            have hft := fun k hk => hF k (foot_turn (vs := vs) (b := b) (f := n) hm k hk)
            rw [hvn, hdd2] at hft
            have hturn := fun N => (DV.drewN hv N).turn hTE n m hn hm hnm
            rw [hvn, hdd2] at hturn
            replace hturn := hid hturn
            replace hft := hid hft
            have hbb := hF b (Or.inl rfl)
            replace hvn := hid hvn
            replace hown := hid hown
            replace hdd2 := hid hdd2
            clear hv ho hF
            go_wp2_with (go_at_call 36; refine (valid_any _ _).mono ?_; rintro e w' ⟨rfl, rfl⟩; first | rw [hf] | rw [hg])
            go_quiet (fail)
            go_wp2_with fail
            go_region
            go_wp2_with fail
            go_ret
            rw [e1.out, e2.out]
            exact DP.then f1 g1 (DP.mk hok.out (hturn.out _) ((((((Fr.refl _ _).drewN _).setCell (p := ⟨b, n * 2, none⟩) (Or.inl hbb) _).setCell (p := ⟨b, n * 2 + 1, none⟩) (Or.inl hbb) _).setCell (p := ⟨b, m * 2, none⟩) (Or.inl hbb) _).setCell (p := ⟨b, m * 2 + 1, none⟩) (Or.inl hbb) _) (fun k hk => Or.inl (hft.out k hk)))
  · have e1 := hid (show turn1 f g d = 12 by unfold turn1; rw [hs]; rfl)
    have e2 := hid (show turn2 f g d = start2 d by unfold turn2; rw [e1.out]; rfl)
    clear h
    go_enter Try.func40, Try.ntmps40
    go_wp2_with fail
    refine (starts_any F b d _ h0.out).mono ?_
    rintro e w1 ⟨rfl, F1, h1, f1, g1⟩
    rw [hs]
    go_wp2_with fail
    go_ret
    rw [e1.out, e2.out]
    exact ⟨rfl, F1, h1, f1, g1⟩

theorem dCells_set_keep (vs : Nat → Value) (d : DS) (n : Nat) : ∀ f, f < 8 → (dCells vs d).toArray.setIfInBounds (19 + f) (iv n) = (dCells vs { d with keep := upd d.keep f n }).toArray :=
  lt8 rfl rfl rfl rfl rfl rfl rfl rfl
theorem DV.setKeep1 {T E : TypeId} {b : Nat} {vs : Nat → Value} {d : DS} {w : World} (h : DV T E b vs d w) (hTE : T ≠ E) (f : Nat) (hf : f < 8) (n : Nat) : DV T E b vs { d with keep := upd d.keep f n } (w.setCell ⟨b, 19 + f, none⟩ (iv n)) :=
  h.set hTE (19 + f) (iv n) (dCells_set_keep vs d n f hf) rfl
/-- the eight kept numbers stored -/
def setKeep (b : Nat) (kf : Nat → Nat) (w : World) : World := (((((((w.setCell ⟨b, 19, none⟩ (iv (kf 0))).setCell ⟨b, 20, none⟩ (iv (kf 1))).setCell ⟨b, 21, none⟩ (iv (kf 2))).setCell ⟨b, 22, none⟩ (iv (kf 3))).setCell ⟨b, 23, none⟩ (iv (kf 4))).setCell ⟨b, 24, none⟩ (iv (kf 5))).setCell ⟨b, 25, none⟩ (iv (kf 6))).setCell ⟨b, 26, none⟩ (iv (kf 7))
theorem DV.arm {T E : TypeId} {b : Nat} {vs : Nat → Value} {d : DS} {w : World} (h : DV T E b vs d w) (hTE : T ≠ E) (kf : Nat → Nat) : DV T E b vs { d with keep := kf } (setKeep b kf w) := by
  have h0 := h.setKeep1 hTE 0 (by decide) (kf 0)
  have h1 := h0.setKeep1 hTE 1 (by decide) (kf 1)
  have h2 := h1.setKeep1 hTE 2 (by decide) (kf 2)
  have h3 := h2.setKeep1 hTE 3 (by decide) (kf 3)
  have h4 := h3.setKeep1 hTE 4 (by decide) (kf 4)
  have h5 := h4.setKeep1 hTE 5 (by decide) (kf 5)
  have h6 := h5.setKeep1 hTE 6 (by decide) (kf 6)
  have h7 := h6.setKeep1 hTE 7 (by decide) (kf 7)
  exact h7.congr (fun _ _ => rfl) (fun _ _ => rfl) rfl rfl rfl (lt8 rfl rfl rfl rfl rfl rfl rfl rfl)
theorem fr_setKeep {F : Nat → Prop} {b : Nat} (hb : F b) (kf : Nat → Nat) {w w' : World} (h : Fr F w w') : Fr F w (setKeep b kf w') :=
  (((((((h.setCell (p := ⟨b, 19, none⟩) (Or.inl hb) _).setCell (p := ⟨b, 20, none⟩) (Or.inl hb) _).setCell (p := ⟨b, 21, none⟩) (Or.inl hb) _).setCell (p := ⟨b, 22, none⟩) (Or.inl hb) _).setCell (p := ⟨b, 23, none⟩) (Or.inl hb) _).setCell (p := ⟨b, 24, none⟩) (Or.inl hb) _).setCell (p := ⟨b, 25, none⟩) (Or.inl hb) _).setCell (p := ⟨b, 26, none⟩) (Or.inl hb) _

set_option maxRecDepth 100000 in
set_option maxHeartbeats 2000000 in
theorem arm_any (F : Nat → Prop) (b : Nat) (d : DS) (n : Int) (l : List Int) (v : Value) (w : World) (h : DkD F b d w) (hn : n ≤ 9223372036854775807) (hv : ∀ w', Fr F w w' → Row w'.heap.size w' 1 v l.length (l.map iv)) (hl : l.length ≤ 140737488355328) (hx : ∀ x ∈ l, x ≤ 9223372036854775807) :
    Calls Try.prog 23 #[pt b, iv n, v] w (DPD F b w (.tuple #[]) (dArm n l d)) := by
  obtain ⟨ho, vs, hdv, hF⟩ := h
  have hok := hid (ho.arm n l hn hx)
  have c18 := hdv.cell 18
  rw [show (dCells vs d).toArray[18]? = some (iv d.armed) from rfl] at c18
  have z18 := hdv.free 18
  have hbb := hF b (Or.inl rfl)
  obtain ⟨a, cap, g, off, rfl, -, -, -⟩ := hv w (Fr.refl _ _)
  replace hv := hid hv
  have hmax : ∀ X : Int, X = ((n.toNat : Nat) : Int) → DV 63 5 b vs { d with armed := n.toNat } (w.setCell ⟨b, 18, none⟩ (iv X)) := fun X hX => hdv.set hTE 18 (iv X) (by rw [hX]; rfl) rfl
  replace hmax := hid hmax
  replace hF := hid hF
  clear hdv
  by_cases h0 : 0 ≤ n
  all_goals
    go_enter Try.func23, Try.ntmps23
    go_wp2_with fail
    refine (kept_any l _ _ (hv.out _ ((Fr.refl F w).setCell (p := ⟨b, 18, none⟩) (Or.inl hbb) _)) hl).mono ?_
    rintro e w1 ⟨rfl, hbl⟩
    have hf1 := hid (((Fr.refl F w).setCell (p := ⟨b, 18, none⟩) (Or.inl hbb) _).trans (Fr.of_below hbl F))
    have hd1 := (hmax.out _ (by omega)).fr (Fr.of_below hbl (fun _ => False)) (fun _ _ h => h)
    have q0 := hd1.cell 19
    have q1 := hd1.cell 20
    have q2 := hd1.cell 21
    have q3 := hd1.cell 22
    have q4 := hd1.cell 23
    have q5 := hd1.cell 24
    have q6 := hd1.cell 25
    have q7 := hd1.cell 26
    rw [show (dCells vs { d with armed := n.toNat }).toArray[19]? = some (iv (d.keep 0)) from rfl] at q0
    rw [show (dCells vs { d with armed := n.toNat }).toArray[20]? = some (iv (d.keep 1)) from rfl] at q1
    rw [show (dCells vs { d with armed := n.toNat }).toArray[21]? = some (iv (d.keep 2)) from rfl] at q2
    rw [show (dCells vs { d with armed := n.toNat }).toArray[22]? = some (iv (d.keep 3)) from rfl] at q3
    rw [show (dCells vs { d with armed := n.toNat }).toArray[23]? = some (iv (d.keep 4)) from rfl] at q4
    rw [show (dCells vs { d with armed := n.toNat }).toArray[24]? = some (iv (d.keep 5)) from rfl] at q5
    rw [show (dCells vs { d with armed := n.toNat }).toArray[25]? = some (iv (d.keep 6)) from rfl] at q6
    rw [show (dCells vs { d with armed := n.toNat }).toArray[26]? = some (iv (d.keep 7)) from rfl] at q7
    have z0 := hd1.free 19
    have z1 := hd1.free 20
    have z2 := hd1.free 21
    have z3 := hd1.free 22
    have z4 := hd1.free 23
    have z5 := hd1.free 24
    have z6 := hd1.free 25
    have z7 := hd1.free 26
    have hend := hid (hd1.arm hTE (keptF l))
    clear hd1 hbl c18 z18
    unfold kCells
    go_wp2_with fail
    go_end0
    exact DP.mk hok.out hend.out (fr_setKeep hbb _ hf1.out) (fun k hk => Or.inl (hF.out k hk))
end Go.Proofs.Ytffmmhofgocldaa
