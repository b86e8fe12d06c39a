/- Chapter 05 (disk): walks: Cut. -/
import Derived.Test.YtffmmhofgocldaaDiskW6
set_option linter.unusedVariables false
namespace Go.Proofs.Ytffmmhofgocldaa
open Go.RowKit
open Go.Lib (hid)
set_option maxRecDepth 100000 in
set_option maxHeartbeats 2000000 in
theorem cut_any (F : Nat → Prop) (b : Nat) (d : DS) (f m : Int) (w : World) (h : DkD F b d w) : Calls Try.prog 33 #[pt b, iv f, iv m] w (DPD F b w (iv (cut1 f m d)) (cut2 f m d)) := by
  have h0 := hid h
  rcases start1_cases d with hs | hs
  · have hz := start1_zero hs
    cases hf : vF f with
    | false =>
      have e1 := hid (show cut1 f m d = 1 by unfold cut1; rw [hs, hf]; rfl)
      have e2 := hid (show cut2 f m d = start2 d by unfold cut2; rw [e1.out]; rfl)
      clear h hz
      go_enter Try.func33, Try.ntmps33
      go_wp2_with fail
      refine (starts_any F b d _ h0.out).mono ?_
      rintro e w1 ⟨rfl, F1, h1, f1, g1⟩
      rw [hs]
      go_wp2_with (go_at_call 36; refine (valid_any f _).mono ?_; rintro e w' ⟨rfl, rfl⟩; rw [hf])
      go_ret
      rw [e1.out, e2.out]
      exact ⟨rfl, F1, h1, f1, g1⟩
    | true =>
      obtain ⟨n, hn, rfl, hn2⟩ := idx8 (F := F) f hf
      have hnI : (n : Int) < 8 := by omega
      have hle := h.1.len n hn
      have hdl := h.1.dur n hn
      have hz2 := hid hz.2.2
      by_cases hb : 0 ≤ m ∧ m ≤ (d.data n).length
      · obtain ⟨hm0, hm1⟩ := hb
        obtain ⟨k, rfl⟩ : ∃ k : Nat, m = (k : Int) := ⟨m.toNat, by omega⟩
        have hk : k ≤ (d.data n).length := by omega
        have e1 := hid (show cut1 (n : Int) (k : Int) d = 0 by unfold cut1; rw [hs, hf, hn2]; simp; omega)
        have e2 := hid (show cut2 (n : Int) (k : Int) d = { due2 d with data := upd d.data n ((d.data n).take k), dur := upd d.dur n (min (d.dur n) k) } by unfold cut2; rw [e1.out, hn2, hz.2.2]; rfl)
        have hok := h.1.cut (n : Int) (k : Int)
        rw [e2.out] at hok
        replace hok := hid hok
        clear h hz
        go_enter Try.func33, Try.ntmps33
        go_wp2_with fail
        refine (starts_any F b d _ h0.out).mono ?_
        rintro e w1 ⟨rfl, F1, h1, f1, g1⟩
        rw [hs]
        obtain ⟨ho, vs, hv, hF⟩ := h1
        rw [hz2.out] at hv
        have cd := hv.cell (n * 2)
        rw [dCells_data _ _ n hn] at cd
        have cu := hv.cell (n * 2 + 1)
        rw [dCells_dur _ _ n hn] at cu
        have zd := hv.free (n * 2)
        have zu := hv.free (n * 2 + 1)
        have hown : w1.ownsRow 0 5 1 (vs n) (d.data n).length (u8s (d.data n)) := hv.own n hn
        replace cu : w1.cell? ⟨b, n * 2 + 1, none⟩ = some (iv (d.dur n)) := cu
        obtain ⟨a, cp, hvn, hc1, hc2⟩ := own_len hown
        unfold maxLen at hc2
        rw [hvn] at cd
        have hcut := own_cut (by rw [hvn] at hown; exact hown) hk
        have hcutv : (u8s (d.data n)).take k = u8s ((d.data n).take k) := by rw [← List.map_take]
        rw [hcutv] at hcut
        have hlk : ((d.data n).take k).length = k := by rw [List.length_take]; omega
        have hob : (Value.slice a k cp).ownBlock = (vs n).ownBlock := by rw [hvn]; cases a <;> rfl
        have hd1 := hv.setData hTE n hn (.slice a k cp) ((d.data n).take k) (by rw [hlk]; exact hcut) (fun g hg hne => by rw [hob]; exact hv.apart n g hn hg (fun e => hne e.symm))
        have hd2 := hid (fun (X : Int) (hX : X = ((min (d.dur n) k : Nat) : Int)) => (hd1.set (d' := { due2 d with data := upd d.data n ((d.data n).take k), dur := upd d.dur n (min (d.dur n) k) }) hTE (n * 2 + 1) (iv X) (by rw [hX]; exact dCells_set_dur _ _ _ n hn) rfl).drew.drew)
        have hbb := hF b (Or.inl rfl)
        have hft := hid (show ∀ x, foot (upd vs n (.slice a k cp)) b x → F1 x ∨ w1.heap.size ≤ x from fun x hx => by
          rcases hx with hx | ⟨g, hg, hx⟩
          · exact Or.inl (hF x (Or.inl hx))
          · by_cases e : g = n
            · subst e
              rw [upd_same, hob] at hx
              exact Or.inl (hF x (Or.inr ⟨g, hg, hx⟩))
            · rw [upd_other _ _ _ _ e] at hx
              exact Or.inl (hF x (Or.inr ⟨g, hg, hx⟩)))
        replace hvn := hid hvn
        replace hob := hid hob
        replace hlk := hid hlk
        clear hv ho hF hown hcut hcutv hd1
        go_wp2_with (go_at_call 36; refine (valid_any n _).mono ?_; rintro e w' ⟨rfl, rfl⟩; rw [hf])
        go_region
        go_wp2_with fail
        go_region
        go_wp2_with fail
        all_goals
          go_ret
          rw [e1.out, e2.out]
          exact DP.then f1 g1 (DP.mk hok.out (hd2.out _ (by omega)) (((Fr.setCell (Fr.refl _ _) (p := ⟨b, n * 2, none⟩) (Or.inl hbb) _).setCell (p := ⟨b, n * 2 + 1, none⟩) (Or.inl hbb) _).drew.drew) hft.out)
      · have e1 := hid (show cut1 (n : Int) m d = 1 by unfold cut1; rw [hs, hf, hn2]; simp; omega)
        have e2 := hid (show cut2 (n : Int) m d = start2 d by unfold cut2; rw [e1.out]; rfl)
        have hb' : m < 0 ∨ (0 ≤ m ∧ ((d.data n).length : Int) < m) := by omega
        clear h hz hb
        rcases hb' with hb | ⟨hb, hb2⟩
        all_goals
          go_enter Try.func33, Try.ntmps33
          go_wp2_with fail
          refine (starts_any F b d _ h0.out).mono ?_
          rintro e w1 ⟨rfl, F1, h1, f1, g1⟩
          rw [hs]
          have h1' := hid h1
          obtain ⟨ho, vs, hv, hF⟩ := h1
          rw [hz2.out] at hv
          have cd := hv.cell (n * 2)
          rw [dCells_data _ _ n hn] at cd
          have hown : w1.ownsRow 0 5 1 (vs n) (d.data n).length (u8s (d.data n)) := hv.own n hn
          obtain ⟨a, cp, hvn, hc1, hc2⟩ := own_len hown
          rw [hvn] at cd
          replace hown := hid hown
          replace hvn := hid hvn
          clear hv ho hF
          go_wp2_with (go_at_call 36; refine (valid_any n _).mono ?_; rintro e w' ⟨rfl, rfl⟩; rw [hf])
          go_ret
          rw [e1.out, e2.out]
          exact ⟨rfl, F1, h1'.out, f1, g1⟩
  · have e1 := hid (show cut1 f m d = 12 by unfold cut1; rw [hs]; rfl)
    have e2 := hid (show cut2 f m d = start2 d by unfold cut2; rw [e1.out]; rfl)
    clear h
    go_enter Try.func33, Try.ntmps33
    go_wp2_with fail
    refine (starts_any F b d _ h0.out).mono ?_
    rintro e w1 ⟨rfl, F1, h1, f1, g1⟩
    rw [hs]
    go_wp2_with fail
    go_ret
    rw [e1.out, e2.out]
    exact ⟨rfl, F1, h1, f1, g1⟩
end Go.Proofs.Ytffmmhofgocldaa
