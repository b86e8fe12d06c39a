/- Chapter 05 (disk): walks: Flush, Read. -/
import Derived.Test.YtffmmhofgocldaaDiskW5
set_option linter.unusedVariables false
namespace Go.Proofs.Ytffmmhofgocldaa
open Go.RowKit
open Go.Lib (hid)
theorem start1_cases (d : DS) : start1 d = 0 ∨ start1 d = 12 := by
  unfold start1
  split
  · exact Or.inr rfl
  · split
    · exact Or.inr rfl
    · exact Or.inl rfl
set_option maxRecDepth 100000 in
set_option maxHeartbeats 2000000 in
theorem flush_any (F : Nat → Prop) (b : Nat) (d : DS) (f : Int) (w : World) (h : DkD F b d w) : Calls Try.prog 35 #[pt b, iv f] w (DPD F b w (iv (flush1 f d)) (flush2 f d)) := by
  have h0 := hid h
  rcases start1_cases d with hs | hs
  · have hz := start1_zero hs
    cases hf : vF f with
    | false =>
      have e1 := hid (show flush1 f d = 1 by unfold flush1; rw [hs, hf]; rfl)
      have e2 := hid (show flush2 f d = start2 d by unfold flush2; rw [hs, hf]; rfl)
      clear h hz
      go_enter Try.func35, Try.ntmps35
      go_wp2_with fail
      refine (starts_any F b d _ h0.out).mono ?_
      rintro e w1 ⟨rfl, F1, h1, f1, g1⟩
      rw [hs]
      go_wp2_with (go_at_call 36; refine (valid_any f _).mono ?_; rintro e w' ⟨rfl, rfl⟩; rw [hf])
      go_ret
      rw [e1.out, e2.out]
      exact ⟨rfl, F1, h1, f1, g1⟩
    | true =>
      obtain ⟨n, hn, rfl, hn2⟩ := idx8 (F := F) f hf
      have hnI : (n : Int) < 8 := by omega
      have hlo := h.1.lost
      have hle := h.1.len n hn
      by_cases hl : 0 < d.lost
      · have e1 := hid (show flush1 (n : Int) d = 13 by unfold flush1; rw [hs, hf]; simp [hl])
        have e2 := hid (show flush2 (n : Int) d = { start2 d with lost := d.lost - 1 } by unfold flush2; rw [hs, hf]; simp [hl])
        have hz2 := hid hz.2.2
        clear h hz
        go_enter Try.func35, Try.ntmps35
        go_wp2_with fail
        refine (starts_any F b d _ h0.out).mono ?_
        rintro e w1 ⟨rfl, F1, h1, f1, g1⟩
        rw [hs]
        obtain ⟨ho, vs, hv, hF⟩ := h1
        rw [hz2.out] at ho hv
        have c17 := hv.cell 17
        rw [show (dCells vs (due2 d)).toArray[17]? = some (iv d.lost) from rfl] at c17
        have z17 := hv.free 17
        have hset := hid (hv.set (d' := { due2 d with lost := d.lost - 1 }) hTE 17 (iv ((d.lost : Int) - 1)) (by rw [show ((d.lost : Int) - 1) = ((d.lost - 1 : Nat) : Int) by omega]; rfl) rfl)
        replace hF := hid hF
        have ho2 := hid (show Ok { due2 d with lost := d.lost - 1 } from ⟨ho.dur, ho.len, by show d.lost - 1 ≤ _; omega, ho.armed, ho.keep⟩)
        clear hv ho
        go_wp2_with (go_at_call 36; refine (valid_any n _).mono ?_; rintro e w' ⟨rfl, rfl⟩; rw [hf])
        go_ret
        rw [e1.out, e2.out, hz2.out]
        exact DP.then f1 g1 (DP.mk ho2.out hset.out (Fr.setCell (Fr.refl _ _) (p := ⟨b, 17, none⟩) (Or.inl (hF.out b (Or.inl rfl))) _) (fun k hk => Or.inl (hF.out k hk)))
      · have hl0 : d.lost = 0 := by omega
        have e1 := hid (show flush1 (n : Int) d = 0 by unfold flush1; rw [hs, hf]; simp [hl0])
        have e2 := hid (show flush2 (n : Int) d = { due2 d with dur := upd d.dur n (d.data n).length } by unfold flush2; rw [hs, hf, hn2, hz.2.2]; simp [hl0])
        have hok := h.1.flush (n : Int)
        rw [e2.out] at hok
        replace hok := hid hok
        have hz2 := hid hz.2.2
        clear h hz hl
        go_enter Try.func35, Try.ntmps35
        go_wp2_with fail
        refine (starts_any F b d _ h0.out).mono ?_
        rintro e w1 ⟨rfl, F1, h1, f1, g1⟩
        rw [hs]
        obtain ⟨ho, vs, hv, hF⟩ := h1
        rw [hz2.out] at hv
        have c17 := hv.cell 17
        rw [show (dCells vs (due2 d)).toArray[17]? = some (iv d.lost) from rfl, hl0] at c17
        have cd := hv.cell (n * 2)
        rw [dCells_data _ _ n hn] at cd
        have cu := hv.cell (n * 2 + 1)
        rw [dCells_dur _ _ n hn] at cu
        have zu := hv.free (n * 2 + 1)
        obtain ⟨a, cp, hvn, hc1, hc2⟩ := own_len (hv.own n hn)
        rw [hvn] at cd
        replace hvn := hid hvn
        have hset := hid (hv.set hTE (n * 2 + 1) (iv ((d.data n).length : Nat)) (dCells_set_dur vs (due2 d) _ n hn) rfl).drew
        replace hF := hid hF
        clear hv ho
        go_wp2_with (go_at_call 36; refine (valid_any n _).mono ?_; rintro e w' ⟨rfl, rfl⟩; rw [hf])
        go_region
        go_wp2_with fail
        go_ret
        rw [e1.out, e2.out]
        exact DP.then f1 g1 (DP.mk hok.out hset.out ((Fr.setCell (Fr.refl _ _) (p := ⟨b, n * 2 + 1, none⟩) (Or.inl (hF.out b (Or.inl rfl))) _).drew) (fun k hk => Or.inl (hF.out k hk)))
  · have e1 := hid (show flush1 f d = 12 by unfold flush1; rw [hs]; rfl)
    have e2 := hid (show flush2 f d = start2 d by unfold flush2; rw [hs]; rfl)
    clear h
    go_enter Try.func35, Try.ntmps35
    go_wp2_with fail
    refine (starts_any F b d _ h0.out).mono ?_
    rintro e w1 ⟨rfl, F1, h1, f1, g1⟩
    rw [hs]
    go_wp2_with fail
    go_ret
    rw [e1.out, e2.out]
    exact ⟨rfl, F1, h1, f1, g1⟩

set_option maxRecDepth 100000 in
theorem read_any (F : Nat → Prop) (b : Nat) (d : DS) (f : Int) (w : World) (h : DkD F b d w) : Calls Try.prog 18 #[pt b, iv f] w fun e w' => e = .returned (.tuple #[sv (read2 f d), iv (read1 f d)]) ∧ w = w' := by
  obtain ⟨ho, vs, hv, hF⟩ := h
  have c16 := hv.cell 16
  rw [show (dCells vs d).toArray[16]? = some (.bool d.down) from rfl] at c16
  cases hd : d.down with
  | true =>
    have e1 := hid (show read1 f d = 12 by unfold read1; rw [hd]; rfl)
    have e2 := hid (show read2 f d = [] by unfold read2; rw [e1.out]; rfl)
    rw [hd] at c16
    clear hd hv hF
    go_enter Try.func18, Try.ntmps18
    go_wp2_with fail
    go_ret2
    exact ⟨by rw [e1.out, e2.out]; rfl, rfl⟩
  | false =>
    rw [hd] at c16
    cases hf : vF f with
    | false =>
      have e1 := hid (show read1 f d = 1 by unfold read1; rw [hd, hf]; rfl)
      have e2 := hid (show read2 f d = [] by unfold read2; rw [e1.out]; rfl)
      clear hd hv hF
      go_enter Try.func18, Try.ntmps18
      go_wp2_with (go_at_call 36; refine (valid_any f _).mono ?_; rintro e w' ⟨rfl, rfl⟩; rw [hf])
      go_ret2
      exact ⟨by rw [e1.out, e2.out]; rfl, rfl⟩
    | true =>
      obtain ⟨n, hn, rfl, hn2⟩ := idx8 (F := F) f hf
      have hnI : (n : Int) < 8 := by omega
      have e1 := hid (show read1 (n : Int) d = 0 by unfold read1; rw [hd, hf]; rfl)
      have e2 := hid (show read2 (n : Int) d = d.data n by unfold read2; rw [e1.out, hn2]; rfl)
      have cd := hv.cell (n * 2)
      rw [dCells_data _ _ n hn] at cd
      have hcv := conv_own (P := Try.prog) (src := 57) (dst := 9) (by kernel_rfl) (by kernel_rfl) (by kernel_rfl) (hv.own n hn)
      obtain ⟨a, cp, hvn, hc1, hc2⟩ := own_len (hv.own n hn)
      rw [hvn] at cd hcv
      replace hvn := hid hvn
      clear hd hv hF
      go_enter Try.func18, Try.ntmps18
      go_wp2_with (go_at_call 36; refine (valid_any n _).mono ?_; rintro e w' ⟨rfl, rfl⟩; rw [hf])
      go_ret2
      exact ⟨by rw [e1.out, e2.out]; rfl, rfl⟩
end Go.Proofs.Ytffmmhofgocldaa
