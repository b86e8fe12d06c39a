/- Chapter 05 (disk): walks: extend. -/
import Derived.Test.YtffmmhofgocldaaDiskW1
set_option linter.unusedVariables false
namespace Go.Proofs.Ytffmmhofgocldaa
open Go.RowKit
open Go.Lib (hid)
theorem infoU8 : (Try.prog.info? 5).map (fun i => (i.zero, i.size, i.bytes)) = some (some (.int .u8 0), 1, 1) := by kernel_rfl

set_option maxRecDepth 100000 in
set_option maxHeartbeats 1000000 in
theorem extend_any (F : Nat → Prop) (b : Nat) (d : DS) (f : Int) (s : List UInt8) (w : World) (h : DkD F b d w) (hs : s.length ≤ 140737488351232) : Calls Try.prog 30 #[pt b, iv f, sv s] w (DPD F b w (iv (ext1 f s d)) (ext2 f s d)) := by
  have h0 := h
  obtain ⟨ho, vs, hv, hF⟩ := h
  cases hf : vF f with
  | false =>
    have e1 := hid (show ext1 f s d = 1 by unfold ext1; rw [hf]; rfl)
    have e2 := hid (show ext2 f s d = d by unfold ext2 ext1; rw [hf]; rfl)
    replace h0 := hid h0
    clear hv hF
    go_enter Try.func30, Try.ntmps30
    go_wp2_with (go_at_call 36; refine (valid_any f _).mono ?_; rintro e w' ⟨rfl, rfl⟩; rw [hf])
    go_ret
    rw [e1.out, e2.out]
    exact DP.same h0.out
  | true =>
    obtain ⟨n, hn, rfl, hn2⟩ := idx8 (F := F) f hf
    have hl := ho.len n hn
    have c := hv.cell (n * 2)
    rw [dCells_data vs d n hn] at c
    have fz := hv.free (n * 2)
    obtain ⟨a, cp, hvn, hc1, hc2⟩ := own_len (hv.own n hn)
    unfold maxLen at hc2
    by_cases hbig : 16777216 - ((d.data n).length : Int) < s.length
    · have e1 := hid (show ext1 (n : Int) s d = 15 by unfold ext1; rw [hf, hn2, if_pos rfl, if_pos hbig])
      have e2 := hid (show ext2 (n : Int) s d = d by unfold ext2; rw [e1.out]; rfl)
      rw [hvn] at c
      replace h0 := hid h0
      clear hv hF hvn hn2
      go_enter Try.func30, Try.ntmps30
      go_wp2_with (go_at_call 36; refine (valid_any n _).mono ?_; rintro e w' ⟨rfl, rfl⟩; rw [hf])
      go_ret
      rw [e1.out, e2.out]
      exact DP.same h0.out
    · have e1 := hid (show ext1 (n : Int) s d = 0 by unfold ext1; rw [hf, hn2, if_pos rfl, if_neg hbig])
      have e2 := hid (show ext2 (n : Int) s d = { d with data := upd d.data n (d.data n ++ s) } by unfold ext2; rw [e1.out, hn2]; rfl)
      obtain ⟨i0, hi, hz0, hz1, hz2⟩ := info_parts infoU8
      obtain ⟨v', w1, hrun, hown, hgr, hbl⟩ := append_str (P := Try.prog) w.drew 0 57 9 57 5 i0 (by kernel_rfl) (by kernel_rfl) hi hz0 hz1 hz2 (vs n) (d.data n) s (hv.own n hn) (by omega) (Nat.zero_le _)
      obtain ⟨a', cp', rfl, hc3, hc4⟩ := own_len hown
      have hf1 : Fr (fun k => (vs n).ownBlock = some k) w w1 := ⟨hgr.os, hgr.tape, hgr.output, hgr.size, fun k hk hne => hgr.block k hk (fun e => hne (by rw [e]))⟩
      have hoth : ∀ g, g < 8 → g ≠ n → (vs g).ownBlock = none ∨ (vs g).ownBlock ≠ (vs n).ownBlock := fun g hg hne => hv.apart g n hg hn hne
      -- the Disk after the append, all but file n's row
      have hblk : w1.heap[b]? = some (.cells (dCells vs d).toArray 63 (0, 0)) := hf1.keep hv.blk (fun e => hv.ne hTE hn e)
      have hown1 : ∀ g, g < 8 → g ≠ n → w1.ownsRow 0 5 1 (vs g) (d.data g).length (u8s (d.data g)) := fun g hg hne => owns_blk (hv.own g hg) (fun k hk => hf1.block k (hv.foot_lt (Or.inr ⟨g, hg, hk⟩)) (fun e => by
        rcases hoth g hg hne with h9 | h9
        · rw [h9] at hk; cases hk
        · exact h9 (hk.trans e.symm))) (fun _ _ => Nat.zero_le _)
      have hva : ∀ g, g < 8 → g ≠ n → (Value.slice a' (d.data n ++ s).length cp').ownBlock = none ∨ (Value.slice a' (d.data n ++ s).length cp').ownBlock ≠ (vs g).ownBlock := fun g hg hne => by
        rcases hbl with h9 | h9 | h9
        · rw [h9]
          rcases hv.apart n g hn hg (fun e => hne e.symm) with h8 | h8
          · exact Or.inl h8
          · exact Or.inr h8
        · right
          rw [h9]
          intro e
          have := hv.foot_lt (Or.inr ⟨g, hg, e.symm⟩)
          exact Nat.lt_irrefl _ this
        · exact Or.inl h9
      have hfin := append_end hTE hn hblk hown1 hown hva hv.apart
      have hfr : Fr F w (w1.setCell ⟨b, n * 2, none⟩ (.slice a' (d.data n ++ s).length cp')) := (hf1.mono (fun k _ hk => hF k (Or.inr ⟨n, hn, hk⟩))).trans (Fr.setCell (Fr.refl F w1) (p := ⟨b, n * 2, none⟩) (Or.inl (hF b (Or.inl rfl))) _)
      have hft : ∀ k, foot (upd vs n (.slice a' (d.data n ++ s).length cp')) b k → F k ∨ w.heap.size ≤ k := fun k hk => by
        rcases hk with rfl | ⟨g, hg, hk⟩
        · exact Or.inl (hF k (Or.inl rfl))
        · by_cases e : g = n
          · subst e
            rw [upd_same] at hk
            rcases hbl with h9 | h9 | h9
            · exact Or.inl (hF k (Or.inr ⟨g, hg, by rw [← h9]; exact hk⟩))
            · rw [h9] at hk; right; have := Option.some.inj hk; exact Nat.le_of_eq this
            · rw [h9] at hk; cases hk
          · rw [upd_other _ _ _ _ e] at hk
            exact Or.inl (hF k (Or.inr ⟨g, hg, hk⟩))
      have c1 : w1.cell? ⟨b, n * 2, none⟩ = some (vs n) := by rw [cell_of hblk, dCells_data vs d n hn]
      have f1 : w1.frozen? ⟨b, n * 2, none⟩ = false := free_of hblk
      have hok := ho.ext n s
      rw [e2.out] at hok
      rw [hvn] at c c1 hrun
      simp only [List.length_append] at hfr hfin hft hrun
      replace hfin := hid hfin
      replace hfr := hid hfr
      replace hft := hid hft
      replace hok := hid hok
      clear hv hF hvn hn2 hown hc3 hc4 hgr hbl hf1 hoth hblk hown1 hva h0 hi hz0 hz1 hz2
      go_enter Try.func30, Try.ntmps30
      go_wp2_with (go_at_call 36; refine (valid_any n _).mono ?_; rintro e w' ⟨rfl, rfl⟩; rw [hf])
      have hnI : (n : Int) < 8 := by omega
      go_region_law (first | (refine step_append_run rfl (.tmp 30) (.tmp 31) 57 9 rfl rfl rfl hrun ?_))
      go_wp2_with fail
      go_ret
      rw [e1.out, e2.out]
      exact DP.mk hok.out hfin.out hfr.out hft.out
end Go.Proofs.Ytffmmhofgocldaa
