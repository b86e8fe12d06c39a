/- Chapter 05 (disk): walks: fall. -/
import Derived.Test.YtffmmhofgocldaaDiskW2
set_option linter.unusedVariables false
namespace Go.Proofs.Ytffmmhofgocldaa
open Go.RowKit
open Go.Lib (hid)
/-- a row cut at its end -/
theorem own_cut {w : World} {base : Nat} {e : TypeId} {a : Option Addr} {n m c : Nat} {xs : List Value} (h : w.ownsRow base e 1 (.slice a n c) n xs) (hm : m ≤ n) : w.ownsRow base e 1 (.slice a m c) m (xs.take m) := by
  obtain ⟨h1, h2⟩ := h
  refine ⟨by rw [List.length_take, h1]; omega, ?_⟩
  rcases h2 with ⟨hv, hn⟩ | ⟨g, cap, cur, hv, hb, hg, hnc, hcm, hsz, ht⟩
  · injection hv with e1 e2 e3
    exact Or.inl ⟨by rw [e1, e3]; congr 1; omega, by omega⟩
  · injection hv with e1 e2 e3
    refine Or.inr ⟨g, cap, cur, by rw [e1, e3], hb, hg, by omega, hcm, hsz, ?_⟩
    rw [← ht, List.take_take]
    congr 1; omega
def fallK (keep : Nat → Nat) (d : DS) (k : Nat) : DS := { d with data := fun f => if f < k then fallF keep d f else d.data f, dur := fun f => if f < k then (fallF keep d f).length else d.dur f, down := true, armed := 0 }
theorem fallK_zero (keep : Nat → Nat) (d : DS) : fallK keep d 0 = { d with down := true, armed := 0 } := by simp [fallK]
def kCells (kf : Nat → Nat) : Array Value := #[iv (kf 0), iv (kf 1), iv (kf 2), iv (kf 3), iv (kf 4), iv (kf 5), iv (kf 6), iv (kf 7)]
theorem kCells_at (kf : Nat → Nat) : ∀ k, k < 8 → (kCells kf)[k]? = some (iv (kf k)) := lt8 rfl rfl rfl rfl rfl rfl rfl rfl
theorem dCells_congr (vs : Nat → Value) {d e : DS} (hdur : ∀ f, f < 8 → d.dur f = e.dur f) (h1 : d.down = e.down) (h2 : d.lost = e.lost) (h3 : d.armed = e.armed) (h4 : ∀ f, f < 8 → d.keep f = e.keep f) : dCells vs d = dCells vs e := by
  simp [dCells, hdur, h1, h2, h3, h4]
theorem DV.drew {T E : TypeId} {b : Nat} {vs : Nat → Value} {d : DS} {w : World} (h : DV T E b vs d w) : DV T E b vs d w.drew := ⟨h.blk, h.own, h.apart⟩
theorem DV.congr {T E : TypeId} {b : Nat} {vs : Nat → Value} {d e : DS} {w : World} (h : DV T E b vs d w) (hdata : ∀ f, f < 8 → d.data f = e.data f) (hdur : ∀ f, f < 8 → d.dur f = e.dur f) (h1 : d.down = e.down) (h2 : d.lost = e.lost) (h3 : d.armed = e.armed) (h4 : ∀ f, f < 8 → d.keep f = e.keep f) : DV T E b vs e w :=
  ⟨by rw [← dCells_congr vs hdur h1 h2 h3 h4]; exact h.blk, fun f hf => by rw [← hdata f hf]; exact h.own f hf, h.apart⟩

set_option maxRecDepth 100000 in
set_option maxHeartbeats 2000000 in
theorem fall_any (F : Nat → Prop) (b : Nat) (d : DS) (kf : Nat → Nat) (w : World) (h : DkD F b d w) (hk : ∀ f, f < 8 → kf f ≤ 9223372036854775807) : Calls Try.prog 31 #[pt b, .agg (kCells kf)] w (DPD F b w (.tuple #[]) (dFall kf d)) := by
  obtain ⟨ho, vs, hv, hF⟩ := h
  have hlt := hv.lt
  have hbne : b ≠ w.heap.size := by omega
  have c16 := hv.cell 16
  rw [show (dCells vs d).toArray[16]? = some (.bool d.down) from rfl] at c16
  have z16 := hv.free 16
  have c18 := hv.cell 18
  rw [show (dCells vs d).toArray[18]? = some (iv d.armed) from rfl] at c18
  have z18 := hv.free 18
  have hv2 := hv.set (d' := { d with down := true }) hTE 16 (.bool true) rfl rfl
  have hv3 := (hv2.set (d' := { d with down := true, armed := 0 }) hTE 18 (iv 0) rfl rfl).fr (S := fun k => False) ((Fr.refl _ _).alloc (.cells (kCells kf) 61)) (fun _ _ h => h)
  have hkb : (((w.setCell ⟨b, 16, none⟩ (.bool true)).setCell ⟨b, 18, none⟩ (iv 0)).alloc (.cells (kCells kf) 61)).heap[w.heap.size]? = some (.cells (kCells kf) 61 (0, 0)) := by
    have h9 := heap_alloc_new' ((w.setCell ⟨b, 16, none⟩ (.bool true)).setCell ⟨b, 18, none⟩ (iv 0)) (.cells (kCells kf) 61)
    simpa using h9
  have hfr0 : Fr F w (((w.setCell ⟨b, 16, none⟩ (.bool true)).setCell ⟨b, 18, none⟩ (iv 0)).alloc (.cells (kCells kf) 61)) :=
    ((((Fr.refl F w)).setCell (p := ⟨b, 16, none⟩) (Or.inl (hF b (Or.inl rfl))) _).setCell (p := ⟨b, 18, none⟩) (Or.inl (hF b (Or.inl rfl))) _).alloc _
  have hF' := hid hF
  replace ho := hid ho
  rw [← fallK_zero kf d] at hv3
  replace hv3 := hid hv3
  replace hkb := hid hkb
  replace hfr0 := hid hfr0
  clear hv2 hF hv
  go_enter Try.func31, Try.ntmps31
  go_wp2
  go_loopw [12] (fun i wr => ∃ (k : Nat) (vs' : Nat → Value), i = .int .i64 k ∧ k ≤ 8 ∧ DV 63 5 b vs' (fallK kf d k) wr ∧ (∀ x, foot vs' b x → foot vs b x) ∧ wr.heap[w.heap.size]? = some (.cells (kCells kf) 61 (0, 0)) ∧ Fr F w wr) (fun i _ => 8 - (intOf i).toNat)
  case atStart => exact ⟨0, vs, rfl, by omega, hv3.out, fun _ h => h, hkb.out, hfr0.out⟩
  case round =>
    clear hv3 hkb hfr0 c16 c18 z16 z18
    obtain ⟨k, vs', rfl, hk8, hv, hft, hkb, hfr⟩ := hrel
    by_cases hlt8 : k < 8
    · have hkI : (k : Int) < 8 := by omega
      have ck := cell_of (i := k) hkb
      rw [kCells_at kf k hlt8] at ck
      have cd := hv.cell (k * 2)
      rw [dCells_data _ _ k hlt8] at cd
      have cu := hv.cell (k * 2 + 1)
      rw [dCells_dur _ _ k hlt8] at cu
      have e1 : (fallK kf d k).data k = d.data k := if_neg (Nat.lt_irrefl k)
      have e2 : (fallK kf d k).dur k = d.dur k := if_neg (Nat.lt_irrefl k)
      have hown := hv.own k hlt8
      rw [e1] at hown
      rw [e2] at cu
      have zd := hv.free (k * 2)
      have zu := hv.free (k * 2 + 1)
      obtain ⟨a, cp, hvk, hc1, hc2⟩ := own_len hown
      rw [hvk] at cd
      have hdl := ho.out.dur k hlt8
      have hll := ho.out.len k hlt8
      have hkk := hk k hlt8
      unfold maxLen at hc2
      replace hown := hid hown
      replace hv := hid hv
      replace hft := hid hft
      replace hkb := hid hkb
      replace hfr := hid hfr
      replace hvk := hid hvk
      clear e1 e2
      go_wp2_with fail
      go_region
      go_wp2_with fail
      have hm : ((d.dur k : Int) + if ((d.data k).length : Int) - (d.dur k : Int) < (kf k : Int) then ((d.data k).length : Int) - (d.dur k : Int) else (kf k : Int)) = (((fallF kf d k).length : Nat) : Int) := by
        rw [fallF_len]; split <;> omega
      rw [hm]
      have hmx : max (((fallF kf d k).length : Nat) : Int) 0 = (((fallF kf d k).length : Nat) : Int) := by omega
      rw [hmx, Int.toNat_natCast]
      have hmle : (fallF kf d k).length ≤ (d.data k).length := by rw [fallF_len]; omega
      have hcut := own_cut (by have h9 := hown.out; rw [hvk.out] at h9; exact h9) hmle
      have hcutv : (u8s (d.data k)).take (fallF kf d k).length = u8s (fallF kf d k) := by
        rw [← List.map_take]
        congr 1
        rw [fallF_len]
        unfold fallF
        rw [← List.take_take, List.take_length]
      rw [hcutv] at hcut
      have hob : (Value.slice a (fallF kf d k).length cp).ownBlock = (vs' k).ownBlock := by rw [hvk.out]; cases a <;> rfl
      have hd1 := hv.out.setData hTE k hlt8 (.slice a (fallF kf d k).length cp) (fallF kf d k) hcut (fun g hg hne => by rw [hob]; exact hv.out.apart k g hlt8 hg (fun e => hne e.symm))
      have hd2 := (hd1.set hTE (k * 2 + 1) (iv ((fallF kf d k).length : Nat)) (dCells_set_dur _ _ _ k hlt8) rfl).drew
      have hbb := hF'.out b (Or.inl rfl)
      refine ⟨⟨k + 1, _, by go_num, by omega, hd2.congr (e := fallK kf d (k + 1)) (fun f hf => ?_) (fun f hf => ?_) rfl rfl rfl (fun _ _ => rfl), ?_, ?_, ?_⟩, by simp [intOf]; omega⟩
      · show upd (fallK kf d k).data k (fallF kf d k) f = if f < k + 1 then fallF kf d f else d.data f
        unfold upd
        by_cases e : f = k
        · subst e; rw [if_pos rfl, if_pos (by omega)]
        · rw [if_neg e]
          show (if f < k then fallF kf d f else d.data f) = _
          by_cases e2 : f < k
          · rw [if_pos e2, if_pos (by omega)]
          · rw [if_neg e2, if_neg (by omega)]
      · show upd (fallK kf d k).dur k (fallF kf d k).length f = if f < k + 1 then (fallF kf d f).length else d.dur f
        unfold upd
        by_cases e : f = k
        · subst e; rw [if_pos rfl, if_pos (by omega)]
        · rw [if_neg e]
          show (if f < k then (fallF kf d f).length else d.dur f) = _
          by_cases e2 : f < k
          · rw [if_pos e2, if_pos (by omega)]
          · rw [if_neg e2, if_neg (by omega)]
      · intro x hx
        apply hft.out
        rcases hx with hx | ⟨g, hg, hx⟩
        · exact Or.inl hx
        · by_cases e : g = k
          · subst e
            rw [upd_same, hob] at hx
            exact Or.inr ⟨g, hg, hx⟩
          · rw [upd_other _ _ _ _ e] at hx
            exact Or.inr ⟨g, hg, hx⟩
      · show (((wr.setCell ⟨b, k * 2, none⟩ _).setCell ⟨b, k * 2 + 1, none⟩ _).heap)[w.heap.size]? = _
        rw [heap_setCell_other _ (Ne.symm hbne), heap_setCell_other _ (Ne.symm hbne)]
        exact hkb.out
      · exact ((hfr.out.setCell (p := ⟨b, k * 2, none⟩) (Or.inl hbb) _).setCell (p := ⟨b, k * 2 + 1, none⟩) (Or.inl hbb) _).drew
    · have hk : k = 8 := by omega
      subst hk
      replace hv := hid hv
      replace hft := hid hft
      replace hfr := hid hfr
      clear hkb
      go_wp2_with fail
      go_end0
      exact DP.mk (ho.out.fall kf) (hv.out.congr (e := dFall kf d) (fun f hf => if_pos hf) (fun f hf => if_pos hf) rfl rfl rfl (fun _ _ => rfl)) hfr.out (fun k hk => Or.inl (hF'.out k (hft.out k hk)))
end Go.Proofs.Ytffmmhofgocldaa
