/- Chapter 05 (disk): walks: Copy. -/
import Derived.Test.YtdapjoapndemkaaDiskW8
import Derived.Maps.AppendAt
set_option linter.unusedVariables false
namespace Go.Proofs.Ytdapjoapndemkaa
open Go.RowKit
open Go.Lib (hid)
/-- a row of the call's own copied behind nil -/
theorem copy_row {P : Program} (w : World) (t ty e : TypeId) (i : TypeInfo) (ht : P.underlying t = some (.slice e)) (hi : P.info? e = some i) (hz : i.zero = some (.int .u8 0)) (hsize : i.size = 1) (hby : i.bytes = 1)
    (a : Option Addr) (c : Nat) (l : List UInt8) (hown : w.ownsRow 0 e 1 (.slice a l.length c) l.length (u8s l)) (hl : l.length ≤ 16777216) :
    ∃ a' c' w', (Builtin.append_ #[t, t] ty #[.slice none 0 0, .slice a l.length c]).run P w = .ok (.slice a' l.length c') w' ∧ w'.ownsRow w.heap.size e 1 (.slice a' l.length c') l.length (u8s l) ∧ Below w.heap.size w w' := by
  rcases a with _ | ad
  · have hn : l.length = 0 := by
      rcases hown.2 with ⟨_, h⟩ | ⟨g, cap, cur, hv, _⟩
      · exact h
      · cases hv
    have hl0 : l = [] := List.eq_nil_of_length_eq_zero hn
    subst hl0
    refine ⟨none, 0, w, ?_, World.ownsRow_nil _ _ _ _, Below.refl _ _⟩
    simp [Builtin.append_, run_underlying ht, sizeOf, typeInfo, hi, Builtin.lenOf, Builtin.firstCells]
  · have hcells : ∀ j u, (u8s l)[j]? = some u → w.cell? (ad.add j) = some u := by
      rcases hown.2 with ⟨h, _⟩ | ⟨g, cap, cur, hv, _⟩
      · cases h
      · injection hv with h _ _
        injection h with h
        subst h
        exact hown.cells (g := g) rfl
    have h1 : ∀ u ∈ u8s l, u.oneCell' = true := by
      intro u hu
      simp only [u8s, List.mem_map] at hu
      obtain ⟨x, _, rfl⟩ := hu
      rfl
    obtain ⟨v', w', hrun, h2, h3, h4, h5⟩ := run_append_own_at (P := P) w w.heap.size t ty e i (.int .u8 0) 1 1 ht hi hz hsize hby rfl (by decide) (.slice none 0 0) 0 [] (World.ownsRow_nil _ _ _ _) ad l.length c (u8s l) (by simp) hcells h1 (by simp only [maxLen]; omega) (by omega) (Nat.le_refl _)
    rw [Nat.zero_add, List.nil_append] at h2
    obtain ⟨a', c', rfl, _, _⟩ := own_len h2
    exact ⟨a', c', w', hrun, h2, (Below.refl _ _).grown h3 (Nat.le_refl _) (fun k hk => by simp [Value.ownBlock] at hk)⟩

theorem dCells_one {T E : TypeId} {b : Nat} {vs : Nat → Value} {d : DS} {w : World} (h : DV T E b vs d w) : (dCells vs d).toArray.all (·.oneCell') = true := by
  have h1 : ∀ f, f < 8 → (vs f).oneCell' = true := fun f hf => by
    obtain ⟨a, c, e, _⟩ := own_len (h.own f hf)
    rw [e]; rfl
  rw [List.all_toArray]
  simp only [dCells, List.all_cons, List.all_nil, h1 0 (by decide), h1 1 (by decide), h1 2 (by decide), h1 3 (by decide), h1 4 (by decide), h1 5 (by decide), h1 6 (by decide), h1 7 (by decide), Bool.true_and, Bool.and_true]
  rfl
/-- the first k files of the copy have rows of their own -/
structure CopyTo (T E : TypeId) (B : Nat) (vs us : Nat → Value) (d : DS) (k : Nat) (w : World) : Prop where
  blk : w.heap[B]? = some (.cells (dCells us d).toArray T (0, 0))
  rest : ∀ f, f < 8 → k ≤ f → us f = vs f
  own : ∀ f, f < k → w.ownsRow 0 E 1 (us f) (d.data f).length (u8s (d.data f))
  low : ∀ f, f < k → ∀ x, (us f).ownBlock = some x → B < x
  apart : ∀ f g, f < k → g < k → f ≠ g → (us f).ownBlock = none ∨ (us f).ownBlock ≠ (us g).ownBlock

theorem own_base {w : World} {base : Nat} {e : TypeId} {sz n : Nat} {v : Value} {xs : List Value} (h : w.ownsRow base e sz v n xs) {k : Nat} (hk : v.ownBlock = some k) : base ≤ k := by
  rcases h.2 with ⟨rfl, _⟩ | ⟨g, cap, cur, rfl, hb, _⟩
  · simp [Value.ownBlock] at hk
  · simp [Value.ownBlock] at hk; omega
theorem CopyTo.next {T E : TypeId} (hTE : T ≠ E) {B : Nat} {vs us : Nat → Value} {d : DS} {k : Nat} {w w1 : World} {v : Value} (h : CopyTo T E B vs us d k w) (hB : B < w.heap.size) (hk : k < 8)
    (hv : w1.ownsRow w.heap.size E 1 v (d.data k).length (u8s (d.data k))) (hb : Below w.heap.size w w1) : CopyTo T E B vs (upd us k v) d (k + 1) (w1.setCell ⟨B, k * 2, none⟩ v) := by
  have hblk : w1.heap[B]? = some (.cells (dCells us d).toArray T (0, 0)) := below_keep hb h.blk hB
  have hlt : ∀ f, f < k → ∀ x, (us f).ownBlock = some x → x < w.heap.size := fun f hf x hx => by
    obtain ⟨cur, hc⟩ := own_type (h.own f hf) hx
    exact lt_of_heap hc
  refine ⟨?_, fun f hf hkf => ?_, fun f hf => ?_, fun f hf x hx => ?_, fun f g hf hg hfg => ?_⟩
  · have h9 := heap_setCell_same (i := k * 2) hblk v
    rw [dCells_set_data us d v [] k hk] at h9
    exact h9
  · rw [upd_other _ _ _ _ (by omega)]; exact h.rest f hf (by omega)
  · by_cases e : f = k
    · subst e
      rw [upd_same]
      exact owns_blk hv (fun x hx => heap_setCell_other v (fun e => by have := own_base hv hx; omega)) (fun _ _ => Nat.zero_le _)
    · rw [upd_other _ _ _ _ e]
      have hfk : f < k := by omega
      exact owns_blk (h.own f hfk) (fun x hx => by
        rw [heap_setCell_other v (fun e => by have := h.low f hfk x hx; omega)]
        exact hb.block x (hlt f hfk x hx)) (fun _ _ => Nat.zero_le _)
  · by_cases e : f = k
    · subst e
      rw [upd_same] at hx
      have := own_base hv hx; omega
    · rw [upd_other _ _ _ _ e] at hx
      exact h.low f (by omega) x hx
  · by_cases e : f = k
    · subst e
      rw [upd_same, upd_other _ _ _ _ (fun e => hfg e.symm)]
      rcases hvb : v.ownBlock with _ | x
      · exact Or.inl rfl
      · right
        intro e
        have h1 := own_base hv hvb
        have h2 := hlt g (by omega) x e.symm
        omega
    · rw [upd_other _ _ _ _ e]
      by_cases e2 : g = k
      · subst e2
        rw [upd_same]
        rcases hub : (us f).ownBlock with _ | x
        · exact Or.inl rfl
        · right
          intro e3
          have h1 := own_base hv e3.symm
          have h2 := hlt f (by omega) x hub
          omega
      · rw [upd_other _ _ _ _ e2]
        exact h.apart f g (by omega) (by omega) hfg

set_option maxRecDepth 100000 in
set_option maxHeartbeats 4000000 in
theorem copy_any (F : Nat → Prop) (b : Nat) (d : DS) (w : World) (h : DkD F b d w) : Calls Try.prog 25 #[pt b] w fun e w' => e = .returned (pt w.heap.size) ∧ DkD (from_ w.heap.size) w.heap.size d w' ∧ Below w.heap.size w w' := by
  obtain ⟨ho, vs, hv, hF⟩ := h
  have hlt := hv.lt
  have hblk := hv.blk
  replace hv := hid hv
  replace ho := hid ho
  clear hF
  have hone : (dCells vs d).toArray.all (·.oneCell') = true := dCells_one hv.out
  go_enter Try.func25, Try.ntmps25
  go_wp2_with (first | (refine wpList_load_row rfl 57 (.tmp 6) rfl b rfl 57 _ (0, 0) _ hblk Try.underlying57 rfl (by kernel_rfl) ?_) | (refine wpList_store_row rfl 57 (.tmp 3) (.tmp 7) rfl w.heap.size (dCells vs d).toArray rfl rfl 57 _ (heap_alloc_new' _ _) (by kernel_rfl) (by kernel_rfl) hone ?_))
  go_loopw [8] (fun i wr => ∃ (k : Nat) (us : Nat → Value), i = .int .i64 k ∧ k ≤ 8 ∧ CopyTo 57 5 w.heap.size vs us d k wr ∧ Below w.heap.size w wr) (fun i _ => 8 - (intOf i).toNat)
  case atStart =>
    have hh := heap_alloc_new' w (.cells (dCells (fun _ => .slice none 0 0) dNew).toArray 57)
    refine ⟨0, vs, rfl, by omega, ⟨setRow_heap _ _ _ _ _ _ hh, fun _ _ _ => rfl, fun f hf => absurd hf (by omega), fun f hf => absurd hf (by omega), fun f g hf => absurd hf (by omega)⟩, ⟨rfl, rfl, rfl, by simp, fun k hk => ?_⟩⟩
    rw [setRow_other _ _ _ _ (by omega)]
    exact Below.heap_alloc _ _ _ hk
  case round =>
    obtain ⟨k, us, rfl, hk8, hc, hB⟩ := hrel
    have hvr := hv.out.fr (Fr.of_below hB (fun _ => False)) (fun _ _ h => h)
    by_cases hk : k < 8
    · have hkI : (k : Int) < 8 := by omega
      have cd := hvr.cell (k * 2)
      rw [dCells_data _ _ k hk] at cd
      have hown := hvr.own k hk
      have hlen := ho.out.len k hk
      obtain ⟨a, cp, hvk, hc1, hc2⟩ := own_len hown
      rw [hvk] at cd hown
      obtain ⟨i0, hi, hz0, hz1, hz2⟩ := info_parts infoU8
      obtain ⟨a', c', w1, hrun, hown1, hb1⟩ := copy_row (P := Try.prog) wr 51 51 5 i0 (by kernel_rfl) hi hz0 hz1 hz2 a cp (d.data k) hown hlen
      have hltB : w.heap.size < wr.heap.size := lt_of_heap hc.blk
      have hblk1 : w1.heap[w.heap.size]? = some (.cells (dCells us d).toArray 57 (0, 0)) := below_keep hb1 hc.blk hltB
      have ck := cell_of (i := k * 2) hblk1
      rw [dCells_data us d k hk] at ck
      have zk : w1.frozen? ⟨w.heap.size, k * 2, none⟩ = false := free_of hblk1
      have hnext := hid (hc.next hTE hltB hk hown1 hb1)
      have hB1 := hid ((hB.trans (hb1.mono hB.size)).setCell (p := ⟨w.heap.size, k * 2, none⟩) (Nat.le_refl _) (.slice a' (d.data k).length c'))
      replace hown := hid hown
      replace hvk := hid hvk
      clear hc hvr hown1 hb1 hblk1 hi hz0 hz1 hz2
      go_wp2_with (first | (at_builtin; refine wpList_append_run rfl (.const (.slice none 0 0)) (.tmp 18) 51 51 rfl rfl rfl hrun ?_))
      go_roundw
      case rel => exact ⟨k + 1, _, by go_num, by omega, hnext.out, hB1.out⟩
      case measure => simp [intOf]; omega
    · have hk : k = 8 := by omega
      subst hk
      have hd : DkD (from_ w.heap.size) w.heap.size d wr := ⟨ho.out, us, ⟨hc.blk, hc.own, hc.apart⟩, fun x hx => by
        rcases hx with rfl | ⟨f, hf, hx⟩
        · exact Nat.le_refl _
        · exact Nat.le_of_lt (hc.low f hf x hx)⟩
      replace hd := hid hd
      clear hc hvr
      go_wp2_with fail
      go_ret
      exact ⟨rfl, hd.out, hB⟩
end Go.Proofs.Ytdapjoapndemkaa
