/- maps.Copy at map[string]bool; the World's Copy. -/
import Derived.Test.YthagdeadmoidnaaDoorWorld1
import Derived.Maps.RangeWalk
set_option linter.unusedVariables false
namespace Go.Proofs.YthagdeadmoidnaaDoor
open Go.RowKit Go.Maps
open Go.Lib (hid)
theorem keyOf_str_inv {key : Value} {kl : Lit} (h : keyOf Tryd.prog 9 key = some kl) : ∃ s : List UInt8, key = sv s ∧ kl = .string s ∧ s.length ≤ maxLen := by
  have hk := Tryd.underlying9
  cases key <;> simp [keyOf, hk, mapKey] at h
  rename_i s
  obtain ⟨hl, rfl⟩ := h
  obtain ⟨l, rfl, hl2⟩ := str_list s
  exact ⟨l, rfl, by simp, by rw [hl2]; exact hl⟩
noncomputable def restW (f : Lit → Option Value) (left : Lit → Bool) : Lit → Option Value := fun kl => if left kl then none else f kl
set_option maxHeartbeats 4000000 in
set_option maxRecDepth 100000 in
theorem mapsCopy_any (b d N : Nat) (f : Lit → Option Value) (w : World) (hN : N ≤ 1000000) (hs : MapV Tryd.prog 9 b N f w) (hd : MapV Tryd.prog 9 d 0 (fun _ => none) w) (hbd : b ≠ d) :
    Calls Tryd.prog 21 #[.map (some d), .map (some b)] w fun e w' => e = .returned (.tuple #[]) ∧ MapV Tryd.prog 9 d N f w' ∧ Fr (fun q => q = d) w w' := by
  obtain ⟨D, hD, hf⟩ := hs
  have K := Maps.string_keyed Tryd.underlying9
  have hdl := hd.lt
  have hbl := hD.lt
  replace hf := hid hf
  replace hd := hid hd
  go_enter Tryd.func21, Tryd.ntmps21
  go_wp2_with (first | (at_range; refine wpList_range_own _ rfl _ 47 rfl 9 4 K Tryd.underlying47 heldV b N _ rfl hD ?_; intro w0 hrg0 hg0 hs0))
  go_frame
  have hsz0 := hD.size_le
  go_loopw [4, 5] (fun _ _ wr => ∃ (left : Lit → Bool) (cnt M : Nat), wr.ranges Tryd.prog 9 heldV b w.heap.size N D left cnt ∧ Hid (MapV Tryd.prog 9 d M (restW f left) wr) ∧ M + cnt ≤ N ∧ Hid (Fr (fun q => q = d) w wr)) (fun _ _ wr => wr.rangeLeft b w.heap.size)
  case atStart =>
    refine ⟨_, _, 0, hrg0, hid ((hd.out.same (hg0.block d hdl (by simp))).congr (fun kl hk => ?_)), by omega, hid ⟨hg0.os, hg0.tape, hg0.output, hg0.size, fun q hq h => hg0.block q hq (by simp)⟩⟩
    unfold restW
    have := (hf.out kl hk).1
    split
    · rfl
    · rename_i h
      rw [this] at h
      cases hx : f kl with
      | none => rfl
      | some u => rw [hx] at h; simp at h
  case round =>
    clear hrg0 hg0 hs0
    obtain ⟨left, cnt, M, hrg, hM, hle, hFr⟩ := hrel
    go_wp2_with (first | (at_next; refine wpList_next_ranges (α := List UInt8) (β := Value) _ rfl _ rfl 9 K heldV (fun s => sv s) (fun v => v) (fun key kl h => by obtain ⟨s, h1, _⟩ := keyOf_str_inv h; exact ⟨s, h1⟩) (fun v y _ => ⟨v, rfl⟩) b w.heap.size N _ _ _ rfl hrg ?_ ?_))
    · intro _ hl0
      have hfin := hid ((hM.out.mono (show M ≤ N by omega)).congr (g := f) (fun kl _ => by unfold restW; rw [hl0 kl]; rfl))
      clear hM hl0 hrg
      go_wp2
      go_end0
      exact ⟨rfl, hfin.out, hFr.out⟩
    · intro x c kl y yp w1 cnt1 hkey hlk hR hat hrg1 hlt hg1 hs1 hen
      obtain ⟨s, hx1, rfl, hsl⟩ := keyOf_str_inv hkey
      have hrd : w.heap.size ≠ d := by omega
      have hM1 := hM.out.same (hg1.block d (by have := hM.out.lt; exact this) (by intro e; injection e with e; omega))
      obtain ⟨w2, hput, hM2, hg2⟩ := hM1.put K (t := 47) (e := 4) Tryd.underlying47 (by unfold maxLen; omega) hkey trivial c
      have hrg2 := hrg1.kept hg2 (by intro e; injection e with e; exact hbd e) (by intro e; injection e with e; omega)
      have hM3 := hid ((hM2.congr (g := restW f (fun z => left z && !z.sameKey (.string s))) (fun z hz => by
        unfold restW putF
        by_cases e : z = .string s
        · subst e
          rw [if_pos rfl]
          have hsk : (Lit.string s).sameKey (.string s) = true := WideAt.sameKey_self trivial
          simp only [hsk, Bool.not_true, Bool.and_false, Bool.false_eq_true, if_false]
          have hfs := hf.out (.string s) trivial
          cases hfx : f (.string s) with
          | none =>
            rw [hfx] at hfs
            have h9 := hat (.lit (.bool true))
            have h8 := hat (.lit (.bool false))
            rw [Maps.atKey_of_not_has (by simpa using hfs.1)] at h9 h8
            rw [← h9] at h8; simp at h8
          | some u =>
            have h9 := hfs.2 u hfx (.lit (.bool true))
            rw [hat] at h9
            simp only [heldV, Option.some.injEq, Prod.mk.injEq] at hR
            rw [← hR.1] at h9
            simp only [DataW.held.injEq] at h9
            rw [h9]
        · rw [if_neg e]
          have hsk : z.sameKey (.string s) = false := Maps.sameKey_ne e
          simp [hsk])))
      have hFr2 := hid (((hFr.out.trans' (T := fun q => q = w.heap.size) (U := fun q => q = d) ⟨hg1.os, hg1.tape, hg1.output, hg1.size, fun q hq h => hg1.block q hq (fun e => h (by injection e))⟩ (fun _ h => h) (fun q hq h => by omega)).trans (show Fr (fun q => q = d) w1 w2 from ⟨hg2.os, hg2.tape, hg2.output, hg2.size, fun q hq h => hg2.block q hq (fun e => h (by injection e))⟩)))
      have hxs : x = s := by
        have := hx1
        simp only [sv, Value.string.injEq, ByteArray.mk.injEq] at this
        simpa using this
      subst hxs
      clear hM hM1 hM2 hFr hg1 hg2 hat hlk hR hkey hx1
      go_wp2
      go_roundw
      case rel => exact ⟨_, cnt1, M + 1, hrg2, hM3, by omega, hFr2⟩
      case measure => rw [hrg2.left_eq, hrg.left_eq]; exact hlt
set_option maxHeartbeats 4000000 in
set_option maxRecDepth 100000 in
theorem wcopy_any (F : Foot) (b : Nat) (x : WS) (w : World) (h : WV F b x w) : Calls Tryd.prog 13 #[pt b] w fun e w' => ∃ b', e = .returned (pt b') ∧ WV (from_ w.heap.size) b' x w' ∧ Below w.heap.size w w' := by
  have hh := hid h
  obtain ⟨ho, vl, vf, mb, L, G, h1, h2, h3, h4, h5, h6, h7, h8⟩ := h
  have c1 : w.cell? ⟨b, 1, none⟩ = some (.map (some mb)) := (cell_of h1).trans rfl
  have hlt := lt_of_some h1
  have hlm := h8.lt
  have hmm := @run_makeMap Tryd.prog
  have hmv : MapV Tryd.prog 9 w.heap.size 0 (fun _ => none) (w.alloc (.map #[] 0)) := MapV.made w
  have hb : Below w.heap.size w (w.alloc (.map #[] 0)) := (Below.refl _ w).alloc (Nat.le_refl _) _
  have hcall := hid (mapsCopy_any mb w.heap.size x.log.length (knownF x.log) _ (by have := ho.log.1; omega) (h8.alloc (.map #[] 0)) hmv (by omega))
  replace hb := hid hb
  replace ho := hid ho
  clear h1 h2 h3 h4 h5 h6 h7 h8 hmv
  go_enter Tryd.func13, Tryd.ntmps13
  go_wp2_with fail
  refine hcall.out.mono ?_
  rintro e w1 ⟨rfl, hM1, hf1⟩
  have hB1 := hb.out.trans (hf1.to_below (B := w.heap.size) hb.out.size (fun k hk h => by omega))
  have hs1 : w.heap.size + 1 ≤ w1.heap.size := by have := hf1.size; simpa using this
  have hl1 := hid (wlog_any F b x w1 (hh.out.below hB1))
  replace hM1 := hid hM1
  clear hcall hf1 c1
  go_wp2_with fail
  refine hl1.out.mono ?_
  rintro e w2 ⟨v2, rfl, hO2, hb2⟩
  have hB2 := hB1.trans (hb2.mono hB1.size)
  have hs2 := hb2.size
  have hM2 := hid (hM1.out.below hb2 (by omega))
  have hn2 := hid (wnet_any F b x w2 (hh.out.below hB2))
  obtain ⟨a2, k2, rfl, -, -⟩ := hO2.slice
  replace hO2 := hid hO2
  clear hl1 hM1 hb2 hB1
  go_wp2_with fail
  refine hn2.out.mono ?_
  rintro e w3 ⟨v3, rfl, hO3, hb3⟩
  have hB3 := hB2.trans (hb3.mono hB2.size)
  have hs3 := hb3.size
  obtain ⟨a3, k3, rfl, -, -⟩ := hO3.slice
  have hq := heap_alloc_new' w3 (.cells #[.slice a2 x.log.length k2, .map (some w.heap.size), .slice a3 x.force.length k3] 49)
  have hb4 : Below w3.heap.size w3 (w3.alloc (.cells #[.slice a2 x.log.length k2, .map (some w.heap.size), .slice a3 x.force.length k3] 49)) := (Below.refl _ _).alloc (Nat.le_refl _) _
  have hfin : WV (from_ w.heap.size) w3.heap.size x (w3.alloc (.cells #[.slice a2 x.log.length k2, .map (some w.heap.size), .slice a3 x.force.length k3] 49)) := by
    refine ⟨ho.out, _, _, w.heap.size, fun k => w1.heap.size ≤ k ∧ k < w2.heap.size, fun k => w2.heap.size ≤ k ∧ k < w3.heap.size, hq, ?_, Nat.le_refl _, fun k hk => ⟨by show w.heap.size ≤ k; omega, by omega, by omega, fun h => by omega⟩, fun k hk => ⟨by show w.heap.size ≤ k; omega, by omega, by omega⟩, ?_, ?_, ?_⟩
    · show w.heap.size ≤ w3.heap.size; omega
    · exact (((hO2.out.mono goodCmd (T := fun k => w1.heap.size ≤ k ∧ k < w2.heap.size) (fun k hk h => ⟨h, hk⟩)).below goodCmd hb3).below goodCmd hb4)
    · exact ((hO3.mono goodOut (T := fun k => w2.heap.size ≤ k ∧ k < w3.heap.size) (fun k hk h => ⟨h, hk⟩)).below goodOut hb4)
    · exact (hM2.out.below hb3 (by omega)).below hb4 (by omega)
  replace hfin := hid hfin
  have hfr := hid (hB3.trans (hb4.mono (by omega)))
  clear hO3 hq hb4 hM2 hb3
  go_wp2
  go_ret
  exact ⟨_, rfl, hfin.out, hfr.out⟩
end Go.Proofs.YthagdeadmoidnaaDoor
