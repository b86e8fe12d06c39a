/- The reference's count and Same at lists of effects; the law's has. -/
import Derived.Test.YthagdeadmoidnaaEq2
import Derived.StillTailTactics
import Derived.Deep.RegionHeld3
set_option linter.unusedVariables false
namespace Go.Proofs.Ythagdeadmoidnaa
open Go.RowKit
open Go.Lib (hid)
noncomputable def countF (l : List Out) (o : Out) : Nat := l.countP (fun y => dec (OutEq y o))
theorem countF_step {l : List Out} {o x : Out} {k : Nat} (hx : l[k]? = some x) : countF (l.take (k + 1)) o = countF (l.take k) o + (if dec (OutEq x o) then 1 else 0) := by
  unfold countF
  rw [List.take_add_one, hx, Option.toList_some, List.countP_append]
  simp [List.countP_cons]
theorem countF_le (l : List Out) (o : Out) : countF l o ≤ l.length := List.countP_le_length
set_option maxHeartbeats 4000000 in
set_option maxRecDepth 100000 in
theorem count_any (l : List Out) (x : Out) (hl : l.length ≤ 1048576) (hlo : OutsB l) (hx : ValsB x.args) (S T : Foot) (v : Value) (cs : List Value) (w : World) (hr : SlR 5 OutR S w l v) (hrx : OutR T w x cs) :
    Calls Try.prog 30 #[v, .agg cs.toArray] w fun e w' => e = .returned (iv (countF l x)) ∧ Below w.heap.size w w' := by
  obtain ⟨a, c, rfl, -⟩ := hr.slice
  obtain ⟨a1, k1, rfl, -⟩ := id hrx
  have hb : Below w.heap.size w (w.alloc (.cells (outCs x (.slice a1 x.args.length k1)).toArray 54)) := (Below.refl _ w).alloc (Nat.le_refl _) _
  have hbx := heap_alloc_new' w (.cells (outCs x (.slice a1 x.args.length k1)).toArray 54)
  have hbl : w.heap.size < (w.alloc (.cells (outCs x (.slice a1 x.args.length k1)).toArray 54)).heap.size := by simp
  have hr1 := hid (hr.below goodOut hb)
  have hrx1 := hid (goodOut.below hrx hb)
  generalize hres : countF l x = res
  replace hres := hid hres
  replace hlo := hid hlo
  replace hb := hid hb
  replace hbx := hid hbx
  clear hr hrx
  go_enter Try.func30, Try.ntmps30
  go_wp2
  generalize (w.alloc (.cells (outCs x (.slice a1 x.args.length k1)).toArray 54)) = w1 at *
  go_loopw [5, 6] (fun n i wr => ∃ k m : Nat, i = .int .i64 k ∧ n = .int .i64 m ∧ k ≤ l.length ∧ m ≤ k ∧ Hid (countF (l.take k) x = m) ∧ Below w1.heap.size w1 wr) (fun _ i _ => l.length - (intOf i).toNat)
  case atStart => exact ⟨0, 0, rfl, rfl, Nat.zero_le _, Nat.le_refl _, hid rfl, Below.refl _ _⟩
  case round =>
    obtain ⟨k, m, rfl, rfl, hk, hm, hc0, hB⟩ := hrel
    by_cases hlt : k < l.length
    · obtain ⟨y, hy⟩ : ∃ y, l[k]? = some y := ⟨_, List.getElem?_eq_getElem hlt⟩
      obtain ⟨g, o, ds, hidx, hS, hg, hcl, hR⟩ := (hr1.out.below goodOut hB).at (P := Try.prog) (t := 41) (by kernel_rfl) (fun _ => by kernel_rfl) hy
      have hdr : Below wr.heap.size wr wr.drew := (Below.refl _ _).drew
      have hcall := hid (rEqOut_any y x (hlo.out y (List.mem_of_getElem? hy)) hx _ _ _ _ wr.drew (goodOut.below hR hdr) (goodOut.below (goodOut.below hrx1.out hB) hdr))
      obtain ⟨a2, k2, rfl, -⟩ := hR
      have hbox := below_keep hB hbx.out hbl
      have c0 := hcl 0 _ rfl
      have c1 := hcl 1 _ rfl
      have c2 := hcl 2 _ rfl
      have c3 := hcl 3 _ rfl
      have c4 := hcl 4 _ rfl
      rw [Nat.add_zero] at c0
      have d0 : wr.cell? ⟨w.heap.size, 0, none⟩ = some (sv x.key) := (cell_of hbox).trans rfl
      have d1 : wr.cell? ⟨w.heap.size, 1, none⟩ = some (sv x.name) := (cell_of hbox).trans rfl
      have d2 : wr.cell? ⟨w.heap.size, 2, none⟩ = some (.slice a1 x.args.length k1) := (cell_of hbox).trans rfl
      have d3 : wr.cell? ⟨w.heap.size, 3, none⟩ = some (.bool x.part) := (cell_of hbox).trans rfl
      have d4 : wr.cell? ⟨w.heap.size, 4, none⟩ = some (iv x.tick) := (cell_of hbox).trans rfl
      have hst := hid (countF_step (o := x) hy)
      clear hcl hbox hdr hy
      go_wp2_with fail
      go_still_tail 5, (by kernel_rfl)
      go_wp2_with fail
      refine hcall.out.mono ?_
      rintro e w2 ⟨rfl, hb2⟩
      have hB2 := hB.trans ((show Below wr.heap.size wr w2 from ((Below.refl _ _).drew).trans hb2).mono hB.size)
      clear c0 c1 c2 c3 c4 d0 d1 d2 d3 d4 hcall hidx hb2
      cases hd : dec (OutEq y x) with
      | true =>
        have hn := hst.out
        rw [hd, hc0.out] at hn
        replace hn := hid hn
        have hw1 : IntKind.i64.wrap ((m : Int) + 1) = (m : Int) + 1 := by rw [IntKind.wrap_i64]; omega
        clear hd
        go_wp2
        exact ⟨⟨k + 1, m + 1, by go_num, by go_num, by omega, by omega, hid (by rw [hn.out]; rfl), hB2⟩, by simp [intOf]; omega⟩
      | false =>
        have hn := hst.out
        rw [hd, hc0.out] at hn
        replace hn := hid hn
        clear hd
        go_wp2
        exact ⟨⟨k + 1, m, by go_num, rfl, by omega, by omega, hid (by rw [hn.out]; rfl), hB2⟩, by simp [intOf]; omega⟩
    · have hkl : k = l.length := by omega
      subst hkl
      have hfin := hc0.out
      rw [List.take_of_length_le (Nat.le_refl _), hres.out] at hfin
      replace hfin := hid hfin
      have hB9 := hid (hb.out.trans (hB.mono hb.out.size))
      go_wp2
      go_ret
      exact ⟨by rw [hfin.out]; rfl, hB9.out⟩
set_option maxHeartbeats 4000000 in
set_option maxRecDepth 100000 in
theorem sameOuts_any (l : List Out) (hl : l.length ≤ 1048576) (hlo : OutsB l) (S T : Foot) (vx vy : Value) (w : World) (h1 : SlR 5 OutR S w l vx) (h2 : SlR 5 OutR T w l vy) :
    Calls Try.prog 16 #[vx, vy] w fun e w' => e = .returned (.bool true) ∧ Below w.heap.size w w' := by
  obtain ⟨ax, cx, rfl, -⟩ := h1.slice
  obtain ⟨ay, cy, rfl, -⟩ := h2.slice
  replace h1 := hid h1
  replace h2 := hid h2
  replace hlo := hid hlo
  go_enter Try.func16, Try.ntmps16
  go_wp2
  go_loopw [5] (fun i wr => ∃ k : Nat, i = .int .i64 k ∧ k ≤ l.length ∧ Below w.heap.size w wr) (fun i _ => l.length - (intOf i).toNat)
  case atStart => exact ⟨0, rfl, Nat.zero_le _, Below.refl _ _⟩
  case round =>
    obtain ⟨k, rfl, hk, hB⟩ := hrel
    by_cases hlt : k < l.length
    · obtain ⟨y, hy⟩ : ∃ y, l[k]? = some y := ⟨_, List.getElem?_eq_getElem hlt⟩
      have h1r := hid (h1.out.below goodOut hB)
      have h2r := hid (h2.out.below goodOut hB)
      obtain ⟨g, o, ds, hidx, hS, hg, hcl, hR⟩ := h1r.out.at (P := Try.prog) (t := 41) (by kernel_rfl) (fun _ => by kernel_rfl) hy
      have hyB := hid (hlo.out y (List.mem_of_getElem? hy))
      have hdr : Below wr.heap.size wr wr.drew := (Below.refl _ _).drew
      have hR0 := hid hR
      have hcall := hid (count_any l y hl hlo.out hyB.out _ _ _ _ wr.drew (h1r.out.below goodOut hdr) (goodOut.below hR hdr))
      obtain ⟨a2, k2, rfl, -⟩ := hR
      have c0 := hcl 0 _ rfl
      have c1 := hcl 1 _ rfl
      have c2 := hcl 2 _ rfl
      have c3 := hcl 3 _ rfl
      have c4 := hcl 4 _ rfl
      rw [Nat.add_zero] at c0
      have hkI : (k : Int) < (l.length : Int) := by omega
      have hkI0 : (0 : Int) ≤ (k : Int) := by omega
      clear hcl hdr
      go_wp2_with fail
      go_region_held3 (fun w' => w'.cell? ⟨g, o, none⟩ = some (sv y.key) ∧ w'.cell? ⟨g, o + 1, none⟩ = some (sv y.name) ∧ w'.cell? ⟨g, o + 2, none⟩ = some (.slice a2 y.args.length k2) ∧ w'.cell? ⟨g, o + 3, none⟩ = some (.bool y.part) ∧ w'.cell? ⟨g, o + 4, none⟩ = some (iv y.tick)) (first | with_reducible exact q3 | with_reducible exact q2 | go_keep)
        (first | (go_at_call 30; refine hcall2.out.mono ?_; rintro e w3 ⟨rfl, hb3⟩; have q3 : _ ∧ _ ∧ _ ∧ _ ∧ _ := ⟨(hb3.cell (p := ⟨g, o, none⟩) hg2).trans q2.1, (hb3.cell (p := ⟨g, o + 1, none⟩) hg2).trans q2.2.1, (hb3.cell (p := ⟨g, o + 2, none⟩) hg2).trans q2.2.2.1, (hb3.cell (p := ⟨g, o + 3, none⟩) hg2).trans q2.2.2.2.1, (hb3.cell (p := ⟨g, o + 4, none⟩) hg2).trans q2.2.2.2.2⟩) | (go_at_call 30; refine hcall.out.mono ?_; rintro e w2 ⟨rfl, hb2⟩; have q2 : _ ∧ _ ∧ _ ∧ _ ∧ _ := ⟨(hb2.cell (p := ⟨g, o, none⟩) hg).trans c0, (hb2.cell (p := ⟨g, o + 1, none⟩) hg).trans c1, (hb2.cell (p := ⟨g, o + 2, none⟩) hg).trans c2, (hb2.cell (p := ⟨g, o + 3, none⟩) hg).trans c3, (hb2.cell (p := ⟨g, o + 4, none⟩) hg).trans c4⟩; have hg2 : g < w2.heap.size := Nat.lt_of_lt_of_le hg hb2.size; have hbr : Below wr.heap.size wr w2 := ((Below.refl _ wr).drew).trans hb2; have hcall2 := hid (count_any l y hl hlo.out hyB.out _ _ _ _ w2 (h2r.out.below goodOut hbr) (goodOut.below hR0.out hbr))))
      have hB3 := hid (hB.trans ((hbr.trans (hb3.mono hbr.size)).mono hB.size))
      generalize countF l y = N at *
      clear q2 q3 hcall hcall2 hb2 hb3 hbr c0 c1 c2 c3 c4 hidx
      go_wp2
      exact ⟨⟨k + 1, by go_num, by omega, hB3.out⟩, by simp [intOf]; omega⟩
    · have hkl : k = l.length := by omega
      subst hkl
      go_wp2
      go_ret
      exact ⟨by simp, hB⟩
end Go.Proofs.Ythagdeadmoidnaa
