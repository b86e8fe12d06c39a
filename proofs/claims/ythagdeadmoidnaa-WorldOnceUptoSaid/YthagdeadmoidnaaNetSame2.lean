/- net.Same at two slices that stand for the same list of effects with distinct keys: the walk. -/
import Derived.Test.YthagdeadmoidnaaNetSame
set_option linter.unusedVariables false
namespace Go.Proofs.Ythagdeadmoidnaa
open Go.RowKit
open Go.Lib (hid)
set_option maxHeartbeats 8000000 in
set_option maxRecDepth 100000 in
theorem netSame_any (l : List Out) (hl : l.length ≤ 100000) (hnd : (l.map Out.key).Nodup) (hkl : ∀ o ∈ l, o.key.length ≤ 1048576) (hlB : OutsB l) (S T : Foot) (va vb : Value) (w : World) (ha : SlR 5 OutR S w l va) (hb : SlR 5 OutR T w l vb) :
    Calls Try.prog 23 #[va, vb] w fun e w' => e = .returned (.bool true) ∧ Below w.heap.size w w' := by
  obtain ⟨a1, k1, rfl, -⟩ := ha.slice
  obtain ⟨a2, k2, rfl, -⟩ := hb.slice
  have hmm := @run_makeMap Try.prog
  have K := Maps.string_keyed Try.underlying9
  obtain ⟨i0, hi, hz0, hz1, hz2⟩ := info_parts infoOut
  have hi' := hid hi
  have hz0' := hid hz0
  have hz1' := hid hz1
  have hz2' := hid hz2
  have hb1 : Below w.heap.size w (w.alloc (.map #[] 0)) := (Below.refl _ w).alloc (Nat.le_refl _) _
  have hL := hid (show LeftR l w.heap.size w.heap.size 0 0 (w.alloc (.map #[] 0)) from ⟨0, fun _ => none, fun _ => .slice none 0 0, MapV.made w, Nat.zero_le _, fun j o h1 h2 => absurd h2 (by omega), fun i j h1 h2 => absurd h2 (by omega), fun _ _ => rfl⟩)
  have hsz1 : w.heap.size + 1 ≤ (w.alloc (.map #[] 0)).heap.size := by simp
  replace ha := hid ha
  replace hb := hid hb
  replace hnd := hid hnd
  replace hkl := hid hkl
  replace hlB := hid hlB
  replace hb1 := hid hb1
  clear hi hz0 hz1 hz2
  go_enter Try.func23, Try.ntmps23
  go_wp2_with fail
  go_loopw [20] (fun i wr => ∃ k : Nat, i = .int .i64 k ∧ k ≤ l.length ∧ Hid (LeftR l w.heap.size w.heap.size 0 k wr) ∧ Hid (Below w.heap.size w wr) ∧ w.heap.size + 1 ≤ wr.heap.size) (fun i _ => l.length - (intOf i).toNat)
  case atStart => exact ⟨0, rfl, Nat.zero_le _, hL, hb1, hsz1⟩
  case round =>
    clear hL hb1 hsz1 hmm
    obtain ⟨k, rfl, hk, hL, hB, hsz⟩ := hrel
    by_cases hlt : k < l.length
    · obtain ⟨o, ho⟩ : ∃ o, l[k]? = some o := ⟨_, List.getElem?_eq_getElem hlt⟩
      have hT := hb.out.below goodOut hB.out
      obtain ⟨g, of, cs, hidx, hTg, hg, hc, hR⟩ := (hb.out.mono goodOut (T := fun q => q < w.heap.size) (fun q hq _ => hq)).below goodOut hB.out |>.at (P := Try.prog) (t := 41) (by kernel_rfl) (fun _ => by kernel_rfl) ho
      obtain ⟨a3, k3, rfl, hv⟩ := id hR
      have c0 := hc 0 _ rfl
      have c1 := hc 1 _ rfl
      have c2 := hc 2 _ rfl
      have c3 := hc 3 _ rfl
      have c4 := hc 4 _ rfl
      rw [Nat.add_zero] at c0
      have hkey := keyS o.key (hkl.out o (List.mem_of_getElem? ho))
      replace ho := hid ho
      clear hc hT
      generalize hW : wr.alloc (.cells #[sv o.key, sv o.name, .slice a3 o.args.length k3, .bool o.part, iv o.tick] 54) = W at *
      have hbW : Below wr.heap.size wr W := hW ▸ (Below.refl _ wr).alloc (Nat.le_refl _) _
      have hsW : W.heap.size = wr.heap.size + 1 := by rw [← hW]; simp
      have hbox : W.heap[wr.heap.size]? = some (.cells #[sv o.key, sv o.name, .slice a3 o.args.length k3, .bool o.part, iv o.tick] 54) := hW ▸ heap_alloc_new' wr _
      have hLW := hL.out.below hbW (by omega)
      generalize hX : (W.alloc (.cells #[sv o.key, sv o.name, .slice a3 o.args.length k3, .bool o.part, iv o.tick] 54)).drew = X at *
      have hbX : Below W.heap.size W X := hX ▸ ((Below.refl _ W).alloc (Nat.le_refl _) _).drew
      have hsX : X.heap.size = W.heap.size + 1 := by rw [← hX]; show (W.alloc _).heap.size = _; simp
      have hsrc : X.heap[W.heap.size]? = some (.cells #[sv o.key, sv o.name, .slice a3 o.args.length k3, .bool o.part, iv o.tick] 54) := hX ▸ heap_alloc_new' W _
      have hboxX := below_keep hbX hbox (by omega)
      obtain ⟨v, W3, hap, hO3, hvo, hb3⟩ := nil_app1 (x := o) (R := OutR) (t := 41) (ty := 41) (T := fun q => q < w.heap.size) goodOut (by kernel_rfl) hi'.out hz0'.out hz1'.out hz2'.out rfl (by decide) (row_of_block hsrc rfl) (goodOut.below (goodOut.below hR hbW) hbX) (fun q hq => by show q < X.heap.size; have : q < w.heap.size := hq; omega) (by omega)
      rw [hsW] at hap
      have hLX := hLW.below hbX (by omega)
      obtain ⟨N, f, vs, h1, h2, h3, h4, h5⟩ := id hLX.ex
      have hfn : f (.string o.key) = none := h5 o.key fun j y hj hy => key_ne hnd.out hy ho.out (by omega)
      have hlookX := h1.look K (t := 69) (e := 41) Try.underlying69 (z := .slice none 0 0) (by kernel_rfl) hkey trivial
      rw [hfn] at hlookX
      have h1W : MapV Try.prog 9 w.heap.size N f W.drew := by
        refine h1.same ?_
        show W.heap[w.heap.size]? = X.heap[w.heap.size]?
        exact (hbX.block _ (by omega)).symm
      have hlookW := h1W.look K (t := 69) (e := 41) Try.underlying69 (z := .slice none 0 0) (by kernel_rfl) hkey trivial
      rw [hfn] at hlookW
      obtain ⟨W4, hput, hm4, hgr⟩ := (h1.below hb3 h1.lt).put K (t := 69) (e := 41) Try.underlying69 (by unfold maxLen; omega) hkey trivial v
      have hL4 : LeftR l w.heap.size w.heap.size 0 (k + 1) W4 := hLX.push hnd.out ho.out hb3 (by omega) hO3 hvo (by omega) (by omega) (Nat.le_refl _) hkey (fun N' f' hm hN => by
        obtain ⟨W5, hput5, hm5, -⟩ := hm.put K (t := 69) (e := 41) Try.underlying69 hN hkey trivial v
        rw [hput] at hput5; injection hput5 with _ e; rw [e]; exact hm5) hgr (by unfold maxLen; omega)
      have hB4 : Below w.heap.size w W4 := (((hB.out.trans (hbW.mono (by omega))).trans (hbX.mono (by omega))).trans (hb3.mono (by omega))).trans ⟨hgr.os, hgr.tape, hgr.output, hgr.size, fun q hq => hgr.block q (by have := hb3.size; omega) (fun e => by injection e with e; omega)⟩
      have hs4 : w.heap.size + 1 ≤ W4.heap.size := by have := hb3.size; have := hgr.size; omega
      have e0 : W.cell? ⟨wr.heap.size, 0, none⟩ = some (sv o.key) := (cell_of hbox).trans rfl
      have e1 : W.cell? ⟨wr.heap.size, 1, none⟩ = some (sv o.name) := (cell_of hbox).trans rfl
      have e2 : W.cell? ⟨wr.heap.size, 2, none⟩ = some (.slice a3 o.args.length k3) := (cell_of hbox).trans rfl
      have e3 : W.cell? ⟨wr.heap.size, 3, none⟩ = some (.bool o.part) := (cell_of hbox).trans rfl
      have e4 : W.cell? ⟨wr.heap.size, 4, none⟩ = some (iv o.tick) := (cell_of hbox).trans rfl
      have hbox3 := below_keep hb3 hboxX (by omega)
      have hbox4 := (hgr.block wr.heap.size (lt_of_some hbox3) (fun e => by injection e with e; omega)).trans hbox3
      have qX : _ ∧ _ ∧ _ ∧ _ ∧ _ := ⟨(cell_of (i := 0) hboxX).trans rfl, (cell_of (i := 1) hboxX).trans rfl, (cell_of (i := 2) hboxX).trans rfl, (cell_of (i := 3) hboxX).trans rfl, (cell_of (i := 4) hboxX).trans rfl⟩
      have q3 : _ ∧ _ ∧ _ ∧ _ ∧ _ := ⟨(cell_of (i := 0) hbox3).trans rfl, (cell_of (i := 1) hbox3).trans rfl, (cell_of (i := 2) hbox3).trans rfl, (cell_of (i := 3) hbox3).trans rfl, (cell_of (i := 4) hbox3).trans rfl⟩
      have q4 : _ ∧ _ ∧ _ ∧ _ ∧ _ := ⟨(cell_of (i := 0) hbox4).trans rfl, (cell_of (i := 1) hbox4).trans rfl, (cell_of (i := 2) hbox4).trans rfl, (cell_of (i := 3) hbox4).trans rfl, (cell_of (i := 4) hbox4).trans rfl⟩
      replace hL4 := hid hL4
      replace hB4 := hid hB4
      clear h1 h1W h2 h3 h4 h5 hfn hLX hLW hm4 hgr hO3 hvo hb3 hboxX hbox3 hbox4 hsrc hsX hbX hbox hbW hkey hv hR hL hB hTg
      go_wp2_with fail
      go_region_held3 (fun w' => w'.cell? ⟨wr.heap.size, 0, none⟩ = some (sv o.key) ∧ w'.cell? ⟨wr.heap.size, 1, none⟩ = some (sv o.name) ∧ w'.cell? ⟨wr.heap.size, 2, none⟩ = some (.slice a3 o.args.length k3) ∧ w'.cell? ⟨wr.heap.size, 3, none⟩ = some (.bool o.part) ∧ w'.cell? ⟨wr.heap.size, 4, none⟩ = some (iv o.tick)) (first | with_reducible exact qX | with_reducible exact q3 | with_reducible exact q4 | exact ⟨e0, e1, e2, e3, e4⟩ | go_keep) (first | (refine step_append_shut (by rfl) (.tmp 30) (.tmp 32) (by rfl) (by rfl) (by rfl) hap ?_))
      all_goals
        go_wp2_with fail
        exact ⟨⟨k + 1, by go_num, by omega, hL4, hB4, hs4⟩, by simp [intOf]; omega⟩
    · obtain rfl : k = l.length := by omega
      clear hlt hb
      go_wp2_with fail
      go_loopw [37] (fun i wr => ∃ k : Nat, i = .int .i64 k ∧ k ≤ l.length ∧ Hid (LeftR l w.heap.size w.heap.size k l.length wr) ∧ Hid (Below w.heap.size w wr) ∧ w.heap.size + 1 ≤ wr.heap.size) (fun i _ => l.length - (intOf i).toNat)
      case atStart => exact ⟨0, rfl, Nat.zero_le _, hL, hB, hsz⟩
      case round =>
        clear hL hB hsz hk
        obtain ⟨k, rfl, hk, hL, hB, hsz⟩ := hrel
        by_cases hlt : k < l.length
        · obtain ⟨o, ho⟩ : ∃ o, l[k]? = some o := ⟨_, List.getElem?_eq_getElem hlt⟩
          obtain ⟨g, of, cs, hidx, hTg, hg, hc, hR⟩ := (ha.out.mono goodOut (T := fun q => q < w.heap.size) (fun q hq _ => hq)).below goodOut hB.out |>.at (P := Try.prog) (t := 41) (by kernel_rfl) (fun _ => by kernel_rfl) ho
          obtain ⟨a3, k3, rfl, hv⟩ := id hR
          have c0 := hc 0 _ rfl
          have c1 := hc 1 _ rfl
          have c2 := hc 2 _ rfl
          have c3 := hc 3 _ rfl
          have c4 := hc 4 _ rfl
          rw [Nat.add_zero] at c0
          have hkey := keyS o.key (hkl.out o (List.mem_of_getElem? ho))
          have hoB := hlB.out o (List.mem_of_getElem? ho)
          clear hc
          generalize hW : wr.alloc (.cells #[sv o.key, sv o.name, .slice a3 o.args.length k3, .bool o.part, iv o.tick] 54) = W at *
          have hbW : Below wr.heap.size wr W := hW ▸ (Below.refl _ wr).alloc (Nat.le_refl _) _
          have hsW : W.heap.size = wr.heap.size + 1 := by rw [← hW]; simp
          have hbox : W.heap[wr.heap.size]? = some (.cells #[sv o.key, sv o.name, .slice a3 o.args.length k3, .bool o.part, iv o.tick] 54) := hW ▸ heap_alloc_new' wr _
          have hLW := hL.out.below hbW (by omega)
          obtain ⟨N, f, vs, h0, h2, h3, h4, h5⟩ := id hL.out.ex
          have h1 := h0.below hbW h0.lt
          obtain ⟨hfk, hrow0, g0, hvo, hg1, hg2, hg3⟩ := h3 k o (Nat.le_refl _) hlt ho
          have hrow := hrow0.below goodOut hbW
          clear hrow0
          obtain ⟨g0', cp, hvs, -, -, -, -⟩ := hrow.form (by simp)
          rw [List.length_singleton] at hvs
          have e0 : W.cell? ⟨wr.heap.size, 0, none⟩ = some (sv o.key) := (cell_of hbox).trans rfl
          rw [hvs] at hfk hrow hvo
          obtain rfl : g0' = g0 := by simpa [Value.ownBlock] using hvo
          have hlook := h1.look K (t := 69) (e := 41) Try.underlying69 (z := .slice none 0 0) (by kernel_rfl) hkey trivial
          rw [hfk] at hlook
          have hRW := goodOut.below hR hbW
          have hcall := indexFuncSame_any (fun x => dec (OutEq x o)) [o] (by simp) wr.heap.size _ _ W (hrow.sl goodOut) (fun x hx cs2 W2 hW2 hR2 => by
            obtain rfl := List.mem_singleton.1 hx
            exact sameC_any x x hoB hoB cs2 _ _ _ W2 wr.heap.size (below_keep hW2 hbox (by omega)) (goodOut.below hRW hW2) hR2)
          rw [show idxF (fun x => dec (OutEq x o)) [o] = ((0 : Nat) : Int) from idxF_hit (k := 0) (x := o) rfl (dec_true (outEq_refl o)) (fun i y h => absurd h (by omega))] at hcall
          replace hcall := hid hcall
          replace hrow := hid hrow
          clear h0
          replace hLW := hid hLW
          replace hbW := hid hbW
          have h1' := hid h1
          have hfk' := hid hfk
          replace ho := hid ho
          have hN2 : N ≤ 200000 := by omega
          clear h1 h2 h3 h4 h5 hR hRW hvo hv hfk hL
          go_wp2_with fail
          refine hcall.out.mono ?_
          rintro e W2 ⟨rfl, hb2⟩
          clear e0
          have hs2 := hb2.size
          have hbox2 := below_keep hb2 hbox (by omega)
          have hL2 := hid (hLW.out.below hb2 (by omega))
          have h12 := hid (h1'.out.below hb2 h1'.out.lt)
          have hB2 := hid ((hB.out.trans (hbW.out.mono (by omega))).trans (hb2.mono (by omega)))
          have hdel := deleteOut_own [o] (by simp) 0 (by simp) _ g0' cp W2.drew ((hrow.out.below goodOut hb2).drew goodOut)
          rw [show (((0 : Nat) : Int) + 1) = 1 from rfl, show ((0 : Nat) : Int) = 0 from rfl, List.length_singleton] at hdel
          replace hdel := hid hdel
          clear hb2 hcall hlook hrow hLW hbW
          have q2 : _ ∧ _ ∧ _ ∧ _ ∧ _ := ⟨(cell_of (i := 0) hbox2).trans rfl, (cell_of (i := 1) hbox2).trans rfl, (cell_of (i := 2) hbox2).trans rfl, (cell_of (i := 3) hbox2).trans rfl, (cell_of (i := 4) hbox2).trans rfl⟩
          have e0 := q2.1
          have e1 := q2.2.1
          have e2 := q2.2.2.1
          have e3 := q2.2.2.2.1
          have e4 := q2.2.2.2.2
          go_wp2_with fail
          go_region_held3 (fun w' => w'.cell? ⟨wr.heap.size, 0, none⟩ = some (sv o.key) ∧ w'.cell? ⟨wr.heap.size, 1, none⟩ = some (sv o.name) ∧ w'.cell? ⟨wr.heap.size, 2, none⟩ = some (.slice a3 o.args.length k3) ∧ w'.cell? ⟨wr.heap.size, 3, none⟩ = some (.bool o.part) ∧ w'.cell? ⟨wr.heap.size, 4, none⟩ = some (iv o.tick)) (first | with_reducible exact q3 | with_reducible exact q4 | exact q2 | go_keep)
            ((go_at_call 39; refine hdel.out.mono ?_; rintro e W3 ⟨v', rfl, -, hf3⟩; have hf3' : Fr (fun q => q = g0') W2 W3 := (Fr.refl _ W2).drew.trans hf3; have hbox3 := hf3'.keep hbox2 (fun h => by { have h9 : wr.heap.size = g0' := h; omega }); have q3 : _ ∧ _ ∧ _ ∧ _ ∧ _ := ⟨(cell_of (i := 0) hbox3).trans rfl, (cell_of (i := 1) hbox3).trans rfl, (cell_of (i := 2) hbox3).trans rfl, (cell_of (i := 3) hbox3).trans rfl, (cell_of (i := 4) hbox3).trans rfl⟩; have hs3 := hf3'.size; have h13 := h12.out.same (hf3'.block w.heap.size (by omega) (fun h => hg2 h.symm)); obtain ⟨W4, hput, hm4, hgr⟩ := h13.put K (t := 69) (e := 41) Try.underlying69 (by unfold maxLen; omega) hkey trivial v'; have hbox4 := (hgr.block wr.heap.size (lt_of_some hbox3) (fun e => by { injection e with e; omega })).trans hbox3; have q4 : _ ∧ _ ∧ _ ∧ _ ∧ _ := ⟨(cell_of (i := 0) hbox4).trans rfl, (cell_of (i := 1) hbox4).trans rfl, (cell_of (i := 2) hbox4).trans rfl, (cell_of (i := 3) hbox4).trans rfl, (cell_of (i := 4) hbox4).trans rfl⟩))
          all_goals
            have hL4 : LeftR l w.heap.size w.heap.size (k + 1) l.length W4 := hL2.out.pop hnd.out ho.out (g := g0') (by omega) (by omega) (Nat.le_refl _) (fun v ⟨f', N', hm', hf'⟩ => by
              have hq1 := h12.out.look K (t := 69) (e := 41) Try.underlying69 (z := .slice none 0 0) (by kernel_rfl) hkey trivial
              have hq2 := hm'.look K (t := 69) (e := 41) Try.underlying69 (z := .slice none 0 0) (by kernel_rfl) hkey trivial
              rw [hfk'.out] at hq1
              rw [hf'] at hq2
              have hq3 := hq1.symm.trans hq2
              injection hq3 with hq3 _
              rw [← show _ = v from hq3]; rfl) hf3' v' (fun N' f' hm hN => by
              obtain ⟨W5, hput5, hm5, -⟩ := hm.put K (t := 69) (e := 41) Try.underlying69 hN hkey trivial v'
              rw [hput] at hput5; injection hput5 with _ e; rw [e]; exact hm5) hgr (by unfold maxLen; omega)
            have hB4 : Below w.heap.size w W4 := (hB2.out.trans (hf3'.to_below (by omega) (fun q hq h => by have h9 : q = g0' := h; omega))).trans ⟨hgr.os, hgr.tape, hgr.output, hgr.size, fun q hq => hgr.block q (by omega) (fun e => by injection e with e; omega)⟩
            have hs4 : w.heap.size + 1 ≤ W4.heap.size := by have := hgr.size; omega
            replace hL4 := hid hL4
            replace hB4 := hid hB4
            clear hgr hm4 hput h13 hf3 hf3' hdel q3 q4 hbox3 hbox4 q2 hbox2 e0 e1 e2 e3 e4 c0 c1 c2 c3 c4
            go_wp2_with fail
            exact ⟨⟨k + 1, by go_num, by omega, hL4, hB4, hs4⟩, by simp [intOf]; omega⟩
        · obtain rfl : k = l.length := by omega
          go_wp2_with fail
          go_ret
          exact ⟨rfl, hB.out⟩
end Go.Proofs.Ythagdeadmoidnaa
