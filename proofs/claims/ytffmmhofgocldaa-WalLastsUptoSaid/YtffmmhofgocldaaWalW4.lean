/- wal: Append. -/
import Derived.Test.YtffmmhofgocldaaWalW3
set_option linter.unusedVariables false
namespace Go.Proofs.Ytffmmhofgocldaa
open Go.RowKit
open Go.Lib (hid byteCells)
/-- what a method of a Log does: it returns r; the Disk is then d', the Log's rows are rows'; nothing but their memory has changed -/
def LP (F : Foot) (b db f : Nat) (v : Value) (w : World) (r : Value) (d' : DS) (rows' : List (List UInt8)) (e : Ending) (w' : World) : Prop :=
  e = .returned r ∧ ∃ F' v', DkD F' db d' w' ∧ LV b db f v' rows' w' ∧ Fr (fun k => F k ∨ footL v b k) w w' ∧ (∀ k, F' k → F k ∨ w.heap.size ≤ k) ∧ (∀ k, footL v' b k → footL v b k ∨ w.heap.size ≤ k)
/-- a Disk's memory alone -/
theorem dk_exact {F : Foot} {db : Nat} {d : DS} {w : World} (h : DkD F db d w) : ∃ G : Foot, DkD G db d w ∧ (∀ k, G k → F k) ∧ (∀ k, G k → k < w.heap.size) ∧ ∀ (b dbb f : Nat) (v : Value) (rows : List (List UInt8)), LV b dbb f v rows w → ∀ k, footL v b k → ¬ G k := by
  obtain ⟨ho, vs, h1, h2⟩ := h
  exact ⟨foot vs db, ⟨ho, vs, h1, fun k h => h⟩, h2, fun k hk => h1.foot_lt hk, fun b dbb f v rows hl => hl.apart h1⟩
def wapp1 (f : Nat) (s : List UInt8) (d : DS) : Int := if 1048576 < s.length then 15 else app1 f (recF s) d
def wapp2 (f : Nat) (s : List UInt8) (d : DS) : DS := if 1048576 < s.length then d else app2 f (recF s) d
def wrow (s : List UInt8) (rows : List (List UInt8)) (err : Int) : List (List UInt8) := if err = 0 then rows ++ [s] else rows
theorem LV.stored {b db f : Nat} {v v' : Value} {rows rows' : List (List UInt8)} {w w1 : World} (h : LV b db f v rows w) (hk : w1.heap[b]? = w.heap[b]?) (hown : w1.ownsRow 0 9 1 v' rows'.length (rows'.map sv)) : LV b db f v' rows' (w1.setCell ⟨b, 2, none⟩ v') := by
  have hb := hk.trans h.blk
  have hne : v'.ownBlock ≠ some b := by
    intro e
    obtain ⟨cur, hc⟩ := own_type hown e
    rw [hb] at hc
    injection hc with hc
    injection hc with _ ht
    exact absurd ht (by decide)
  exact ⟨heap_setCell_same hb v', owns_move hown (fun k hk => heap_setCell_other v' (fun e => hne (by rw [hk, e]))) (fun _ _ => Nat.zero_le _)⟩
set_option maxHeartbeats 4000000 in
set_option maxRecDepth 100000 in
theorem lappend_any (F : Foot) (b db f : Nat) (v : Value) (rows : List (List UInt8)) (d : DS) (s : List UInt8) (w : World) (hd : DkD F db d w) (hl : LV b db f v rows w) (hn : rows.length ≤ 1000000) (hs : s.length ≤ 140737488355328) :
    Calls Try.prog 19 #[pt b, sv s] w (LP F b db f v w (iv (wapp1 f s d)) (wapp2 f s d) (wrow s rows (wapp1 f s d))) := by
  by_cases hbig : 1048576 < s.length
  · have e1 : wapp1 f s d = 15 := if_pos hbig
    have e2 : wapp2 f s d = d := if_pos hbig
    rw [e1, e2]
    have q : decide (1048576 < (s.length : Int)) = true := decide_eq_true (by omega)
    have hfin : LP F b db f v w (iv 15) d (wrow s rows 15) (.returned (iv 15)) w := ⟨rfl, F, v, hd, hl, Fr.refl _ _, fun k h => Or.inl h, fun k h => Or.inl h⟩
    replace hfin := hid hfin
    clear hd hl e1 e2
    go_enter Try.func19, Try.ntmps19
    go_wp2_with fail
    go_ret
    exact hfin.out
  · have e1 : wapp1 f s d = app1 f (recF s) d := if_neg hbig
    have e2 : wapp2 f s d = app2 f (recF s) d := if_neg hbig
    rw [e1, e2]
    have q : decide (1048576 < (s.length : Int)) = false := decide_eq_false (by omega)
    obtain ⟨G, hdG, hGF, hGw, hap⟩ := dk_exact hd
    have hap1 := hap b db f v rows hl
    have hap2 := hap1 b (Or.inl rfl)
    have hrc := hid (fun w => record_any s w (by omega))
    have hrl := rec_le s
    generalize recF s = X at *
    have c0 := (hl.cell 0).trans rfl
    have c1 := (hl.cell 1).trans rfl
    have g0 : w.drew.cell? ⟨b, 0, none⟩ = some (pt db) := c0
    have g1 : w.drew.cell? ⟨b, 1, none⟩ = some (iv f) := c1
    have hbw : b < w.drew.heap.size := hl.lt
    have hdd := dk_drew hdG
    clear hap hd e1 e2
    replace hap1 := hid hap1
    replace hGF := hid hGF
    replace hGw := hid hGw
    go_enter Try.func19, Try.ntmps19
    go_wp2_with fail
    go_region_held3 (fun w' => w'.cell? ⟨b, 0, none⟩ = some (pt db) ∧ w'.cell? ⟨b, 1, none⟩ = some (iv f)) (first | with_reducible exact ⟨g0, g1⟩ | with_reducible exact ⟨k0, k1⟩ | with_reducible exact ⟨m0, m1⟩ | go_keep)
      (first
        | (go_at_call 38; refine (hrc.out _).mono ?_; rintro e W3 ⟨rfl, hb3⟩; have k0 := (hb3.cell (p := ⟨b, 0, none⟩) hbw).trans g0; have k1 := (hb3.cell (p := ⟨b, 1, none⟩) hbw).trans g1; have hd3 := hdd.fr (Fr.of_below hb3 (fun _ => False)) (fun _ _ h => h); have hb3w := Nat.lt_of_lt_of_le hbw hb3.size)
        | (go_at_call 13; refine (append_any G db d f X _ hd3 (by omega)).mono ?_; rintro e W5 ⟨rfl, F5, hd5, hf5, hn5⟩; have m0 := (hf5.cell (p := ⟨b, 0, none⟩) hb3w hap2).trans k0; have m1 := (hf5.cell (p := ⟨b, 1, none⟩) hb3w hap2).trans k1))
    have hF3 : Fr (fun _ => False) w W3 := ((Fr.refl (fun _ => False) w).drew).trans (Fr.of_below hb3 _)
    have hl5 := (hl.fr hF3 (fun _ _ h => h)).fr hf5 hap1.out
    have hF5 : Fr (fun k => F k ∨ footL v b k) w W5 := (hF3.mono (fun _ _ h => h.elim)).trans (hf5.mono (fun k _ h => Or.inl (hGF.out k h)))
    have hw35 : w.heap.size ≤ W3.heap.size := hF3.size
    have hn5' : ∀ k, F5 k → F k ∨ w.heap.size ≤ k := fun k hk => (hn5 k hk).imp (hGF.out k) (fun h => Nat.le_trans hw35 h)
    have hn5'' : ∀ k, F5 k → k < w.heap.size → G k := fun k hk hlt => (hn5 k hk).resolve_right (by omega)
    generalize app1 (f : Int) X d = err at *
    generalize app2 (f : Int) X d = d5 at *
    clear hdd hdG hrc k0 k1 m0 m1 g0 g1 hd3 hb3 hb3w hn5
    by_cases hz : err = 0
    · have hwr : wrow s rows err = rows ++ [s] := if_pos hz
      subst hz
      obtain ⟨i0, hi, hz0, hz1, hz2⟩ := info_parts infoS
      have hl6 : LV b db f v rows (W5.alloc (.cells #[sv s] 9)) := hl5.below ((Below.refl _ _).alloc (Nat.le_refl _) _)
      have hrow : Row (W5.alloc (.cells #[sv s] 9)).heap.size (W5.alloc (.cells #[sv s] 9)) 1 (.slice (some ⟨W5.heap.size, 0, none⟩) 1 1) 1 [sv s] := row_of_block (heap_alloc_new' W5 (.cells #[sv s] 9)) rfl
      obtain ⟨v', w7, hrun, hown, hg, hv'⟩ := append_row (P := Try.prog) (W5.alloc (.cells #[sv s] 9)) 0 22 22 9 i0 (.string .empty) 1 16 Try.underlying22 hi hz0 hz1 hz2 rfl (by decide) v rows.length (rows.map sv) hl6.own _ _ 1 [sv s] hrow (one1 rfl) (by unfold maxLen; omega) (by omega) (Nat.zero_le _)
      have hs6 : (W5.alloc (.cells #[sv s] 9)).heap.size = W5.heap.size + 1 := by simp
      have hF7 : Fr (fun k => F k ∨ footL v b k) w w7 := (hF5.alloc _).grown hg (fun k hk => Or.inl (Or.inr (Or.inr hk)))
      have hF57 : Fr (fun k => footL v b k) W5 w7 := ((Fr.refl _ W5).alloc _).grown hg (fun k hk => Or.inl (Or.inr hk))
      have hne := hl5.ne
      have hb6 : b < (W5.alloc (.cells #[sv s] 9)).heap.size := hl6.lt
      have hbk : w7.heap[b]? = (W5.alloc (.cells #[sv s] 9)).heap[b]? := hg.block b hb6 (fun e => hne e.symm)
      have hl8 := hl6.stored (rows' := rows ++ [s]) hbk (by simpa using hown)
      have hfz : w7.frozen? ⟨b, 2, none⟩ = false := free_of (hbk.trans hl6.blk)
      have hc7 : w7.cell? ⟨b, 2, none⟩ = some v := (cell_of (hbk.trans hl6.blk)).trans rfl
      have hc2 : (W5.alloc (.cells #[sv s] 9)).cell? ⟨b, 2, none⟩ = some v := (hl6.cell 2).trans rfl
      have hd8 : DkD F5 db d5 (w7.setCell ⟨b, 2, none⟩ v') := by
        obtain ⟨G5, hd5G, hG5, hG5w, hap5⟩ := dk_exact hd5
        have hx := hap5 b db f v rows hl5
        exact (hd5G.fr (hF57.trans (Fr.setCell (Fr.refl _ w7) (p := ⟨b, 2, none⟩) (Or.inl (Or.inl rfl)) v')) (fun k hk h => hx k h hk)).mono (fun k _ hk => hG5 k hk)
      have hF8 := Fr.setCell hF7 (p := ⟨b, 2, none⟩) (Or.inl (Or.inr (Or.inl rfl))) v'
      have hL8 : ∀ k, footL v' b k → footL v b k ∨ w.heap.size ≤ k := fun k hk => by
        rcases hk with hk | hk
        · exact Or.inl (Or.inl hk)
        · rcases hv' with h | h
          · exact Or.inl (Or.inr (by rw [← h]; exact hk))
          · rw [h] at hk; injection hk with hk
            refine Or.inr ?_
            have := hf5.size
            rw [← hk, hs6]; omega
      have hc5 : W5.cell? ⟨b, 2, none⟩ = some v := (hl5.cell 2).trans rfl
      obtain ⟨av, cv, rfl, -, -⟩ := hl5.slice
      obtain ⟨av', cv', rfl, -, -⟩ := owns_form hown
      rw [← hwr] at hl8
      replace hl8 := hid hl8
      replace hd8 := hid hd8
      replace hF8 := hid hF8
      replace hL8 := hid hL8
      replace hn5' := hid hn5'
      have hNe : Hid ((W5.alloc (.cells #[sv s] 9)).heap.size = W5.heap.size + 1) := hid hs6
      clear hs6 hF7 hF57 hne hbk hg hown hrow hl6 hl5 hF5 hF3 hf5 hd5 hb6 hwr hn5''
      go_wp2_with (at_builtin; refine wpList_append_run rfl _ _ _ _ rfl rfl rfl hrun ?_)
      go_ret
      exact ⟨rfl, F5, _, hd8.out, hl8.out, hF8.out, hn5'.out, hL8.out⟩
    · have hwr : wrow s rows err = rows := if_neg hz
      rw [hwr]
      have hfin : LP F b db f v w (iv err) d5 rows (.returned (iv err)) W5 := ⟨rfl, F5, v, hd5, hl5, hF5, hn5', fun k h => Or.inl h⟩
      have qz : (err == 0) = false := by simpa using hz
      have qz' : (err != 0) = true := by simpa using hz
      rw [← hwr] at hfin
      replace hfin := hid hfin
      clear hl hl5 hd5 hF5 hF3 hf5 hz
      go_wp2_with fail
      go_ret
      exact hfin.out
end Go.Proofs.Ytffmmhofgocldaa
