/- wal: Rewrite. -/
import Derived.Test.YtffmmhofgocldaaWalW5
set_option linter.unusedVariables false
namespace Go.Proofs.Ytffmmhofgocldaa
open Go.RowKit
open Go.Lib (hid byteCells)
def rewC1 (f : Nat) (d : DS) : Int := if flush1 ((f : Int) + 1) d ≠ 0 then flush1 ((f : Int) + 1) d else turn1 f ((f : Int) + 1) (flush2 ((f : Int) + 1) d)
def rewC2 (f : Nat) (d : DS) : DS := if flush1 ((f : Int) + 1) d ≠ 0 then flush2 ((f : Int) + 1) d else turn2 f ((f : Int) + 1) (flush2 ((f : Int) + 1) d)
def rewB1 (f : Nat) (X : List UInt8) (d : DS) : Int := if app1 ((f : Int) + 1) X d ≠ 0 then app1 ((f : Int) + 1) X d else rewC1 f (app2 ((f : Int) + 1) X d)
def rewB2 (f : Nat) (X : List UInt8) (d : DS) : DS := if app1 ((f : Int) + 1) X d ≠ 0 then app2 ((f : Int) + 1) X d else rewC2 f (app2 ((f : Int) + 1) X d)
def rew1 (f : Nat) (m : List (List UInt8)) (d : DS) : Int := if clr1 f d ≠ 0 then clr1 f d else rewB1 f (recs m) (clr2 f d)
def rew2 (f : Nat) (m : List (List UInt8)) (d : DS) : DS := if clr1 f d ≠ 0 then clr2 f d else rewB2 f (recs m) (clr2 f d)
def rewR (f : Nat) (m rows : List (List UInt8)) (d : DS) : List (List UInt8) := if rew1 f m d = 0 then m else rows
theorem strs_at {B : Nat} {w : World} {a : Option Addr} {n cap : Nat} {l : List (List UInt8)} (h : Row B w 1 (.slice a n cap) l.length (l.map sv)) {k : Nat} {x : List UInt8} (hk : l[k]? = some x) :
    ∃ g o, (∀ kd W, (Instr.indexAt 22 (.slice a n cap) (.int kd k)).run Try.prog W = .ok (.pointer (some ⟨g, o, none⟩)) W) ∧ w.cell? ⟨g, o, none⟩ = some (sv x) := by
  obtain ⟨a', cap', g, off, e, h1, h2, h3⟩ := h
  simp only [Value.slice.injEq] at e
  obtain ⟨rfl, rfl, rfl⟩ := e
  have hkl := (List.getElem?_eq_some_iff.1 hk).1
  refine ⟨g, off + k, fun kd W => row_idx1 (P := Try.prog) (t := 22) (by kernel_rfl) (fun _ => by kernel_rfl) (h2 (by omega)).1 l.length cap k hkl kd W, ?_⟩
  rw [h3 k (by rw [List.length_map]; exact hkl)]
  obtain ⟨_, e⟩ := List.getElem?_eq_some_iff.1 hk
  simp [e]
theorem recs_take {m : List (List UInt8)} {k : Nat} {x : List UInt8} (h : m[k]? = some x) : recs (m.take (k + 1)) = recs (m.take k) ++ recF x := by
  rw [List.take_add_one, h, recs_app]; simp [recs]
theorem recs_take_le (m : List (List UInt8)) (k : Nat) : (recs (m.take k)).length ≤ (recs m).length := by
  have := congrArg List.length (recs_app (m.take k) (m.drop k))
  rw [List.take_append_drop, List.length_append] at this; omega
section
variable {F : Foot} {w w1 : World} {db b f : Nat} {v : Value} {rows : List (List UInt8)} {d : DS}
theorem DL.drew (h : DL F w db b f v rows d w1) : DL F w db b f v rows d w1.drew := h.below (Below.refl _ _).drew
theorem DL.c0 (h : DL F w db b f v rows d w1) : w1.cell? ⟨b, 0, none⟩ = some (pt db) := by obtain ⟨G, hd, hl, _⟩ := h; exact (hl.cell 0).trans rfl
theorem DL.c1 (h : DL F w db b f v rows d w1) : w1.cell? ⟨b, 1, none⟩ = some (iv f) := by obtain ⟨G, hd, hl, _⟩ := h; exact (hl.cell 1).trans rfl
theorem DL.fr (h : DL F w db b f v rows d w1) : Fr (fun k => F k ∨ footL v b k) w w1 := by obtain ⟨G, hd, hl, hf, _⟩ := h; exact hf.mono (fun _ _ h => Or.inl h)
end
set_option maxHeartbeats 8000000 in
set_option maxRecDepth 100000 in
theorem rewrite_any (F : Foot) (b db f : Nat) (v : Value) (rows m : List (List UInt8)) (mv : Value) (d : DS) (w : World) (hd : DkD F db d w) (hl : LV b db f v rows w) (hf : f ≤ 6) (hn : m.length ≤ 1000000) (hp : Pay m) (hX : (recs m).length ≤ 100000000)
    (hm : ∀ w', Fr (fun k => F k ∨ footL v b k) w w' → Row w'.heap.size w' 1 mv m.length (m.map sv)) :
    Calls Try.prog 17 #[pt b, mv] w (LP F b db f v w (iv (rew1 f m d)) (rew2 f m d) (rewR f m rows d)) := by
  have hm0 := hm w (Fr.refl _ _)
  obtain ⟨a, cap, rfl⟩ : ∃ a cap, mv = .slice a m.length cap := by obtain ⟨a, cap, _, _, h, _⟩ := hm0; exact ⟨a, cap, h⟩
  have hDL := hid (DL.start hd hl)
  have e1 : rew1 f m d = if clr1 f d ≠ 0 then clr1 f d else rewB1 f (recs m) (clr2 f d) := rfl
  have e2 : rew2 f m d = if clr1 f d ≠ 0 then clr2 f d else rewB2 f (recs m) (clr2 f d) := rfl
  have eR : rewR f m rows d = if rew1 f m d = 0 then m else rows := rfl
  generalize rewR f m rows d = oR at *
  generalize rew1 f m d = o1 at *
  generalize rew2 f m d = o2 at *
  replace e1 := hid e1
  replace e2 := hid e2
  replace eR := hid eR
  have c0 := (hl.cell 0).trans rfl
  obtain ⟨G0, hd0, hl0, step0⟩ := DL.next hDL.out
  have hcl := hid (clear_any G0 b db f v rows d w hd0 hl0 (by omega))
  replace step0 := hid step0
  clear hd0 hl0 hd hl hDL
  replace hm0 := hid hm0
  replace hm := hid hm
  replace hp := hid hp
  go_enter Try.func17, Try.ntmps17
  go_wp2_with fail
  go_loop [16] (fun i => ∃ k : Nat, i = .int .i64 k ∧ k ≤ m.length) (fun i => m.length - (intOf i).toNat)
  case atStart => exact ⟨0, rfl, Nat.zero_le _⟩
  case round =>
    obtain ⟨k, rfl, hk⟩ := hrel
    by_cases hlt : k < m.length
    · have q1 : decide ((k : Int) < (m.length : Int)) = true := decide_eq_true (by omega)
      have q1' : decide (k < m.length) = true := decide_eq_true hlt
      obtain ⟨x, hx⟩ : ∃ x, m[k]? = some x := ⟨_, List.getElem?_eq_getElem hlt⟩
      have hxp := hp.out x (List.mem_of_getElem? hx)
      obtain ⟨g, o, hidx, hcell⟩ := strs_at hm0.out hx
      have q2 : decide (1048576 < (x.length : Int)) = false := decide_eq_false (by omega)
      have q2' : decide (1048576 < x.length) = false := decide_eq_false (by omega)
      clear hx
      go_wp2_with fail
      exact ⟨⟨k + 1, by go_num, by omega⟩, by simp [intOf]; omega⟩
    · have hkl : k = m.length := by omega
      subst hkl
      go_wp2_with fail
      refine hcl.out.mono ?_
      rintro e w5 h5
      obtain ⟨rfl, hDL5⟩ := step0.out _ _ _ _ h5
      clear h5 hcl step0
      generalize clr1 f d = k1 at *
      generalize clr2 f d = k2 at *
      by_cases hk1 : k1 = 0
      · subst hk1
        have e1' := e1.out
        have e2' := e2.out
        rw [if_neg (by simp)] at e1' e2'
        replace e1' := hid e1'
        replace e2' := hid e2'
        clear e1 e2
        have hfr5 := hDL5.fr
        have hbl0 := bld_fresh w5
        have hB0 : Below w5.heap.size w5 (w5.alloc (.cells #[.pointer none, .slice none 0 0] 75)) := (Below.refl _ _).alloc (Nat.le_refl _) _
        replace hbl0 := hid hbl0
        replace hB0 := hid hB0
        replace hfr5 := hid hfr5
        replace hDL5 := hid hDL5
        go_wp2_with fail
        go_loopw [36] (fun i wr => ∃ k : Nat, i = .int .i64 k ∧ k ≤ m.length ∧ Hid (Lib.IsBuilder 75 5 w5.heap.size w5.heap.size (byteCells (recs (m.take k))) wr) ∧ Hid (Below w5.heap.size w5 wr)) (fun i _ => m.length - (intOf i).toNat)
        case atStart => exact ⟨0, rfl, Nat.zero_le _, hbl0, hB0⟩
        case round =>
          clear hbl0 hB0
          obtain ⟨k, rfl, hk, hbl, hB⟩ := hrel
          by_cases hlt : k < m.length
          · have q1 : decide ((k : Int) < (m.length : Int)) = true := decide_eq_true (by omega)
            have q1' : decide (k < m.length) = true := decide_eq_true hlt
            obtain ⟨x, hx⟩ : ∃ x, m[k]? = some x := ⟨_, List.getElem?_eq_getElem hlt⟩
            have hxp := hp.out x (List.mem_of_getElem? hx)
            obtain ⟨g, o, hidx, hcell⟩ := strs_at (hm.out wr (hfr5.out.trans (Fr.of_below hB.out _))) hx
            have hrc := hid (record_any x wr hxp)
            have hrl := rec_le x
            have hnx := recs_take hx
            have htl := recs_take_le m (k + 1)
            rw [hnx, List.length_append] at htl
            generalize recs (m.take k) = A at *
            generalize recF x = X at *
            clear hx
            replace hnx := hid hnx
            go_wp2_with fail
            refine hrc.out.mono ?_
            rintro e w6 ⟨rfl, hb6⟩
            have hsz := hB.out.size
            have hwr := hid (bldWrite w5.heap.size w5.heap.size A X w6 (bld_kept hbl.out hb6) (by omega) (Nat.le_trans hsz hb6.size))
            have hB6 := hid (hB.out.trans (hb6.mono hsz))
            clear hrc hbl hB hb6 hidx hcell
            go_wp2_with fail
            refine hwr.out.mono ?_
            rintro e w7 ⟨rfl, hbl7, hb7⟩
            have hB7 := hid (hB6.out.trans hb7)
            replace hbl7 := hid hbl7
            clear hwr hB6 hb7
            go_wp2_with fail
            exact ⟨⟨k + 1, by go_num, by omega, by rw [hnx.out]; exact hbl7, hB7⟩, by simp [intOf]; omega⟩
          · have hkl : k = m.length := by omega
            subst hkl
            rw [List.take_length] at hbl
            generalize recs m = X at *
            have hsz := hB.out.size
            have hDLr := hDL5.out.below hB.out
            have hDd := hDLr.drew
            have g0 := hDd.c0
            have g1 := hDd.c1
            have w1 : IntKind.i64.wrap ((f : Int) + 1) = (f : Int) + 1 := i64_wrap_id _ (by omega) (by omega)
            have hst := hid (bldString w5.heap.size w5.heap.size X wr.drew hbl.out hsz)
            have hBd := hB.out.drew
            replace hBd := hid hBd
            clear hbl hB hDd hDLr
            go_wp2_with fail
            go_region_held3 (fun w' => w'.cell? ⟨b, 0, none⟩ = some (pt db) ∧ w'.cell? ⟨b, 1, none⟩ = some (iv f)) (first | with_reducible exact ⟨g0, g1⟩ | with_reducible exact ⟨k0, k1⟩ | with_reducible exact ⟨m0, m1⟩ | go_keep)
              (first
                | (go_at_call 39; refine hst.out.mono ?_; rintro e W3 ⟨rfl, hb3⟩; have hDL3 := hDL5.out.below (hBd.out.trans hb3); have k0 := hDL3.c0; have k1 := hDL3.c1; replace hDL3 := hid hDL3)
                | (go_at_call 13; obtain ⟨G3, hd3, hl3, step3⟩ := DL.next hDL3.out; refine (append_any G3 db k2 ((f : Int) + 1) X _ hd3 (by omega)).mono ?_; rintro e W5 h5; obtain ⟨rfl, hDL6⟩ := step3 _ _ _ _ h5; have m0 := hDL6.c0; have m1 := hDL6.c1; replace hDL6 := hid hDL6; clear hd3 hl3 step3 h5))
            have hB1 : rewB1 f X k2 = if app1 ((f : Int) + 1) X k2 ≠ 0 then app1 ((f : Int) + 1) X k2 else rewC1 f (app2 ((f : Int) + 1) X k2) := rfl
            have hB2 : rewB2 f X k2 = if app1 ((f : Int) + 1) X k2 ≠ 0 then app2 ((f : Int) + 1) X k2 else rewC2 f (app2 ((f : Int) + 1) X k2) := rfl
            rw [hB1] at e1'
            rw [hB2] at e2'
            clear hB1 hB2 hst hb3 k0 k1 g0 g1 hDL3 hBd hDL5 hfr5 hX hsz
            generalize app1 ((f : Int) + 1) X k2 = a1 at *
            generalize app2 ((f : Int) + 1) X k2 = a2 at *
            by_cases hz : a1 = 0
            · subst hz
              have f1 := e1'.out
              have f2 := e2'.out
              rw [if_neg (by simp)] at f1 f2
              have hC1 : rewC1 f a2 = if flush1 ((f : Int) + 1) a2 ≠ 0 then flush1 ((f : Int) + 1) a2 else turn1 f ((f : Int) + 1) (flush2 ((f : Int) + 1) a2) := rfl
              have hC2 : rewC2 f a2 = if flush1 ((f : Int) + 1) a2 ≠ 0 then flush2 ((f : Int) + 1) a2 else turn2 f ((f : Int) + 1) (flush2 ((f : Int) + 1) a2) := rfl
              rw [hC1] at f1
              rw [hC2] at f2
              replace f1 := hid f1
              replace f2 := hid f2
              obtain ⟨G4, hd4, hl4, step4⟩ := DL.next hDL6.out.drew
              have hfl := hid (flush_any G4 db a2 ((f : Int) + 1) W5.drew hd4)
              replace step4 := hid step4
              clear hd4 hl4 hDL6 e1' e2' hC1 hC2
              go_wp2_with fail
              go_still_tail 9, (by kernel_rfl)
              go_wp2_with fail
              refine hfl.out.mono ?_
              rintro e w8 h8
              obtain ⟨rfl, hDL8⟩ := step4.out _ _ _ _ h8
              clear h8 hfl step4 m0 m1
              generalize flush1 ((f : Int) + 1) a2 = b1 at *
              generalize flush2 ((f : Int) + 1) a2 = b2 at *
              have m0 := hDL8.c0
              have m1 := hDL8.c1
              by_cases hz : b1 = 0
              · subst hz
                have g1 := f1.out
                have g2 := f2.out
                rw [if_neg (by simp)] at g1 g2
                obtain ⟨G5, hd5, hl5, step5⟩ := DL.next hDL8.drew
                have htu := hid (turn_any G5 db b2 f ((f : Int) + 1) w8.drew hd5)
                rw [← g1, ← g2] at htu
                replace step5 := hid step5
                clear hd5 hl5 hDL8 f1 f2 g1 g2
                go_wp2_with fail
                go_still_tail 13, (by kernel_rfl)
                go_wp2_with fail
                refine htu.out.mono ?_
                rintro e w9 h9
                obtain ⟨rfl, hDL9⟩ := step5.out _ _ _ _ h9
                clear h9 htu step5 m0 m1
                by_cases hz : o1 = 0
                · subst hz
                  have eRx := eR.out
                  rw [if_pos rfl] at eRx
                  subst eRx
                  obtain ⟨v', w10, hrun, hown, hb10⟩ := copy_strs w9 w9.heap.size _ oR (hm.out w9 hDL9.fr) hn 22
                  obtain ⟨G6, hd6, hl6, hf6, hG6, hap6, hGw6⟩ := hDL9
                  have hbk : w10.heap[b]? = w9.heap[b]? := hb10.block b hl6.lt
                  have hl10 := hl6.stored (rows' := oR) hbk (owns_move hown (fun _ _ => rfl) (fun _ _ => Nat.zero_le _))
                  have hfz : w10.frozen? ⟨b, 2, none⟩ = false := free_of (hbk.trans hl6.blk)
                  have hc7 : w10.cell? ⟨b, 2, none⟩ = some v := (cell_of (hbk.trans hl6.blk)).trans rfl
                  have hd10 := hd6.fr ((Fr.of_below hb10 (one b)).trans (Fr.setCell (S := one b) (Fr.refl _ w10) (p := ⟨b, 2, none⟩) (Or.inl rfl) v')) (fun k hk e => hap6 b (Or.inl rfl) (by unfold one at e; rw [← e]; exact hk))
                  have hF10 : Fr (fun k => F k ∨ footL v b k) w (w10.setCell ⟨b, 2, none⟩ v') := Fr.setCell (S := fun k => F k ∨ footL v b k) ((hf6.mono (fun _ _ h => Or.inl h)).trans (Fr.of_below hb10 _)) (p := ⟨b, 2, none⟩) (Or.inl (Or.inr (Or.inl rfl))) v'
                  have hft10 : ∀ k, footL v' b k → footL v b k ∨ w.heap.size ≤ k := fun k hk => by
                    rcases hk with hk | hk
                    · exact Or.inl (Or.inl hk)
                    · exact Or.inr (Nat.le_trans hf6.size (hown.lt k hk).1)
                  obtain ⟨av', cv', rfl, -, -⟩ := owns_form hown
                  have hfin : LP F b db f v w (iv 0) o2 oR (.returned (iv 0)) (w10.setCell ⟨b, 2, none⟩ (.slice av' oR.length cv')) := ⟨rfl, G6, _, hd10, hl10, hF10, hG6, hft10⟩
                  replace hfin := hid hfin
                  clear hd6 hl6 hf6 hG6 hap6 hGw6 hbk hl10 hd10 hF10 hft10 hown hb10
                  go_wp2_with (at_builtin; refine wpList_append_run rfl _ _ _ _ rfl rfl rfl hrun ?_)
                  go_ret
                  exact hfin.out
                · have eRx := eR.out
                  rw [if_neg hz] at eRx
                  have hfin := hDL9.lp (iv o1)
                  rw [← eRx] at hfin
                  have qz : (o1 == 0) = false := by simpa using hz
                  have qz' : (o1 != 0) = true := by simpa using hz
                  replace hfin := hid hfin
                  clear eR eRx hz hDL9
                  go_wp2_with fail
                  go_ret
                  exact hfin.out
              · replace hDL8 := hid hDL8
                have e1x := f1.out
                have e2x := f2.out
                have eRx := eR.out
                rw [if_pos hz] at e1x e2x
                rw [if_neg (by rw [e1x]; exact hz)] at eRx
                have hfin := hDL8.out.lp (iv o1)
                rw [← e2x, ← eRx, e1x] at hfin
                have qz : (b1 == 0) = false := by simpa using hz
                have qz' : (b1 != 0) = true := by simpa using hz
                replace hfin := hid hfin
                replace e1x := hid e1x
                clear f1 f2 eR e2x eRx hz hDL8
                go_wp2_with fail
                go_ret
                rw [e1x.out]
                exact hfin.out
            · have e1x := e1'.out
              have e2x := e2'.out
              have eRx := eR.out
              rw [if_pos hz] at e1x e2x
              rw [if_neg (by rw [e1x]; exact hz)] at eRx
              have hfin := hDL6.out.lp (iv o1)
              rw [← e2x, ← eRx, e1x] at hfin
              have qz : (a1 == 0) = false := by simpa using hz
              have qz' : (a1 != 0) = true := by simpa using hz
              replace hfin := hid hfin
              replace e1x := hid e1x
              clear e1' e2' eR e2x eRx hz hDL6
              go_wp2_with fail
              go_ret
              rw [e1x.out]
              exact hfin.out
      · have e1' := e1.out
        have e2' := e2.out
        have eR' := eR.out
        rw [if_pos hk1] at e1' e2'
        rw [if_neg (by rw [e1']; exact hk1)] at eR'
        have hfin := hDL5.lp (iv o1)
        rw [← e2', ← eR', e1'] at hfin
        have qz : (k1 == 0) = false := by simpa using hk1
        have qz' : (k1 != 0) = true := by simpa using hk1
        replace hfin := hid hfin
        replace e1' := hid e1'
        clear e1 e2 eR e2' eR' hk1 hDL5
        go_wp2_with fail
        go_ret
        rw [e1'.out]
        exact hfin.out
end Go.Proofs.Ytffmmhofgocldaa
