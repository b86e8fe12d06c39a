/- wal: Open. -/
import Derived.Test.YtffmmhofgocldaaWalW4
set_option linter.unusedVariables false
namespace Go.Proofs.Ytffmmhofgocldaa
open Go.RowKit
open Go.Lib (hid byteCells)
def validLen (s : List UInt8) : Nat := (recs (rowsOf s)).length
def trim1 (f : Nat) (d : DS) : Int := if validLen (d.data f) < (d.data f).length then cut1 f (validLen (d.data f)) d else 0
def trim2 (f : Nat) (d : DS) : DS := if validLen (d.data f) < (d.data f).length then cut2 f (validLen (d.data f)) d else d
def opn1 (f : Nat) (d : DS) : Int := if read1 f d ≠ 0 then read1 f d else if trim1 f d ≠ 0 then trim1 f d else if clr1 f (trim2 f d) ≠ 0 then clr1 f (trim2 f d) else flush1 f (clr2 f (trim2 f d))
def opn2 (f : Nat) (d : DS) : DS := if read1 f d ≠ 0 then d else if trim1 f d ≠ 0 then trim2 f d else if clr1 f (trim2 f d) ≠ 0 then clr2 f (trim2 f d) else flush2 f (clr2 f (trim2 f d))
/-- what Open does -/
def OP (F : Foot) (db f : Nat) (d : DS) (w : World) (e : Ending) (w' : World) : Prop :=
  ∃ F', DkD F' db (opn2 f d) w' ∧ Fr F w w' ∧ (∀ k, F' k → F k ∨ w.heap.size ≤ k) ∧
    ((opn1 f d = 0 ∧ ∃ b v, e = .returned (.tuple #[pt b, iv 0]) ∧ LV b db f v (rowsOf (d.data f)) w' ∧ ∀ k, footL v b k → w.heap.size ≤ k) ∨
     (opn1 f d ≠ 0 ∧ e = .returned (.tuple #[.pointer none, iv (opn1 f d)])))
theorem lv_push {b db f : Nat} {v : Value} {rows : List (List UInt8)} {W : World} (h : LV b db f v rows W) (s : List UInt8) (hn : rows.length ≤ 100000000) :
    ∃ a c a' c' w7, v = .slice a rows.length c ∧ (Builtin.append_ #[22, 22] 22 #[v, .slice (some ⟨W.heap.size, 0, none⟩) 1 1]).run Try.prog (W.alloc (.cells #[sv s] 9)) = .ok (.slice a' (rows.length + 1) c') w7 ∧
      w7.frozen? ⟨b, 2, none⟩ = false ∧ w7.cell? ⟨b, 2, none⟩ = some v ∧ (W.alloc (.cells #[sv s] 9)).cell? ⟨b, 2, none⟩ = some v ∧
      LV b db f (.slice a' (rows.length + 1) c') (rows ++ [s]) (w7.setCell ⟨b, 2, none⟩ (.slice a' (rows.length + 1) c')) ∧ Fr (footL v b) W (w7.setCell ⟨b, 2, none⟩ (.slice a' (rows.length + 1) c')) ∧
      ∀ k, footL (.slice a' (rows.length + 1) c') b k → footL v b k ∨ W.heap.size ≤ k := by
  obtain ⟨i0, hi, hz0, hz1, hz2⟩ := info_parts infoS
  have hl6 : LV b db f v rows (W.alloc (.cells #[sv s] 9)) := h.below ((Below.refl _ _).alloc (Nat.le_refl _) _)
  have hrow : Row (W.alloc (.cells #[sv s] 9)).heap.size (W.alloc (.cells #[sv s] 9)) 1 (.slice (some ⟨W.heap.size, 0, none⟩) 1 1) 1 [sv s] := row_of_block (heap_alloc_new' W (.cells #[sv s] 9)) rfl
  obtain ⟨v', w7, hrun, hown, hg, hv'⟩ := append_row (P := Try.prog) (W.alloc (.cells #[sv s] 9)) 0 22 22 9 i0 (.string .empty) 1 16 Try.underlying22 hi hz0 hz1 hz2 rfl (by decide) v rows.length (rows.map sv) hl6.own _ _ 1 [sv s] hrow (one1 rfl) (by unfold maxLen; omega) (by omega) (Nat.zero_le _)
  have hs6 : (W.alloc (.cells #[sv s] 9)).heap.size = W.heap.size + 1 := by simp
  have hF57 : Fr (footL v b) W w7 := ((Fr.refl _ W).alloc _).grown hg (fun k hk => Or.inl (Or.inr hk))
  have hne := h.ne
  have hb6 : b < (W.alloc (.cells #[sv s] 9)).heap.size := hl6.lt
  have hbk : w7.heap[b]? = (W.alloc (.cells #[sv s] 9)).heap[b]? := hg.block b hb6 (fun e => hne e.symm)
  have hl8 := hl6.stored (rows' := rows ++ [s]) hbk (by simpa using hown)
  obtain ⟨av, cv, hva, -, -⟩ := h.slice
  obtain ⟨av', cv', rfl, -, -⟩ := owns_form hown
  refine ⟨av, cv, av', cv', w7, hva, hrun, free_of (hbk.trans hl6.blk), (cell_of (hbk.trans hl6.blk)).trans rfl, (hl6.cell 2).trans rfl, hl8, Fr.setCell hF57 (p := ⟨b, 2, none⟩) (Or.inl (Or.inl rfl)) _, fun k hk => ?_⟩
  rcases hk with hk | hk
  · exact Or.inl (Or.inl hk)
  · rcases hv' with h9 | h9
    · exact Or.inl (Or.inr (by rw [← h9]; exact hk))
    · rw [h9] at hk; injection hk with hk
      refine Or.inr ?_
      rw [← hk, hs6]; omega
/-- at w1: a Disk and a Log of it, apart; since w nothing but F and new memory has changed -/
def DL (F : Foot) (w : World) (db b f : Nat) (v : Value) (rows : List (List UInt8)) (d : DS) (w1 : World) : Prop :=
  ∃ G : Foot, DkD G db d w1 ∧ LV b db f v rows w1 ∧ Fr F w w1 ∧ (∀ k, G k → F k ∨ w.heap.size ≤ k) ∧ (∀ k, footL v b k → ¬ G k) ∧ ∀ k, G k → k < w1.heap.size
theorem DL.next {F : Foot} {w w1 : World} {db b f : Nat} {v : Value} {rows : List (List UInt8)} {d : DS} (h : DL F w db b f v rows d w1) :
    ∃ G : Foot, DkD G db d w1 ∧ LV b db f v rows w1 ∧ ∀ r d' e w2, DPD G db w1 r d' e w2 → e = .returned r ∧ DL F w db b f v rows d' w2 := by
  obtain ⟨G, hd, hl, hf, hG, hap, -⟩ := h
  refine ⟨G, hd, hl, fun r d' e w2 ⟨he, F2, h1, h2, h3⟩ => ⟨he, ?_⟩⟩
  obtain ⟨G2, g1, g2, g3, g4⟩ := dk_exact h1
  have hl2 := hl.fr h2 hap
  exact ⟨G2, g1, hl2, hf.trans' h2 (fun _ h => h) (fun i hi hg => (hG i hg).resolve_right (by omega)), fun k hk => by
    rcases h3 k (g2 k hk) with h | h
    · exact hG k h
    · exact Or.inr (Nat.le_trans hf.size h), g4 b db f v rows hl2, g3⟩
theorem DL.below {F : Foot} {w w1 w2 : World} {db b f : Nat} {v : Value} {rows : List (List UInt8)} {d : DS} (h : DL F w db b f v rows d w1) (hb : Below w1.heap.size w1 w2) : DL F w db b f v rows d w2 := by
  obtain ⟨G, hd, hl, hf, hG, hap, hw⟩ := h
  exact ⟨G, hd.fr (Fr.of_below hb (fun _ => False)) (fun _ _ h => h), hl.below hb, hf.trans (Fr.of_below hb F), hG, hap, fun k hk => Nat.lt_of_lt_of_le (hw k hk) hb.size⟩
theorem DL.lp {F : Foot} {w w1 : World} {db b f : Nat} {v : Value} {rows : List (List UInt8)} {d : DS} (h : DL F w db b f v rows d w1) (r : Value) : LP F b db f v w r d rows (.returned r) w1 := by
  obtain ⟨G, hd, hl, hf, hG, hap, hw⟩ := h
  exact ⟨rfl, G, v, hd, hl, hf.mono (fun _ _ h => Or.inl h), hG, fun k hk => Or.inl hk⟩
theorem DL.start {F : Foot} {w : World} {db b f : Nat} {v : Value} {rows : List (List UInt8)} {d : DS} (hd : DkD F db d w) (hl : LV b db f v rows w) : DL F w db b f v rows d w := by
  obtain ⟨G, h1, h2, h3, h4⟩ := dk_exact hd
  exact ⟨G, h1, hl, Fr.refl _ _, fun k hk => Or.inl (h2 k hk), h4 b db f v rows hl, h3⟩
theorem open_arg (p : Option Addr) (f : Int) (w : World) (h : p = none ∨ f < 0 ∨ 6 < f) :
    Calls Try.prog 14 #[.pointer p, iv f] w fun e w' => e = .returned (.tuple #[.pointer none, iv 1]) ∧ w = w' := by
  rcases p with _ | q
  · clear h
    go_enter Try.func14, Try.ntmps14
    go_wp2_with fail
    go_ret2
    exact ⟨rfl, rfl⟩
  · by_cases h0 : f < 0
    · have q0 : decide (f < 0) = true := decide_eq_true h0
      clear h
      go_enter Try.func14, Try.ntmps14
      go_wp2_with fail
      go_ret2
      exact ⟨rfl, rfl⟩
    · have q0 : decide (f < 0) = false := decide_eq_false h0
      have q1 : decide (6 < f) = true := decide_eq_true (by rcases h with h | h | h; cases h; omega; omega)
      clear h
      go_enter Try.func14, Try.ntmps14
      go_wp2_with fail
      go_ret2
      exact ⟨rfl, rfl⟩
set_option maxHeartbeats 4000000 in
set_option maxRecDepth 100000 in
theorem open_fail (F : Foot) (db f : Nat) (d : DS) (w : World) (hd : DkD F db d w) (hf : f ≤ 6) (hr : read1 f d ≠ 0) :
    Calls Try.prog 14 #[pt db, iv f] w (OP F db f d w) := by
  have hrd := hid (read_any F db d f w hd)
  have e1 : opn1 f d = read1 f d := if_pos hr
  have e2 : opn2 f d = d := if_pos hr
  have hfin : OP F db f d w (.returned (.tuple #[.pointer none, iv (read1 f d)])) w := ⟨F, by rw [e2]; exact hd, Fr.refl _ _, fun k h => Or.inl h, Or.inr ⟨by rw [e1]; exact hr, by rw [e1]⟩⟩
  have q0 : decide ((f : Int) < 0) = false := decide_eq_false (by omega)
  have q1 : decide (6 < (f : Int)) = false := decide_eq_false (by omega)
  have qz : (read1 f d == 0) = false := by simpa using hr
  have qz' : (read1 f d != 0) = true := by simpa using hr
  generalize read1 f d = r at *
  replace hfin := hid hfin
  clear e1 e2 hd hr
  go_enter Try.func14, Try.ntmps14
  go_wp2_with fail
  refine hrd.out.mono ?_
  rintro e w1 ⟨rfl, rfl⟩
  go_wp2_with fail
  go_ret2
  exact hfin.out
end Go.Proofs.Ytffmmhofgocldaa
