/- wal: a Log in memory; its small methods. -/
import Derived.Test.YtffmmhofgocldaaWalW2
import Derived.Test.YtffmmhofgocldaaDiskW8
import Derived.Test.YtffmmhofgocldaaDel
set_option linter.unusedVariables false
namespace Go.Proofs.Ytffmmhofgocldaa
open Go.RowKit
open Go.Lib (hid byteCells)
/-- block b is a Log in file f of the Disk at db; its rows are the slice v -/
structure LV (b db f : Nat) (v : Value) (rows : List (List UInt8)) (w : World) : Prop where
  blk : w.heap[b]? = some (.cells #[pt db, iv f, v] 66 (0, 0))
  own : w.ownsRow 0 9 1 v rows.length (rows.map sv)
def footL (v : Value) (b : Nat) : Foot := fun k => k = b ∨ v.ownBlock = some k
section
variable {b db f : Nat} {v : Value} {rows : List (List UInt8)} {w w' : World}
theorem LV.fr (h : LV b db f v rows w) {S : Foot} (hf : Fr S w w') (hs : ∀ k, footL v b k → ¬ S k) : LV b db f v rows w' :=
  ⟨hf.keep h.blk (hs b (Or.inl rfl)), owns_move h.own (fun k hk => hf.block k ((h.own.lt k hk).2) (hs k (Or.inr hk))) (fun _ _ => Nat.zero_le _)⟩
theorem LV.below (h : LV b db f v rows w) (hb : Below w.heap.size w w') : LV b db f v rows w' := h.fr (Fr.of_below hb (fun _ => False)) (fun _ _ h => h)
theorem LV.cell (h : LV b db f v rows w) (i : Nat) : w.cell? ⟨b, i, none⟩ = #[pt db, iv f, v][i]? := cell_of h.blk
theorem LV.free (h : LV b db f v rows w) (i : Nat) : w.frozen? ⟨b, i, none⟩ = false := free_of h.blk
theorem LV.lt (h : LV b db f v rows w) : b < w.heap.size := lt_of_heap h.blk
theorem LV.foot_lt (h : LV b db f v rows w) {k : Nat} (hk : footL v b k) : k < w.heap.size := by
  rcases hk with rfl | hk
  · exact h.lt
  · exact (h.own.lt k hk).2
theorem LV.slice (h : LV b db f v rows w) : ∃ a c, v = .slice a rows.length c ∧ rows.length ≤ c ∧ c ≤ maxLen := owns_form h.own
theorem LV.ne (h : LV b db f v rows w) : v.ownBlock ≠ some b := by
  intro e
  obtain ⟨cur, hc⟩ := own_type h.own e
  rw [h.blk] at hc
  injection hc with hc
  injection hc with _ ht
  exact absurd ht (by decide)
/-- a Log's memory is apart from a Disk's -/
theorem LV.apart {vs : Nat → Value} {d : DS} {db' : Nat} (h : LV b db f v rows w) (hd : DV 63 5 db' vs d w) : ∀ k, footL v b k → ¬ foot vs db' k := by
  intro k hk hk2
  have t1 : ∃ cur t, (t = 66 ∨ t = 9) ∧ w.heap[k]? = some (.cells cur t (0, 0)) := by
    rcases hk with rfl | hk
    · exact ⟨_, _, Or.inl rfl, h.blk⟩
    · obtain ⟨cur, hc⟩ := own_type h.own hk; exact ⟨cur, _, Or.inr rfl, hc⟩
  have t2 : ∃ cur t, (t = 63 ∨ t = 5) ∧ w.heap[k]? = some (.cells cur t (0, 0)) := by
    rcases hk2 with rfl | ⟨g, hg, hk2⟩
    · exact ⟨_, _, Or.inl rfl, hd.blk⟩
    · obtain ⟨cur, hc⟩ := own_type (hd.own g hg) hk2; exact ⟨cur, _, Or.inr rfl, hc⟩
  obtain ⟨c1, ta, h1, h2⟩ := t1
  obtain ⟨c2, tb, h3, h4⟩ := t2
  rw [h2] at h4
  injection h4 with h4
  injection h4 with _ h4
  rcases h1 with rfl | rfl <;> rcases h3 with rfl | rfl <;> exact absurd h4 (by decide)
end
def clr1 (f : Nat) (d : DS) : Int := if size1 ((f : Int) + 1) d = 0 then 0 else cut1 ((f : Int) + 1) 0 d
def clr2 (f : Nat) (d : DS) : DS := if size1 ((f : Int) + 1) d = 0 then d else cut2 ((f : Int) + 1) 0 d
theorem dk_drew {F : Foot} {b : Nat} {d : DS} {w : World} (h : DkD F b d w) : DkD F b d w.drew := h.fr (Fr.refl (fun _ => False) w).drew (fun _ _ h => h)
theorem dk_drewN {F : Foot} {b : Nat} {d : DS} {w : World} (h : DkD F b d w) (n : Nat) : DkD F b d (w.drewN n) := h.fr ((Fr.refl (fun _ => False) w).drewN n) (fun _ _ h => h)
theorem DP.from {F : Foot} {b : Nat} {w w1 w' : World} {v : Value} {d' : DS} {e : Ending} (h : DPD F b w1 v d' e w') (hf : Fr F w w1) : DPD F b w v d' e w' := by
  obtain ⟨he, F', h1, h2, h3⟩ := h
  exact ⟨he, F', h1, hf.trans h2, fun k hk => (h3 k hk).imp id (fun h => Nat.le_trans hf.size h)⟩
set_option maxHeartbeats 2000000 in
set_option maxRecDepth 100000 in
theorem clear_any (F : Foot) (b db f : Nat) (v : Value) (rows : List (List UInt8)) (d : DS) (w : World) (hd : DkD F db d w) (hl : LV b db f v rows w) (hf : f ≤ 100) :
    Calls Try.prog 34 #[pt b] w (DPD F db w (iv (clr1 f d)) (clr2 f d)) := by
  have c0 := (hl.cell 0).trans rfl
  have c1 := (hl.cell 1).trans rfl
  have w1 : IntKind.i64.wrap ((f : Int) + 1) = (f : Int) + 1 := i64_wrap_id _ (by omega) (by omega)
  have hq := hid (fun n => (size_any F db d ((f : Int) + 1) (w.drewN n) (dk_drewN hd n)).mono fun e w' (h : _ ∧ _) => (⟨h.1, h.2.symm⟩ : e = .returned (iv (size1 ((f : Int) + 1) d)) ∧ w' = w.drewN n))
  by_cases h0 : size1 ((f : Int) + 1) d = 0
  · have e1 : clr1 f d = 0 := if_pos h0
    have e2 : clr2 f d = d := if_pos h0
    rw [e1, e2]
    rw [h0] at hq
    clear h0 e1 e2 hl
    have hfin := hid (fun n => DP.from (DP.same (v := iv 0) (dk_drewN hd n)) ((Fr.refl F w).drewN n))
    clear hd
    go_enter Try.func34, Try.ntmps34
    go_wp2_with fail
    go_quiet ((go_at_call 16; exact Calls.quiet_of_same (hq.out _)))
    go_wp2_with fail
    go_ret
    exact hfin.out _
  · have e1 : clr1 f d = cut1 ((f : Int) + 1) 0 d := if_neg h0
    have e2 : clr2 f d = cut2 ((f : Int) + 1) 0 d := if_neg h0
    rw [e1, e2]
    have qz : (((size1 ((f : Int) + 1) d : Nat) : Int) == 0) = false := by simp; omega
    generalize size1 ((f : Int) + 1) d = S at *
    have hcut := hid (fun n => cut_any F db d ((f : Int) + 1) 0 (w.drewN n).drew (dk_drew (dk_drewN hd n)))
    have d0 : ∀ n, (w.drewN n).cell? ⟨b, 0, none⟩ = some (pt db) := fun n => c0
    have d1 : ∀ n, (w.drewN n).cell? ⟨b, 1, none⟩ = some (iv f) := fun n => c1
    clear h0 e1 e2 hd hl
    have hfw := hid (fun n => ((Fr.refl F w).drewN n).drew)
    go_enter Try.func34, Try.ntmps34
    go_wp2_with fail
    go_quiet ((go_at_call 16; exact Calls.quiet_of_same (hq.out _)))
    replace hcut := hid (hcut.out nq)
    replace hfw := hid (hfw.out nq)
    replace d0 := d0 nq
    replace d1 := d1 nq
    generalize w.drewN nq = wn at *
    clear c0 c1 hq
    go_wp2_with fail
    go_still_tail 9, (by kernel_rfl)
    go_wp2_with fail
    refine hcut.out.mono ?_
    rintro e w2 h
    have h2 := DP.from h hfw.out
    obtain ⟨rfl, h3⟩ := h2
    replace h3 := hid h3
    clear h hcut hfw
    go_wp2_with fail
    go_ret
    exact ⟨rfl, h3.out⟩
set_option maxHeartbeats 2000000 in
set_option maxRecDepth 100000 in
theorem lflush_any (F : Foot) (b db f : Nat) (v : Value) (rows : List (List UInt8)) (d : DS) (w : World) (hd : DkD F db d w) (hl : LV b db f v rows w) :
    Calls Try.prog 20 #[pt b] w (DPD F db w (iv (flush1 f d)) (flush2 f d)) := by
  have c0 := (hl.cell 0).trans rfl
  have c1 := (hl.cell 1).trans rfl
  have hcall := hid (flush_any F db d f w.drew (dk_drew hd))
  have hfw := hid (Fr.refl F w).drew
  clear hd hl
  go_enter Try.func20, Try.ntmps20
  go_wp2_with fail
  go_still_tail 8, (by kernel_rfl)
  go_wp2_with fail
  refine hcall.out.mono ?_
  rintro e w2 h
  obtain ⟨rfl, h3⟩ := DP.from h hfw.out
  replace h3 := hid h3
  clear h hcall hfw
  go_wp2_with fail
  go_ret
  exact ⟨rfl, h3.out⟩
theorem len_any (b db f : Nat) (v : Value) (rows : List (List UInt8)) (w : World) (hl : LV b db f v rows w) :
    Calls Try.prog 27 #[pt b] w fun e w' => e = .returned (iv rows.length) ∧ w = w' := by
  obtain ⟨a, c, rfl, -, -⟩ := hl.slice
  have c2 := (hl.cell 2).trans rfl
  clear hl
  go_enter Try.func27, Try.ntmps27
  go_wp2_with fail
  go_ret
  exact ⟨rfl, rfl⟩
theorem infoS : (Try.prog.info? 9).map (fun i => (i.zero, i.size, i.bytes)) = some (some (.string .empty), 1, 16) := by kernel_rfl
theorem mem_sv {rows : List (List UInt8)} : ∀ u ∈ rows.map sv, u.oneCell' = true := fun u hu => by
  obtain ⟨x, _, rfl⟩ := List.mem_map.1 hu; rfl
/-- append(nil, rows..): a copy -/
theorem copy_strs (w : World) (B : Nat) (v : Value) (l : List (List UInt8)) (hr : Row B w 1 v l.length (l.map sv)) (hl : l.length ≤ 1000000) (ty : TypeId) :
    ∃ v' w', (Builtin.append_ #[22, 22] ty #[.slice none 0 0, v]).run Try.prog w = .ok v' w' ∧ w'.ownsRow w.heap.size 9 1 v' l.length (l.map sv) ∧ Below w.heap.size w w' := by
  obtain ⟨i0, hi, hz0, hz1, hz2⟩ := info_parts infoS
  obtain ⟨v', w', hrun, hown, hg, hv⟩ := append_row (P := Try.prog) w w.heap.size 22 ty 9 i0 (.string .empty) 1 16 Try.underlying22 hi hz0 hz1 hz2 rfl (by decide) (.slice none 0 0) 0 [] (World.ownsRow_nil _ _ _ _) B v l.length (l.map sv) hr mem_sv (by unfold maxLen; omega) (by omega) (Nat.le_refl _)
  refine ⟨v', w', hrun, by simpa using hown, ⟨hg.os, hg.tape, hg.output, hg.size, fun k hk => hg.block k hk (by simp [Value.ownBlock])⟩⟩
set_option maxHeartbeats 1000000 in
theorem all_any (b db f : Nat) (v : Value) (rows : List (List UInt8)) (w : World) (hl : LV b db f v rows w) (hn : rows.length ≤ 1000000) :
    Calls Try.prog 15 #[pt b] w fun e w' => ∃ v', e = .returned v' ∧ w'.ownsRow w.heap.size 9 1 v' rows.length (rows.map sv) ∧ Below w.heap.size w w' := by
  have hrow := Row.of_owns hl.own
  obtain ⟨a, c, rfl, -, -⟩ := hl.slice
  have c2 := (hl.cell 2).trans rfl
  obtain ⟨v', w1, hrun, hown, hb⟩ := copy_strs w w.heap.size _ rows hrow hn 22
  replace hown := hid hown
  replace hb := hid hb
  clear hl hrow
  go_enter Try.func15, Try.ntmps15
  go_wp2_with (at_builtin; refine wpList_append_run rfl _ _ _ _ rfl rfl rfl hrun ?_)
  go_ret
  exact ⟨_, rfl, hown.out, hb.out⟩
end Go.Proofs.Ytffmmhofgocldaa
