/- The reference's Apply. -/
import Derived.Test.YthagdeadmoidnaaRefA
set_option linter.unusedVariables false
namespace Go.Proofs.Ythagdeadmoidnaa
open Go.RowKit
open Go.Lib (hid)
abbrev AppP (S : Foot) (w : World) (r : Int × List Out) (e : Ending) (w' : World) : Prop := ∃ v', e = .returned (.tuple #[v', iv r.1]) ∧ SlR 5 OutR S w' r.2 v' ∧ Below w.heap.size w w'
abbrev APPLY : FuncId := 27
set_option maxHeartbeats 4000000 in
set_option maxRecDepth 100000 in
theorem apply_other (key of new name : List UInt8) (args : List Val) (kd : Int) (l : List Out) (hl : l.length ≤ 1048575) (S : Foot) (v : Value) (w : World) (hr : SlR 5 OutR S w l v) (cs : List Value) (hcr : CmdR S w ⟨key, kd, of, new, name, args⟩ cs) (hS : ∀ k, w.heap.size ≤ k → S k) (hk : kd < 1 ∨ 4 < kd) :
    Calls Try.prog APPLY #[v, .agg cs.toArray] w (AppP S w (stepF l ⟨key, kd, of, new, name, args⟩)) := by
  obtain ⟨a1, k1, rfl, hvs⟩ := hcr
  have hb1 : Below w.heap.size w (w.alloc (.cells #[sv key, iv kd, sv of, sv new, sv name, .slice a1 args.length k1] 32)) := (Below.refl _ w).alloc (Nat.le_refl _) _
  have hbox1 := heap_alloc_new' w (.cells #[sv key, iv kd, sv of, sv new, sv name, .slice a1 args.length k1] 32)
  have hsz1 : (w.alloc (.cells #[sv key, iv kd, sv of, sv new, sv name, .slice a1 args.length k1] 32)).heap.size = w.heap.size + 1 := by simp
  obtain ⟨va, vc, rfl, -⟩ := hr.slice
  have hfind := hid (find44_any l (by omega) of S _ _ (hr.below goodOut hb1))
  generalize hres : stepF l ⟨key, kd, of, new, name, args⟩ = res
  replace hres := hid hres
  replace hbox1 := hid hbox1
  replace hb1 := hid hb1
  replace hr := hid hr
  replace hvs := hid hvs
  have hx : stepF l ⟨key, kd, of, new, name, args⟩ = (1, []) := by
    unfold stepF
    rw [if_neg (by show ¬ kd = 2; omega), if_neg (by show ¬ kd = 3; omega), if_neg (by show ¬ kd = 4; omega), if_neg (by show ¬ kd = 1; omega)]
  rw [hres.out] at hx
  replace hx := hid hx
  clear hfind
  rcases hk with hk | hk
  · have hq : decide (kd < 1) = true := by simpa using hk
    clear hk
    go_enter Try.func27, Try.ntmps27
    go_wp2_with fail
    go_ret2
    exact ⟨_, by rw [hx.out]; rfl, by rw [hx.out]; exact SlR.nil _ _ _ _ _, hb1.out⟩
  · have hq : decide (kd < 1) = false := decide_eq_false (by omega)
    have hq2 : decide (4 < kd) = true := by simpa using hk
    clear hk
    go_enter Try.func27, Try.ntmps27
    go_wp2_with fail
    go_ret2
    exact ⟨_, by rw [hx.out]; rfl, by rw [hx.out]; exact SlR.nil _ _ _ _ _, hb1.out⟩
set_option maxHeartbeats 4000000 in
set_option maxRecDepth 100000 in
theorem apply_do (key of new name : List UInt8) (args : List Val) (l : List Out) (hl : l.length ≤ 1048575) (S : Foot) (v : Value) (w : World) (hr : SlR 5 OutR S w l v) (cs : List Value) (hcr : CmdR S w ⟨key, 1, of, new, name, args⟩ cs) (hS : ∀ k, w.heap.size ≤ k → S k) :
    Calls Try.prog APPLY #[v, .agg cs.toArray] w (AppP S w (stepF l ⟨key, 1, of, new, name, args⟩)) := by
  obtain ⟨a1, k1, rfl, hvs⟩ := hcr
  have hb1 : Below w.heap.size w (w.alloc (.cells #[sv key, iv 1, sv of, sv new, sv name, .slice a1 args.length k1] 32)) := (Below.refl _ w).alloc (Nat.le_refl _) _
  have hbox1 := heap_alloc_new' w (.cells #[sv key, iv 1, sv of, sv new, sv name, .slice a1 args.length k1] 32)
  have hsz1 : (w.alloc (.cells #[sv key, iv 1, sv of, sv new, sv name, .slice a1 args.length k1] 32)).heap.size = w.heap.size + 1 := by simp
  obtain ⟨va, vc, rfl, -⟩ := hr.slice
  have hfind := hid (find44_any l (by omega) of S _ _ (hr.below goodOut hb1))
  generalize hres : stepF l ⟨key, 1, of, new, name, args⟩ = res
  replace hres := hid hres
  replace hbox1 := hid hbox1
  replace hb1 := hid hb1
  replace hr := hid hr
  replace hvs := hid hvs
  rcases new with _ | ⟨nc, nr⟩
  · have hy : stepF l ⟨key, 1, of, [], name, args⟩ = (1, []) := by simp [stepF]
    rw [hres.out] at hy
    replace hy := hid hy
    go_enter Try.func27, Try.ntmps27
    go_wp2_with fail
    refine hfind.out.mono ?_
    rintro e W2 ⟨rfl, hb⟩
    have hs2 := hb.size
    rw [hsz1] at hs2
    have hb2 := hid (hb1.out.trans (hb.mono (by rw [hsz1]; omega)))
    have hbox2 := hid (below_keep hb hbox1.out (by rw [hsz1]; omega))
    clear hb hfind hbox1
    have x0 : W2.cell? ⟨w.heap.size, 0, none⟩ = some (sv key) := (cell_of hbox2.out).trans rfl
    have x1 : W2.cell? ⟨w.heap.size, 1, none⟩ = some (iv 1) := (cell_of hbox2.out).trans rfl
    have x2 : W2.cell? ⟨w.heap.size, 2, none⟩ = some (sv of) := (cell_of hbox2.out).trans rfl
    have x3 : W2.cell? ⟨w.heap.size, 3, none⟩ = some (.string .empty) := (cell_of hbox2.out).trans rfl
    have x4 : W2.cell? ⟨w.heap.size, 4, none⟩ = some (sv name) := (cell_of hbox2.out).trans rfl
    have x5 : W2.cell? ⟨w.heap.size, 5, none⟩ = some (.slice a1 args.length k1) := (cell_of hbox2.out).trans rfl
    have hb3 : Below W2.heap.size W2 (W2.alloc (.cells #[.string .empty, sv name, .slice a1 args.length k1, .bool false, iv 0] 54)) := (Below.refl _ W2).alloc (Nat.le_refl _) _
    have hbox3 := hid (below_keep hb3 hbox2.out (by omega))
    have hmade3 := hid (heap_alloc_new' W2 (.cells #[.string .empty, sv name, .slice a1 args.length k1, .bool false, iv 0] 54))
    have hb03 := hid (hb2.out.trans (hb3.mono hb2.out.size))
    have hs3 : (W2.alloc (.cells #[.string .empty, sv name, .slice a1 args.length k1, .bool false, iv 0] 54)).heap.size = W2.heap.size + 1 := by simp
    have hfind3 := hid (find44_any l (by omega) [] S _ _ (hr.out.below goodOut hb03.out))
    clear hb3
    have z0 : (W2.alloc (.cells #[.string .empty, sv name, .slice a1 args.length k1, .bool false, iv 0] 54)).cell? ⟨w.heap.size, 0, none⟩ = some (sv key) := (cell_of hbox3.out).trans rfl
    have z1 : (W2.alloc (.cells #[.string .empty, sv name, .slice a1 args.length k1, .bool false, iv 0] 54)).cell? ⟨w.heap.size, 1, none⟩ = some (iv 1) := (cell_of hbox3.out).trans rfl
    have z2 : (W2.alloc (.cells #[.string .empty, sv name, .slice a1 args.length k1, .bool false, iv 0] 54)).cell? ⟨w.heap.size, 2, none⟩ = some (sv of) := (cell_of hbox3.out).trans rfl
    have z3 : (W2.alloc (.cells #[.string .empty, sv name, .slice a1 args.length k1, .bool false, iv 0] 54)).cell? ⟨w.heap.size, 3, none⟩ = some (.string .empty) := (cell_of hbox3.out).trans rfl
    have z4 : (W2.alloc (.cells #[.string .empty, sv name, .slice a1 args.length k1, .bool false, iv 0] 54)).cell? ⟨w.heap.size, 4, none⟩ = some (sv name) := (cell_of hbox3.out).trans rfl
    have z5 : (W2.alloc (.cells #[.string .empty, sv name, .slice a1 args.length k1, .bool false, iv 0] 54)).cell? ⟨w.heap.size, 5, none⟩ = some (.slice a1 args.length k1) := (cell_of hbox3.out).trans rfl
    generalize findO l of = fo at *
    go_wp2_with fail
    go_ret2
    exact ⟨_, by rw [hy.out]; rfl, by rw [hy.out]; exact SlR.nil _ _ _ _ _, (hb2.out.trans ((Below.refl _ W2).alloc (Nat.le_refl _) _ |>.mono hb2.out.size))⟩
  · obtain ⟨i0, hi, hz0, hz1, hz2⟩ := info_parts infoOut
    go_enter Try.func27, Try.ntmps27
    go_wp2_with fail
    refine hfind.out.mono ?_
    rintro e W2 ⟨rfl, hb⟩
    have hs2 := hb.size
    rw [hsz1] at hs2
    have hb2 := hid (hb1.out.trans (hb.mono (by rw [hsz1]; omega)))
    have hbox2 := hid (below_keep hb hbox1.out (by rw [hsz1]; omega))
    clear hb hfind hbox1
    generalize findO l of = fo at *
    have x0 : W2.cell? ⟨w.heap.size, 0, none⟩ = some (sv key) := (cell_of hbox2.out).trans rfl
    have x1 : W2.cell? ⟨w.heap.size, 1, none⟩ = some (iv 1) := (cell_of hbox2.out).trans rfl
    have x2 : W2.cell? ⟨w.heap.size, 2, none⟩ = some (sv of) := (cell_of hbox2.out).trans rfl
    have x3 : W2.cell? ⟨w.heap.size, 3, none⟩ = some (sv (nc :: nr)) := (cell_of hbox2.out).trans rfl
    have x4 : W2.cell? ⟨w.heap.size, 4, none⟩ = some (sv name) := (cell_of hbox2.out).trans rfl
    have x5 : W2.cell? ⟨w.heap.size, 5, none⟩ = some (.slice a1 args.length k1) := (cell_of hbox2.out).trans rfl
    have hb3 : Below W2.heap.size W2 (W2.alloc (.cells #[sv (nc :: nr), sv name, .slice a1 args.length k1, .bool false, iv 0] 54)) := (Below.refl _ W2).alloc (Nat.le_refl _) _
    have hbox3 := hid (below_keep hb3 hbox2.out (by omega))
    have hmade3 := hid (heap_alloc_new' W2 (.cells #[sv (nc :: nr), sv name, .slice a1 args.length k1, .bool false, iv 0] 54))
    have hb03 := hid (hb2.out.trans (hb3.mono hb2.out.size))
    have hs3 : (W2.alloc (.cells #[sv (nc :: nr), sv name, .slice a1 args.length k1, .bool false, iv 0] 54)).heap.size = W2.heap.size + 1 := by simp
    have hfind3 := hid (find44_any l (by omega) (nc :: nr) S _ _ (hr.out.below goodOut hb03.out))
    clear hb3
    have z0 : (W2.alloc (.cells #[sv (nc :: nr), sv name, .slice a1 args.length k1, .bool false, iv 0] 54)).cell? ⟨w.heap.size, 0, none⟩ = some (sv key) := (cell_of hbox3.out).trans rfl
    have z1 : (W2.alloc (.cells #[sv (nc :: nr), sv name, .slice a1 args.length k1, .bool false, iv 0] 54)).cell? ⟨w.heap.size, 1, none⟩ = some (iv 1) := (cell_of hbox3.out).trans rfl
    have z2 : (W2.alloc (.cells #[sv (nc :: nr), sv name, .slice a1 args.length k1, .bool false, iv 0] 54)).cell? ⟨w.heap.size, 2, none⟩ = some (sv of) := (cell_of hbox3.out).trans rfl
    have z3 : (W2.alloc (.cells #[sv (nc :: nr), sv name, .slice a1 args.length k1, .bool false, iv 0] 54)).cell? ⟨w.heap.size, 3, none⟩ = some (sv (nc :: nr)) := (cell_of hbox3.out).trans rfl
    have z4 : (W2.alloc (.cells #[sv (nc :: nr), sv name, .slice a1 args.length k1, .bool false, iv 0] 54)).cell? ⟨w.heap.size, 4, none⟩ = some (sv name) := (cell_of hbox3.out).trans rfl
    have z5 : (W2.alloc (.cells #[sv (nc :: nr), sv name, .slice a1 args.length k1, .bool false, iv 0] 54)).cell? ⟨w.heap.size, 5, none⟩ = some (.slice a1 args.length k1) := (cell_of hbox3.out).trans rfl
    rcases idxF_bounds (keyP (nc :: nr)) l with hx | ⟨k, o, hx, hkl, hok, hp, hpn⟩
    · have hx2 : findO l (nc :: nr) = -1 := hx
      have hy : stepF l ⟨key, 1, of, nc :: nr, name, args⟩ = (0, l ++ [outOf ⟨key, 1, of, nc :: nr, name, args⟩]) := by simp [stepF, hx2]
      rw [hres.out] at hy
      replace hy := hid hy
      go_wp2_with fail
      clear x0 x1 x2 x3 x4 x5 z0 z1 z2 z3 z4 z5
      refine hfind3.out.mono ?_
      rintro e W4 ⟨rfl, hb⟩
      have hs4 := hb.size
      rw [hs3] at hs4
      have hb4 := hid (hb03.out.trans (hb.mono hb03.out.size))
      have hbox4 := hid (below_keep hb hbox3.out (by rw [hs3]; omega))
      have hmade4 := hid (below_keep hb hmade3.out (by rw [hs3]; omega))
      clear hb hfind3 hbox3 hmade3 hb03
      have x0 : W4.cell? ⟨w.heap.size, 0, none⟩ = some (sv key) := (cell_of hbox4.out).trans rfl
      have x1 : W4.cell? ⟨w.heap.size, 1, none⟩ = some (iv 1) := (cell_of hbox4.out).trans rfl
      have x2 : W4.cell? ⟨w.heap.size, 2, none⟩ = some (sv of) := (cell_of hbox4.out).trans rfl
      have x3 : W4.cell? ⟨w.heap.size, 3, none⟩ = some (sv (nc :: nr)) := (cell_of hbox4.out).trans rfl
      have x4 : W4.cell? ⟨w.heap.size, 4, none⟩ = some (sv name) := (cell_of hbox4.out).trans rfl
      have x5 : W4.cell? ⟨w.heap.size, 5, none⟩ = some (.slice a1 args.length k1) := (cell_of hbox4.out).trans rfl
      have y0 : W4.cell? ⟨W2.heap.size, 0, none⟩ = some (sv (nc :: nr)) := (cell_of hmade4.out).trans rfl
      have y1 : W4.cell? ⟨W2.heap.size, 1, none⟩ = some (sv name) := (cell_of hmade4.out).trans rfl
      have y2 : W4.cell? ⟨W2.heap.size, 2, none⟩ = some (.slice a1 args.length k1) := (cell_of hmade4.out).trans rfl
      have y3 : W4.cell? ⟨W2.heap.size, 3, none⟩ = some (.bool false) := (cell_of hmade4.out).trans rfl
      have y4 : W4.cell? ⟨W2.heap.size, 4, none⟩ = some (iv 0) := (cell_of hmade4.out).trans rfl
      rw [hx2]
      clear hx hx2
      have hfr : FrR 54 5 OutR S W4.heap.size (W4.alloc (.cells #[] 54)) [] (.slice (some ⟨W4.heap.size, 0, none⟩) 0 0) := FrR.made (Nat.le_refl _)
      have hb5 : Below W4.heap.size W4 (W4.alloc (.cells #[] 54)) := (Below.refl _ W4).alloc (Nat.le_refl _) _
      have hb05 := hb4.out.trans (hb5.mono hb4.out.size)
      have hs04 := hb4.out.size
      obtain ⟨v6, W6, hap, hf6, hb6⟩ := hfr.appSl (t := 41) (ty := 41) goodOut (by kernel_rfl) hi hz0 hz1 hz2 rfl (by decide) hb5.size ((hr.out.mono goodOut (fun q hq h => ⟨h, by omega⟩)).below goodOut hb05) (by unfold maxLen; simp; omega) (by simp; omega)
      rw [List.nil_append] at hf6
      have hb46 := hb5.trans hb6
      have hs6 := hb46.size
      have hmade6 := hid (below_keep hb46 hmade4.out (by omega))
      have hb06 := hb4.out.trans (hb46.mono hs04)
      have hb7 : Below W6.heap.size W6 (W6.alloc (.cells #[sv (nc :: nr), sv name, .slice a1 args.length k1, .bool false, iv 0] 54)) := (Below.refl _ W6).alloc (Nat.le_refl _) _
      have hb07 := hb06.trans (hb7.mono hb06.size)
      have hnew : OutR (fun q => S q ∧ q < W4.heap.size) (W6.alloc (.cells #[sv (nc :: nr), sv name, .slice a1 args.length k1, .bool false, iv 0] 54)) (outOf ⟨key, 1, of, nc :: nr, name, args⟩) [sv (nc :: nr), sv name, .slice a1 args.length k1, .bool false, iv 0] := goodOut.below (goodOut.mono (outR_shut (o := outOf ⟨key, 1, of, nc :: nr, name, args⟩) hvs.out) (fun q hq h => ⟨h, by omega⟩)) hb07
      obtain ⟨v8, W8, hap8, hf8, hb8⟩ := (hf6.below goodOut hb7).app1 (t := 41) (ty := 41) (x := outOf ⟨key, 1, of, nc :: nr, name, args⟩) (cs := [sv (nc :: nr), sv name, .slice a1 args.length k1, .bool false, iv 0]) goodOut (by kernel_rfl) hi hz0 hz1 hz2 rfl (by decide) (Nat.le_trans hs6 hb7.size) (row_of_block (heap_alloc_new' W6 (.cells #[sv (nc :: nr), sv name, .slice a1 args.length k1, .bool false, iv 0] 54)) rfl) hnew (by unfold maxLen; omega) (by omega)
      have hb08 := hid (hb07.trans (hb8.mono hs04))
      have hf9 := hid (hf8.sl goodOut (fun q hq => hS q (by omega)))
      obtain ⟨a6, c6, rfl, -⟩ := (hf6.sl goodOut (fun q hq => hS q (by omega))).slice
      obtain ⟨a8, c8, rfl, -⟩ := hf9.out.slice
      simp only [List.length_append, List.length_singleton] at hf9 hap8
      clear hb8 hf8 hnew hb07 hb7 hb06 hb46 hf6 hb6 hb05 hb5 hfr hmade4 hbox4 hi hz0 hz1 hz2

      have u0 : W6.cell? ⟨W2.heap.size, 0, none⟩ = some (sv (nc :: nr)) := (cell_of hmade6.out).trans rfl
      have u1 : W6.cell? ⟨W2.heap.size, 1, none⟩ = some (sv name) := (cell_of hmade6.out).trans rfl
      have u2 : W6.cell? ⟨W2.heap.size, 2, none⟩ = some (.slice a1 args.length k1) := (cell_of hmade6.out).trans rfl
      have u3 : W6.cell? ⟨W2.heap.size, 3, none⟩ = some (.bool false) := (cell_of hmade6.out).trans rfl
      have u4 : W6.cell? ⟨W2.heap.size, 4, none⟩ = some (iv 0) := (cell_of hmade6.out).trans rfl
      go_wp2_with (first | (at_builtin; refine wpList_append_shut rfl (.tmp 69) (.tmp 70) rfl rfl rfl hap ?_) | (at_builtin; refine wpList_append_shut rfl (.tmp 72) (.tmp 74) rfl rfl rfl hap8 ?_))
      go_ret2
      exact ⟨_, by rw [hy.out]; rfl, by rw [hy.out]; exact hf9.out, hb08.out⟩
    · have hx2 : findO l (nc :: nr) = (k : Nat) := hx
      have hy : stepF l ⟨key, 1, of, nc :: nr, name, args⟩ = (4, []) := by simp [stepF, hx2]
      rw [hres.out] at hy
      replace hy := hid hy
      go_wp2_with fail
      clear x0 x1 x2 x3 x4 x5 z0 z1 z2 z3 z4 z5
      refine hfind3.out.mono ?_
      rintro e W4 ⟨rfl, hb⟩
      have hs4 := hb.size
      rw [hs3] at hs4
      have hb4 := hid (hb03.out.trans (hb.mono hb03.out.size))
      have hbox4 := hid (below_keep hb hbox3.out (by rw [hs3]; omega))
      have hmade4 := hid (below_keep hb hmade3.out (by rw [hs3]; omega))
      clear hb hfind3 hbox3 hmade3 hb03
      have x0 : W4.cell? ⟨w.heap.size, 0, none⟩ = some (sv key) := (cell_of hbox4.out).trans rfl
      have x1 : W4.cell? ⟨w.heap.size, 1, none⟩ = some (iv 1) := (cell_of hbox4.out).trans rfl
      have x2 : W4.cell? ⟨w.heap.size, 2, none⟩ = some (sv of) := (cell_of hbox4.out).trans rfl
      have x3 : W4.cell? ⟨w.heap.size, 3, none⟩ = some (sv (nc :: nr)) := (cell_of hbox4.out).trans rfl
      have x4 : W4.cell? ⟨w.heap.size, 4, none⟩ = some (sv name) := (cell_of hbox4.out).trans rfl
      have x5 : W4.cell? ⟨w.heap.size, 5, none⟩ = some (.slice a1 args.length k1) := (cell_of hbox4.out).trans rfl
      rw [hx2]
      clear hx hx2 hp hpn hok
      go_wp2_with fail
      go_ret2
      exact ⟨_, by rw [hy.out]; rfl, by rw [hy.out]; exact SlR.nil _ _ _ _ _, hb4.out⟩
theorem SlR.addr {α : Type} {sz : Nat} {R : Rel α} {S : Foot} {w : World} {l : List α} {a : Option Addr} {n cap : Nat} (h : SlR sz R S w l (.slice a n cap)) (h0 : 0 < l.length) : ∃ b off, a = some ⟨b, off, none⟩ ∧ l.length ≤ cap := by
  obtain ⟨a', cap', b, off, cs, he, hle, ha, hc, hx⟩ := h
  simp only [Value.slice.injEq] at he
  obtain ⟨rfl, rfl, rfl⟩ := he
  exact ⟨b, off, (ha h0).1, hle⟩
set_option maxHeartbeats 4000000 in
set_option maxRecDepth 100000 in
theorem apply_undo (key of new name : List UInt8) (args : List Val) (l : List Out) (hl : l.length ≤ 1048575) (S : Foot) (v : Value) (w : World) (hr : SlR 5 OutR S w l v) (cs : List Value) (hcr : CmdR S w ⟨key, 2, of, new, name, args⟩ cs) (hS : ∀ k, w.heap.size ≤ k → S k) :
    Calls Try.prog APPLY #[v, .agg cs.toArray] w (AppP S w (stepF l ⟨key, 2, of, new, name, args⟩)) := by
  obtain ⟨a1, k1, rfl, hvs⟩ := hcr
  have hb1 : Below w.heap.size w (w.alloc (.cells #[sv key, iv 2, sv of, sv new, sv name, .slice a1 args.length k1] 32)) := (Below.refl _ w).alloc (Nat.le_refl _) _
  have hbox1 := heap_alloc_new' w (.cells #[sv key, iv 2, sv of, sv new, sv name, .slice a1 args.length k1] 32)
  have hsz1 : (w.alloc (.cells #[sv key, iv 2, sv of, sv new, sv name, .slice a1 args.length k1] 32)).heap.size = w.heap.size + 1 := by simp
  obtain ⟨va, vc, rfl, -⟩ := hr.slice
  have hfind := hid (find44_any l (by omega) of S _ _ (hr.below goodOut hb1))
  generalize hres : stepF l ⟨key, 2, of, new, name, args⟩ = res
  replace hres := hid hres
  replace hbox1 := hid hbox1
  replace hb1 := hid hb1
  replace hr := hid hr
  replace hvs := hid hvs
  obtain ⟨i0, hi, hz0, hz1, hz2⟩ := info_parts infoOut
  rcases idxF_bounds (keyP of) l with hx | ⟨k, o, hx, hkl, hok, hp, hpn⟩
  · skip
    have hx2 : findO l of = -1 := hx
    have hy : stepF l ⟨key, 2, of, new, name, args⟩ = (5, []) := by simp [stepF, hx2]
    rw [hres.out] at hy
    replace hy := hid hy
    go_enter Try.func27, Try.ntmps27
    go_wp2_with fail
    refine hfind.out.mono ?_
    rintro e W2 ⟨rfl, hb⟩
    have hs2 := hb.size
    rw [hsz1] at hs2
    have hb2 := hid (hb1.out.trans (hb.mono (by rw [hsz1]; omega)))
    have hbox2 := hid (below_keep hb hbox1.out (by rw [hsz1]; omega))
    clear hb hfind hbox1
    have x0 : W2.cell? ⟨w.heap.size, 0, none⟩ = some (sv key) := (cell_of hbox2.out).trans rfl
    have x1 : W2.cell? ⟨w.heap.size, 1, none⟩ = some (iv 2) := (cell_of hbox2.out).trans rfl
    have x2 : W2.cell? ⟨w.heap.size, 2, none⟩ = some (sv of) := (cell_of hbox2.out).trans rfl
    have x3 : W2.cell? ⟨w.heap.size, 3, none⟩ = some (sv new) := (cell_of hbox2.out).trans rfl
    have x4 : W2.cell? ⟨w.heap.size, 4, none⟩ = some (sv name) := (cell_of hbox2.out).trans rfl
    have x5 : W2.cell? ⟨w.heap.size, 5, none⟩ = some (.slice a1 args.length k1) := (cell_of hbox2.out).trans rfl
    rw [hx2]
    clear hx hx2
    go_wp2_with fail
    go_ret2
    exact ⟨_, by rw [hy.out]; rfl, by rw [hy.out]; exact SlR.nil _ _ _ _ _, hb2.out⟩
  · have hx2 : findO l of = (k : Nat) := hx
    have hy : stepF l ⟨key, 2, of, new, name, args⟩ = (0, l.take k ++ l.drop (k + 1)) := by
      rw [← List.eraseIdx_eq_take_drop_succ]
      simp [stepF, hx2]
    rw [hres.out] at hy
    replace hy := hid hy
    obtain ⟨bb, off, rfl, hcap⟩ := hr.out.addr (by omega)
    go_enter Try.func27, Try.ntmps27
    go_wp2_with fail
    refine hfind.out.mono ?_
    rintro e W2 ⟨rfl, hb⟩
    have hs2 := hb.size
    rw [hsz1] at hs2
    have hb2 := hid (hb1.out.trans (hb.mono (by rw [hsz1]; omega)))
    have hbox2 := hid (below_keep hb hbox1.out (by rw [hsz1]; omega))
    clear hb hfind hbox1
    have x0 : W2.cell? ⟨w.heap.size, 0, none⟩ = some (sv key) := (cell_of hbox2.out).trans rfl
    have x1 : W2.cell? ⟨w.heap.size, 1, none⟩ = some (iv 2) := (cell_of hbox2.out).trans rfl
    have x2 : W2.cell? ⟨w.heap.size, 2, none⟩ = some (sv of) := (cell_of hbox2.out).trans rfl
    have x3 : W2.cell? ⟨w.heap.size, 3, none⟩ = some (sv new) := (cell_of hbox2.out).trans rfl
    have x4 : W2.cell? ⟨w.heap.size, 4, none⟩ = some (sv name) := (cell_of hbox2.out).trans rfl
    have x5 : W2.cell? ⟨w.heap.size, 5, none⟩ = some (.slice a1 args.length k1) := (cell_of hbox2.out).trans rfl
    have hb3 : Below W2.heap.size W2 (W2.alloc (.cells #[sv new, sv name, .slice a1 args.length k1, .bool false, iv 0] 54)) := (Below.refl _ W2).alloc (Nat.le_refl _) _
    have hbox3 := hid (below_keep hb3 hbox2.out (by omega))
    have hmade3 := hid (heap_alloc_new' W2 (.cells #[sv new, sv name, .slice a1 args.length k1, .bool false, iv 0] 54))
    have hb03 := hid (hb2.out.trans (hb3.mono hb2.out.size))
    have hs3 : (W2.alloc (.cells #[sv new, sv name, .slice a1 args.length k1, .bool false, iv 0] 54)).heap.size = W2.heap.size + 1 := by simp
    have hfind3 := hid (find44_any l (by omega) new S _ _ (hr.out.below goodOut hb03.out))
    clear hb3
    have z0 : (W2.alloc (.cells #[sv new, sv name, .slice a1 args.length k1, .bool false, iv 0] 54)).cell? ⟨w.heap.size, 0, none⟩ = some (sv key) := (cell_of hbox3.out).trans rfl
    have z1 : (W2.alloc (.cells #[sv new, sv name, .slice a1 args.length k1, .bool false, iv 0] 54)).cell? ⟨w.heap.size, 1, none⟩ = some (iv 2) := (cell_of hbox3.out).trans rfl
    have z2 : (W2.alloc (.cells #[sv new, sv name, .slice a1 args.length k1, .bool false, iv 0] 54)).cell? ⟨w.heap.size, 2, none⟩ = some (sv of) := (cell_of hbox3.out).trans rfl
    have z3 : (W2.alloc (.cells #[sv new, sv name, .slice a1 args.length k1, .bool false, iv 0] 54)).cell? ⟨w.heap.size, 3, none⟩ = some (sv new) := (cell_of hbox3.out).trans rfl
    have z4 : (W2.alloc (.cells #[sv new, sv name, .slice a1 args.length k1, .bool false, iv 0] 54)).cell? ⟨w.heap.size, 4, none⟩ = some (sv name) := (cell_of hbox3.out).trans rfl
    have z5 : (W2.alloc (.cells #[sv new, sv name, .slice a1 args.length k1, .bool false, iv 0] 54)).cell? ⟨w.heap.size, 5, none⟩ = some (.slice a1 args.length k1) := (cell_of hbox3.out).trans rfl
    rw [hx2]
    clear hx hx2 hp hpn hok hfind3 hmade3
    have hb5 : Below (W2.alloc (.cells #[sv new, sv name, .slice a1 args.length k1, .bool false, iv 0] 54)).heap.size (W2.alloc (.cells #[sv new, sv name, .slice a1 args.length k1, .bool false, iv 0] 54)) ((W2.alloc (.cells #[sv new, sv name, .slice a1 args.length k1, .bool false, iv 0] 54)).alloc (.cells #[] 54)) := (Below.refl _ _).alloc (Nat.le_refl _) _
    have hb05 := hb03.out.trans (hb5.mono hb03.out.size)
    have hs03 := hb03.out.size
    have hfr : FrR 54 5 OutR S (W2.alloc (.cells #[sv new, sv name, .slice a1 args.length k1, .bool false, iv 0] 54)).heap.size ((W2.alloc (.cells #[sv new, sv name, .slice a1 args.length k1, .bool false, iv 0] 54)).alloc (.cells #[] 54)) [] (.slice (some ⟨(W2.alloc (.cells #[sv new, sv name, .slice a1 args.length k1, .bool false, iv 0] 54)).heap.size, 0, none⟩) 0 0) := FrR.made (Nat.le_refl _)
    have hlt : (l.take k).length = k := by rw [List.length_take]; omega
    have hld : (l.drop (k + 1)).length = l.length - (k + 1) := List.length_drop ..
    have hrr := hr.out.mono goodOut (T := fun q => S q ∧ q < (W2.alloc (.cells #[sv new, sv name, .slice a1 args.length k1, .bool false, iv 0] 54)).heap.size) (fun q hq h => ⟨h, by omega⟩)
    obtain ⟨v6, W6, hap, hf6, hb6⟩ := hfr.appSl (t := 41) (ty := 41) goodOut (by kernel_rfl) hi hz0 hz1 hz2 rfl (by decide) hb5.size ((hrr.take (k := k) (by omega)).below goodOut hb05) (by unfold maxLen; simp; omega) (by simp; omega)
    rw [List.nil_append] at hf6
    have hb06 := hb03.out.trans ((hb5.trans hb6).mono hs03)
    have hs6 := (hb5.trans hb6).size
    have hmk : ∀ src : Addr, (k + 1 < l.length → src = ⟨bb, off + (k + 1) * 5, none⟩) → ∃ v8 W8, AppRun Try.prog 41 41 41 v6 (.slice (some src) (l.length - (k + 1)) (vc - (k + 1))) v8 W6 W8 ∧ FrR 54 5 OutR S (W2.alloc (.cells #[sv new, sv name, .slice a1 args.length k1, .bool false, iv 0] 54)).heap.size W8 (l.take k ++ l.drop (k + 1)) v8 ∧ Below (W2.alloc (.cells #[sv new, sv name, .slice a1 args.length k1, .bool false, iv 0] 54)).heap.size W6 W8 :=
      fun src hsrc => hf6.appSl goodOut (by kernel_rfl) hi hz0 hz1 hz2 rfl (by decide) hs6 ((hrr.drop (by omega) hsrc).below goodOut hb06) (by unfold maxLen; omega) (by omega)
    have hsl6 := hf6.sl goodOut (fun q hq => hS q (by omega))
    obtain ⟨a6, c6, rfl, -⟩ := hsl6.slice
    rw [hlt] at hap hmk
    rw [hs3] at hap
    replace hmk := hid hmk
    replace hs03 := hid hs03
    clear hrr hld hfr hb05 hb5 hf6 hsl6 hi hz0 hz1 hz2
    have k1 : k ≤ vc := by omega
    have k2 : k + 1 ≤ l.length := by omega
    have k3 : (k : Int) ≤ (vc : Int) := by omega
    have k4 : (k : Int) + 1 ≤ (l.length : Int) := by omega
    have k5 : (0 : Int) ≤ (k : Int) + 1 := by omega
    rcases (by omega : vc = k + 1 ∨ k + 1 < vc) with hc | hc
    · subst hc
      obtain ⟨v8, W8, hap8, hf8, hb8⟩ := hmk.out ⟨bb, off, none⟩ (fun h => by omega)
      have hll : l.length = k + 1 := by omega
      rw [Nat.sub_self, hll, Nat.sub_self] at hap8
      simp only [hll] at hr k2 k4 hl
      rw [hll]
      clear hll
      have hb08 := hid (hb06.trans (hb8.mono hs03.out))
      have hf9 := hid (hf8.sl goodOut (fun q hq => hS q (by have := hs03.out; omega)))
      clear hmk hb06 hb6 hf8 hb8 hs6 hlt
      go_wp2_with (first | (at_builtin; refine wpList_append_shut rfl (.tmp 96) (.tmp 99) rfl rfl rfl hap ?_) | (at_builtin; refine wpList_append_shut rfl (.tmp 101) (.tmp 105) rfl rfl rfl hap8 ?_))
      go_ret2
      exact ⟨_, by rw [hy.out]; rfl, by rw [hy.out]; exact hf9.out, hb08.out⟩
    · obtain ⟨v8, W8, hap8, hf8, hb8⟩ := hmk.out ⟨bb, off + (k + 1) * 5, none⟩ (fun h => rfl)
      have k6 : ¬ vc = k + 1 := by omega
      have hb08 := hid (hb06.trans (hb8.mono hs03.out))
      have hf9 := hid (hf8.sl goodOut (fun q hq => hS q (by have := hs03.out; omega)))
      clear hmk hb06 hb6 hf8 hb8 hs6 hlt
      go_wp2_with (first | (at_builtin; refine wpList_append_shut rfl (.tmp 96) (.tmp 99) rfl rfl rfl hap ?_) | (at_builtin; refine wpList_append_shut rfl (.tmp 101) (.tmp 105) rfl rfl rfl hap8 ?_))
      go_ret2
      exact ⟨_, by rw [hy.out]; rfl, by rw [hy.out]; exact hf9.out, hb08.out⟩
set_option maxHeartbeats 4000000 in
set_option maxRecDepth 100000 in
theorem apply_part (key of new name : List UInt8) (args : List Val) (l : List Out) (hl : l.length ≤ 1048575) (S : Foot) (v : Value) (w : World) (hr : SlR 5 OutR S w l v) (cs : List Value) (hcr : CmdR S w ⟨key, 3, of, new, name, args⟩ cs) (hS : ∀ k, w.heap.size ≤ k → S k) :
    Calls Try.prog APPLY #[v, .agg cs.toArray] w (AppP S w (stepF l ⟨key, 3, of, new, name, args⟩)) := by
  obtain ⟨a1, k1, rfl, hvs⟩ := hcr
  have hb1 : Below w.heap.size w (w.alloc (.cells #[sv key, iv 3, sv of, sv new, sv name, .slice a1 args.length k1] 32)) := (Below.refl _ w).alloc (Nat.le_refl _) _
  have hbox1 := heap_alloc_new' w (.cells #[sv key, iv 3, sv of, sv new, sv name, .slice a1 args.length k1] 32)
  have hsz1 : (w.alloc (.cells #[sv key, iv 3, sv of, sv new, sv name, .slice a1 args.length k1] 32)).heap.size = w.heap.size + 1 := by simp
  obtain ⟨va, vc, rfl, -⟩ := hr.slice
  have hfind := hid (find44_any l (by omega) of S _ _ (hr.below goodOut hb1))
  generalize hres : stepF l ⟨key, 3, of, new, name, args⟩ = res
  replace hres := hid hres
  replace hbox1 := hid hbox1
  replace hb1 := hid hb1
  replace hr := hid hr
  replace hvs := hid hvs
  rcases idxF_bounds (keyP of) l with hx | ⟨k, o, hx, hkl, hok, hp, hpn⟩
  · skip
    have hx2 : findO l of = -1 := hx
    have hy : stepF l ⟨key, 3, of, new, name, args⟩ = (5, []) := by simp [stepF, hx2]
    rw [hres.out] at hy
    replace hy := hid hy
    go_enter Try.func27, Try.ntmps27
    go_wp2_with fail
    refine hfind.out.mono ?_
    rintro e W2 ⟨rfl, hb⟩
    have hs2 := hb.size
    rw [hsz1] at hs2
    have hb2 := hid (hb1.out.trans (hb.mono (by rw [hsz1]; omega)))
    have hbox2 := hid (below_keep hb hbox1.out (by rw [hsz1]; omega))
    clear hb hfind hbox1
    have x0 : W2.cell? ⟨w.heap.size, 0, none⟩ = some (sv key) := (cell_of hbox2.out).trans rfl
    have x1 : W2.cell? ⟨w.heap.size, 1, none⟩ = some (iv 3) := (cell_of hbox2.out).trans rfl
    have x2 : W2.cell? ⟨w.heap.size, 2, none⟩ = some (sv of) := (cell_of hbox2.out).trans rfl
    have x3 : W2.cell? ⟨w.heap.size, 3, none⟩ = some (sv new) := (cell_of hbox2.out).trans rfl
    have x4 : W2.cell? ⟨w.heap.size, 4, none⟩ = some (sv name) := (cell_of hbox2.out).trans rfl
    have x5 : W2.cell? ⟨w.heap.size, 5, none⟩ = some (.slice a1 args.length k1) := (cell_of hbox2.out).trans rfl
    rw [hx2]
    clear hx hx2
    go_wp2_with fail
    go_ret2
    exact ⟨_, by rw [hy.out]; rfl, by rw [hy.out]; exact SlR.nil _ _ _ _ _, hb2.out⟩
  · have hx2 : findO l of = (k : Nat) := hx
    obtain ⟨bb, off, rfl, hcap⟩ := hr.out.addr (by omega)
    go_enter Try.func27, Try.ntmps27
    go_wp2_with fail
    refine hfind.out.mono ?_
    rintro e W2 ⟨rfl, hb⟩
    have hs2 := hb.size
    rw [hsz1] at hs2
    have hb2 := hid (hb1.out.trans (hb.mono (by rw [hsz1]; omega)))
    have hbox2 := hid (below_keep hb hbox1.out (by rw [hsz1]; omega))
    clear hb hfind hbox1
    have x0 : W2.cell? ⟨w.heap.size, 0, none⟩ = some (sv key) := (cell_of hbox2.out).trans rfl
    have x1 : W2.cell? ⟨w.heap.size, 1, none⟩ = some (iv 3) := (cell_of hbox2.out).trans rfl
    have x2 : W2.cell? ⟨w.heap.size, 2, none⟩ = some (sv of) := (cell_of hbox2.out).trans rfl
    have x3 : W2.cell? ⟨w.heap.size, 3, none⟩ = some (sv new) := (cell_of hbox2.out).trans rfl
    have x4 : W2.cell? ⟨w.heap.size, 4, none⟩ = some (sv name) := (cell_of hbox2.out).trans rfl
    have x5 : W2.cell? ⟨w.heap.size, 5, none⟩ = some (.slice a1 args.length k1) := (cell_of hbox2.out).trans rfl
    have hb3 : Below W2.heap.size W2 (W2.alloc (.cells #[sv new, sv name, .slice a1 args.length k1, .bool false, iv 0] 54)) := (Below.refl _ W2).alloc (Nat.le_refl _) _
    have hbox3 := hid (below_keep hb3 hbox2.out (by omega))
    have hmade3 := hid (heap_alloc_new' W2 (.cells #[sv new, sv name, .slice a1 args.length k1, .bool false, iv 0] 54))
    have hb03 := hid (hb2.out.trans (hb3.mono hb2.out.size))
    have hs3 : (W2.alloc (.cells #[sv new, sv name, .slice a1 args.length k1, .bool false, iv 0] 54)).heap.size = W2.heap.size + 1 := by simp
    have hfind3 := hid (find44_any l (by omega) new S _ _ (hr.out.below goodOut hb03.out))
    clear hb3
    have z0 : (W2.alloc (.cells #[sv new, sv name, .slice a1 args.length k1, .bool false, iv 0] 54)).cell? ⟨w.heap.size, 0, none⟩ = some (sv key) := (cell_of hbox3.out).trans rfl
    have z1 : (W2.alloc (.cells #[sv new, sv name, .slice a1 args.length k1, .bool false, iv 0] 54)).cell? ⟨w.heap.size, 1, none⟩ = some (iv 3) := (cell_of hbox3.out).trans rfl
    have z2 : (W2.alloc (.cells #[sv new, sv name, .slice a1 args.length k1, .bool false, iv 0] 54)).cell? ⟨w.heap.size, 2, none⟩ = some (sv of) := (cell_of hbox3.out).trans rfl
    have z3 : (W2.alloc (.cells #[sv new, sv name, .slice a1 args.length k1, .bool false, iv 0] 54)).cell? ⟨w.heap.size, 3, none⟩ = some (sv new) := (cell_of hbox3.out).trans rfl
    have z4 : (W2.alloc (.cells #[sv new, sv name, .slice a1 args.length k1, .bool false, iv 0] 54)).cell? ⟨w.heap.size, 4, none⟩ = some (sv name) := (cell_of hbox3.out).trans rfl
    have z5 : (W2.alloc (.cells #[sv new, sv name, .slice a1 args.length k1, .bool false, iv 0] 54)).cell? ⟨w.heap.size, 5, none⟩ = some (.slice a1 args.length k1) := (cell_of hbox3.out).trans rfl
    have hrd := hr.out.below goodOut hb03.out
    obtain ⟨g, o2, ds, hidx, hSg, hg, hc, hRo⟩ := hrd.at (P := Try.prog) (t := 41) (by kernel_rfl) (fun _ => by kernel_rfl) hok
    obtain ⟨a3, k3, rfl, hvo⟩ := id hRo
    have y0 := hc 0 _ rfl
    have y1 := hc 1 _ rfl
    have y2 := hc 2 _ rfl
    have y3 := hc 3 _ rfl
    have y4 := hc 4 _ rfl
    rw [Nat.add_zero] at y0
    rw [hx2]
    clear hc hrd hfind3 hmade3 hp hpn
    cases hpt : o.part with
    | true =>
      have hy : stepF l ⟨key, 3, of, new, name, args⟩ = (16, []) := by simp [stepF, hx2, hok, hpt]
      rw [hres.out] at hy
      replace hy := hid hy
      rw [hpt] at y3
      have hb4 := hid (hb03.out.trans (((Below.refl _ (W2.alloc (.cells #[sv new, sv name, .slice a1 args.length k1, .bool false, iv 0] 54))).alloc (Nat.le_refl _) (.cells #[sv o.key, sv o.name, .slice a3 o.args.length k3, .bool true, iv o.tick] 54)).mono hb03.out.size))
      clear hx hx2 hok hpt hRo
      go_wp2_with fail
      go_ret2
      exact ⟨_, by rw [hy.out]; rfl, by rw [hy.out]; exact SlR.nil _ _ _ _ _, hb4.out⟩
    | false =>
      have hset : l.modify k (fun o => { o with part := true }) = l.set k ⟨o.key, o.name, o.args, true, o.tick⟩ := by
        apply List.ext_getElem?
        intro i
        rw [List.getElem?_modify, List.getElem?_set]
        by_cases e : k = i
        · subst e; simp [(List.getElem?_eq_some_iff.1 hok).2, hkl]
        · simp [e]
      have hy : stepF l ⟨key, 3, of, new, name, args⟩ = (0, l.set k ⟨o.key, o.name, o.args, true, o.tick⟩) := by rw [← hset]; simp [stepF, hx2, hok, hpt]
      rw [hres.out] at hy
      replace hy := hid hy
      rw [hpt] at y3
      have hb4 : Below (W2.alloc (.cells #[sv new, sv name, .slice a1 args.length k1, .bool false, iv 0] 54)).heap.size (W2.alloc (.cells #[sv new, sv name, .slice a1 args.length k1, .bool false, iv 0] 54)) ((W2.alloc (.cells #[sv new, sv name, .slice a1 args.length k1, .bool false, iv 0] 54)).alloc (.cells #[sv o.key, sv o.name, .slice a3 o.args.length k3, .bool true, iv o.tick] 54)) := (Below.refl _ (W2.alloc (.cells #[sv new, sv name, .slice a1 args.length k1, .bool false, iv 0] 54))).alloc (Nat.le_refl _) _
      have hb04 := hid (hb03.out.trans (hb4.mono hb03.out.size))
      have hput := hid (put44_any l (by omega) k hkl ⟨o.key, o.name, o.args, true, o.tick⟩ (outCs ⟨o.key, o.name, o.args, true, o.tick⟩ (.slice a3 o.args.length k3)) S _ _ (hr.out.below goodOut hb04.out) (goodOut.below (goodOut.below (outR_shut (o := ⟨o.key, o.name, o.args, true, o.tick⟩) hvo) (Below.refl _ _)) hb4) (fun q hq => hS q (Nat.le_trans hb04.out.size hq)))
      clear hx hx2 hok hpt hRo hvo hb4 hset
      go_wp2_with fail
      refine hput.out.mono ?_
      rintro e W6 ⟨v6, rfl, hO, hb6⟩
      have hb06 := hid (hb04.out.trans (hb6.mono hb04.out.size))
      replace hO := hid hO
      clear hput hb6
      go_wp2_with fail
      go_ret2
      exact ⟨_, by rw [hy.out]; rfl, by rw [hy.out]; exact hO.out, hb06.out⟩
set_option maxHeartbeats 4000000 in
set_option maxRecDepth 100000 in
theorem apply_amend (key of new name : List UInt8) (args : List Val) (l : List Out) (hl : l.length ≤ 1048575) (S : Foot) (v : Value) (w : World) (hr : SlR 5 OutR S w l v) (cs : List Value) (hcr : CmdR S w ⟨key, 4, of, new, name, args⟩ cs) (hS : ∀ k, w.heap.size ≤ k → S k) :
    Calls Try.prog APPLY #[v, .agg cs.toArray] w (AppP S w (stepF l ⟨key, 4, of, new, name, args⟩)) := by
  obtain ⟨a1, k1, rfl, hvs⟩ := hcr
  have hb1 : Below w.heap.size w (w.alloc (.cells #[sv key, iv 4, sv of, sv new, sv name, .slice a1 args.length k1] 32)) := (Below.refl _ w).alloc (Nat.le_refl _) _
  have hbox1 := heap_alloc_new' w (.cells #[sv key, iv 4, sv of, sv new, sv name, .slice a1 args.length k1] 32)
  have hsz1 : (w.alloc (.cells #[sv key, iv 4, sv of, sv new, sv name, .slice a1 args.length k1] 32)).heap.size = w.heap.size + 1 := by simp
  obtain ⟨va, vc, rfl, -⟩ := hr.slice
  have hfind := hid (find44_any l (by omega) of S _ _ (hr.below goodOut hb1))
  generalize hres : stepF l ⟨key, 4, of, new, name, args⟩ = res
  replace hres := hid hres
  replace hbox1 := hid hbox1
  replace hb1 := hid hb1
  replace hr := hid hr
  replace hvs := hid hvs
  rcases idxF_bounds (keyP of) l with hx | ⟨k, o, hx, hkl, hok, hp, hpn⟩
  · skip
    have hx2 : findO l of = -1 := hx
    have hy : stepF l ⟨key, 4, of, new, name, args⟩ = (5, []) := by simp [stepF, hx2]
    rw [hres.out] at hy
    replace hy := hid hy
    go_enter Try.func27, Try.ntmps27
    go_wp2_with fail
    refine hfind.out.mono ?_
    rintro e W2 ⟨rfl, hb⟩
    have hs2 := hb.size
    rw [hsz1] at hs2
    have hb2 := hid (hb1.out.trans (hb.mono (by rw [hsz1]; omega)))
    have hbox2 := hid (below_keep hb hbox1.out (by rw [hsz1]; omega))
    clear hb hfind hbox1
    have x0 : W2.cell? ⟨w.heap.size, 0, none⟩ = some (sv key) := (cell_of hbox2.out).trans rfl
    have x1 : W2.cell? ⟨w.heap.size, 1, none⟩ = some (iv 4) := (cell_of hbox2.out).trans rfl
    have x2 : W2.cell? ⟨w.heap.size, 2, none⟩ = some (sv of) := (cell_of hbox2.out).trans rfl
    have x3 : W2.cell? ⟨w.heap.size, 3, none⟩ = some (sv new) := (cell_of hbox2.out).trans rfl
    have x4 : W2.cell? ⟨w.heap.size, 4, none⟩ = some (sv name) := (cell_of hbox2.out).trans rfl
    have x5 : W2.cell? ⟨w.heap.size, 5, none⟩ = some (.slice a1 args.length k1) := (cell_of hbox2.out).trans rfl
    rw [hx2]
    clear hx hx2
    go_wp2_with fail
    go_ret2
    exact ⟨_, by rw [hy.out]; rfl, by rw [hy.out]; exact SlR.nil _ _ _ _ _, hb2.out⟩
  · have hx2 : findO l of = (k : Nat) := hx
    clear hx hp hpn hok
    rcases new with _ | ⟨nc, nr⟩
    · have hy : stepF l ⟨key, 4, of, [], name, args⟩ = (1, []) := by simp [stepF, hx2]
      rw [hres.out] at hy
      replace hy := hid hy
      go_enter Try.func27, Try.ntmps27
      go_wp2_with fail
      refine hfind.out.mono ?_
      rintro e W2 ⟨rfl, hb⟩
      have hs2 := hb.size
      rw [hsz1] at hs2
      have hb2 := hid (hb1.out.trans (hb.mono (by rw [hsz1]; omega)))
      have hbox2 := hid (below_keep hb hbox1.out (by rw [hsz1]; omega))
      clear hb hfind hbox1
      have x0 : W2.cell? ⟨w.heap.size, 0, none⟩ = some (sv key) := (cell_of hbox2.out).trans rfl
      have x1 : W2.cell? ⟨w.heap.size, 1, none⟩ = some (iv 4) := (cell_of hbox2.out).trans rfl
      have x2 : W2.cell? ⟨w.heap.size, 2, none⟩ = some (sv of) := (cell_of hbox2.out).trans rfl
      have x3 : W2.cell? ⟨w.heap.size, 3, none⟩ = some (.string .empty) := (cell_of hbox2.out).trans rfl
      have x4 : W2.cell? ⟨w.heap.size, 4, none⟩ = some (sv name) := (cell_of hbox2.out).trans rfl
      have x5 : W2.cell? ⟨w.heap.size, 5, none⟩ = some (.slice a1 args.length k1) := (cell_of hbox2.out).trans rfl
      have hb3 : Below W2.heap.size W2 (W2.alloc (.cells #[.string .empty, sv name, .slice a1 args.length k1, .bool false, iv 0] 54)) := (Below.refl _ W2).alloc (Nat.le_refl _) _
      have hbox3 := hid (below_keep hb3 hbox2.out (by omega))
      have hmade3 := hid (heap_alloc_new' W2 (.cells #[.string .empty, sv name, .slice a1 args.length k1, .bool false, iv 0] 54))
      have hb03 := hid (hb2.out.trans (hb3.mono hb2.out.size))
      have hs3 : (W2.alloc (.cells #[.string .empty, sv name, .slice a1 args.length k1, .bool false, iv 0] 54)).heap.size = W2.heap.size + 1 := by simp
      have hfind3 := hid (find44_any l (by omega) [] S _ _ (hr.out.below goodOut hb03.out))
      clear hb3
      have z0 : (W2.alloc (.cells #[.string .empty, sv name, .slice a1 args.length k1, .bool false, iv 0] 54)).cell? ⟨w.heap.size, 0, none⟩ = some (sv key) := (cell_of hbox3.out).trans rfl
      have z1 : (W2.alloc (.cells #[.string .empty, sv name, .slice a1 args.length k1, .bool false, iv 0] 54)).cell? ⟨w.heap.size, 1, none⟩ = some (iv 4) := (cell_of hbox3.out).trans rfl
      have z2 : (W2.alloc (.cells #[.string .empty, sv name, .slice a1 args.length k1, .bool false, iv 0] 54)).cell? ⟨w.heap.size, 2, none⟩ = some (sv of) := (cell_of hbox3.out).trans rfl
      have z3 : (W2.alloc (.cells #[.string .empty, sv name, .slice a1 args.length k1, .bool false, iv 0] 54)).cell? ⟨w.heap.size, 3, none⟩ = some (.string .empty) := (cell_of hbox3.out).trans rfl
      have z4 : (W2.alloc (.cells #[.string .empty, sv name, .slice a1 args.length k1, .bool false, iv 0] 54)).cell? ⟨w.heap.size, 4, none⟩ = some (sv name) := (cell_of hbox3.out).trans rfl
      have z5 : (W2.alloc (.cells #[.string .empty, sv name, .slice a1 args.length k1, .bool false, iv 0] 54)).cell? ⟨w.heap.size, 5, none⟩ = some (.slice a1 args.length k1) := (cell_of hbox3.out).trans rfl
      rw [hx2]
      clear hx2 hfind3
      go_wp2_with fail
      go_ret2
      exact ⟨_, by rw [hy.out]; rfl, by rw [hy.out]; exact SlR.nil _ _ _ _ _, hb03.out⟩
    · skip
      go_enter Try.func27, Try.ntmps27
      go_wp2_with fail
      refine hfind.out.mono ?_
      rintro e W2 ⟨rfl, hb⟩
      have hs2 := hb.size
      rw [hsz1] at hs2
      have hb2 := hid (hb1.out.trans (hb.mono (by rw [hsz1]; omega)))
      have hbox2 := hid (below_keep hb hbox1.out (by rw [hsz1]; omega))
      clear hb hfind hbox1
      have x0 : W2.cell? ⟨w.heap.size, 0, none⟩ = some (sv key) := (cell_of hbox2.out).trans rfl
      have x1 : W2.cell? ⟨w.heap.size, 1, none⟩ = some (iv 4) := (cell_of hbox2.out).trans rfl
      have x2 : W2.cell? ⟨w.heap.size, 2, none⟩ = some (sv of) := (cell_of hbox2.out).trans rfl
      have x3 : W2.cell? ⟨w.heap.size, 3, none⟩ = some (sv (nc :: nr)) := (cell_of hbox2.out).trans rfl
      have x4 : W2.cell? ⟨w.heap.size, 4, none⟩ = some (sv name) := (cell_of hbox2.out).trans rfl
      have x5 : W2.cell? ⟨w.heap.size, 5, none⟩ = some (.slice a1 args.length k1) := (cell_of hbox2.out).trans rfl
      have hb3 : Below W2.heap.size W2 (W2.alloc (.cells #[sv (nc :: nr), sv name, .slice a1 args.length k1, .bool false, iv 0] 54)) := (Below.refl _ W2).alloc (Nat.le_refl _) _
      have hbox3 := hid (below_keep hb3 hbox2.out (by omega))
      have hmade3 := hid (heap_alloc_new' W2 (.cells #[sv (nc :: nr), sv name, .slice a1 args.length k1, .bool false, iv 0] 54))
      have hb03 := hid (hb2.out.trans (hb3.mono hb2.out.size))
      have hs3 : (W2.alloc (.cells #[sv (nc :: nr), sv name, .slice a1 args.length k1, .bool false, iv 0] 54)).heap.size = W2.heap.size + 1 := by simp
      have hfind3 := hid (find44_any l (by omega) (nc :: nr) S _ _ (hr.out.below goodOut hb03.out))
      clear hb3
      have z0 : (W2.alloc (.cells #[sv (nc :: nr), sv name, .slice a1 args.length k1, .bool false, iv 0] 54)).cell? ⟨w.heap.size, 0, none⟩ = some (sv key) := (cell_of hbox3.out).trans rfl
      have z1 : (W2.alloc (.cells #[sv (nc :: nr), sv name, .slice a1 args.length k1, .bool false, iv 0] 54)).cell? ⟨w.heap.size, 1, none⟩ = some (iv 4) := (cell_of hbox3.out).trans rfl
      have z2 : (W2.alloc (.cells #[sv (nc :: nr), sv name, .slice a1 args.length k1, .bool false, iv 0] 54)).cell? ⟨w.heap.size, 2, none⟩ = some (sv of) := (cell_of hbox3.out).trans rfl
      have z3 : (W2.alloc (.cells #[sv (nc :: nr), sv name, .slice a1 args.length k1, .bool false, iv 0] 54)).cell? ⟨w.heap.size, 3, none⟩ = some (sv (nc :: nr)) := (cell_of hbox3.out).trans rfl
      have z4 : (W2.alloc (.cells #[sv (nc :: nr), sv name, .slice a1 args.length k1, .bool false, iv 0] 54)).cell? ⟨w.heap.size, 4, none⟩ = some (sv name) := (cell_of hbox3.out).trans rfl
      have z5 : (W2.alloc (.cells #[sv (nc :: nr), sv name, .slice a1 args.length k1, .bool false, iv 0] 54)).cell? ⟨w.heap.size, 5, none⟩ = some (.slice a1 args.length k1) := (cell_of hbox3.out).trans rfl
      rw [hx2]
      go_wp2_with fail
      clear x0 x1 x2 x3 x4 x5 z0 z1 z2 z3 z4 z5
      refine hfind3.out.mono ?_
      rintro e W4 ⟨rfl, hb⟩
      have hs4 := hb.size
      rw [hs3] at hs4
      have hb4 := hid (hb03.out.trans (hb.mono hb03.out.size))
      have hbox4 := hid (below_keep hb hbox3.out (by rw [hs3]; omega))
      have hmade4 := hid (below_keep hb hmade3.out (by rw [hs3]; omega))
      clear hb hfind3 hbox3 hmade3 hb03
      have x0 : W4.cell? ⟨w.heap.size, 0, none⟩ = some (sv key) := (cell_of hbox4.out).trans rfl
      have x1 : W4.cell? ⟨w.heap.size, 1, none⟩ = some (iv 4) := (cell_of hbox4.out).trans rfl
      have x2 : W4.cell? ⟨w.heap.size, 2, none⟩ = some (sv of) := (cell_of hbox4.out).trans rfl
      have x3 : W4.cell? ⟨w.heap.size, 3, none⟩ = some (sv (nc :: nr)) := (cell_of hbox4.out).trans rfl
      have x4 : W4.cell? ⟨w.heap.size, 4, none⟩ = some (sv name) := (cell_of hbox4.out).trans rfl
      have x5 : W4.cell? ⟨w.heap.size, 5, none⟩ = some (.slice a1 args.length k1) := (cell_of hbox4.out).trans rfl
      have y0 : W4.cell? ⟨W2.heap.size, 0, none⟩ = some (sv (nc :: nr)) := (cell_of hmade4.out).trans rfl
      have y1 : W4.cell? ⟨W2.heap.size, 1, none⟩ = some (sv name) := (cell_of hmade4.out).trans rfl
      have y2 : W4.cell? ⟨W2.heap.size, 2, none⟩ = some (.slice a1 args.length k1) := (cell_of hmade4.out).trans rfl
      have y3 : W4.cell? ⟨W2.heap.size, 3, none⟩ = some (.bool false) := (cell_of hmade4.out).trans rfl
      have y4 : W4.cell? ⟨W2.heap.size, 4, none⟩ = some (iv 0) := (cell_of hmade4.out).trans rfl
      rcases idxF_bounds (keyP (nc :: nr)) l with gx | ⟨k2, o2, gx, gkl, gok, gp, gpn⟩
      · have gx2 : findO l (nc :: nr) = -1 := gx
        rw [gx2]
        have hy : stepF l ⟨key, 4, of, nc :: nr, name, args⟩ = (0, l.set k (outOf ⟨key, 4, of, nc :: nr, name, args⟩)) := by simp [stepF, hx2, gx2]
        clear hx2 gx gx2
        rw [hres.out] at hy
        replace hy := hid hy
        have hput := hid (put44_any l (by omega) k hkl (outOf ⟨key, 4, of, nc :: nr, name, args⟩) (outCs (outOf ⟨key, 4, of, nc :: nr, name, args⟩) (.slice a1 args.length k1)) S _ _ (hr.out.below goodOut hb4.out) (goodOut.below (outR_shut (o := outOf ⟨key, 4, of, nc :: nr, name, args⟩) hvs.out) hb4.out) (fun q hq => hS q (Nat.le_trans hb4.out.size hq)))
        go_wp2_with fail
        refine hput.out.mono ?_
        rintro e W6 ⟨v6, rfl, hO, hb6⟩
        have hb06 := hid (hb4.out.trans (hb6.mono hb4.out.size))
        replace hO := hid hO
        clear hput hb6
        go_wp2_with fail
        go_ret2
        exact ⟨_, by rw [hy.out]; rfl, by rw [hy.out]; exact hO.out, hb06.out⟩
      · have gx2 : findO l (nc :: nr) = (k2 : Nat) := gx
        rw [gx2]
        by_cases he : nc :: nr = of
        · have hy : stepF l ⟨key, 4, of, nc :: nr, name, args⟩ = (0, l.set k (outOf ⟨key, 4, of, nc :: nr, name, args⟩)) := by subst he; simp [stepF, hx2]
          have heb : (nc :: nr == of) = true := by simpa using he
          have hnb : (nc :: nr != of) = false := by simpa using he
          clear hx2 gx gx2 gok gp gpn he
          rw [hres.out] at hy
          replace hy := hid hy
          have hput := hid (put44_any l (by omega) k hkl (outOf ⟨key, 4, of, nc :: nr, name, args⟩) (outCs (outOf ⟨key, 4, of, nc :: nr, name, args⟩) (.slice a1 args.length k1)) S _ _ (hr.out.below goodOut hb4.out) (goodOut.below (outR_shut (o := outOf ⟨key, 4, of, nc :: nr, name, args⟩) hvs.out) hb4.out) (fun q hq => hS q (Nat.le_trans hb4.out.size hq)))
          go_wp2_with fail
          refine hput.out.mono ?_
          rintro e W6 ⟨v6, rfl, hO, hb6⟩
          have hb06 := hid (hb4.out.trans (hb6.mono hb4.out.size))
          replace hO := hid hO
          clear hput hb6
          go_wp2_with fail
          go_ret2
          exact ⟨_, by rw [hy.out]; rfl, by rw [hy.out]; exact hO.out, hb06.out⟩
        · have hy : stepF l ⟨key, 4, of, nc :: nr, name, args⟩ = (4, []) := by simp [stepF, hx2, gx2, he]
          rw [hres.out] at hy
          replace hy := hid hy
          have heb : (nc :: nr == of) = false := by simpa using he
          have hnb : (nc :: nr != of) = true := by simpa using he
          clear hx2 gx gx2 gok gp gpn he
          go_wp2_with fail
          go_ret2
          exact ⟨_, by rw [hy.out]; rfl, by rw [hy.out]; exact SlR.nil _ _ _ _ _, hb4.out⟩
end Go.Proofs.Ythagdeadmoidnaa
