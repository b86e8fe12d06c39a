/- Chapter 05 (disk): one Disk alone; the law's small example holds. -/
import Derived.Test.YtdapjoapndemkaaDiskW9
set_option linter.unusedVariables false
namespace Go.Proofs.Ytdapjoapndemkaa
open Go.RowKit
open Go.Lib (hid)
theorem row_new (w : World) (cs : List Value) (t : TypeId) : Row (w.alloc (.cells cs.toArray t)).heap.size (w.alloc (.cells cs.toArray t)) 1 (.slice (some ⟨w.heap.size, 0, none⟩) cs.length cs.length) cs.length cs :=
  ⟨_, _, w.heap.size, 0, rfl, by simp, fun _ => ⟨rfl, by simp⟩, fun j hj => by rw [Nat.zero_add, cell_of (heap_alloc_new' _ _)]; simp [hj]⟩
theorem dk_alloc {F : Nat → Prop} {b : Nat} {d : DS} {w : World} (h : DkD F b d w) (o : Obj) : DkD F b d (w.alloc o) := h.fr ((Fr.refl (fun _ => False) w).alloc o) (fun _ _ h => h)
theorem dk_below {F : Nat → Prop} {b : Nat} {d : DS} {w w' : World} (h : DkD F b d w) (hb : Below w.heap.size w w') : DkD F b d w' := h.fr (Fr.of_below hb (fun _ => False)) (fun _ _ h => h)
theorem app_s (B b : Nat) (d : DS) (f : Int) (s : List UInt8) (w : World) (h : DkD (from_ B) b d w) (hB : B ≤ w.heap.size) (hs : s.length ≤ 140737488351232) : Calls Try.prog 11 #[pt b, iv f, sv s] w fun e w' => e = .returned (iv (app1 f s d)) ∧ DkD (from_ B) b (app2 f s d) w' ∧ Below B w w' :=
  (append_any (from_ B) b d f s w h hs).mono fun _ _ h => h.solo hB
theorem flush_s (B b : Nat) (d : DS) (f : Int) (w : World) (h : DkD (from_ B) b d w) (hB : B ≤ w.heap.size) : Calls Try.prog 12 #[pt b, iv f] w fun e w' => e = .returned (iv (flush1 f d)) ∧ DkD (from_ B) b (flush2 f d) w' ∧ Below B w w' :=
  (flush_any (from_ B) b d f w h).mono fun _ _ h => h.solo hB
theorem cut_s (B b : Nat) (d : DS) (f m : Int) (w : World) (h : DkD (from_ B) b d w) (hB : B ≤ w.heap.size) : Calls Try.prog 33 #[pt b, iv f, iv m] w fun e w' => e = .returned (iv (cut1 f m d)) ∧ DkD (from_ B) b (cut2 f m d) w' ∧ Below B w w' :=
  (cut_any (from_ B) b d f m w h).mono fun _ _ h => h.solo hB
theorem turn_s (B b : Nat) (d : DS) (f g : Int) (w : World) (h : DkD (from_ B) b d w) (hB : B ≤ w.heap.size) : Calls Try.prog 13 #[pt b, iv f, iv g] w fun e w' => e = .returned (iv (turn1 f g d)) ∧ DkD (from_ B) b (turn2 f g d) w' ∧ Below B w w' :=
  (turn_any (from_ B) b d f g w h).mono fun _ _ h => h.solo hB
theorem lose_s (B b : Nat) (d : DS) (n : Int) (w : World) (h : DkD (from_ B) b d w) (hB : B ≤ w.heap.size) (hn : n ≤ 9223372036854775807) : Calls Try.prog 24 #[pt b, iv n] w fun e w' => e = .returned (.tuple #[]) ∧ DkD (from_ B) b (dLose n d) w' ∧ Below B w w' :=
  (lose_any (from_ B) b d n w h hn).mono fun _ _ h => h.solo hB
theorem start_s (B b : Nat) (d : DS) (w : World) (h : DkD (from_ B) b d w) (hB : B ≤ w.heap.size) : Calls Try.prog 15 #[pt b] w fun e w' => e = .returned (.tuple #[]) ∧ DkD (from_ B) b (dStart d) w' ∧ Below B w w' :=
  (start_any (from_ B) b d w h).mono fun _ _ h => h.solo hB
theorem crash_s (B b : Nat) (d : DS) (l : List Int) (v : Value) (w : World) (h : DkD (from_ B) b d w) (hB : B ≤ w.heap.size) (hv : Row w.heap.size w 1 v l.length (l.map iv)) (hl : l.length ≤ 140737488355328) (hx : ∀ x ∈ l, x ≤ 9223372036854775807) : Calls Try.prog 14 #[pt b, v] w fun e w' => e = .returned (.tuple #[]) ∧ DkD (from_ B) b (dCrash l d) w' ∧ Below B w w' :=
  (crash_any (from_ B) b d l v w h hv hl hx).mono fun _ _ h => h.solo hB
theorem arm_s (B b : Nat) (d : DS) (n : Int) (l : List Int) (v : Value) (w : World) (h : DkD (from_ B) b d w) (hB : B ≤ w.heap.size) (hn : n ≤ 9223372036854775807) (hv : ∀ w', Fr (from_ B) w w' → Row w'.heap.size w' 1 v l.length (l.map iv)) (hl : l.length ≤ 140737488355328) (hx : ∀ x ∈ l, x ≤ 9223372036854775807) : Calls Try.prog 23 #[pt b, iv n, v] w fun e w' => e = .returned (.tuple #[]) ∧ DkD (from_ B) b (dArm n l d) w' ∧ Below B w w' :=
  (arm_any (from_ B) b d n l v w h hn hv hl hx).mono fun _ _ h => h.solo hB
def ex1 : DS := app2 1 [104,101,108,108,111] dNew
def ex2 : DS := flush2 1 ex1
def ex3 : DS := app2 1 [121,111,117] ex2
def ex4 : DS := dCrash [9, 1] ex3
def ex5 : DS := dStart ex4
def ex6 : DS := dLose 1 ex5
def ex7 : DS := flush2 1 ex6
def ex8 : DS := app2 2 [120] ex7
def ex9 : DS := turn2 1 2 ex8
def ex10 : DS := flush2 2 ex9
def ex11 : DS := turn2 1 2 ex10
def ex12 : DS := app2 8 [] ex11
def ex13 : DS := cut2 1 2 ex12
set_option maxRecDepth 100000 in
set_option maxHeartbeats 4000000 in
theorem small_any (w : World) : Calls Try.prog 9 #[] w fun e w' => e = .returned (.bool true) ∧ Below w.heap.size w w' := by
  go_enter Try.func9, Try.ntmps9
  go_wp2_with fail
  refine (new_any _).mono ?_
  rintro e w0 ⟨rfl, h, hB, hz⟩
  clear hz
  have hd := hid h
  clear h
  go_wp2_with fail
  refine (app_s _ _ dNew 1 [104,101,108,108,111] _ hd.out hB.size (by decide)).mono ?_
  rintro e w1 ⟨rfl, h, hb⟩
  replace hB := hB.trans hb
  rw [show app1 1 [104,101,108,108,111] dNew = 0 by decide +kernel]
  replace hd := hid (show DkD (from_ w.heap.size) w.heap.size ex1 w1 from h)
  clear h hb
  go_wp2_with fail
  refine (flush_s _ _ ex1 1 _ hd.out hB.size).mono ?_
  rintro e w2 ⟨rfl, h, hb⟩
  replace hB := hB.trans hb
  rw [show flush1 1 ex1 = 0 by decide +kernel]
  replace hd := hid (show DkD (from_ w.heap.size) w.heap.size ex2 w2 from h)
  clear h hb
  go_wp2_with fail
  refine (app_s _ _ ex2 1 [121,111,117] _ hd.out hB.size (by decide)).mono ?_
  rintro e w3 ⟨rfl, h, hb⟩
  replace hB := hB.trans hb
  rw [show app1 1 [121,111,117] ex2 = 0 by decide +kernel]
  replace hd := hid (show DkD (from_ w.heap.size) w.heap.size ex3 w3 from h)
  clear h hb
  go_wp2_with fail
  refine (crash_s _ _ ex3 [9, 1] _ _ (dk_alloc hd.out _) (Nat.le_trans hB.size (by simp)) (row_new _ [iv 9, iv 1] _) (by decide) (by decide)).mono ?_
  rintro e w4 ⟨rfl, h, hb⟩
  replace hB := (hB.alloc hB.size _).trans hb
  replace hd := hid (show DkD (from_ w.heap.size) w.heap.size ex4 w4 from h)
  clear h hb
  go_wp2_with fail
  refine (read_any (from_ w.heap.size) _ ex4 1 _ hd.out).mono ?_
  rintro e w5 ⟨rfl, rfl⟩
  rw [show read1 1 ex4 = 12 by decide +kernel, show read2 1 ex4 = [] by decide +kernel]
  go_wp2_with fail
  refine (down_any (from_ w.heap.size) _ ex4 _ hd.out).mono ?_
  rintro e w6 ⟨rfl, rfl⟩
  rw [show ex4.down = true by decide +kernel]
  go_wp2_with fail
  refine (start_s _ _ ex4 _ hd.out hB.size).mono ?_
  rintro e w7 ⟨rfl, h, hb⟩
  replace hB := hB.trans hb
  replace hd := hid (show DkD (from_ w.heap.size) w.heap.size ex5 w7 from h)
  clear h hb
  go_wp2_with fail
  refine (read_any (from_ w.heap.size) _ ex5 1 _ hd.out).mono ?_
  rintro e w8 ⟨rfl, rfl⟩
  rw [show read1 1 ex5 = 0 by decide +kernel, show read2 1 ex5 = [104,101,108,108,111,121] by decide +kernel]
  go_wp2_with fail
  refine (lose_s _ _ ex5 1 _ hd.out hB.size (by decide)).mono ?_
  rintro e w9 ⟨rfl, h, hb⟩
  replace hB := hB.trans hb
  replace hd := hid (show DkD (from_ w.heap.size) w.heap.size ex6 w9 from h)
  clear h hb
  go_wp2_with fail
  refine (flush_s _ _ ex6 1 _ hd.out hB.size).mono ?_
  rintro e w10 ⟨rfl, h, hb⟩
  replace hB := hB.trans hb
  rw [show flush1 1 ex6 = 13 by decide +kernel]
  replace hd := hid (show DkD (from_ w.heap.size) w.heap.size ex7 w10 from h)
  clear h hb
  go_wp2_with fail
  refine (app_s _ _ ex7 2 [120] _ hd.out hB.size (by decide)).mono ?_
  rintro e w11 ⟨rfl, h, hb⟩
  replace hB := hB.trans hb
  rw [show app1 2 [120] ex7 = 0 by decide +kernel]
  replace hd := hid (show DkD (from_ w.heap.size) w.heap.size ex8 w11 from h)
  clear h hb
  go_wp2_with fail
  refine (turn_s _ _ ex8 1 2 _ hd.out hB.size).mono ?_
  rintro e w12 ⟨rfl, h, hb⟩
  replace hB := hB.trans hb
  rw [show turn1 1 2 ex8 = 16 by decide +kernel]
  replace hd := hid (show DkD (from_ w.heap.size) w.heap.size ex9 w12 from h)
  clear h hb
  go_wp2_with fail
  refine (flush_s _ _ ex9 2 _ hd.out hB.size).mono ?_
  rintro e w13 ⟨rfl, h, hb⟩
  replace hB := hB.trans hb
  rw [show flush1 2 ex9 = 0 by decide +kernel]
  replace hd := hid (show DkD (from_ w.heap.size) w.heap.size ex10 w13 from h)
  clear h hb
  go_wp2_with fail
  refine (turn_s _ _ ex10 1 2 _ hd.out hB.size).mono ?_
  rintro e w14 ⟨rfl, h, hb⟩
  replace hB := hB.trans hb
  rw [show turn1 1 2 ex10 = 0 by decide +kernel]
  replace hd := hid (show DkD (from_ w.heap.size) w.heap.size ex11 w14 from h)
  clear h hb
  go_wp2_with fail
  refine (read_any (from_ w.heap.size) _ ex11 1 _ hd.out).mono ?_
  rintro e w15 ⟨rfl, rfl⟩
  rw [show read1 1 ex11 = 0 by decide +kernel, show read2 1 ex11 = [120] by decide +kernel]
  go_wp2_with fail
  refine (size_any (from_ w.heap.size) _ ex11 2 _ hd.out).mono ?_
  rintro e w16 ⟨rfl, rfl⟩
  rw [show size1 2 ex11 = 0 by decide +kernel]
  go_wp2_with fail
  refine (app_s _ _ ex11 8 [] _ hd.out hB.size (by decide)).mono ?_
  rintro e w17 ⟨rfl, h, hb⟩
  replace hB := hB.trans hb
  rw [show app1 8 [] ex11 = 1 by decide +kernel]
  replace hd := hid (show DkD (from_ w.heap.size) w.heap.size ex12 w17 from h)
  clear h hb
  go_wp2_with fail
  refine (cut_s _ _ ex12 1 2 _ hd.out hB.size).mono ?_
  rintro e w18 ⟨rfl, h, hb⟩
  replace hB := hB.trans hb
  rw [show cut1 1 2 ex12 = 1 by decide +kernel]
  replace hd := hid (show DkD (from_ w.heap.size) w.heap.size ex13 w18 from h)
  clear h hb
  go_wp2_with fail
  go_ret
  exact ⟨rfl, hB⟩
end Go.Proofs.Ytdapjoapndemkaa
