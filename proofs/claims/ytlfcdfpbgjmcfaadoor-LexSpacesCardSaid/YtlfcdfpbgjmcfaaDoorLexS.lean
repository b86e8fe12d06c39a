/- lex: walks: small. -/
import Derived.Test.YtlfcdfpbgjmcfaaDoorLexW8
import Derived.Test.YtlfcdfpbgjmcfaaDoorLexW9
import Derived.Laws.StructEq
set_option linter.unusedVariables false
set_option linter.unusedSimpArgs false
namespace Go.Proofs.YtlfcdfpbgjmcfaaDoor
open Go.RowKit
open Go.Lib (hid byteCells itoa)
def smallL : List Tk := [⟨1, [97], 0, 0⟩, ⟨4, [60, 61], 0, 2⟩, ⟨2, [], 12, 5⟩, ⟨3, [120, 10, 34], 0, 13⟩, ⟨4, [95], 0, 20⟩, ⟨1, [98, 49], 0, 21⟩, ⟨4, [58, 45], 0, 23⟩, ⟨4, [61, 62], 0, 25⟩]
def isOk (r : Except (Int × Int) (List Tk)) (l : List Tk) : Bool := match r with | .ok x => decide (x.map (fun t => (t.kind, t.text, t.n, t.pos)) = l.map (fun t => (t.kind, t.text, t.n, t.pos))) | .error _ => false
def isErr (r : Except (Int × Int) (List Tk)) (x : Int × Int) : Bool := match r with | .ok _ => false | .error y => decide (y = x)
theorem tk_inj {a b : List Tk} (h : a.map (fun t => (t.kind, t.text, t.n, t.pos)) = b.map (fun t => (t.kind, t.text, t.n, t.pos))) : a = b := by
  induction a generalizing b with
  | nil => cases b with
    | nil => rfl
    | cons y b => simp at h
  | cons x a ih =>
    cases b with
    | nil => simp at h
    | cons y b =>
      simp only [List.map_cons, List.cons.injEq, Prod.mk.injEq] at h
      obtain ⟨⟨h1, h2, h3, h4⟩, h5⟩ := h
      rw [ih h5]
      obtain ⟨a1, a2, a3, a4⟩ := x
      obtain ⟨b1, b2, b3, b4⟩ := y
      simp only at h1 h2 h3 h4
      subst h1 h2 h3 h4
      rfl
theorem ok_of {r : Except (Int × Int) (List Tk)} {l : List Tk} (h : isOk r l = true) : r = .ok l := by
  cases r with
  | ok x => rw [tk_inj (of_decide_eq_true h)]
  | error y => cases h
theorem err_of {r : Except (Int × Int) (List Tk)} {x : Int × Int} (h : isErr r x = true) : r = .error x := by
  cases r with
  | ok x => cases h
  | error y => rw [of_decide_eq_true h]
theorem sm1 : scanF [97, 32, 60, 61, 32, 49, 50, 32, 47, 47, 32, 99, 10, 34, 120, 92, 110, 92, 34, 34, 95, 98, 49, 58, 45, 61, 62] = .ok smallL := ok_of (by decide +kernel)
theorem sm2 : scanF [97, 32, 48, 48, 55] = .error (2, 2) := err_of (by decide +kernel)
theorem sm3 : scanF [97, 98, 10, 32, 34, 120, 10, 34] = .error (2, 4) := err_of (by decide +kernel)
theorem sm4 : scanF [57, 48, 48, 55, 49, 57, 57, 50, 53, 52, 55, 52, 48, 57, 57, 51] = .error (6, 0) := err_of (by decide +kernel)
theorem sm5 : scanF [97, 33, 98] = .error (2, 1) := err_of (by decide +kernel)
theorem sm6 : scanF [49, 50, 97, 98] = .error (2, 0) := err_of (by decide +kernel)
theorem smi : itoa 12 = [49, 50] := by decide +kernel
theorem sw : writeF smallL = [97, 32, 60, 61, 32, 49, 50, 32, 34, 120, 92, 110, 92, 34, 34, 32, 95, 32, 98, 49, 32, 58, 45, 32, 61, 62] := by decide +kernel
theorem sw2 : writeF [⟨1, [49, 97], 0, 0⟩] = [] := by decide +kernel
theorem smB : ∀ t ∈ smallL, TkB t := by
  intro t ht
  simp only [smallL, List.mem_cons, List.not_mem_nil, or_false] at ht
  rcases ht with rfl | rfl | rfl | rfl | rfl | rfl | rfl | rfl <;> exact ⟨by decide, by decide, by decide⟩
theorem scan_ok {s : List UInt8} {l : List Tk} {w : World} (hs : s.length ≤ 1000000) (h : scanF s = .ok l) : Calls Tryd.prog 9 #[sv s] w fun e w' => ∃ v, e = .returned (.tuple #[v, iv 0, iv 0]) ∧ OwnR 32 4 TkR (from_ w.heap.size) w' l v ∧ Below w.heap.size w w' := by
  have := scan_any s w hs
  rw [h] at this
  refine this.mono ?_
  rintro e w' ⟨hb, v, rfl, hO⟩
  exact ⟨v, rfl, hO, hb⟩
theorem scan_err {s : List UInt8} {x : Int × Int} {w : World} (hs : s.length ≤ 1000000) (h : scanF s = .error x) : Calls Tryd.prog 9 #[sv s] w fun e w' => e = .returned (.tuple #[.slice none 0 0, iv x.1, iv x.2]) ∧ Below w.heap.size w w' := by
  have := scan_any s w hs
  rw [h] at this
  refine this.mono ?_
  rintro e w' ⟨hb, he⟩
  exact ⟨he, hb⟩
theorem slr_one (t : Tk) (w : World) : SlR 4 TkR (fun _ => True) (w.alloc (.cells #[iv t.kind, sv t.text, iv t.n, iv t.pos] 32)) [t] (.slice (some ⟨w.heap.size, 0, none⟩) 1 1) := by
  refine ⟨some ⟨w.heap.size, 0, none⟩, 1, w.heap.size, 0, fun _ => [iv t.kind, sv t.text, iv t.n, iv t.pos], rfl, by simp, fun _ => ⟨rfl, trivial, by simp⟩, ?_, ?_⟩
  · intro i hi j u hu
    have hi0 : i = 0 := by simp at hi; omega
    subst hi0
    simp only [Nat.zero_mul, Nat.zero_add]
    rw [cell_of (heap_alloc_new' w _)]
    simpa using hu
  · intro i x hx
    have : i = 0 := by have := (List.getElem?_eq_some_iff.1 hx).1; simp at this; omega
    subst this
    simp at hx
    subst hx
    rfl
set_option maxHeartbeats 4000000 in
set_option maxRecDepth 100000 in
theorem small_any (w : World) (ht : Hid (Tab w)) : Calls Tryd.prog 6 #[] w fun e w' => e = .returned (.bool true) ∧ Below w.heap.size w w' := by
  go_enter Tryd.func6, Tryd.ntmps6
  go_wp2_with fail
  refine (scan_ok (by decide) sm1).mono ?_
  rintro e w1 ⟨v, rfl, hO, hB⟩
  go_wp2_with fail
  refine (scan_err (x := (2, 2)) (by decide) sm2).mono ?_
  rintro e w2 ⟨rfl, hb⟩
  replace hO := hO.below goodTk hb
  replace hB := hB.trans (hb.mono hB.size)
  clear hb
  go_wp2_with fail
  refine (scan_err (x := (2, 4)) (by decide) sm3).mono ?_
  rintro e w3 ⟨rfl, hb⟩
  replace hO := hO.below goodTk hb
  replace hB := hB.trans (hb.mono hB.size)
  clear hb
  go_wp2_with fail
  refine (scan_err (x := (6, 0)) (by decide) sm4).mono ?_
  rintro e w4 ⟨rfl, hb⟩
  replace hO := hO.below goodTk hb
  replace hB := hB.trans (hb.mono hB.size)
  clear hb
  go_wp2_with fail
  refine (scan_err (x := (2, 1)) (by decide) sm5).mono ?_
  rintro e w5 ⟨rfl, hb⟩
  replace hO := hO.below goodTk hb
  replace hB := hB.trans (hb.mono hB.size)
  clear hb
  go_wp2_with fail
  refine (scan_err (x := (2, 0)) (by decide) sm6).mono ?_
  rintro e w6 ⟨rfl, hb⟩
  replace hO := hO.below goodTk hb
  replace hB := hB.trans (hb.mono hB.size)
  clear hb
  have hSl := hO.sl goodTk
  obtain ⟨a, cap, hvv, -⟩ := hSl.slice
  rw [show smallL.length = 8 from rfl] at hvv
  subst hvv
  obtain ⟨g0, o0, ds0, hi0, -, -, hc0, hR0⟩ := hSl.at (P := Tryd.prog) (t := 22) (i := 0) (by kernel_rfl) (fun _ => by kernel_rfl) rfl
  obtain ⟨x0, y0, z0, p0⟩ := tkR_at hR0 hc0
  have hj0 : ∀ kd W, (Instr.indexAt 22 (.slice a 8 cap) (.int kd 0)).run Tryd.prog W = .ok (.pointer (some ⟨g0, o0, none⟩)) W := fun kd W => hi0 kd W
  clear hc0 hR0 hi0
  obtain ⟨g1, o1, ds1, hi1, -, -, hc1, hR1⟩ := hSl.at (P := Tryd.prog) (t := 22) (i := 1) (by kernel_rfl) (fun _ => by kernel_rfl) rfl
  obtain ⟨x1, y1, z1, p1⟩ := tkR_at hR1 hc1
  have hj1 : ∀ kd W, (Instr.indexAt 22 (.slice a 8 cap) (.int kd 1)).run Tryd.prog W = .ok (.pointer (some ⟨g1, o1, none⟩)) W := fun kd W => hi1 kd W
  clear hc1 hR1 hi1
  obtain ⟨g2, o2, ds2, hi2, -, -, hc2, hR2⟩ := hSl.at (P := Tryd.prog) (t := 22) (i := 2) (by kernel_rfl) (fun _ => by kernel_rfl) rfl
  obtain ⟨x2, y2, z2, p2⟩ := tkR_at hR2 hc2
  have hj2 : ∀ kd W, (Instr.indexAt 22 (.slice a 8 cap) (.int kd 2)).run Tryd.prog W = .ok (.pointer (some ⟨g2, o2, none⟩)) W := fun kd W => hi2 kd W
  clear hc2 hR2 hi2
  obtain ⟨g3, o3, ds3, hi3, -, -, hc3, hR3⟩ := hSl.at (P := Tryd.prog) (t := 22) (i := 3) (by kernel_rfl) (fun _ => by kernel_rfl) rfl
  obtain ⟨x3, y3, z3, p3⟩ := tkR_at hR3 hc3
  have hj3 : ∀ kd W, (Instr.indexAt 22 (.slice a 8 cap) (.int kd 3)).run Tryd.prog W = .ok (.pointer (some ⟨g3, o3, none⟩)) W := fun kd W => hi3 kd W
  clear hc3 hR3 hi3
  obtain ⟨g4, o4, ds4, hi4, -, -, hc4, hR4⟩ := hSl.at (P := Tryd.prog) (t := 22) (i := 4) (by kernel_rfl) (fun _ => by kernel_rfl) rfl
  obtain ⟨x4, y4, z4, p4⟩ := tkR_at hR4 hc4
  have hj4 : ∀ kd W, (Instr.indexAt 22 (.slice a 8 cap) (.int kd 4)).run Tryd.prog W = .ok (.pointer (some ⟨g4, o4, none⟩)) W := fun kd W => hi4 kd W
  clear hc4 hR4 hi4
  obtain ⟨g5, o5, ds5, hi5, -, -, hc5, hR5⟩ := hSl.at (P := Tryd.prog) (t := 22) (i := 5) (by kernel_rfl) (fun _ => by kernel_rfl) rfl
  obtain ⟨x5, y5, z5, p5⟩ := tkR_at hR5 hc5
  have hj5 : ∀ kd W, (Instr.indexAt 22 (.slice a 8 cap) (.int kd 5)).run Tryd.prog W = .ok (.pointer (some ⟨g5, o5, none⟩)) W := fun kd W => hi5 kd W
  clear hc5 hR5 hi5
  obtain ⟨g6, o6, ds6, hi6, -, -, hc6, hR6⟩ := hSl.at (P := Tryd.prog) (t := 22) (i := 6) (by kernel_rfl) (fun _ => by kernel_rfl) rfl
  obtain ⟨x6, y6, z6, p6⟩ := tkR_at hR6 hc6
  have hj6 : ∀ kd W, (Instr.indexAt 22 (.slice a 8 cap) (.int kd 6)).run Tryd.prog W = .ok (.pointer (some ⟨g6, o6, none⟩)) W := fun kd W => hi6 kd W
  clear hc6 hR6 hi6
  obtain ⟨g7, o7, ds7, hi7, -, -, hc7, hR7⟩ := hSl.at (P := Tryd.prog) (t := 22) (i := 7) (by kernel_rfl) (fun _ => by kernel_rfl) rfl
  obtain ⟨x7, y7, z7, p7⟩ := tkR_at hR7 hc7
  have hj7 : ∀ kd W, (Instr.indexAt 22 (.slice a 8 cap) (.int kd 7)).run Tryd.prog W = .ok (.pointer (some ⟨g7, o7, none⟩)) W := fun kd W => hi7 kd W
  clear hc7 hR7 hi7
  have hwr := hid (write_any smallL _ _ w6 (by decide) smB hSl (hid (ht.out.below hB)))
  rw [sw] at hwr
  clear hO hSl
  replace hB := hid hB
  simp only at x0 y0 z0 p0 x1 y1 z1 p1 x2 y2 z2 p2 x3 y3 z3 p3 x4 y4 z4 p4 x5 y5 z5 p5 x6 y6 z6 p6 x7 y7 z7 p7
  go_wp2_with fail
  refine hwr.out.mono ?_
  rintro e w7 ⟨rfl, hb7⟩
  have hB7 := hB.out.trans (hb7.mono hB.out.size)
  have hB8 := hid (hB7.alloc hB7.size (.cells #[iv 1, sv [49, 97], iv 0, iv 0] 32))
  have hw2 := hid (write_any [⟨1, [49, 97], 0, 0⟩] _ _ _ (by decide) (fun t ht => by simp at ht; subst ht; exact ⟨by decide, by decide, by decide⟩) (slr_one ⟨1, [49, 97], 0, 0⟩ w7) (hid (ht.out.below hB8.out)))
  rw [sw2] at hw2
  clear hwr hb7 hB7
  go_wp2_with fail
  refine hw2.out.mono ?_
  rintro e w9 ⟨rfl, hb9⟩
  have hB9 := hid (hB8.out.trans (hb9.mono hB8.out.size))
  clear hw2 hb9
  go_wp2_with fail
  go_ret
  exact ⟨rfl, hB9.out⟩
end Go.Proofs.YtlfcdfpbgjmcfaaDoor
