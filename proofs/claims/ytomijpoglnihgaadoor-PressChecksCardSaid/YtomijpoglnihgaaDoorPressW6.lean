/- press: Pack. -/
import Derived.Test.YtomijpoglnihgaaDoorPressW5
import Derived.Test.YtomijpoglnihgaaDoorPressW4
import Derived.Test.YtomijpoglnihgaaDoorPressW3
set_option linter.unusedVariables false
namespace Go.Proofs.YtomijpoglnihgaaDoor
open Go.RowKit
open Go.Lib (hid byteCells)
theorem pack_big (s : List UInt8) (w : World) (hs : 16777216 < s.length) (hs2 : s.length ≤ 100000000) :
    Calls Tryd.prog 5 #[sv s] w fun e w' => e = .returned (sv (packF s)) ∧ Below w.heap.size w w' := by
  have hres : packF s = [] := by unfold packF; rw [if_pos hs]
  rw [hres]
  have q1 : decide (16777216 < (s.length : Int)) = true := decide_eq_true (by omega)
  go_enter Tryd.func5, Tryd.ntmps5
  go_wp2_with fail
  go_ret
  exact ⟨rfl, (Below.refl _ w).alloc (Nat.le_refl _) _⟩
theorem encs_lit_len (s : List UInt8) (a i : Nat) (h : a ≤ i) (hi : i ≤ s.length) : (encs (litT s a i)).length ≤ 9 + (i - a) := by
  by_cases hlt : a < i
  · rw [encs_lit hlt hi]
    have := venc_small (2 * (i - a))
    simp; omega
  · simp [litT, hlt, encs]
set_option maxHeartbeats 2000000 in
set_option maxRecDepth 100000 in
theorem pack_any (s : List UInt8) (w : World) (hs : s.length ≤ 16777216) :
    Calls Tryd.prog 5 #[sv s] w fun e w' => e = .returned (sv (packF s)) ∧ Below w.heap.size w w' := by
  have hres : packF s = venc s.length ++ encs (parse s s.length 0 0) := by unfold packF; rw [if_neg (by omega)]
  generalize packF s = res at *
  replace hres := hid hres
  have q1 : decide (16777216 < (s.length : Int)) = false := decide_eq_false (by omega)
  have hmm := @run_makeMap Tryd.prog
  have hWs : ((w.alloc (.cells #[sv s] 9)).alloc (.cells #[.pointer none, .slice none 0 0] 38)).heap.size = w.heap.size + 2 := by simp
  have hb0 : ((w.alloc (.cells #[sv s] 9)).alloc (.cells #[.pointer none, .slice none 0 0] 38)).heap[w.heap.size]? = some (.cells #[sv s] 9 (0, 0)) := (Below.heap_alloc _ _ _ (by simp)).trans (heap_alloc_new' _ _)
  have hg : GOk (fun k => w.heap.size < k) w.heap.size ((w.alloc (.cells #[sv s] 9)).alloc (.cells #[.pointer none, .slice none 0 0] 38)) :=
    ⟨fun k hk => by rw [hWs] at hk; omega, fun k hk => Nat.le_of_lt hk, fun k h1 h2 h3 cur => (by
      have : k = w.heap.size := by omega
      rw [this, hb0]; intro h; simp at h), (by rw [hWs]; omega)⟩
  have hbl := BldF.new (fun k => w.heap.size < k) (w.alloc (.cells #[sv s] 9)) (by simp)
  have hBB : Below w.heap.size w ((w.alloc (.cells #[sv s] 9)).alloc (.cells #[.pointer none, .slice none 0 0] 38)) := ((Below.refl _ w).alloc (Nat.le_refl _) _).alloc (by simp) _
  rw [show (w.alloc (.cells #[sv s] 9)).heap.size = w.heap.size + 1 by simp] at hbl
  have hc0 : ((w.alloc (.cells #[sv s] 9)).alloc (.cells #[.pointer none, .slice none 0 0] 38)).cell? ⟨w.heap.size, 0, none⟩ = some (sv s) := (cell_of hb0).trans rfl
  have hnum := hid (num_nat s.length ((w.alloc (.cells #[sv s] 9)).alloc (.cells #[.pointer none, .slice none 0 0] 38)) (by omega))
  replace hb0 := hid hb0
  replace hg := hid hg
  replace hbl := hid hbl
  replace hBB := hid hBB
  replace hWs := hid hWs
  go_enter Tryd.func5, Tryd.ntmps5
  go_wp2_with fail
  refine hnum.out.mono ?_
  rintro e w1 ⟨rfl, hb1⟩
  have h1 := hbl.out.below hb1
  have g1 := hg.out.below hb1
  have x1 := hBB.out.trans (hb1.mono (by rw [hWs.out]; omega))
  have z1 : w1.heap[w.heap.size]? = some (.cells #[sv s] 9 (0, 0)) := below_keep hb1 hb0.out (by rw [hWs.out]; omega)
  have s1 : w.heap.size + 2 ≤ w1.heap.size := by have := hb1.size; rw [hWs.out] at this; exact this
  have hvl := venc_small s.length
  have hwr := hid (wr_any (fun k => w.heap.size < k) w.heap.size (w.heap.size + 1) [] (venc s.length) w1 h1 g1 (by simp; omega))
  clear hnum hc0 hb0 hWs hbl hg hBB hb1
  generalize venc s.length = V at *
  replace h1 := hid h1
  replace g1 := hid g1
  replace x1 := hid x1
  replace z1 := hid z1
  go_wp2_with fail
  refine hwr.out.mono ?_
  rintro e w2 ⟨rfl, h2, f2⟩
  rw [List.nil_append] at h2
  have g2 := g1.out.self f2
  have x2 := x1.out.trans (f2.to_below (B := w.heap.size) (by omega) (fun k hk => by omega))
  have z2 := f2.keep z1.out (Nat.lt_irrefl _)
  have s2 : w.heap.size + 2 ≤ w2.heap.size := Nat.le_trans s1 f2.size
  have c2 : w2.cell? ⟨w.heap.size, 0, none⟩ = some (sv s) := (cell_of z2).trans rfl
  clear hwr h1 g1 x1 z1 f2 s1
  obtain ⟨zc, hzero, hz4, hz5⟩ := ixBuilt
  have hzn : ¬ (zc = #[]) := fun e => by rw [e] at hz4; simp at hz4
  have hzl : ¬ (zc.size < 2) := by omega
  generalize hB0 : w.heap.size = B0 at *
  -- the world at the loop
  have hm3 : (w2.alloc (.map #[] 0)).heap.size = w2.heap.size + 1 := by simp
  generalize hZd : (zc.setIfInBounds 0 (sv s)).setIfInBounds 1 (Value.map (some w2.heap.size)) = Z
  have zs : Z.size = 4099 := by rw [← hZd]; simp [hz4]
  have z0 : Z[0]? = some (sv s) := by
    rw [← hZd, Array.getElem?_setIfInBounds_ne (by omega), Array.getElem?_setIfInBounds_self_of_lt (by omega)]
  have zm : Z[1]? = some (.map (some w2.heap.size)) := by
    rw [← hZd, Array.getElem?_setIfInBounds_self_of_lt (by simp [hz4])]
  have zr : Z[4098]? = some (iv 0) := by
    rw [← hZd, Array.getElem?_setIfInBounds_ne (by omega), Array.getElem?_setIfInBounds_ne (by omega)]
    exact hz5 4098 (by omega) (by omega)
  have hI3 : IX s 0 (w2.heap.size + 1) w2.heap.size ((w2.alloc (.map #[] 0)).alloc (.cells Z 49)) := by
    refine ⟨⟨Z, ?_, zs, z0, zm, zr, fun q h => absurd h (Nat.not_lt_zero _)⟩, ⟨0, fun _ => none, (MapV.made w2).alloc _, Nat.le_refl _, fun K => rfl⟩, by omega⟩
    rw [← hm3]; exact heap_alloc_new' _ _
  have hBl : Below w2.heap.size w2 ((w2.alloc (.map #[] 0)).alloc (.cells Z 49)) := ((Below.refl _ w2).alloc (Nat.le_refl _) _).alloc (by simp) _
  have h3 : BldF (fun k => B0 < k ∧ k ≠ w2.heap.size ∧ k ≠ w2.heap.size + 1) (B0 + 1) V ((w2.alloc (.map #[] 0)).alloc (.cells Z 49)) :=
    (h2.mono (fun k hk hg => ⟨hg, by omega, by omega⟩)).below hBl
  have z3 : ((w2.alloc (.map #[] 0)).alloc (.cells Z 49)).heap[B0]? = some (.cells #[sv s] 9 (0, 0)) := below_keep hBl z2 (by omega)
  have s3 : ((w2.alloc (.map #[] 0)).alloc (.cells Z 49)).heap.size = w2.heap.size + 2 := by simp
  have g3 : GOk (fun k => B0 < k ∧ k ≠ w2.heap.size ∧ k ≠ w2.heap.size + 1) B0 ((w2.alloc (.map #[] 0)).alloc (.cells Z 49)) := by
    obtain ⟨⟨Z', y1, _⟩, ⟨N, f, y2, _⟩, _⟩ := hI3
    obtain ⟨es, ck, y3⟩ := y2.obj
    refine ⟨fun k hk => by rw [s3] at hk; omega, fun k hk => by omega, fun k e1 e2 e3 cur => ?_, by rw [s3]; omega⟩
    have : k = B0 ∨ k = w2.heap.size ∨ k = w2.heap.size + 1 := by omega
    rcases this with rfl | rfl | rfl
    · rw [z3]; intro h; simp at h
    · rw [y3]; intro h; simp at h
    · rw [y1]; intro h; simp at h
  have x3 := x2.trans (hBl.mono (by omega))
  clear h2 g2 x2 z2 hBl zs z0 zm zr hz4 hz5
  have hGl : ∀ k, (fun k => B0 < k ∧ k ≠ w2.heap.size ∧ k ≠ w2.heap.size + 1) k → B0 < k := fun k h => h.1
  have hGm : ¬ (fun k => B0 < k ∧ k ≠ w2.heap.size ∧ k ≠ w2.heap.size + 1) w2.heap.size := fun h => h.2.1 rfl
  have hGi : ¬ (fun k => B0 < k ∧ k ≠ w2.heap.size ∧ k ≠ w2.heap.size + 1) (w2.heap.size + 1) := fun h => h.2.2 rfl
  have hGu : (fun k => B0 < k ∧ k ≠ w2.heap.size ∧ k ≠ w2.heap.size + 1) (B0 + 1) := ⟨by omega, by omega, by omega⟩
  generalize (fun k => B0 < k ∧ k ≠ w2.heap.size ∧ k ≠ w2.heap.size + 1) = G at *
  have c3 : ((w2.alloc (.map #[] 0)).alloc (.cells Z 49)).cell? ⟨B0, 0, none⟩ = some (sv s) := (cell_of z3).trans rfl
  generalize hix : w2.heap.size + 1 = ix at *
  replace hI3 := hid hI3
  replace h3 := hid h3
  replace g3 := hid g3
  replace x3 := hid x3
  replace hGl := hid hGl
  replace hGm := hid hGm
  replace hGi := hid hGi
  replace hGu := hid hGu
  clear z3
  have hBm : Hid (B0 < w2.heap.size ∧ B0 < ix) := hid ⟨by omega, by omega⟩
  replace hres := hid hres.out
  go_wp2_with fail
  go_loopw [6, 7] (fun av bv wr => ∃ (a i f m : Nat) (acc : List UInt8), av = .int .i64 a ∧ bv = .int .i64 i ∧ a ≤ i ∧ i ≤ s.length ∧ s.length - i ≤ f ∧ m ≤ mTo s i ∧ acc.length ≤ 9 + 40 * a ∧ B0 < wr.heap.size ∧ wr.cell? ⟨B0, 0, none⟩ = some (sv s) ∧ Hid (IX s m ix w2.heap.size wr) ∧ Hid (BldF G (B0 + 1) acc wr) ∧ Hid (GOk G B0 wr) ∧ Hid (Below B0 w wr) ∧ Hid (res = acc ++ encs (parse s f a i))) (fun _ bv _ => s.length - (intOf bv).toNat)
  case atStart => exact ⟨0, 0, s.length, 0, V, rfl, rfl, Nat.le_refl _, Nat.zero_le _, Nat.le_refl _, Nat.zero_le _, by omega, by rw [s3]; omega, c3, hI3, h3, g3, x3, hres⟩
  case round =>
    clear hI3 h3 g3 x3 hres s3 c3 hvl hZd hzero hzn hzl c2 hm3 s2
    generalize w2.heap.size = mb at *
    obtain ⟨a, i, f, m, acc, rfl, rfl, hai, hil, hf, hm, hal, hsz, c3, hI, hb, hg, hx, hres⟩ := hrel
    by_cases hlt : i < s.length
    · obtain ⟨f, rfl⟩ : ∃ g, f = g + 1 := ⟨f - 1, by omega⟩
      have q2 : decide ((i : Int) < (s.length : Int)) = true := decide_eq_true (by omega)
      have hadv := hid (advance_any s hs m i ix mb wr hm (by omega) hI.out)
      have hrs := hres.out
      rw [parse, if_neg (by omega)] at hrs
      clear hres hm
      replace hrs := hid hrs
      have hne := hI.out.ne
      go_wp2_with fail
      refine hadv.out.mono ?_
      rintro e w3 ⟨rfl, hI3, hf3⟩
      have t1 : ∀ k, k < wr.heap.size → G k → ¬ two ix mb k := fun k _ h1 h2 => by
        rcases h2 with rfl | rfl
        · exact hGi.out h1
        · exact hGm.out h1
      have hb3 := hb.out.fr hf3 t1
      have hg3 : GOk G B0 w3 := hg.out.fr hf3 (fun k h1 h2 cur => by
        obtain ⟨⟨Z', y1, _⟩, ⟨N, g, y2, _⟩, _⟩ := hI3
        obtain ⟨es, ck, y3⟩ := y2.obj
        rcases h1 with rfl | rfl
        · rw [y1]; intro h; simp at h
        · rw [y3]; intro h; simp at h)
      have hB0t : ∀ k, k ≤ B0 → ¬ two ix mb k := fun k hk h => by
        have := hBm.out
        rcases h with rfl | rfl <;> omega
      have c4 : w3.cell? ⟨B0, 0, none⟩ = some (sv s) := (hf3.cell (p := ⟨B0, 0, none⟩) hsz (hB0t B0 (Nat.le_refl _))).trans c3
      have hx3 : Below B0 w w3 := hx.out.trans (hf3.to_below (by omega) (fun k hk h => hB0t k (by omega) h))
      have hsz3 : B0 < w3.heap.size := Nat.lt_of_lt_of_le hsz hf3.size
      have hcx : w3.cell? ⟨ix, 0, none⟩ = some (sv s) := by
        obtain ⟨⟨Z', y1, y2, y3, _⟩, _⟩ := hI3
        exact (cell_of y1).trans y3
      have hlong := longest_any s hs i ix mb w3 hlt (fun h4 => by
        have : mTo s i = i := by unfold mTo; omega
        rw [this] at hI3; exact hI3) hcx
      have hP := longP_eq s i
      clear hadv hI hb hg hx hf3 t1 c3 hcx
      have hmj : ∀ j, i ≤ j → mTo s i ≤ mTo s j := fun j h => by unfold mTo; omega
      generalize mTo s i = m at *
      replace hI3 := hid hI3
      replace hb3 := hid hb3
      replace hg3 := hid hg3
      replace hx3 := hid hx3
      replace hmj := hid hmj
      by_cases hk : (longF s i).1 < 4
      · rw [if_pos hk] at hP
        rw [hP] at hlong
        have hrs2 := hrs.out
        rw [if_pos hk] at hrs2
        clear hrs hP hk
        replace hrs2 := hid hrs2
        simp only at hlong
        replace hlong := hid hlong
        go_wp2_with fail
        refine hlong.out.mono ?_
        rintro e w4 ⟨rfl, hb4⟩
        have hI4 := hid (hI3.out.below hb4)
        have hB4 := hid (hb3.out.below hb4)
        have hg4 := hid (hg3.out.below hb4)
        have hx4 := hid (hx3.out.trans (hb4.mono (by omega)))
        have c5 : w4.cell? ⟨B0, 0, none⟩ = some (sv s) := (hb4.cell (p := ⟨B0, 0, none⟩) hsz3).trans c4
        have hsz4 : B0 < w4.heap.size := Nat.lt_of_lt_of_le hsz3 hb4.size
        clear hlong hI3 hb3 hg3 hx3 hb4 c4 hsz3
        go_wp2_with fail
        exact ⟨⟨a, i + 1, f, m, acc, rfl, rfl, by omega, by omega, by omega, hmj.out (i + 1) (by omega), hal, hsz4, c5, hI4, hB4, hg4, hx4, hrs2⟩, by simp only [intOf]; omega⟩
      · rw [if_neg hk] at hP
        rw [hP] at hlong
        have hrs2 := hrs.out
        rw [if_neg hk] at hrs2
        have hle := longF_le s i
        have hd := (longF_ok (s := s) (i := i) (by omega)).2.2.2
        generalize longF s i = kd at *
        obtain ⟨k, d⟩ := kd
        simp only at hlong hrs2 hle hk hd
        have hea : encs (litT s a i ++ [.mat k d] ++ parse s f (i + k) (i + k)) = encs (litT s a i) ++ (venc (2 * k + 1) ++ venc d) ++ encs (parse s f (i + k) (i + k)) := by simp [encs, Tok.enc]
        rw [hea] at hrs2
        clear hea
        clear hrs hP
        replace hrs2 := hid hrs2
        replace hlong := hid hlong
        have q3 : decide ((k : Int) < 4) = false := decide_eq_false (by omega)
        go_wp2_with fail
        refine hlong.out.mono ?_
        rintro e w4 ⟨rfl, hb4⟩
        have hI4 := hid (hI3.out.below hb4)
        have hB4 := hb3.out.below hb4
        have hg4 := hg3.out.below hb4
        have hx4 := hid (hx3.out.trans (hb4.mono (by omega)))
        have c5 : w4.cell? ⟨B0, 0, none⟩ = some (sv s) := (hb4.cell (p := ⟨B0, 0, none⟩) hsz3).trans c4
        have hsz4 : B0 < w4.heap.size := Nat.lt_of_lt_of_le hsz3 hb4.size
        clear hlong hI3 hb3 hg3 hx3 hb4 c4 hsz3
        have hlit := hid (lit_any G B0 (B0 + 1) B0 s acc w4 a i hai (by omega) hs hB4 hg4 c5 hsz4 (fun h => Nat.lt_irrefl _ (hGl.out _ h)) (by omega))
        have hel := encs_lit_len s a i hai hil
        generalize encs (litT s a i) = A at *
        replace hg4 := hid hg4
        clear hB4
        go_wp2_with fail
        refine hlit.out.mono ?_
        rintro e w5 ⟨rfl, hB5, hf5⟩
        have hI5 := hid (hI4.out.fr hf5 hGi.out hGm.out)
        have hg5 := hg4.out.self hf5
        have hx5 := hid (hx4.out.trans (hf5.to_below (by omega) (fun k hk h => by have := hGl.out k h; omega)))
        have c6 : w5.cell? ⟨B0, 0, none⟩ = some (sv s) := (hf5.cell (p := ⟨B0, 0, none⟩) hsz4 (fun h => Nat.lt_irrefl _ (hGl.out _ h))).trans c5
        have hsz5 : B0 < w5.heap.size := Nat.lt_of_lt_of_le hsz4 hf5.size
        have hnum := num_nat (2 * k + 1) w5 (by omega)
        rw [show ((2 * k + 1 : Nat) : Int) = 2 * (k : Int) + 1 by omega] at hnum
        have hv1 := venc_small (2 * k + 1)
        have hv2 := venc_small d
        have hd9 := (num_nat d · (by omega))
        generalize venc (2 * k + 1) = V1 at *
        generalize venc d = V2 at *
        clear hlit hI4 hg4 hx4 c5 hsz4 hf5
        replace hB5 := hid hB5
        replace hg5 := hid hg5
        replace hnum := hid hnum
        replace hd9 := hid hd9
        go_wp2_with fail
        refine hnum.out.mono ?_
        rintro e w6 ⟨rfl, hb6⟩
        have hwr := hid (wr_any G B0 (B0 + 1) _ V1 w6 (hB5.out.below hb6) (hg5.out.below hb6) (by rw [List.length_append]; omega))
        have hf6 := hid (Fr.of_below hb6 G)
        have hg6 := hid (hg5.out.below hb6)
        have hg5k := hg5
        replace hg5 := hg5.out
        clear hnum hB5 hb6
        go_wp2_with fail
        refine hwr.out.mono ?_
        rintro e w7 ⟨rfl, hB7, hf7⟩
        replace hf7 := hid (hf6.out.trans hf7)
        have hg7 := hid (hg5.self hf7.out)
        clear hwr hf6 hg6 hg5
        replace hB7 := hid hB7
        go_wp2_with fail
        refine (hd9.out w7).mono ?_
        rintro e w8 ⟨rfl, hb8⟩
        have hwr := hid (wr_any G B0 (B0 + 1) _ V2 w8 (hB7.out.below hb8) (hg7.out.below hb8) (by rw [List.length_append, List.length_append]; omega))
        have hf8 := hid (hf7.out.trans (Fr.of_below hb8 G))
        clear hB7 hg7 hb8 hf7
        go_wp2_with fail
        refine hwr.out.mono ?_
        rintro e w9 ⟨rfl, hB9, hf9⟩
        replace hf9 := hf8.out.trans hf9
        have hI9 := hid (hI5.out.fr hf9 hGi.out hGm.out)
        have hg9 := hid (hg5k.out.self hf9)
        have hx9 := hid (hx5.out.trans (hf9.to_below (by omega) (fun k hk h => by have := hGl.out k h; omega)))
        have c9 : w9.cell? ⟨B0, 0, none⟩ = some (sv s) := (hf9.cell (p := ⟨B0, 0, none⟩) hsz5 (fun h => Nat.lt_irrefl _ (hGl.out _ h))).trans c6
        have hsz9 : B0 < w9.heap.size := Nat.lt_of_lt_of_le hsz5 hf9.size
        clear hwr hf8 hf9 hI5 hg5k hx5 c6 hsz5 hd9
        replace hB9 := hid hB9
        go_wp2_with fail
        refine ⟨⟨i + k, i + k, f, m, acc ++ A ++ V1 ++ V2, rfl, rfl, Nat.le_refl _, by omega, by omega, hmj.out (i + k) (by omega), by simp only [List.length_append]; omega, hsz9, c9, hI9, hB9, hg9, hx9, hid ?_⟩, by simp only [intOf]; omega⟩
        rw [hrs2.out]; simp
    · have q2 : decide ((i : Int) < (s.length : Int)) = false := decide_eq_false (by omega)
      have hrs := hres.out
      have hpe : parse s f a i = litT s a s.length := by
        cases f with
        | zero => rfl
        | succ f => rw [parse, if_pos (by omega)]
      rw [hpe] at hrs
      clear hres hpe
      have hlit := hid (lit_any G B0 (B0 + 1) B0 s acc wr a s.length (by omega) (Nat.le_refl _) hs hb.out hg.out c3 hsz (fun h => Nat.lt_irrefl _ (hGl.out _ h)) (by omega))
      generalize encs (litT s a s.length) = A at *
      replace hrs := hid hrs
      go_wp2_with fail
      refine hlit.out.mono ?_
      rintro e w5 ⟨rfl, hB5, hf5⟩
      have hx5 := hid (hx.out.trans (hf5.to_below (by omega) (fun k hk h => by have := hGl.out k h; omega)))
      have hsz5 : B0 < w5.heap.size := Nat.lt_of_lt_of_le hsz hf5.size
      have hstr := hid (bldString B0 (B0 + 1) _ w5 ((hB5.mono (H := from_ B0) (fun k _ h => Nat.le_of_lt (hGl.out k h))).bld) (by omega))
      clear hlit hI hb hg hx hf5 hB5
      go_wp2_with fail
      refine hstr.out.mono ?_
      rintro e w6 ⟨rfl, hb6⟩
      replace hx5 := hid (hx5.out.trans hb6)
      go_wp2_with fail
      go_ret
      exact ⟨by rw [hrs.out]; rfl, by rw [hB0]; exact hx5.out⟩
end Go.Proofs.YtomijpoglnihgaaDoor
