/- press: advance. -/
import Derived.Test.YtomijpoglnihgaaDoorPressW2
set_option linter.unusedVariables false
namespace Go.Proofs.YtomijpoglnihgaaDoor
open Go.RowKit
open Go.Lib (hid byteCells)
abbrev two (b mb : Nat) : Foot := fun q => q = b ∨ q = mb
def mTo (s : List UInt8) (i : Nat) : Nat := min i (s.length - 3)
def nextOf (w : World) (b : Nat) : Nat := match w.cell? ⟨b, 4098, none⟩ with | some (.int .i64 n) => n.toNat | _ => 0
theorem IX.next {s : List UInt8} {m b mb : Nat} {w : World} (h : IX s m b mb w) : nextOf w b = m := by
  obtain ⟨⟨Z, h1, h2, h3, h4, h5, h6⟩, _, _⟩ := h
  unfold nextOf
  rw [cell_of h1, h5]; rfl
theorem IX.enter {s : List UInt8} {m b mb N : Nat} {w : World} {Z : Array Value} {f1 : Lit → Option Value} {V : Int} (hz : w.heap[b]? = some (.cells (Z.setIfInBounds (2 + m % 4096) (iv V)) 49 (0, 0))) (hzs : Z.size = 4099) (z0 : Z[0]? = some (sv s)) (z1 : Z[1]? = some (.map (some mb)))
    (zp : ∀ q, q < m → m ≤ q + 4096 → Z[2 + q % 4096]? = some (iv (optI (prevF s q)))) (hV : optI (prevF s m) = V) (hm : MapV Tryd.prog 28 mb (N + 1) (putF f1 (.int .u32 (key4 s m : Nat)) (iv m)) w) (hN : N ≤ m)
    (hf1 : ∀ K, f1 (.int .u32 (K : Nat)) = (latest (fun p => key4 s p == K && decide (m < p + 4096)) m).map fun (p : Nat) => iv (p : Int)) (hne : b ≠ mb) : IX s (m + 1) b mb (w.setCell ⟨b, 4098, none⟩ (iv ((m : Int) + 1))) := by
  have hr : m % 4096 < 4096 := Nat.mod_lt _ (by decide)
  refine ⟨⟨_, heap_setCell_same hz _, by simp [hzs], ?_, ?_, ?_, fun q hq hq2 => ?_⟩, ⟨N + 1, _, hm.setCell (p := ⟨b, 4098, none⟩) hne _, by omega, fun K => ?_⟩, hne⟩
  · rw [Array.getElem?_setIfInBounds_ne (by omega), Array.getElem?_setIfInBounds_ne (by omega)]; exact z0
  · rw [Array.getElem?_setIfInBounds_ne (by omega), Array.getElem?_setIfInBounds_ne (by omega)]; exact z1
  · rw [Array.getElem?_setIfInBounds_self_of_lt (by simp [hzs])]; rfl
  · have hr2 : q % 4096 < 4096 := Nat.mod_lt _ (by decide)
    rw [Array.getElem?_setIfInBounds_ne (by omega)]
    by_cases e : q = m
    · subst e
      rw [Array.getElem?_setIfInBounds_self_of_lt (by omega), hV]
    · rw [Array.getElem?_setIfInBounds_ne (by omega)]
      exact zp q (by omega) (by omega)
  · unfold putF
    rw [last_next]
    by_cases e : key4 s m = K
    · subst e
      rw [if_pos rfl, if_pos rfl]; rfl
    · rw [if_neg (fun h => e (by injection h with _ h; omega)), if_neg e]
      exact hf1 K
set_option maxHeartbeats 8000000 in
set_option maxRecDepth 100000 in
theorem advance_any (s : List UInt8) (hs : s.length ≤ 16777216) (m i b mb : Nat) (w : World) (hmi : m ≤ mTo s i) (hi : i ≤ s.length) (h : IX s m b mb w) :
    Calls Tryd.prog 14 #[pt b, iv i] w fun e w' => e = .returned (.tuple #[]) ∧ IX s (mTo s i) b mb w' ∧ Fr (two b mb) w w' := by
  have K := Maps.int_keyed Tryd.underlying28
  replace h := hid h
  go_enter Tryd.func14, Tryd.ntmps14
  go_wp2_with fail
  go_loopw [] (fun wr => ∃ m : Nat, m ≤ mTo s i ∧ Hid (IX s m b mb wr) ∧ Hid (Fr (two b mb) w wr)) (fun wr => mTo s i - nextOf wr b)
  case atStart => exact ⟨m, hmi, h, hid (Fr.refl _ _)⟩
  case round =>
    clear h hmi
    obtain ⟨m, hm, hI, hF⟩ := hrel
    obtain ⟨⟨Z, hz, hzs, z0, z1, z98, zp⟩, ⟨N, f, hmap, hN, hf⟩, hne⟩ := id hI.out
    have c0 : wr.cell? ⟨b, 0, none⟩ = some (sv s) := (cell_of hz).trans z0
    have c1 : wr.cell? ⟨b, 1, none⟩ = some (.map (some mb)) := (cell_of hz).trans z1
    have c98 : wr.cell? ⟨b, 4098, none⟩ = some (iv m) := (cell_of hz).trans z98
    by_cases hlt : m < mTo s i
    · have hmi : m < i := by unfold mTo at hlt; omega
      have hm4 : m + 4 ≤ s.length := by unfold mTo at hlt; omega
      have g1 : decide ((m : Int) < (i : Int)) = true := decide_eq_true (by omega)
      have g1' : decide (m < i) = true := decide_eq_true hmi
      have g2 : decide ((m : Int) + 4 ≤ (s.length : Int)) = true := decide_eq_true (by omega)
      have g2' : decide (m + 4 ≤ s.length) = true := decide_eq_true hm4
      have hw : IntKind.i64.wrap ((m : Int) + 4) = (m : Int) + 4 := i64_wrap_id _ (by omega) (by omega)
      have hmN : m ≤ 16777216 := by omega
      by_cases hold : m < 4096
      · have hf1 : ∀ K, f (.int .u32 (K : Nat)) = (latest (fun p => key4 s p == K && decide (m < p + 4096)) m).map fun (p : Nat) => iv (p : Int) := fun K => by
          rw [last_drop, if_neg (by omega)]; exact hf K
        replace hf1 := hid hf1
        have hoI : ((m : Int) - 4096 < 0) := by omega
        have hoB : decide (0 ≤ (m : Int) - 4096) = false := decide_eq_false (by omega)
        have hoB2 : decide (4096 ≤ (m : Int)) = false := decide_eq_false (by omega)
        go_wp2_with fail
        go_quiet (fail)
        go_wp2_with fail
        have hz1 : (wr.drewN nq).heap[b]? = some (.cells Z 49 (0, 0)) := hz
        have hm1 := hmap.drewN nq
        have hF1 : Fr (two b mb) wr (wr.drewN nq) := (Fr.refl _ _).drewN nq
        generalize wr.drewN nq = W1 at *
        generalize f = f1 at *
        clear c0 c1 c98 hoI hoB hoB2
        have w0 : W1.cell? ⟨b, 0, none⟩ = some (sv s) := (cell_of hz1).trans z0
        have w1 : W1.cell? ⟨b, 1, none⟩ = some (.map (some mb)) := (cell_of hz1).trans z1
        have w98 : W1.cell? ⟨b, 4098, none⟩ = some (iv m) := (cell_of hz1).trans z98
        refine (key_any b s m W1 hm4 hs w0).mono ?_
        rintro e W2 ⟨rfl, hb2⟩
        have hz2 := below_keep hb2 hz1 (lt_of_heap hz1)
        have hm2 := hm1.below hb2 hm1.lt
        have hF2 := hF1.trans (Fr.of_below hb2 _)
        have v1 : W2.cell? ⟨b, 1, none⟩ = some (.map (some mb)) := (cell_of hz2).trans z1
        have v98 : W2.cell? ⟨b, 4098, none⟩ = some (iv m) := (cell_of hz2).trans z98
        have hlook := hm2.look_ok K (t := 46) (e := 3) Tryd.underlying46 (z := .int .i64 0) (by kernel_rfl) (keyU _ (key4_lt s m)) trivial
        have hpv : f1 (.int .u32 (key4 s m : Nat)) = (prevF s m).map fun (p : Nat) => iv (p : Int) := hf1.out (key4 s m)
        rw [hpv] at hlook
        obtain ⟨u0, hu0⟩ : ∃ u0, Z[2 + m % 4096]? = some u0 := ⟨_, Array.getElem?_eq_getElem (by omega)⟩
        have x0 : W2.cell? ⟨b, 2 + m % 4096, none⟩ = some u0 := (cell_of hz2).trans hu0
        have xf : W2.frozen? ⟨b, 2 + m % 4096, none⟩ = false := free_of hz2
        replace hpv := hid hpv
        clear hz1 hm1 hF1 w0 w1 w98 hb2
        have hpf : ∀ v : Int, v = optI (prevF s m) → True := fun _ _ => trivial
        rcases hpm : prevF s m with _ | p
        · rw [hpm] at hlook
          simp only [Option.map_none, Option.getD_none, Option.isSome_none] at hlook
          have r1 : (0 : Int) ≤ (m : Int) % 4096 := by omega
          have r2 : (m : Int) % 4096 < 4096 := by omega
          have r3 : m % 4096 < 4096 := Nat.mod_lt _ (by decide)
          have hvv : optI (prevF s m) = -1 := by rw [hpm]; rfl
          clear hpm
          go_wp2_with fail
          go_region
          go_wp2_with fail
          have hz3 : ((W2.setCell ⟨b, 2 + m % 4096, none⟩ (iv (-1))).drew).heap[b]? = some (.cells (Z.setIfInBounds (2 + m % 4096) (iv (-1))) 49 (0, 0)) := heap_setCell_same hz2 _
          have hm3 : MapV Tryd.prog 28 mb N f1 ((W2.setCell ⟨b, 2 + m % 4096, none⟩ (iv (-1))).drew) := (hm2.setCell (p := ⟨b, 2 + m % 4096, none⟩) hne _).drew
          have hF3 : Fr (two b mb) wr ((W2.setCell ⟨b, 2 + m % 4096, none⟩ (iv (-1))).drew) := (hF2.setCell (p := ⟨b, 2 + m % 4096, none⟩) (Or.inl (Or.inl rfl)) _).drew
          generalize (W2.setCell ⟨b, 2 + m % 4096, none⟩ (iv (-1))).drew = W3 at *
          have y1 : W3.cell? ⟨b, 1, none⟩ = some (.map (some mb)) := by rw [cell_of hz3, Array.getElem?_setIfInBounds_ne (by omega)]; exact z1
          have y98 : W3.cell? ⟨b, 4098, none⟩ = some (iv m) := by rw [cell_of hz3, Array.getElem?_setIfInBounds_ne (by omega)]; exact z98
          obtain ⟨W4, hput, hm4', hgr⟩ := hm3.drew.put K (t := 46) (e := 3) Tryd.underlying46 (by unfold maxLen; omega) (keyU _ (key4_lt s m)) trivial (iv m)
          have hz4 : W4.heap[b]? = some (.cells (Z.setIfInBounds (2 + m % 4096) (iv (-1))) 49 (0, 0)) := (hgr.block b (lt_of_heap hz3) (fun e => by injection e with e; exact hne e)).trans hz3
          have hF4 : Fr (two b mb) wr W4 := hF3.drew.grown hgr (fun k hk => by injection hk with hk; exact Or.inl (Or.inr hk.symm))
          have x98 : W4.cell? ⟨b, 4098, none⟩ = some (iv m) := by rw [cell_of hz4, Array.getElem?_setIfInBounds_ne (by omega)]; exact z98
          have xf98 : W4.frozen? ⟨b, 4098, none⟩ = false := free_of hz4
          go_region
          clear hput hlook
          go_wp2_with fail
          have hI5 := IX.enter hz4 hzs z0 z1 zp hvv hm4' hN hf1.out hne
          have hF5 : Fr (two b mb) w (W4.setCell ⟨b, 4098, none⟩ (iv ((m : Int) + 1))) := (hF.out.trans hF4).setCell (p := ⟨b, 4098, none⟩) (Or.inl (Or.inl rfl)) _
          have hn5 := hI5.next
          refine ⟨⟨m + 1, by omega, hid hI5, hid hF5⟩, ?_⟩
          rw [hn5, hI.out.next]; omega
        · rw [hpm] at hlook
          simp only [Option.map_some, Option.getD_some, Option.isSome_some] at hlook
          have r1 : (0 : Int) ≤ (m : Int) % 4096 := by omega
          have r2 : (m : Int) % 4096 < 4096 := by omega
          have r3 : m % 4096 < 4096 := Nat.mod_lt _ (by decide)
          have hvv : optI (prevF s m) = (p : Int) := by rw [hpm]; rfl
          clear hpm
          go_wp2_with fail
          go_region
          go_wp2_with fail
          have hz3 : ((W2.setCell ⟨b, 2 + m % 4096, none⟩ (iv ((p : Int)))).drew).heap[b]? = some (.cells (Z.setIfInBounds (2 + m % 4096) (iv ((p : Int)))) 49 (0, 0)) := heap_setCell_same hz2 _
          have hm3 : MapV Tryd.prog 28 mb N f1 ((W2.setCell ⟨b, 2 + m % 4096, none⟩ (iv ((p : Int)))).drew) := (hm2.setCell (p := ⟨b, 2 + m % 4096, none⟩) hne _).drew
          have hF3 : Fr (two b mb) wr ((W2.setCell ⟨b, 2 + m % 4096, none⟩ (iv ((p : Int)))).drew) := (hF2.setCell (p := ⟨b, 2 + m % 4096, none⟩) (Or.inl (Or.inl rfl)) _).drew
          generalize (W2.setCell ⟨b, 2 + m % 4096, none⟩ (iv ((p : Int)))).drew = W3 at *
          have y1 : W3.cell? ⟨b, 1, none⟩ = some (.map (some mb)) := by rw [cell_of hz3, Array.getElem?_setIfInBounds_ne (by omega)]; exact z1
          have y98 : W3.cell? ⟨b, 4098, none⟩ = some (iv m) := by rw [cell_of hz3, Array.getElem?_setIfInBounds_ne (by omega)]; exact z98
          obtain ⟨W4, hput, hm4', hgr⟩ := hm3.drew.put K (t := 46) (e := 3) Tryd.underlying46 (by unfold maxLen; omega) (keyU _ (key4_lt s m)) trivial (iv m)
          have hz4 : W4.heap[b]? = some (.cells (Z.setIfInBounds (2 + m % 4096) (iv ((p : Int)))) 49 (0, 0)) := (hgr.block b (lt_of_heap hz3) (fun e => by injection e with e; exact hne e)).trans hz3
          have hF4 : Fr (two b mb) wr W4 := hF3.drew.grown hgr (fun k hk => by injection hk with hk; exact Or.inl (Or.inr hk.symm))
          have x98 : W4.cell? ⟨b, 4098, none⟩ = some (iv m) := by rw [cell_of hz4, Array.getElem?_setIfInBounds_ne (by omega)]; exact z98
          have xf98 : W4.frozen? ⟨b, 4098, none⟩ = false := free_of hz4
          go_region
          clear hput hlook
          go_wp2_with fail
          have hI5 := IX.enter hz4 hzs z0 z1 zp hvv hm4' hN hf1.out hne
          have hF5 : Fr (two b mb) w (W4.setCell ⟨b, 4098, none⟩ (iv ((m : Int) + 1))) := (hF.out.trans hF4).setCell (p := ⟨b, 4098, none⟩) (Or.inl (Or.inl rfl)) _
          have hn5 := hI5.next
          refine ⟨⟨m + 1, by omega, hid hI5, hid hF5⟩, ?_⟩
          rw [hn5, hI.out.next]; omega
      · obtain ⟨old, hod⟩ : ∃ old : Nat, m = old + 4096 := ⟨m - 4096, by omega⟩
        have hod1 : m ≤ old + 4096 := Nat.le_of_eq hod
        have hod2 : old + 4096 ≤ m := Nat.le_of_eq hod.symm
        have hod3 : m - 4096 = old := by omega
        replace hod := hid hod
        replace hod3 := hid hod3
        have ho4 : old + 4 ≤ s.length := by omega
        have hoI : (m : Int) - 4096 = (old : Int) := by omega
        have hoB : decide (0 ≤ (old : Int)) = true := decide_eq_true (by omega)
        have hoB2 : decide (4096 ≤ (m : Int)) = true := decide_eq_true (by omega)
        obtain ⟨p0, hp0, hp1⟩ : ∃ p0, lastF s m (key4 s old) = some p0 ∧ old ≤ p0 := by
          cases h9 : lastF s m (key4 s old) with
          | none =>
            have := latest_none h9 old (by omega)
            simp at this; omega
          | some p =>
            refine ⟨p, rfl, ?_⟩
            obtain ⟨_, h10, _⟩ := latest_some h9
            simp at h10; omega
        go_wp2_with fail
        go_quiet (fail)
        go_wp2_with fail
        refine (key_any b s old _ ho4 hs ((cell_of (w := wr.drewN nq) hz).trans z0)).mono ?_
        rintro e W2 ⟨rfl, hb2⟩
        have hz2 : W2.heap[b]? = some (.cells Z 49 (0, 0)) := below_keep hb2 (w := wr.drewN nq) hz (lt_of_heap hz)
        have hm2 := (hmap.drewN nq).below hb2 hmap.lt
        have hF2 : Fr (two b mb) wr W2 := ((Fr.refl _ _).drewN nq).trans (Fr.of_below hb2 _)
        have v1 : W2.cell? ⟨b, 1, none⟩ = some (.map (some mb)) := (cell_of hz2).trans z1
        have v98 : W2.cell? ⟨b, 4098, none⟩ = some (iv m) := (cell_of hz2).trans z98
        have hlook := hm2.look K (t := 46) (e := 3) Tryd.underlying46 (z := .int .i64 0) (by kernel_rfl) (keyU _ (key4_lt s old)) trivial
        rw [hf (key4 s old), hp0] at hlook
        simp only [Option.map_some, Option.getD_some] at hlook
        by_cases hpo : p0 = old
        · subst hpo
          obtain ⟨W1, hdel, hm1, hgr⟩ := hm2.del K (t := 46) (e := 3) Tryd.underlying46 (keyU _ (key4_lt s p0)) 0
          have hf1 : ∀ K, delF f (.int .u32 (key4 s p0 : Nat)) (.int .u32 (K : Nat)) = (latest (fun p => key4 s p == K && decide (m < p + 4096)) m).map fun (p : Nat) => iv (p : Int) := fun K => by
            rw [last_drop]
            unfold delF
            by_cases hK : key4 s p0 = K
            · subst hK
              rw [if_pos rfl, if_pos ⟨by omega, by rw [hod3.out], by rw [hp0, hod3.out]⟩]; rfl
            · rw [if_neg (fun h => hK (by injection h with _ h; omega)), if_neg (fun h => hK (by rw [← h.2.1, hod3.out]))]
              exact hf K
          replace hf1 := hid hf1
          generalize delF f (.int .u32 (key4 s p0 : Nat)) = f1 at *
          have hz1 : W1.heap[b]? = some (.cells Z 49 (0, 0)) := (hgr.block b (lt_of_heap hz2) (fun e => by injection e with e; exact hne e)).trans hz2
          have w98 : W1.cell? ⟨b, 4098, none⟩ = some (iv m) := (cell_of hz1).trans z98
          go_wp2_with fail
          clear w98
          have hF1 : Fr (two b mb) wr W1 := hF2.grown hgr (fun k hk => by injection hk with hk; exact Or.inl (Or.inr hk.symm))
          clear c0 c1 c98 hoI hoB hoB2 hlook hdel hgr hz2 hm2 hF2 v1 v98 hb2 hmap hf hz
          have w0 : W1.cell? ⟨b, 0, none⟩ = some (sv s) := (cell_of hz1).trans z0
          have w1 : W1.cell? ⟨b, 1, none⟩ = some (.map (some mb)) := (cell_of hz1).trans z1
          have w98 : W1.cell? ⟨b, 4098, none⟩ = some (iv m) := (cell_of hz1).trans z98
          refine (key_any b s m W1 hm4 hs w0).mono ?_
          rintro e W2 ⟨rfl, hb2⟩
          have hz2 := below_keep hb2 hz1 (lt_of_heap hz1)
          have hm2 := hm1.below hb2 hm1.lt
          have hF2 := hF1.trans (Fr.of_below hb2 _)
          have v1 : W2.cell? ⟨b, 1, none⟩ = some (.map (some mb)) := (cell_of hz2).trans z1
          have v98 : W2.cell? ⟨b, 4098, none⟩ = some (iv m) := (cell_of hz2).trans z98
          have hlook := hm2.look_ok K (t := 46) (e := 3) Tryd.underlying46 (z := .int .i64 0) (by kernel_rfl) (keyU _ (key4_lt s m)) trivial
          have hpv : f1 (.int .u32 (key4 s m : Nat)) = (prevF s m).map fun (p : Nat) => iv (p : Int) := hf1.out (key4 s m)
          rw [hpv] at hlook
          obtain ⟨u0, hu0⟩ : ∃ u0, Z[2 + m % 4096]? = some u0 := ⟨_, Array.getElem?_eq_getElem (by omega)⟩
          have x0 : W2.cell? ⟨b, 2 + m % 4096, none⟩ = some u0 := (cell_of hz2).trans hu0
          have xf : W2.frozen? ⟨b, 2 + m % 4096, none⟩ = false := free_of hz2
          replace hpv := hid hpv
          clear hz1 hm1 hF1 w0 w1 w98 hb2
          have hpf : ∀ v : Int, v = optI (prevF s m) → True := fun _ _ => trivial
          rcases hpm : prevF s m with _ | p
          · rw [hpm] at hlook
            simp only [Option.map_none, Option.getD_none, Option.isSome_none] at hlook
            have r1 : (0 : Int) ≤ (m : Int) % 4096 := by omega
            have r2 : (m : Int) % 4096 < 4096 := by omega
            have r3 : m % 4096 < 4096 := Nat.mod_lt _ (by decide)
            have hvv : optI (prevF s m) = -1 := by rw [hpm]; rfl
            clear hpm
            go_wp2_with fail
            go_region
            go_wp2_with fail
            have hz3 : ((W2.setCell ⟨b, 2 + m % 4096, none⟩ (iv (-1))).drew).heap[b]? = some (.cells (Z.setIfInBounds (2 + m % 4096) (iv (-1))) 49 (0, 0)) := heap_setCell_same hz2 _
            have hm3 : MapV Tryd.prog 28 mb N f1 ((W2.setCell ⟨b, 2 + m % 4096, none⟩ (iv (-1))).drew) := (hm2.setCell (p := ⟨b, 2 + m % 4096, none⟩) hne _).drew
            have hF3 : Fr (two b mb) wr ((W2.setCell ⟨b, 2 + m % 4096, none⟩ (iv (-1))).drew) := (hF2.setCell (p := ⟨b, 2 + m % 4096, none⟩) (Or.inl (Or.inl rfl)) _).drew
            generalize (W2.setCell ⟨b, 2 + m % 4096, none⟩ (iv (-1))).drew = W3 at *
            have y1 : W3.cell? ⟨b, 1, none⟩ = some (.map (some mb)) := by rw [cell_of hz3, Array.getElem?_setIfInBounds_ne (by omega)]; exact z1
            have y98 : W3.cell? ⟨b, 4098, none⟩ = some (iv m) := by rw [cell_of hz3, Array.getElem?_setIfInBounds_ne (by omega)]; exact z98
            obtain ⟨W4, hput, hm4', hgr⟩ := hm3.drew.put K (t := 46) (e := 3) Tryd.underlying46 (by unfold maxLen; omega) (keyU _ (key4_lt s m)) trivial (iv m)
            have hz4 : W4.heap[b]? = some (.cells (Z.setIfInBounds (2 + m % 4096) (iv (-1))) 49 (0, 0)) := (hgr.block b (lt_of_heap hz3) (fun e => by injection e with e; exact hne e)).trans hz3
            have hF4 : Fr (two b mb) wr W4 := hF3.drew.grown hgr (fun k hk => by injection hk with hk; exact Or.inl (Or.inr hk.symm))
            have x98 : W4.cell? ⟨b, 4098, none⟩ = some (iv m) := by rw [cell_of hz4, Array.getElem?_setIfInBounds_ne (by omega)]; exact z98
            have xf98 : W4.frozen? ⟨b, 4098, none⟩ = false := free_of hz4
            go_region
            clear hput hlook
            go_wp2_with fail
            have hI5 := IX.enter hz4 hzs z0 z1 zp hvv hm4' hN hf1.out hne
            have hF5 : Fr (two b mb) w (W4.setCell ⟨b, 4098, none⟩ (iv ((m : Int) + 1))) := (hF.out.trans hF4).setCell (p := ⟨b, 4098, none⟩) (Or.inl (Or.inl rfl)) _
            have hn5 := hI5.next
            refine ⟨⟨m + 1, by omega, hid hI5, hid hF5⟩, ?_⟩
            rw [hn5, hI.out.next]; omega
          · rw [hpm] at hlook
            simp only [Option.map_some, Option.getD_some, Option.isSome_some] at hlook
            have r1 : (0 : Int) ≤ (m : Int) % 4096 := by omega
            have r2 : (m : Int) % 4096 < 4096 := by omega
            have r3 : m % 4096 < 4096 := Nat.mod_lt _ (by decide)
            have hvv : optI (prevF s m) = (p : Int) := by rw [hpm]; rfl
            clear hpm
            go_wp2_with fail
            go_region
            go_wp2_with fail
            have hz3 : ((W2.setCell ⟨b, 2 + m % 4096, none⟩ (iv ((p : Int)))).drew).heap[b]? = some (.cells (Z.setIfInBounds (2 + m % 4096) (iv ((p : Int)))) 49 (0, 0)) := heap_setCell_same hz2 _
            have hm3 : MapV Tryd.prog 28 mb N f1 ((W2.setCell ⟨b, 2 + m % 4096, none⟩ (iv ((p : Int)))).drew) := (hm2.setCell (p := ⟨b, 2 + m % 4096, none⟩) hne _).drew
            have hF3 : Fr (two b mb) wr ((W2.setCell ⟨b, 2 + m % 4096, none⟩ (iv ((p : Int)))).drew) := (hF2.setCell (p := ⟨b, 2 + m % 4096, none⟩) (Or.inl (Or.inl rfl)) _).drew
            generalize (W2.setCell ⟨b, 2 + m % 4096, none⟩ (iv ((p : Int)))).drew = W3 at *
            have y1 : W3.cell? ⟨b, 1, none⟩ = some (.map (some mb)) := by rw [cell_of hz3, Array.getElem?_setIfInBounds_ne (by omega)]; exact z1
            have y98 : W3.cell? ⟨b, 4098, none⟩ = some (iv m) := by rw [cell_of hz3, Array.getElem?_setIfInBounds_ne (by omega)]; exact z98
            obtain ⟨W4, hput, hm4', hgr⟩ := hm3.drew.put K (t := 46) (e := 3) Tryd.underlying46 (by unfold maxLen; omega) (keyU _ (key4_lt s m)) trivial (iv m)
            have hz4 : W4.heap[b]? = some (.cells (Z.setIfInBounds (2 + m % 4096) (iv ((p : Int)))) 49 (0, 0)) := (hgr.block b (lt_of_heap hz3) (fun e => by injection e with e; exact hne e)).trans hz3
            have hF4 : Fr (two b mb) wr W4 := hF3.drew.grown hgr (fun k hk => by injection hk with hk; exact Or.inl (Or.inr hk.symm))
            have x98 : W4.cell? ⟨b, 4098, none⟩ = some (iv m) := by rw [cell_of hz4, Array.getElem?_setIfInBounds_ne (by omega)]; exact z98
            have xf98 : W4.frozen? ⟨b, 4098, none⟩ = false := free_of hz4
            go_region
            clear hput hlook
            go_wp2_with fail
            have hI5 := IX.enter hz4 hzs z0 z1 zp hvv hm4' hN hf1.out hne
            have hF5 : Fr (two b mb) w (W4.setCell ⟨b, 4098, none⟩ (iv ((m : Int) + 1))) := (hF.out.trans hF4).setCell (p := ⟨b, 4098, none⟩) (Or.inl (Or.inl rfl)) _
            have hn5 := hI5.next
            refine ⟨⟨m + 1, by omega, hid hI5, hid hF5⟩, ?_⟩
            rw [hn5, hI.out.next]; omega
        · have hf1 : ∀ K, f (.int .u32 (K : Nat)) = (latest (fun p => key4 s p == K && decide (m < p + 4096)) m).map fun (p : Nat) => iv (p : Int) := fun K => by
            rw [last_drop, if_neg (fun h => hpo (by
              rw [hod3.out] at h
              rw [← h.2.1, hp0] at h
              have := h.2.2
              simpa using this))]
            exact hf K
          replace hf1 := hid hf1
          have hpb : (p0 == old) = false := by simpa using hpo
          have hpb2 : ((p0 : Int) == (old : Int)) = false := by simp; omega
          go_wp2_with fail
          have hz1 := hz2
          have hm1 := hm2
          have hF1 := hF2
          generalize W2 = W1 at *
          generalize f = f1 at *
          clear c0 c1 c98 hoI hoB hoB2 hlook hz2 hm2 hF2 v1 v98 hb2 hmap hf hz hpb hpb2
          have w0 : W1.cell? ⟨b, 0, none⟩ = some (sv s) := (cell_of hz1).trans z0
          have w1 : W1.cell? ⟨b, 1, none⟩ = some (.map (some mb)) := (cell_of hz1).trans z1
          have w98 : W1.cell? ⟨b, 4098, none⟩ = some (iv m) := (cell_of hz1).trans z98
          refine (key_any b s m W1 hm4 hs w0).mono ?_
          rintro e W2 ⟨rfl, hb2⟩
          have hz2 := below_keep hb2 hz1 (lt_of_heap hz1)
          have hm2 := hm1.below hb2 hm1.lt
          have hF2 := hF1.trans (Fr.of_below hb2 _)
          have v1 : W2.cell? ⟨b, 1, none⟩ = some (.map (some mb)) := (cell_of hz2).trans z1
          have v98 : W2.cell? ⟨b, 4098, none⟩ = some (iv m) := (cell_of hz2).trans z98
          have hlook := hm2.look_ok K (t := 46) (e := 3) Tryd.underlying46 (z := .int .i64 0) (by kernel_rfl) (keyU _ (key4_lt s m)) trivial
          have hpv : f1 (.int .u32 (key4 s m : Nat)) = (prevF s m).map fun (p : Nat) => iv (p : Int) := hf1.out (key4 s m)
          rw [hpv] at hlook
          obtain ⟨u0, hu0⟩ : ∃ u0, Z[2 + m % 4096]? = some u0 := ⟨_, Array.getElem?_eq_getElem (by omega)⟩
          have x0 : W2.cell? ⟨b, 2 + m % 4096, none⟩ = some u0 := (cell_of hz2).trans hu0
          have xf : W2.frozen? ⟨b, 2 + m % 4096, none⟩ = false := free_of hz2
          replace hpv := hid hpv
          clear hz1 hm1 hF1 w0 w1 w98 hb2
          have hpf : ∀ v : Int, v = optI (prevF s m) → True := fun _ _ => trivial
          rcases hpm : prevF s m with _ | p
          · rw [hpm] at hlook
            simp only [Option.map_none, Option.getD_none, Option.isSome_none] at hlook
            have r1 : (0 : Int) ≤ (m : Int) % 4096 := by omega
            have r2 : (m : Int) % 4096 < 4096 := by omega
            have r3 : m % 4096 < 4096 := Nat.mod_lt _ (by decide)
            have hvv : optI (prevF s m) = -1 := by rw [hpm]; rfl
            clear hpm
            go_wp2_with fail
            go_region
            go_wp2_with fail
            have hz3 : ((W2.setCell ⟨b, 2 + m % 4096, none⟩ (iv (-1))).drew).heap[b]? = some (.cells (Z.setIfInBounds (2 + m % 4096) (iv (-1))) 49 (0, 0)) := heap_setCell_same hz2 _
            have hm3 : MapV Tryd.prog 28 mb N f1 ((W2.setCell ⟨b, 2 + m % 4096, none⟩ (iv (-1))).drew) := (hm2.setCell (p := ⟨b, 2 + m % 4096, none⟩) hne _).drew
            have hF3 : Fr (two b mb) wr ((W2.setCell ⟨b, 2 + m % 4096, none⟩ (iv (-1))).drew) := (hF2.setCell (p := ⟨b, 2 + m % 4096, none⟩) (Or.inl (Or.inl rfl)) _).drew
            generalize (W2.setCell ⟨b, 2 + m % 4096, none⟩ (iv (-1))).drew = W3 at *
            have y1 : W3.cell? ⟨b, 1, none⟩ = some (.map (some mb)) := by rw [cell_of hz3, Array.getElem?_setIfInBounds_ne (by omega)]; exact z1
            have y98 : W3.cell? ⟨b, 4098, none⟩ = some (iv m) := by rw [cell_of hz3, Array.getElem?_setIfInBounds_ne (by omega)]; exact z98
            obtain ⟨W4, hput, hm4', hgr⟩ := hm3.drew.put K (t := 46) (e := 3) Tryd.underlying46 (by unfold maxLen; omega) (keyU _ (key4_lt s m)) trivial (iv m)
            have hz4 : W4.heap[b]? = some (.cells (Z.setIfInBounds (2 + m % 4096) (iv (-1))) 49 (0, 0)) := (hgr.block b (lt_of_heap hz3) (fun e => by injection e with e; exact hne e)).trans hz3
            have hF4 : Fr (two b mb) wr W4 := hF3.drew.grown hgr (fun k hk => by injection hk with hk; exact Or.inl (Or.inr hk.symm))
            have x98 : W4.cell? ⟨b, 4098, none⟩ = some (iv m) := by rw [cell_of hz4, Array.getElem?_setIfInBounds_ne (by omega)]; exact z98
            have xf98 : W4.frozen? ⟨b, 4098, none⟩ = false := free_of hz4
            go_region
            clear hput hlook
            go_wp2_with fail
            have hI5 := IX.enter hz4 hzs z0 z1 zp hvv hm4' hN hf1.out hne
            have hF5 : Fr (two b mb) w (W4.setCell ⟨b, 4098, none⟩ (iv ((m : Int) + 1))) := (hF.out.trans hF4).setCell (p := ⟨b, 4098, none⟩) (Or.inl (Or.inl rfl)) _
            have hn5 := hI5.next
            refine ⟨⟨m + 1, by omega, hid hI5, hid hF5⟩, ?_⟩
            rw [hn5, hI.out.next]; omega
          · rw [hpm] at hlook
            simp only [Option.map_some, Option.getD_some, Option.isSome_some] at hlook
            have r1 : (0 : Int) ≤ (m : Int) % 4096 := by omega
            have r2 : (m : Int) % 4096 < 4096 := by omega
            have r3 : m % 4096 < 4096 := Nat.mod_lt _ (by decide)
            have hvv : optI (prevF s m) = (p : Int) := by rw [hpm]; rfl
            clear hpm
            go_wp2_with fail
            go_region
            go_wp2_with fail
            have hz3 : ((W2.setCell ⟨b, 2 + m % 4096, none⟩ (iv ((p : Int)))).drew).heap[b]? = some (.cells (Z.setIfInBounds (2 + m % 4096) (iv ((p : Int)))) 49 (0, 0)) := heap_setCell_same hz2 _
            have hm3 : MapV Tryd.prog 28 mb N f1 ((W2.setCell ⟨b, 2 + m % 4096, none⟩ (iv ((p : Int)))).drew) := (hm2.setCell (p := ⟨b, 2 + m % 4096, none⟩) hne _).drew
            have hF3 : Fr (two b mb) wr ((W2.setCell ⟨b, 2 + m % 4096, none⟩ (iv ((p : Int)))).drew) := (hF2.setCell (p := ⟨b, 2 + m % 4096, none⟩) (Or.inl (Or.inl rfl)) _).drew
            generalize (W2.setCell ⟨b, 2 + m % 4096, none⟩ (iv ((p : Int)))).drew = W3 at *
            have y1 : W3.cell? ⟨b, 1, none⟩ = some (.map (some mb)) := by rw [cell_of hz3, Array.getElem?_setIfInBounds_ne (by omega)]; exact z1
            have y98 : W3.cell? ⟨b, 4098, none⟩ = some (iv m) := by rw [cell_of hz3, Array.getElem?_setIfInBounds_ne (by omega)]; exact z98
            obtain ⟨W4, hput, hm4', hgr⟩ := hm3.drew.put K (t := 46) (e := 3) Tryd.underlying46 (by unfold maxLen; omega) (keyU _ (key4_lt s m)) trivial (iv m)
            have hz4 : W4.heap[b]? = some (.cells (Z.setIfInBounds (2 + m % 4096) (iv ((p : Int)))) 49 (0, 0)) := (hgr.block b (lt_of_heap hz3) (fun e => by injection e with e; exact hne e)).trans hz3
            have hF4 : Fr (two b mb) wr W4 := hF3.drew.grown hgr (fun k hk => by injection hk with hk; exact Or.inl (Or.inr hk.symm))
            have x98 : W4.cell? ⟨b, 4098, none⟩ = some (iv m) := by rw [cell_of hz4, Array.getElem?_setIfInBounds_ne (by omega)]; exact z98
            have xf98 : W4.frozen? ⟨b, 4098, none⟩ = false := free_of hz4
            go_region
            clear hput hlook
            go_wp2_with fail
            have hI5 := IX.enter hz4 hzs z0 z1 zp hvv hm4' hN hf1.out hne
            have hF5 : Fr (two b mb) w (W4.setCell ⟨b, 4098, none⟩ (iv ((m : Int) + 1))) := (hF.out.trans hF4).setCell (p := ⟨b, 4098, none⟩) (Or.inl (Or.inl rfl)) _
            have hn5 := hI5.next
            refine ⟨⟨m + 1, by omega, hid hI5, hid hF5⟩, ?_⟩
            rw [hn5, hI.out.next]; omega
    · have hme : m = mTo s i := by omega
      have hIe := hI.out
      rw [hme] at hIe
      replace hIe := hid hIe
      have hw : IntKind.i64.wrap ((m : Int) + 4) = (m : Int) + 4 := i64_wrap_id _ (by omega) (by unfold mTo at hm; omega)
      by_cases hmi : m < i
      · have g1 : decide ((m : Int) < (i : Int)) = true := decide_eq_true (by omega)
        have g1' : decide (m < i) = true := decide_eq_true hmi
        have g2 : decide ((m : Int) + 4 ≤ (s.length : Int)) = false := decide_eq_false (by unfold mTo at hme; omega)
        have g2' : decide (m + 4 ≤ s.length) = false := decide_eq_false (by unfold mTo at hme; omega)
        replace hme := hid hme
        clear hlt
        go_wp2_with fail
        go_quiet (fail)
        go_wp2_with fail
        go_end0
        exact ⟨rfl, hIe.out.drewN nq, hF.out.drewN nq⟩
      · have g1 : decide ((m : Int) < (i : Int)) = false := decide_eq_false (by omega)
        have g1' : decide (m < i) = false := decide_eq_false hmi
        replace hme := hid hme
        clear hlt
        go_wp2_with fail
        refine wp_region_held_drew (S := (fun w' => w'.cell? ⟨b, 4098, none⟩ = some (iv m))) (by kernel_rfl) ?_ (fun hHeld => ?_)
        · exact c98
        refine wpAnyH_take (i := 0) (oi := ⟨_, _, _, _, _, _⟩) (v := ?_) rfl (by kernel_rfl) (by kernel_rfl) (by kernel_rfl) (fun _ _ _ h => h) (Or.inl ⟨by rfl, ?hy⟩) (by assumption) ?_
        case hy =>
          intro w hSw
          (try dsimp only at hSw)
          go_simp
          all_goals with_reducible rfl
        try simp only [Act.put, List.setIfInBounds_toArray, List.set_cons_zero, List.set_cons_succ]
        refine wpAnyH_take (i := 1) (oi := ⟨_, _, _, _, _, _⟩) (v := ?_) rfl (by kernel_rfl) (by kernel_rfl) (by kernel_rfl) (fun _ _ _ h => h) (Or.inl ⟨by rfl, ?hy⟩) (by assumption) ?_
        case hy =>
          intro w hSw
          (try dsimp only at hSw)
          go_simp
          all_goals with_reducible rfl
        try simp only [Act.put, List.setIfInBounds_toArray, List.set_cons_zero, List.set_cons_succ]
        refine wpAnyH_take (i := 2) (oi := ⟨_, _, _, _, _, _⟩) (v := ?_) rfl (by kernel_rfl) (by kernel_rfl) (by kernel_rfl) (fun _ _ _ h => h) (Or.inl ⟨by rfl, ?hy⟩) (by assumption) ?_
        case hy =>
          intro w hSw
          (try dsimp only at hSw)
          go_simp
          all_goals with_reducible rfl
        try simp only [Act.put, List.setIfInBounds_toArray, List.set_cons_zero, List.set_cons_succ]
        refine wpAnyH_take (i := 3) (oi := ⟨_, _, _, _, _, _⟩) (v := ?_) rfl (by kernel_rfl) (by kernel_rfl) (by kernel_rfl) (fun _ _ _ h => h) (Or.inl ⟨by rfl, ?hy⟩) (by assumption) ?_
        case hy =>
          intro w hSw
          (try dsimp only at hSw)
          go_simp
          all_goals with_reducible rfl
        try simp only [Act.put, List.setIfInBounds_toArray, List.set_cons_zero, List.set_cons_succ]
        refine wpAnyH_take (i := 4) (oi := ⟨_, _, _, _, _, _⟩) (v := ?_) rfl (by kernel_rfl) (by kernel_rfl) (by kernel_rfl) (fun _ _ _ h => h) (Or.inl ⟨by rfl, ?hy⟩) (by assumption) ?_
        case hy =>
          intro w hSw
          (try dsimp only at hSw)
          go_simp
          all_goals with_reducible rfl
        try simp only [Act.put, List.setIfInBounds_toArray, List.set_cons_zero, List.set_cons_succ]
        refine wpAnyH_take (i := 5) (oi := ⟨_, _, _, _, _, _⟩) (v := ?_) rfl (by kernel_rfl) (by kernel_rfl) (by kernel_rfl) (fun _ _ _ h => h) (Or.inl ⟨by rfl, ?hy⟩) (by assumption) ?_
        case hy =>
          intro w hSw
          (try dsimp only at hSw)
          go_simp
          all_goals with_reducible rfl
        try simp only [Act.put, List.setIfInBounds_toArray, List.set_cons_zero, List.set_cons_succ]
        refine wpAnyH_take (i := 6) (oi := ⟨_, _, _, _, _, _⟩) (v := ?_) rfl (by kernel_rfl) (by kernel_rfl) (by kernel_rfl) (fun _ _ _ h => h) (Or.inl ⟨by rfl, ?hy⟩) (by assumption) ?_
        case hy =>
          intro w hSw
          (try dsimp only at hSw)
          go_simp
          all_goals with_reducible rfl
        try simp only [Act.put, List.setIfInBounds_toArray, List.set_cons_zero, List.set_cons_succ]
        refine wpAnyH_take (i := 7) (oi := ⟨_, _, _, _, _, _⟩) (v := undef) rfl (by kernel_rfl) (by kernel_rfl) (by kernel_rfl) (fun _ _ _ h => h) (Or.inr ⟨by rfl, rfl⟩) (by assumption) ?_
        try simp only [Act.put, List.setIfInBounds_toArray, List.set_cons_zero, List.set_cons_succ]
        refine wpAnyH_take (i := 8) (oi := ⟨_, _, _, _, _, _⟩) (v := undef) rfl (by kernel_rfl) (by kernel_rfl) (by kernel_rfl) (fun _ _ _ h => h) (Or.inr ⟨by rfl, rfl⟩) (by assumption) ?_
        try simp only [Act.put, List.setIfInBounds_toArray, List.set_cons_zero, List.set_cons_succ]
        refine wpAnyH_take (i := 9) (oi := ⟨_, _, _, _, _, _⟩) (v := undef) rfl (by kernel_rfl) (by kernel_rfl) (by kernel_rfl) (fun _ _ _ h => h) (Or.inr ⟨by rfl, rfl⟩) (by assumption) ?_
        try simp only [Act.put, List.setIfInBounds_toArray, List.set_cons_zero, List.set_cons_succ]
        refine wpAnyH_take (i := 10) (oi := ⟨_, _, _, _, _, _⟩) (v := undef) rfl (by kernel_rfl) (by kernel_rfl) (by kernel_rfl) (fun _ _ _ h => h) (Or.inr ⟨by rfl, rfl⟩) (by assumption) ?_
        try simp only [Act.put, List.setIfInBounds_toArray, List.set_cons_zero, List.set_cons_succ]
        refine wpAnyH_take (i := 11) (oi := ⟨_, _, _, _, _, _⟩) (v := undef) rfl (by kernel_rfl) (by kernel_rfl) (by kernel_rfl) (fun _ _ _ h => h) (Or.inr ⟨by rfl, rfl⟩) (by assumption) ?_
        try simp only [Act.put, List.setIfInBounds_toArray, List.set_cons_zero, List.set_cons_succ]
        refine wpAnyH_take (i := 12) (oi := ⟨_, _, _, _, _, _⟩) (v := undef) rfl (by kernel_rfl) (by kernel_rfl) (by kernel_rfl) (fun _ _ _ h => h) (Or.inr ⟨by rfl, rfl⟩) (by assumption) ?_
        try simp only [Act.put, List.setIfInBounds_toArray, List.set_cons_zero, List.set_cons_succ]
        refine wpAnyH_take (i := 13) (oi := ⟨_, _, _, _, _, _⟩) (v := undef) rfl (by kernel_rfl) (by kernel_rfl) (by kernel_rfl) (fun _ _ _ h => h) (Or.inr ⟨by rfl, rfl⟩) (by assumption) ?_
        try simp only [Act.put, List.setIfInBounds_toArray, List.set_cons_zero, List.set_cons_succ]
        refine wpAnyH_take (i := 14) (oi := ⟨_, _, _, _, _, _⟩) (v := undef) rfl (by kernel_rfl) (by kernel_rfl) (by kernel_rfl) (fun _ _ _ h => h) (Or.inr ⟨by rfl, rfl⟩) (by assumption) ?_
        try simp only [Act.put, List.setIfInBounds_toArray, List.set_cons_zero, List.set_cons_succ]
        refine wpAnyH_take (i := 15) (oi := ⟨_, _, _, _, _, _⟩) (v := undef) rfl (by kernel_rfl) (by kernel_rfl) (by kernel_rfl) (fun _ _ _ h => h) (Or.inr ⟨by rfl, rfl⟩) (by assumption) ?_
        try simp only [Act.put, List.setIfInBounds_toArray, List.set_cons_zero, List.set_cons_succ]
        refine wpAnyH_take (i := 16) (oi := ⟨_, _, _, _, _, _⟩) (v := undef) rfl (by kernel_rfl) (by kernel_rfl) (by kernel_rfl) (fun _ _ _ h => h) (Or.inr ⟨by rfl, rfl⟩) (by assumption) ?_
        try simp only [Act.put, List.setIfInBounds_toArray, List.set_cons_zero, List.set_cons_succ]
        refine wpAnyH_take (i := 17) (oi := ⟨_, _, _, _, _, _⟩) (v := undef) rfl (by kernel_rfl) (by kernel_rfl) (by kernel_rfl) (fun _ _ _ h => h) (Or.inr ⟨by rfl, rfl⟩) (by assumption) ?_
        try simp only [Act.put, List.setIfInBounds_toArray, List.set_cons_zero, List.set_cons_succ]
        refine wpAnyH_take (i := 18) (oi := ⟨_, _, _, _, _, _⟩) (v := ?_) rfl (by kernel_rfl) (by kernel_rfl) (by kernel_rfl) (fun _ _ _ h => h) (Or.inl ⟨by rfl, ?hy⟩) (by assumption) ?_
        case hy =>
          intro w hSw
          (try dsimp only at hSw)
          go_simp
          all_goals with_reducible rfl
        try simp only [Act.put, List.setIfInBounds_toArray, List.set_cons_zero, List.set_cons_succ]
        refine wpAnyH_done (by kernel_rfl) ?_ _
        go_wp2_with fail
        go_end0
        exact ⟨rfl, hIe.out.drewN 1, hF.out.drewN 1⟩
end Go.Proofs.YtomijpoglnihgaaDoor
