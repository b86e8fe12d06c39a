/- press: longest. -/
import Derived.Test.YtomijpoglnihgaaDoorPressW2
set_option linter.unusedVariables false
namespace Go.Proofs.YtomijpoglnihgaaDoor
open Go.RowKit
open Go.Lib (hid byteCells)
/-- what stands behind the candidate C: E distances have been seen, and between E's and C there is none -/
def Cand (s : List UInt8) (i : Nat) (C : Option Nat) (E : Nat) : Prop :=
  E ≤ i ∧ E ≤ 4096 ∧ match C with
  | some c => c < i ∧ E < i - c ∧ key4 s c = key4 s i ∧ ∀ p, c < p → p < i - E → key4 s p ≠ key4 s i
  | none => ∀ p, i ≤ p + 4096 → p < i - E → key4 s p ≠ key4 s i
theorem Cand.start {s : List UInt8} {i : Nat} : Cand s i (lastF s i (key4 s i)) 0 := by
  refine ⟨Nat.zero_le _, Nat.zero_le _, ?_⟩
  cases h : lastF s i (key4 s i) with
  | none =>
    intro p h1 h2 h3
    have := latest_none h p (by omega)
    simp [h3] at this; omega
  | some c =>
    obtain ⟨h1, h2, h3⟩ := latest_some h
    simp at h2
    refine ⟨h1, by omega, h2.1, fun p h4 h5 h6 => ?_⟩
    have := h3 p h4 (by omega)
    simp [h6] at this; omega
theorem Cand.next {s : List UInt8} {i c E : Nat} (h : Cand s i (some c) E) (hw : i ≤ c + 4096) : Cand s i (prevF s c) (i - c) := by
  obtain ⟨h1, h2, h3, h4, h5, h6⟩ := h
  refine ⟨by omega, by omega, ?_⟩
  have hic : i - (i - c) = c := by omega
  cases hp : prevF s c with
  | none =>
    intro p g1 g2 g3
    have := latest_none hp p (by omega)
    simp [g3, h5] at this; omega
  | some q =>
    obtain ⟨g1, g2, g3⟩ := latest_some hp
    simp at g2
    refine ⟨by omega, by omega, by rw [g2.1, h5], fun p g4 g5 g6 => ?_⟩
    have := g3 p g4 (by omega)
    simp [g6, h5] at this; omega
theorem Cand.done {s : List UInt8} {i E : Nat} {C : Option Nat} (h : Cand s i C E) (hi : i + 4 ≤ s.length) (hc : ∀ c, C = some c → c + 4096 < i) : sc4 s i (min i 4096) = sc4 s i E := by
  obtain ⟨h1, h2, h3⟩ := h
  refine sc4_none hi (by omega) (by omega) fun p g1 g2 => ?_
  cases C with
  | none => exact h3 p (by omega) g2
  | some c => exact h3.2.2.2 p (by have := hc c rfl; omega) g2
theorem Cand.here {s : List UInt8} {i c E : Nat} (h : Cand s i (some c) E) (hi : i + 4 ≤ s.length) : sc4 s i (i - c) = if (sc4 s i E).1 < mlen s i (i - c) then (mlen s i (i - c), i - c) else sc4 s i E := by
  obtain ⟨h1, h2, h3, h4, h5, h6⟩ := h
  have e : sc4 s i (i - c - 1) = sc4 s i E := sc4_none hi (by omega) (by omega) fun p g1 g2 => h6 p (by omega) g2
  obtain ⟨d, hd⟩ : ∃ d, i - c = d + 1 := ⟨i - c - 1, by omega⟩
  have e2 : i - c - 1 = d := by omega
  rw [e2] at e
  rw [hd, sc4_succ, e]
  have h4' : 4 ≤ mlen s i (d + 1) := (mlen_key hi (by omega)).2 (by rw [show i - (d + 1) = c by omega]; exact h5)
  by_cases hlt : (sc4 s i E).1 < mlen s i (d + 1)
  · rw [if_pos ⟨h4', hlt⟩, if_pos hlt]
  · rw [if_neg (fun h => hlt h.2), if_neg hlt]
theorem prev_lt (s : List UInt8) (c : Nat) : (intOf (iv (optI (prevF s c))) + 1).toNat < (intOf (Value.int .i64 (c : Int)) + 1).toNat := by
  cases hp : prevF s c with
  | none => simp [intOf, optI]
  | some p =>
    obtain ⟨g1, _⟩ := latest_some hp
    simp [intOf, optI]; omega
set_option maxHeartbeats 8000000 in
set_option maxRecDepth 100000 in
theorem longest_any (s : List UInt8) (hs : s.length ≤ 16777216) (i b mb : Nat) (w : World) (hi : i < s.length) (h : i + 4 ≤ s.length → IX s i b mb w) (hc0 : w.cell? ⟨b, 0, none⟩ = some (sv s)) :
    Calls Tryd.prog 15 #[pt b, iv i] w fun e w' => e = .returned (.tuple #[iv (longP s i).1, iv (longP s i).2]) ∧ Below w.heap.size w w' := by
  have K := Maps.int_keyed Tryd.underlying28
  generalize hres : longP s i = res
  by_cases h4 : s.length < i + 4
  · have hy : longP s i = (0, 0) := by unfold longP; rw [if_pos h4]
    rw [hres] at hy
    replace hy := hid hy
    have q1 : decide ((s.length : Int) < (i : Int) + 4) = true := decide_eq_true (by omega)
    clear h
    go_enter Tryd.func15, Tryd.ntmps15
    go_wp2_with fail
    go_ret2
    exact ⟨by rw [hy.out]; rfl, Below.refl _ _⟩
  · have hi4 : i + 4 ≤ s.length := by omega
    have hI := h hi4
    obtain ⟨⟨Z, hz, hzs, z0, z1, z98, zp⟩, ⟨N, f, hmap, hN, hf⟩, hne⟩ := id hI
    have c1 : w.cell? ⟨b, 1, none⟩ = some (.map (some mb)) := (cell_of hz).trans z1
    have hbl : b < w.heap.size := lt_of_heap hz
    have hml : mb < w.heap.size := hmap.lt
    have q1 : decide ((s.length : Int) < (i : Int) + 4) = false := decide_eq_false (by omega)
    have hlong : longP s i = sc4 s i (min i 4096) := by unfold longP; rw [if_neg h4]
    rw [hres] at hlong
    replace hlong := hid hlong
    replace hres := hid hres
    have hkey := hid (key_any b s i w.drew hi4 hs hc0)
    have hcs := Cand.start (s := s) (i := i)
    have hfk := hf (key4 s i)
    generalize lastF s i (key4 s i) = C at *
    replace hcs := hid hcs
    replace zp := hid zp
    clear h hI hf h4
    have i1 : (i : Int) ≤ (s.length : Int) := by omega
    have i2 : i ≤ s.length := by omega
    go_enter Tryd.func15, Tryd.ntmps15
    go_wp2_with fail
    go_region_held3 (fun w' => w'.cell? ⟨b, 1, none⟩ = some (.map (some mb))) (first | with_reducible exact c1 | with_reducible exact d1 | go_keep)
      (first | (go_at_call 23; refine hkey.out.mono ?_; rintro e W2 ⟨rfl, hb2⟩; have hB2 : Below w.heap.size w W2 := (Below.refl _ w).drew.trans hb2; have d1 := (hB2.cell (p := ⟨b, 1, none⟩) hbl).trans c1; have hlook := (hmap.below hB2 hmap.lt).look_ok K (t := 46) (e := 3) Tryd.underlying46 (z := .int .i64 0) (by kernel_rfl) (keyU _ (key4_lt s i)) trivial; rw [hfk] at hlook))
    have hc2 := (hB2.cell (p := ⟨b, 0, none⟩) hbl).trans hc0
    have hB2h := hid hB2
    clear hkey hlook c1 d1 hb2 hB2
    rcases C with _ | cc
    · have hd := hcs.out.done hi4 (fun c h => by cases h)
      rw [show sc4 s i 0 = (0, 0) from rfl, ← hlong.out] at hd
      replace hd := hid hd
      simp only [Option.map_none, Option.getD_none, Option.isSome_none]
      go_wp2_with fail
      go_ret2
      exact ⟨by rw [hd.out]; rfl, hB2h.out⟩
    simp only [Option.map_some, Option.getD_some, Option.isSome_some]
    have i3 : (ByteArray.mk s.toArray).extract i s.length = ⟨(s.drop i).toArray⟩ := ext_drop s i
    go_wp2_with fail
    go_loopw [6, 9, 10] (fun cv lv dv wr => ∃ (C : Option Nat) (E L D : Nat), cv = .int .i64 (optI C) ∧ lv = .int .i64 L ∧ dv = .int .i64 D ∧ Hid (Cand s i C E) ∧ Hid (sc4 s i E = (L, D)) ∧ L < s.length - i ∧ Hid (Below w.heap.size w wr)) (fun cv _ _ _ => (intOf cv + 1).toNat)
    case atStart => exact ⟨some cc, 0, 0, 0, rfl, rfl, rfl, hcs, hid rfl, by omega, hB2h⟩
    case round =>
      clear hcs hB2h hc2
      obtain ⟨C, E, L, D, rfl, rfl, rfl, hcs, hsc, hL, hB⟩ := hrel
      have w0 := (hB.out.cell (p := ⟨b, 0, none⟩) hbl).trans hc0
      have fin : ∀ Lx Dx : Nat, sc4 s i (min i 4096) = (Lx, Dx) → res = (Lx, Dx) := fun Lx Dx h => hlong.out.trans h
      replace fin := hid fin
      rcases C with _ | c
      · have hd := hcs.out.done hi4 (fun c h => by cases h)
        have hr := hid (fin.out L D (hd.trans hsc.out))
        simp only [optI]
        go_wp2_with fail
        go_ret2
        exact ⟨by rw [hr.out]; rfl, hB.out⟩
      have hcc := hcs.out
      obtain ⟨g1, g2, g3, g4, g5, g6⟩ := hcc
      simp only [optI]
      by_cases hwin : c + 4096 < i
      · have hd := hcs.out.done hi4 (fun c' h => by injection h with h; omega)
        have hr := hid (fin.out L D (hd.trans hsc.out))
        have q2 : decide ((i : Int) - (c : Int) ≤ 4096) = false := decide_eq_false (by omega)
        have q2' : decide ((0 : Int) ≤ (c : Int)) = true := decide_eq_true (by omega)
        clear g6
        go_wp2_with fail
        go_ret2
        exact ⟨by rw [hr.out]; rfl, hB.out⟩
      have q2 : decide ((i : Int) - (c : Int) ≤ 4096) = true := decide_eq_true (by omega)
      have q2' : decide ((0 : Int) ≤ (c : Int)) = true := decide_eq_true (by omega)
      have hhere := hcs.out.here hi4
      rw [hsc.out] at hhere
      simp only at hhere
      have hnx := hid (hcs.out.next (by omega))
      obtain ⟨x1, hx1⟩ : ∃ x1, s[c + L]? = some x1 := ⟨_, List.getElem?_eq_getElem (by omega)⟩
      obtain ⟨x2, hx2⟩ : ∃ x2, (s.drop i)[L]? = some x2 := ⟨_, List.getElem?_eq_getElem (by rw [List.length_drop]; omega)⟩
      have hd1 := idx_str (P := Tryd.prog) 9 (by kernel_rfl) s (c + L) x1 hx1
      have hd2 := idx_str (P := Tryd.prog) 9 (by kernel_rfl) (s.drop i) L x2 hx2
      simp only [Int.natCast_add] at hd1
      have hwr : IntKind.i64.wrap ((c : Int) + (L : Int)) = (c : Int) + (L : Int) := i64_wrap_id _ (by omega) (by omega)
      have hzb := below_keep hB.out hz hbl
      have hpv : Z[2 + c % 4096]? = some (iv (optI (prevF s c))) := zp.out c g3 (by omega)
      have hmc : i - (i - c) = c := by omega
      have hmd : mlen s i (i - c) = cp (s.drop i) (s.drop c) := by unfold mlen; rw [hmc]
      have hml2 := mlen_le s i (i - c)
      replace hmc := hid hmc
      replace hhere := hid hhere
      have r1 : (0 : Int) ≤ (c : Int) % 4096 := by omega
      have r2 : (c : Int) % 4096 < 4096 := by omega
      have r3 : c % 4096 < 4096 := Nat.mod_lt _ (by decide)
      clear g6 g5 g4
      by_cases hxe : x1 = x2
      · subst hxe
        have hq : ((x1.toNat : Int) == (x1.toNat : Int)) = true := by simp
        have hMl : mlen s i (i - c) ≤ s.length - i := hml2
        go_wp2_with fail
        go_quiet (fail)
        have hBq := hid (below_drewM hB.out nq)
        generalize wr.drewN nq = wq at *
        clear w0
        go_wp2_with fail
        go_loopw [11] (fun nv wr => ∃ n : Nat, nv = .int .i64 n ∧ n ≤ mlen s i (i - c) ∧ Hid (Below w.heap.size w wr)) (fun nv _ => s.length - (intOf nv).toNat)
        case atStart => exact ⟨0, rfl, Nat.zero_le _, hBq⟩
        case round =>
          clear hBq hzb
          obtain ⟨n, rfl, hn, hB2⟩ := hrel
          have w0 := (hB2.out.cell (p := ⟨b, 0, none⟩) hbl).trans hc0
          have hzb := below_keep hB2.out hz hbl
          by_cases hnl : n < s.length - i
          · obtain ⟨y1, hy1⟩ : ∃ y1, s[c + n]? = some y1 := ⟨_, List.getElem?_eq_getElem (by omega)⟩
            obtain ⟨y2, hy2⟩ : ∃ y2, (s.drop i)[n]? = some y2 := ⟨_, List.getElem?_eq_getElem (by rw [List.length_drop]; omega)⟩
            have he1 := idx_str (P := Tryd.prog) 9 (by kernel_rfl) s (c + n) y1 hy1
            have he2 := idx_str (P := Tryd.prog) 9 (by kernel_rfl) (s.drop i) n y2 hy2
            simp only [Int.natCast_add] at he1
            have hwn : IntKind.i64.wrap ((c : Int) + (n : Int)) = (c : Int) + (n : Int) := i64_wrap_id _ (by omega) (by omega)
            have t1 : decide ((n : Int) < ((s.length - i : Nat) : Int)) = true := decide_eq_true (by omega)
            have t1' : decide (n < s.length - i) = true := decide_eq_true hnl
            by_cases hye : y1 = y2
            · have tq : ((y1.toNat : Int) == (y2.toNat : Int)) = true := by rw [hye]; simp
              have hn1 : n + 1 ≤ mlen s i (i - c) := by
                rw [hmd] at hn ⊢
                rcases Nat.lt_or_ge n (cp (s.drop i) (s.drop c)) with h9 | h9
                · omega
                · exfalso
                  have h8 : cp (s.drop i) (s.drop c) = n := by omega
                  have := cp_end (s.drop i) (s.drop c) (by rw [h8, List.length_drop]; omega) (by rw [h8, List.length_drop]; omega)
                  rw [h8, hy2, List.getElem?_drop, hy1, hye] at this
                  exact this rfl
              subst hye
              go_wp2_with fail
              go_quiet (fail)
              go_wp2_with fail
              exact ⟨⟨n + 1, by go_num, hn1, hid (below_drewM hB2.out nq)⟩, by simp [intOf]; omega⟩
            · have tq : ((y1.toNat : Int) == (y2.toNat : Int)) = false := by
                simp; intro h; exact hye (UInt8.toNat_inj.1 (by omega))
              have hnm : mlen s i (i - c) = n := by
                refine Nat.le_antisymm (Nat.le_of_not_lt fun h9 => hye ?_) hn
                have := mlen_at h9
                rw [hmc.out, hy1] at this
                rw [List.getElem?_drop, this] at hy2
                injection hy2
              clear hye
              go_wp2_with fail
              go_quiet (fail)
              have hBt := hid (below_drewM hB2.out nq)
              have hzt : (wr.drewN nq).heap[b]? = some (.cells Z 49 (0, 0)) := hzb
              generalize wr.drewN nq = wt at *
              have p0 : wt.cell? ⟨b, 2 + c % 4096, none⟩ = some (iv (optI (prevF s c))) := (cell_of hzt).trans hpv
              have hh := hhere.out
              clear w0 tq t1 t1' hwn he1 he2 hzt
              by_cases hLn : L < n
              · have t3 : decide ((L : Int) < (n : Int)) = true := decide_eq_true (by omega)
                have t3' : decide (L < n) = true := decide_eq_true hLn
                rw [hnm, if_pos hLn] at hh
                have t4 : ((n : Int) == ((s.length - i : Nat) : Int)) = false := by simp; omega
                have t4' : (n == s.length - i) = false := by simp; omega
                replace hh := hid hh
                clear hLn
                go_wp2_with fail
                exact ⟨⟨prevF s c, i - c, n, i - c, rfl, rfl, by go_num, hnx, hh, hnl, hBt⟩, prev_lt s c⟩
              · have t3 : decide ((L : Int) < (n : Int)) = false := decide_eq_false (by omega)
                have t3' : decide (L < n) = false := decide_eq_false hLn
                rw [hnm, if_neg hLn] at hh
                have t4 : ((L : Int) == ((s.length - i : Nat) : Int)) = false := by simp; omega
                have t4' : (L == s.length - i) = false := by simp; omega
                replace hh := hid hh
                clear hLn
                go_wp2_with fail
                exact ⟨⟨prevF s c, i - c, L, D, rfl, rfl, rfl, hnx, hh, hL, hBt⟩, prev_lt s c⟩
          · have hnm : mlen s i (i - c) = n := by omega
            have t1 : decide ((n : Int) < ((s.length - i : Nat) : Int)) = false := decide_eq_false (by omega)
            have t1' : decide (n < s.length - i) = false := decide_eq_false hnl
            go_wp2_with fail
            refine wp_region_held_drew (S := (fun w' => w'.cell? ⟨b, 0, none⟩ = some (sv s))) (by kernel_rfl) ?_ (fun hHeld => ?_)
            · exact w0
            refine wpAnyH_take (i := 0) (oi := ⟨_, _, _, _, _, _⟩) (v := ?_) rfl (by kernel_rfl) (by kernel_rfl) (by kernel_rfl) (fun _ _ _ h => h) (Or.inl ⟨by rfl, ?hy⟩) (by assumption) ?_
            case hy =>
              intro w hSw
              (try dsimp only at hSw)
              go_simp
              all_goals with_reducible rfl
            try simp only [Act.put, List.setIfInBounds_toArray, List.set_cons_zero, List.set_cons_succ]
            refine wpAnyH_take (i := 1) (oi := ⟨_, _, _, _, _, _⟩) (v := ?_) rfl (by kernel_rfl) (by kernel_rfl) (by kernel_rfl) (fun _ _ _ h => h) (Or.inl ⟨by rfl, ?hy⟩) (by assumption) ?_
            case hy =>
              intro w hSw
              (try dsimp only at hSw)
              go_simp
              all_goals with_reducible rfl
            try simp only [Act.put, List.setIfInBounds_toArray, List.set_cons_zero, List.set_cons_succ]
            refine wpAnyH_take (i := 2) (oi := ⟨_, _, _, _, _, _⟩) (v := ?_) rfl (by kernel_rfl) (by kernel_rfl) (by kernel_rfl) (fun _ _ _ h => h) (Or.inl ⟨by rfl, ?hy⟩) (by assumption) ?_
            case hy =>
              intro w hSw
              (try dsimp only at hSw)
              go_simp
              all_goals with_reducible rfl
            try simp only [Act.put, List.setIfInBounds_toArray, List.set_cons_zero, List.set_cons_succ]
            refine wpAnyH_take (i := 3) (oi := ⟨_, _, _, _, _, _⟩) (v := ?_) rfl (by kernel_rfl) (by kernel_rfl) (by kernel_rfl) (fun _ _ _ h => h) (Or.inl ⟨by rfl, ?hy⟩) (by assumption) ?_
            case hy =>
              intro w hSw
              (try dsimp only at hSw)
              go_simp
              all_goals with_reducible rfl
            try simp only [Act.put, List.setIfInBounds_toArray, List.set_cons_zero, List.set_cons_succ]
            refine wpAnyH_take (i := 4) (oi := ⟨_, _, _, _, _, _⟩) (v := ?_) rfl (by kernel_rfl) (by kernel_rfl) (by kernel_rfl) (fun _ _ _ h => h) (Or.inl ⟨by rfl, ?hy⟩) (by assumption) ?_
            case hy =>
              intro w hSw
              (try dsimp only at hSw)
              go_simp
              all_goals with_reducible rfl
            try simp only [Act.put, List.setIfInBounds_toArray, List.set_cons_zero, List.set_cons_succ]
            refine wpAnyH_take (i := 5) (oi := ⟨_, _, _, _, _, _⟩) (v := undef) rfl (by kernel_rfl) (by kernel_rfl) (by kernel_rfl) (fun _ _ _ h => h) (Or.inr ⟨by rfl, rfl⟩) (by assumption) ?_
            try simp only [Act.put, List.setIfInBounds_toArray, List.set_cons_zero, List.set_cons_succ]
            refine wpAnyH_take (i := 6) (oi := ⟨_, _, _, _, _, _⟩) (v := undef) rfl (by kernel_rfl) (by kernel_rfl) (by kernel_rfl) (fun _ _ _ h => h) (Or.inr ⟨by rfl, rfl⟩) (by assumption) ?_
            try simp only [Act.put, List.setIfInBounds_toArray, List.set_cons_zero, List.set_cons_succ]
            refine wpAnyH_take (i := 7) (oi := ⟨_, _, _, _, _, _⟩) (v := undef) rfl (by kernel_rfl) (by kernel_rfl) (by kernel_rfl) (fun _ _ _ h => h) (Or.inr ⟨by rfl, rfl⟩) (by assumption) ?_
            try simp only [Act.put, List.setIfInBounds_toArray, List.set_cons_zero, List.set_cons_succ]
            refine wpAnyH_take (i := 8) (oi := ⟨_, _, _, _, _, _⟩) (v := undef) rfl (by kernel_rfl) (by kernel_rfl) (by kernel_rfl) (fun _ _ _ h => h) (Or.inr ⟨by rfl, rfl⟩) (by assumption) ?_
            try simp only [Act.put, List.setIfInBounds_toArray, List.set_cons_zero, List.set_cons_succ]
            refine wpAnyH_take (i := 9) (oi := ⟨_, _, _, _, _, _⟩) (v := undef) rfl (by kernel_rfl) (by kernel_rfl) (by kernel_rfl) (fun _ _ _ h => h) (Or.inr ⟨by rfl, rfl⟩) (by assumption) ?_
            try simp only [Act.put, List.setIfInBounds_toArray, List.set_cons_zero, List.set_cons_succ]
            refine wpAnyH_take (i := 10) (oi := ⟨_, _, _, _, _, _⟩) (v := undef) rfl (by kernel_rfl) (by kernel_rfl) (by kernel_rfl) (fun _ _ _ h => h) (Or.inr ⟨by rfl, rfl⟩) (by assumption) ?_
            try simp only [Act.put, List.setIfInBounds_toArray, List.set_cons_zero, List.set_cons_succ]
            refine wpAnyH_take (i := 11) (oi := ⟨_, _, _, _, _, _⟩) (v := undef) rfl (by kernel_rfl) (by kernel_rfl) (by kernel_rfl) (fun _ _ _ h => h) (Or.inr ⟨by rfl, rfl⟩) (by assumption) ?_
            try simp only [Act.put, List.setIfInBounds_toArray, List.set_cons_zero, List.set_cons_succ]
            refine wpAnyH_take (i := 12) (oi := ⟨_, _, _, _, _, _⟩) (v := undef) rfl (by kernel_rfl) (by kernel_rfl) (by kernel_rfl) (fun _ _ _ h => h) (Or.inr ⟨by rfl, rfl⟩) (by assumption) ?_
            try simp only [Act.put, List.setIfInBounds_toArray, List.set_cons_zero, List.set_cons_succ]
            refine wpAnyH_take (i := 13) (oi := ⟨_, _, _, _, _, _⟩) (v := undef) rfl (by kernel_rfl) (by kernel_rfl) (by kernel_rfl) (fun _ _ _ h => h) (Or.inr ⟨by rfl, rfl⟩) (by assumption) ?_
            try simp only [Act.put, List.setIfInBounds_toArray, List.set_cons_zero, List.set_cons_succ]
            refine wpAnyH_take (i := 14) (oi := ⟨_, _, _, _, _, _⟩) (v := undef) rfl (by kernel_rfl) (by kernel_rfl) (by kernel_rfl) (fun _ _ _ h => h) (Or.inr ⟨by rfl, rfl⟩) (by assumption) ?_
            try simp only [Act.put, List.setIfInBounds_toArray, List.set_cons_zero, List.set_cons_succ]
            refine wpAnyH_take (i := 15) (oi := ⟨_, _, _, _, _, _⟩) (v := undef) rfl (by kernel_rfl) (by kernel_rfl) (by kernel_rfl) (fun _ _ _ h => h) (Or.inr ⟨by rfl, rfl⟩) (by assumption) ?_
            try simp only [Act.put, List.setIfInBounds_toArray, List.set_cons_zero, List.set_cons_succ]
            refine wpAnyH_take (i := 16) (oi := ⟨_, _, _, _, _, _⟩) (v := undef) rfl (by kernel_rfl) (by kernel_rfl) (by kernel_rfl) (fun _ _ _ h => h) (Or.inr ⟨by rfl, rfl⟩) (by assumption) ?_
            try simp only [Act.put, List.setIfInBounds_toArray, List.set_cons_zero, List.set_cons_succ]
            refine wpAnyH_take (i := 17) (oi := ⟨_, _, _, _, _, _⟩) (v := ?_) rfl (by kernel_rfl) (by kernel_rfl) (by kernel_rfl) (fun _ _ _ h => h) (Or.inl ⟨by rfl, ?hy⟩) (by assumption) ?_
            case hy =>
              intro w hSw
              (try dsimp only at hSw)
              go_simp
              all_goals with_reducible rfl
            try simp only [Act.put, List.setIfInBounds_toArray, List.set_cons_zero, List.set_cons_succ]
            refine wpAnyH_done (by kernel_rfl) ?_ _
            have hBt := hid hB2.out.drew
            have hzt : wr.drew.heap[b]? = some (.cells Z 49 (0, 0)) := hzb
            generalize wr.drew = wt at *
            have hh := hhere.out
            rw [hnm, if_pos (by omega)] at hh
            have t3 : decide ((L : Int) < (n : Int)) = true := decide_eq_true (by omega)
            have t3' : decide (L < n) = true := decide_eq_true (by omega)
            have t4 : ((n : Int) == ((s.length - i : Nat) : Int)) = true := by simp; omega
            have t4' : (n == s.length - i) = true := by simp; omega
            have hall := sc4_skip s i (i - c) (min i 4096) (by omega) (fun d h1 h2 => Or.inr (by rw [hh]; have := mlen_le s i d; simp only; omega))
            rw [hh] at hall
            have hr := hid (fin.out n (i - c) hall)
            clear hh hall w0 t1 t1' hzt hhere
            replace hnm := hid hnm
            have hcast : (i : Int) - (c : Int) = ((i - c : Nat) : Int) := by omega
            replace hcast := hid hcast
            go_wp2_with fail
            go_ret2
            exact ⟨by rw [hr.out]; show Ending.returned (.tuple #[iv n, iv ((i : Int) - c)]) = .returned (.tuple #[iv n, iv ((i - c : Nat) : Int)]); rw [hcast.out], hBt.out⟩
      · have hq : ((x1.toNat : Int) == (x2.toNat : Int)) = false := by
          simp; intro h; exact hxe (UInt8.toNat_inj.1 (by omega))
        have hle : mlen s i (i - c) ≤ L := by
          refine Nat.le_of_not_lt fun h9 => hxe ?_
          have := mlen_at h9
          rw [hmc.out, hx1] at this
          rw [List.getElem?_drop, this] at hx2
          injection hx2
        have hsc2 := hhere.out
        rw [if_neg (by omega)] at hsc2
        replace hsc2 := hid hsc2
        clear hxe hhere hmd
        go_wp2_with fail
        go_quiet (fail)
        have p0 : wr.cell? ⟨b, 2 + c % 4096, none⟩ = some (iv (optI (prevF s c))) := (cell_of hzb).trans hpv
        go_wp2_with fail
        exact ⟨⟨prevF s c, i - c, L, D, rfl, rfl, rfl, hnx, hsc2, hL, hid (below_drewM hB.out nq)⟩, prev_lt s c⟩
end Go.Proofs.YtomijpoglnihgaaDoor
