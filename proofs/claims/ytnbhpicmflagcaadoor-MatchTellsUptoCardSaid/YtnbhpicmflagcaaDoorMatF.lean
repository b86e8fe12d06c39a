/- value.encode, value.Bytes. -/
import Derived.Test.YtnbhpicmflagcaaDoorMatE
import Derived.Test.YtnbhpicmflagcaaDoorTextW
import Derived.Test.YtnbhpicmflagcaaDoorBldF
set_option linter.unusedVariables false
set_option linter.unusedSimpArgs false
namespace Go.Proofs.YtnbhpicmflagcaaDoor
open Go.RowKit
open Go.Lib (hid byteCells)
def encG : Nat → Val → List UInt8
  | 0, _ => []
  | f + 1, x => nenc x.kind ++ tenc x.t ++ ienc x.n ++ ienc x.m ++ tenc x.s ++ nenc x.l.length ++ (x.l.map (encG f)).flatten
noncomputable def encF (x : Val) : List UInt8 := encG (SizeOf.sizeOf x) x
def headF (x : Val) : List UInt8 := nenc x.kind ++ tenc x.t ++ ienc x.n ++ ienc x.m ++ tenc x.s ++ nenc x.l.length
theorem encG_eq : ∀ (f g : Nat) (x : Val), SizeOf.sizeOf x ≤ f → SizeOf.sizeOf x ≤ g → encG f x = encG g x
  | 0, _, x, h, _ => by cases x; simp at h
  | _ + 1, 0, x, _, h => by cases x; simp at h
  | f + 1, g + 1, x, hf, hg => by
    simp only [encG]
    rw [List.map_congr_left (g := encG g) fun y hy => by
      have := val_mem_lt hy
      exact encG_eq f g y (by omega) (by omega)]
theorem encF_eq (x : Val) : encF x = headF x ++ (x.l.map encF).flatten := by
  obtain ⟨f, hf⟩ : ∃ f, SizeOf.sizeOf x = f + 1 := ⟨SizeOf.sizeOf x - 1, by cases x; simp; omega⟩
  rw [show encF x = encG (f + 1) x by unfold encF; rw [hf]]
  simp only [encG, headF]
  rw [List.map_congr_left (g := encF) fun y hy => by
    have := val_mem_lt hy
    exact encG_eq _ _ y (by omega) (Nat.le_refl _)]
theorem node_kind {x : Val} (h : nodeF x = true) : 1 ≤ x.kind ∧ x.kind ≤ 10 := by
  unfold nodeF nodeC at h
  repeat (split at h; (· omega))
  cases h
theorem vld_node {x : Val} {a b : Nat} (h : vldF x a = some b) : nodeF x = true := by
  rw [vldF_eq] at h
  split at h
  · cases h
  · split at h
    · assumption
    · cases h
theorem fold_mem : ∀ (l : List Val) (o c : Nat), l.foldl (fun o y => o.bind (vldF y)) (some o) = some c → ∀ y ∈ l, ∃ a b, vldF y a = some b
  | [], _, _, _, y, hy => by simp at hy
  | z :: r, o, c, h, y, hy => by
    simp only [List.foldl_cons, Option.bind_some] at h
    cases hz : vldF z o with
    | none => rw [hz, foldl_none] at h; cases h
    | some b =>
      rw [hz] at h
      rcases List.mem_cons.1 hy with rfl | hy
      · exact ⟨o, b, hz⟩
      · exact fold_mem r b c h y hy
theorem vld_mem {x y : Val} {a b : Nat} (h : vldF x a = some b) (hy : y ∈ x.l) : ∃ a b, vldF y a = some b := by
  rw [vldF_eq] at h
  split at h
  · cases h
  · split at h
    · exact fold_mem _ _ _ h y hy
    · cases h
/-- the memory of encode: its own row, its box -/
structure EncSt (B b0 : Nat) (C : Array Value) (l : List UInt8) (v : Value) (w0 w : World) : Prop where
  own : w.ownsRow B 5 1 v l.length (byteCells l)
  box : w.heap[b0]? = some (.cells C 44 (0, 0))
  fr : Fr (from_ B) w0 w
  base : B ≤ w0.heap.size
section
variable {B b0 : Nat} {C : Array Value} {l s : List UInt8} {v v' : Value} {w0 w w' : World}
theorem EncSt.below (h : EncSt B b0 C l v w0 w) (hb : Below w.heap.size w w') : EncSt B b0 C l v w0 w' :=
  ⟨owns_move h.own (fun k hk => hb.block k (h.own.lt k hk).2) (fun k hk => (h.own.lt k hk).1), below_keep hb h.box (lt_of_heap h.box), h.fr.trans (Fr.of_below hb _), h.base⟩
theorem EncSt.grow {n' : Nat} (h : EncSt B b0 C l v w0 w) (hn : n' = l.length + s.length) (ho : w'.ownsRow B 5 1 v' n' (byteCells l ++ Lib.strCells ⟨s.toArray⟩)) (hg : w.grownBy w' v.ownBlock) : EncSt B b0 C (l ++ s) v' w0 w' := by
  have hne : v.ownBlock ≠ some b0 := Lib.ownBlock_ne h.own h.box (by decide)
  refine ⟨?_, (hg.block b0 (lt_of_heap h.box) (fun e => hne e.symm)).trans h.box, h.fr.grown hg (fun k hk => Or.inl (h.own.lt k hk).1), h.base⟩
  rw [List.length_append, Lib.byteCells_append, ← hn]
  exact ho
theorem flat_sn {α : Type} (f : α → List UInt8) (ss : List α) (k : Nat) (x : α) (h : ss[k]? = some x) : ((ss.take (k + 1)).map f).flatten = ((ss.take k).map f).flatten ++ f x := by
  rw [List.take_add_one, h]; simp
theorem flat_tk {α : Type} (f : α → List UInt8) (ss : List α) (k : Nat) : (((ss.take k).map f).flatten).length ≤ ((ss.map f).flatten).length := by
  have h := congrArg (fun l => ((l.map f).flatten).length) (List.take_append_drop k ss)
  simp only [List.map_append, List.flatten_append, List.length_append] at h
  omega
theorem EncSt.le (h : EncSt B b0 C l v w0 w) : B ≤ w.heap.size := Nat.le_trans h.base h.fr.size
end
set_option maxHeartbeats 8000000 in
set_option maxRecDepth 100000 in
theorem encode_of (x : Val) (hx : ValB x) (B a b : Nat) (hvl : vldF x a = some b)
    (hv : ∀ y ∈ x.l, ∀ (l : List UInt8) (v : Value) (cs : List Value) (W : World), ValR (fun q => q < B) W y cs → W.ownsRow B 5 1 v l.length (byteCells l) → B ≤ W.heap.size → (l ++ encF y).length ≤ 1000000000 → Calls Tryd.prog 51 #[v, .agg cs.toArray] W fun e W' => ∃ v', e = .returned v' ∧ W'.ownsRow B 5 1 v' (l ++ encF y).length (byteCells (l ++ encF y)) ∧ Fr (from_ B) W W')
    (l : List UInt8) (v : Value) (cs : List Value) (w : World) (hR : ValR (fun q => q < B) w x cs) (ho : w.ownsRow B 5 1 v l.length (byteCells l)) (hB : B ≤ w.heap.size) (hlen : (l ++ encF x).length ≤ 1000000000) :
    Calls Tryd.prog 51 #[v, .agg cs.toArray] w fun e w' => ∃ v', e = .returned v' ∧ w'.ownsRow B 5 1 v' (l ++ encF x).length (byteCells (l ++ encF x)) ∧ Fr (from_ B) w w' := by
  obtain ⟨i0, hi, hz0, hz1, hz2⟩ := info_parts bldByte
  obtain ⟨a1, k1, rfl, hvs⟩ := valR_open hR
  have hkd := node_kind (vld_node hvl)
  obtain ⟨E, hE⟩ : ∃ E, E = encF x := ⟨_, rfl⟩
  have hEq := encF_eq x
  rw [← hE] at hlen hEq ⊢
  have hln : l.length + (headF x).length + ((x.l.map encF).flatten).length ≤ 1000000000 := by rw [hEq] at hlen; simp only [List.length_append] at hlen; omega
  have hhd : headF x = nenc x.kind ++ tenc x.t ++ ienc x.n ++ ienc x.m ++ tenc x.s ++ nenc x.l.length := rfl
  have hhl := congrArg List.length hhd
  simp only [List.length_append] at hhl
  have hb2 := hx
  cases hx with
  | mk x b1 b2 b3 b4 =>
  replace hv := hid hv
  replace hvs := hid hvs
  replace hEq := hid hEq
  have hc0 := fun W => num_any x.kind W (by omega)
  obtain ⟨s0, hs0⟩ : ∃ s, s = nenc x.kind := ⟨_, rfl⟩
  simp only [← hs0] at hc0 hhl
  rw [← hs0] at hhd
  replace hc0 := hid hc0
  replace hs0 := hid hs0
  have hc1 := fun W => text_any x.t W (by omega)
  obtain ⟨s1, hs1⟩ : ∃ s, s = tenc x.t := ⟨_, rfl⟩
  simp only [← hs1] at hc1 hhl
  rw [← hs1] at hhd
  replace hc1 := hid hc1
  replace hs1 := hid hs1
  have hc2 := fun W => int_any x.n W
  obtain ⟨s2, hs2⟩ : ∃ s, s = ienc x.n := ⟨_, rfl⟩
  simp only [← hs2] at hc2 hhl
  rw [← hs2] at hhd
  replace hc2 := hid hc2
  replace hs2 := hid hs2
  have hc3 := fun W => int_any x.m W
  obtain ⟨s3, hs3⟩ : ∃ s, s = ienc x.m := ⟨_, rfl⟩
  simp only [← hs3] at hc3 hhl
  rw [← hs3] at hhd
  replace hc3 := hid hc3
  replace hs3 := hid hs3
  have hc4 := fun W => text_any x.s W (by omega)
  obtain ⟨s4, hs4⟩ : ∃ s, s = tenc x.s := ⟨_, rfl⟩
  simp only [← hs4] at hc4 hhl
  rw [← hs4] at hhd
  replace hc4 := hid hc4
  replace hs4 := hid hs4
  have hc5 := fun W => num_any x.l.length W (by omega)
  obtain ⟨s5, hs5⟩ : ∃ s, s = nenc x.l.length := ⟨_, rfl⟩
  simp only [← hs5] at hc5 hhl
  rw [← hs5] at hhd
  replace hc5 := hid hc5
  replace hs5 := hid hs5
  replace hhd := hid hhd
  replace hE := hid hE
  have hmem := hid (fun y hy => vld_mem hvl (y := y) hy)
  have hw1 : ∀ o, Below w.heap.size w (w.alloc o) := fun o => (Below.refl _ w).alloc (Nat.le_refl _) o
  have h0 : EncSt B w.heap.size (valCs x (.slice a1 x.l.length k1)).toArray l v w (w.alloc (.cells (valCs x (.slice a1 x.l.length k1)).toArray 44 (0, 0))) :=
    ⟨owns_move ho (fun k hk => (hw1 _).block k (ho.lt k hk).2) (fun k hk => (ho.lt k hk).1), heap_alloc_new' _ _, (Fr.of_below (hw1 _) _), hB⟩
  clear hvl ho hR hw1
  replace h0 := hid h0
  go_enter Tryd.func51, Tryd.ntmps51
  go_wp2_with fail
  refine (hc0.out _).mono ?_
  rintro e w1a ⟨rfl, hb⟩
  have g0 := h0.out.below hb
  clear hb h0
  go_wp2_with (at_builtin; (refine Lib.wpList_append_own_string _ rfl _ _ 53 9 rfl B 5 i0 Tryd.underlying53 Tryd.underlying9 hi hz0 hz1 hz2 _ _ _ rfl g0.own ⟨s0.toArray⟩ rfl ?c3 ?c4 ?c5 ?_))
  case c3 => (try simp only [List.length_append]); exact (show _ ≤ maxLen by unfold maxLen; rw [str_size]; omega)
  case c4 => (try simp only [List.length_append]); rw [str_size]; omega
  case c5 => exact g0.le
  intro v1 w1b hown hgrow hnil
  have h1 := g0.grow (s := s0) (by first | (simp; done) | (simp; omega)) hown hgrow
  obtain ⟨L1, hL1⟩ : ∃ L, L = l ++ s0 := ⟨_, rfl⟩
  have hl1 : L1.length = l.length + s0.length := by rw [hL1, List.length_append]
  rw [← hL1] at h1
  replace h1 := hid h1
  replace hL1 := hid hL1
  clear hown hgrow hnil g0
  have cc : w1b.cell? ⟨w.heap.size, 1, none⟩ = some (sv x.t) := (cell_of h1.out.box).trans rfl
  go_wp2_with fail
  clear cc
  refine (hc1.out _).mono ?_
  rintro e w2a ⟨rfl, hb⟩
  have g1 := h1.out.below hb
  clear hb h1
  go_wp2_with (at_builtin; (refine Lib.wpList_append_own_string _ rfl _ _ 53 9 rfl B 5 i0 Tryd.underlying53 Tryd.underlying9 hi hz0 hz1 hz2 _ _ _ rfl g1.own ⟨s1.toArray⟩ rfl ?c3 ?c4 ?c5 ?_))
  case c3 => (try simp only [List.length_append]); exact (show _ ≤ maxLen by unfold maxLen; rw [str_size]; omega)
  case c4 => (try simp only [List.length_append]); rw [str_size]; omega
  case c5 => exact g1.le
  intro v2 w2b hown hgrow hnil
  have h2 := g1.grow (s := s1) (by first | (simp; done) | (simp; omega)) hown hgrow
  obtain ⟨L2, hL2⟩ : ∃ L, L = L1 ++ s1 := ⟨_, rfl⟩
  have hl2 : L2.length = L1.length + s1.length := by rw [hL2, List.length_append]
  rw [← hL2] at h2
  replace h2 := hid h2
  replace hL2 := hid hL2
  clear hown hgrow hnil g1
  have cc : w2b.cell? ⟨w.heap.size, 2, none⟩ = some (iv x.n) := (cell_of h2.out.box).trans rfl
  go_wp2_with fail
  clear cc
  refine (hc2.out _).mono ?_
  rintro e w3a ⟨rfl, hb⟩
  have g2 := h2.out.below hb
  clear hb h2
  go_wp2_with (at_builtin; (refine Lib.wpList_append_own_string _ rfl _ _ 53 9 rfl B 5 i0 Tryd.underlying53 Tryd.underlying9 hi hz0 hz1 hz2 _ _ _ rfl g2.own ⟨s2.toArray⟩ rfl ?c3 ?c4 ?c5 ?_))
  case c3 => (try simp only [List.length_append]); exact (show _ ≤ maxLen by unfold maxLen; rw [str_size]; omega)
  case c4 => (try simp only [List.length_append]); rw [str_size]; omega
  case c5 => exact g2.le
  intro v3 w3b hown hgrow hnil
  have h3 := g2.grow (s := s2) (by first | (simp; done) | (simp; omega)) hown hgrow
  obtain ⟨L3, hL3⟩ : ∃ L, L = L2 ++ s2 := ⟨_, rfl⟩
  have hl3 : L3.length = L2.length + s2.length := by rw [hL3, List.length_append]
  rw [← hL3] at h3
  replace h3 := hid h3
  replace hL3 := hid hL3
  clear hown hgrow hnil g2
  have cc : w3b.cell? ⟨w.heap.size, 3, none⟩ = some (iv x.m) := (cell_of h3.out.box).trans rfl
  go_wp2_with fail
  clear cc
  refine (hc3.out _).mono ?_
  rintro e w4a ⟨rfl, hb⟩
  have g3 := h3.out.below hb
  clear hb h3
  go_wp2_with (at_builtin; (refine Lib.wpList_append_own_string _ rfl _ _ 53 9 rfl B 5 i0 Tryd.underlying53 Tryd.underlying9 hi hz0 hz1 hz2 _ _ _ rfl g3.own ⟨s3.toArray⟩ rfl ?c3 ?c4 ?c5 ?_))
  case c3 => (try simp only [List.length_append]); exact (show _ ≤ maxLen by unfold maxLen; rw [str_size]; omega)
  case c4 => (try simp only [List.length_append]); rw [str_size]; omega
  case c5 => exact g3.le
  intro v4 w4b hown hgrow hnil
  have h4 := g3.grow (s := s3) (by first | (simp; done) | (simp; omega)) hown hgrow
  obtain ⟨L4, hL4⟩ : ∃ L, L = L3 ++ s3 := ⟨_, rfl⟩
  have hl4 : L4.length = L3.length + s3.length := by rw [hL4, List.length_append]
  rw [← hL4] at h4
  replace h4 := hid h4
  replace hL4 := hid hL4
  clear hown hgrow hnil g3
  have cc : w4b.cell? ⟨w.heap.size, 4, none⟩ = some (sv x.s) := (cell_of h4.out.box).trans rfl
  go_wp2_with fail
  clear cc
  refine (hc4.out _).mono ?_
  rintro e w5a ⟨rfl, hb⟩
  have g4 := h4.out.below hb
  clear hb h4
  go_wp2_with (at_builtin; (refine Lib.wpList_append_own_string _ rfl _ _ 53 9 rfl B 5 i0 Tryd.underlying53 Tryd.underlying9 hi hz0 hz1 hz2 _ _ _ rfl g4.own ⟨s4.toArray⟩ rfl ?c3 ?c4 ?c5 ?_))
  case c3 => (try simp only [List.length_append]); exact (show _ ≤ maxLen by unfold maxLen; rw [str_size]; omega)
  case c4 => (try simp only [List.length_append]); rw [str_size]; omega
  case c5 => exact g4.le
  intro v5 w5b hown hgrow hnil
  have h5 := g4.grow (s := s4) (by first | (simp; done) | (simp; omega)) hown hgrow
  obtain ⟨L5, hL5⟩ : ∃ L, L = L4 ++ s4 := ⟨_, rfl⟩
  have hl5 : L5.length = L4.length + s4.length := by rw [hL5, List.length_append]
  rw [← hL5] at h5
  replace h5 := hid h5
  replace hL5 := hid hL5
  clear hown hgrow hnil g4
  have cc : w5b.cell? ⟨w.heap.size, 5, none⟩ = some (.slice a1 x.l.length k1) := (cell_of h5.out.box).trans rfl
  go_wp2_with fail
  clear cc
  refine (hc5.out _).mono ?_
  rintro e w6a ⟨rfl, hb⟩
  have g5 := h5.out.below hb
  clear hb h5
  go_wp2_with (at_builtin; (refine Lib.wpList_append_own_string _ rfl _ _ 53 9 rfl B 5 i0 Tryd.underlying53 Tryd.underlying9 hi hz0 hz1 hz2 _ _ _ rfl g5.own ⟨s5.toArray⟩ rfl ?c3 ?c4 ?c5 ?_))
  case c3 => (try simp only [List.length_append]); exact (show _ ≤ maxLen by unfold maxLen; rw [str_size]; omega)
  case c4 => (try simp only [List.length_append]); rw [str_size]; omega
  case c5 => exact g5.le
  intro v6 w6b hown hgrow hnil
  have h6 := g5.grow (s := s5) (by first | (simp; done) | (simp; omega)) hown hgrow
  obtain ⟨L6, hL6⟩ : ∃ L, L = L5 ++ s5 := ⟨_, rfl⟩
  have hl6 : L6.length = L5.length + s5.length := by rw [hL6, List.length_append]
  rw [← hL6] at h6
  replace h6 := hid h6
  replace hL6 := hid hL6
  clear hown hgrow hnil g5
  have cc : w6b.cell? ⟨w.heap.size, 5, none⟩ = some (.slice a1 x.l.length k1) := (cell_of h6.out.box).trans rfl
  have hown6 := h6.out.own
  have hfr6 := hid h6.out.fr
  have hL : L6 = l ++ headF x := by rw [hhd.out, hL6.out, hL5.out, hL4.out, hL3.out, hL2.out, hL1.out]; simp only [List.append_assoc]
  rw [hL] at hown6
  replace hown6 := hid hown6
  clear hL hL1 hL2 hL3 hL4 hL5 hL6 hl1 hl2 hl3 hl4 hl5 hl6 h6 hc0 hc1 hc2 hc3 hc4 hc5 hs0 hs1 hs2 hs3 hs4 hs5 hhd hhl
  go_wp2_with fail
  clear cc
  go_loopw [0, 41] (fun va i wr => ∃ k : Nat, i = .int .i64 k ∧ k ≤ x.l.length ∧ Hid (wr.ownsRow B 5 1 va (l ++ headF x ++ ((x.l.take k).map encF).flatten).length (byteCells (l ++ headF x ++ ((x.l.take k).map encF).flatten))) ∧ Hid (Fr (from_ B) w wr)) (fun _ i _ => x.l.length - (intOf i).toNat)
  case atStart => exact ⟨0, rfl, Nat.zero_le _, by simpa using hown6, hfr6⟩
  case round =>
    clear hown6 hfr6
    obtain ⟨k, rfl, hk, ho, hF⟩ := hrel
    have hszr := hF.out.size
    by_cases hlt : k < x.l.length
    · obtain ⟨y, hy⟩ : ∃ y, x.l[k]? = some y := ⟨_, List.getElem?_eq_getElem hlt⟩
      obtain ⟨g, o, cs, hidx, hSg, hg, hc, hr⟩ := (hvs.out.fr goodVal hF.out (fun q h1 h2 => by have h3 : B ≤ q := h2; have h4 : q < B := h1; omega)).at (P := Tryd.prog) (t := 23) (by kernel_rfl) (fun _ => by kernel_rfl) hy
      have hb1 : ∀ o, Below wr.heap.size wr (wr.alloc o) := fun o => (Below.refl _ wr).alloc (Nat.le_refl _) o
      have hsn := flat_sn encF x.l k y hy
      have hft := flat_tk encF x.l (k + 1)
      rw [hsn] at hft
      have hcall := hid (fun o => hv.out y (List.mem_of_getElem? hy) _ _ cs _ (goodVal.below hr (hb1 o)) (owns_move ho.out (fun q hq => (hb1 o).block q (ho.out.lt q hq).2) (fun q hq => (ho.out.lt q hq).1)) (by simp; omega) (by simp only [List.length_append] at hft ⊢; omega))
      obtain ⟨a2, k2, rfl, -⟩ := valR_open hr
      have c0 := hc 0 _ rfl
      have c1 := hc 1 _ rfl
      have c2 := hc 2 _ rfl
      have c3 := hc 3 _ rfl
      have c4 := hc 4 _ rfl
      have c5 := hc 5 _ rfl
      rw [Nat.add_zero] at c0
      replace hsn := hid hsn
      clear hc hr hft hy ho
      go_wp2_with fail
      refine (hcall.out _).mono ?_
      rintro e w3 ⟨v', rfl, h1, h2⟩
      have hF4 := hid (hF.out.trans ((Fr.of_below (hb1 _) (from_ B)).trans h2))
      rw [List.append_assoc (l ++ headF x), ← hsn.out] at h1
      replace h1 := hid h1
      clear h2 hb1 c0 c1 c2 c3 c4 c5 hidx hcall hsn
      go_wp2_with fail
      exact ⟨⟨k + 1, by go_num, by omega, h1, hF4⟩, by simp [intOf]; omega⟩
    · have hkl : k = x.l.length := by omega
      subst hkl
      rw [List.take_length, List.append_assoc, ← hEq.out] at ho
      go_wp2_with fail
      go_ret
      exact ⟨_, rfl, ho.out, hF.out⟩
theorem encode_any (x : Val) (hx : ValB x) (B a b : Nat) (hvl : vldF x a = some b) (l : List UInt8) (v : Value) (cs : List Value) (w : World) (hR : ValR (fun q => q < B) w x cs) (ho : w.ownsRow B 5 1 v l.length (byteCells l)) (hB : B ≤ w.heap.size) (hlen : (l ++ encF x).length ≤ 1000000000) :
    Calls Tryd.prog 51 #[v, .agg cs.toArray] w fun e w' => ∃ v', e = .returned v' ∧ w'.ownsRow B 5 1 v' (l ++ encF x).length (byteCells (l ++ encF x)) ∧ Fr (from_ B) w w' := by
  suffices h : ∀ n (x : Val), SizeOf.sizeOf x < n → ValB x → ∀ (a b : Nat), vldF x a = some b → ∀ (l : List UInt8) (v : Value) (cs : List Value) (w : World), ValR (fun q => q < B) w x cs → w.ownsRow B 5 1 v l.length (byteCells l) → B ≤ w.heap.size → (l ++ encF x).length ≤ 1000000000 → Calls Tryd.prog 51 #[v, .agg cs.toArray] w fun e w' => ∃ v', e = .returned v' ∧ w'.ownsRow B 5 1 v' (l ++ encF x).length (byteCells (l ++ encF x)) ∧ Fr (from_ B) w w' from h _ x (Nat.lt_succ_self _) hx a b hvl l v cs w hR ho hB hlen
  intro n
  induction n with
  | zero => intro x h; omega
  | succ n ih =>
    intro x hn hx a b hvl
    exact encode_of x hx B a b hvl fun y hy l v cs W h1 h2 h3 h4 => by
      obtain ⟨a', b', h⟩ := vld_mem hvl hy
      exact ih y (by have := val_mem_lt hy; omega) (hx.mem hy) a' b' h l v cs W h1 h2 h3 h4
end Go.Proofs.YtnbhpicmflagcaaDoor
