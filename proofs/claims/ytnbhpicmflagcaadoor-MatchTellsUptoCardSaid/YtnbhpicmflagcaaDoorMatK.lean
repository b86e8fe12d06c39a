/- match.Key. -/
import Derived.Test.YtnbhpicmflagcaaDoorMatG
import Derived.Test.YtnbhpicmflagcaaDoorMatA
import Derived.Test.YtnbhpicmflagcaaDoorSumH
set_option linter.unusedVariables false
namespace Go.Proofs.YtnbhpicmflagcaaDoor
open Go.RowKit
open Go.Lib (hid byteCells)
noncomputable def argF (x : Val) : List UInt8 := tenc (bytesF x)
def headK (r : Req) : List UInt8 := tenc r.path ++ tenc r.name ++ ienc r.ord ++ nenc r.args.length
noncomputable def keyS (r : Req) : List UInt8 := headK r ++ (r.args.map argF).flatten
noncomputable def keyF (r : Req) : List UInt8 := hexF (shaF (keyS r))
/-- the memory of Key: its builder, its box -/
structure KeySt (b r0 : Nat) (C : Array Value) (l : List UInt8) (w0 w : World) : Prop where
  bld : BldF (from_ b) b l w
  box : w.heap[r0]? = some (.cells C 25 (0, 0))
  bel : Below r0 w0 w
  far : r0 < b
section
variable {b r0 : Nat} {C : Array Value} {l s : List UInt8} {w0 w w' : World}
theorem KeySt.below (h : KeySt b r0 C l w0 w) (hb : Below w.heap.size w w') : KeySt b r0 C l w0 w' :=
  ⟨h.bld.below hb, below_keep hb h.box (lt_of_heap h.box), h.bel.trans (hb.mono (Nat.le_of_lt (lt_of_heap h.box))), h.far⟩
theorem KeySt.write (h : KeySt b r0 C l w0 w) (h1 : BldF (from_ b) b s w') (h2 : Fr (from_ b) w w') : KeySt b r0 C s w0 w' := by
  have hf := h.far
  exact ⟨h1, h2.keep h.box (fun e => by have e' : b ≤ r0 := e; omega), h.bel.trans (h2.to_below (Nat.le_of_lt (lt_of_heap h.box)) (fun k hk e => by have e' : b ≤ k := e; omega)), h.far⟩
theorem KeySt.run (h : KeySt b r0 C l w0 w) (hs : l.length + s.length ≤ 140737488355328) :
    Calls Tryd.prog 28 #[.pointer (some ⟨b, 0, none⟩), sv s] w fun e w' => e = .returned (.tuple #[.int .i64 s.length, .nilIface]) ∧ KeySt b r0 C (l ++ s) w0 w' := by
  have hb : b < w.heap.size := by obtain ⟨_, p, v, _, h3, _⟩ := h.bld; exact lt_of_heap h3
  refine (bldF_write (from_ b) b b l s w h.bld (fun k hk => Nat.le_trans (Nat.le_of_lt hb) hk) (fun k hk => hk) (fun k h1 _ h3 => absurd h1 h3) (Nat.le_of_lt hb) hs).mono ?_
  rintro e w' ⟨rfl, h1, h2⟩
  exact ⟨rfl, h.write h1 h2⟩
end
set_option maxHeartbeats 8000000 in
set_option maxRecDepth 100000 in
theorem key_any (r : Req) (hr : ReqB r) (hK : (keyS r).length ≤ 1048576) (S : Foot) (cs : List Value) (w : World) (ht : TabR w) (hR : ReqR S w r cs) :
    Calls Tryd.prog 11 #[.agg cs.toArray] w fun e w' => e = .returned (sv (keyF r)) ∧ Below w.heap.size w w' := by
  obtain ⟨a1, k1, rfl, hvs⟩ := hR
  obtain ⟨hr1, hr2, hr3, -⟩ := hr
  obtain ⟨E, hE⟩ : ∃ E, E = keyS r := ⟨_, rfl⟩
  obtain ⟨res, hres⟩ : ∃ res, res = keyF r := ⟨_, rfl⟩
  rw [← hres]
  have hres2 : res = hexF (shaF E) := by rw [hE]; exact hres
  replace hres2 := hid hres2
  clear hres
  have hEq : E = headK r ++ (r.args.map argF).flatten := hE
  rw [← hE] at hK
  clear hE
  have hln : (headK r).length + ((r.args.map argF).flatten).length ≤ 1048576 := by rw [hEq] at hK; simp only [List.length_append] at hK; omega
  have hhd : headK r = tenc r.path ++ tenc r.name ++ ienc r.ord ++ nenc r.args.length := rfl
  have hhl := congrArg List.length hhd
  simp only [List.length_append] at hhl
  have hal := hr1.1
  replace hr1 := hid hr1
  replace hEq := hid hEq
  replace hvs := hid hvs
  replace ht := hid ht
  have hc0 := fun W => text_any r.path W (by omega)
  obtain ⟨s0, hs0⟩ : ∃ s, s = tenc r.path := ⟨_, rfl⟩
  simp only [← hs0] at hc0 hhl
  rw [← hs0] at hhd
  replace hc0 := hid hc0
  replace hs0 := hid hs0
  have hc1 := fun W => text_any r.name W (by omega)
  obtain ⟨s1, hs1⟩ : ∃ s, s = tenc r.name := ⟨_, rfl⟩
  simp only [← hs1] at hc1 hhl
  rw [← hs1] at hhd
  replace hc1 := hid hc1
  replace hs1 := hid hs1
  have hc2 := fun W => int_any r.ord W
  obtain ⟨s2, hs2⟩ : ∃ s, s = ienc r.ord := ⟨_, rfl⟩
  simp only [← hs2] at hc2 hhl
  rw [← hs2] at hhd
  replace hc2 := hid hc2
  replace hs2 := hid hs2
  have hc3 := fun W => num_any r.args.length W (by omega)
  obtain ⟨s3, hs3⟩ : ∃ s, s = nenc r.args.length := ⟨_, rfl⟩
  simp only [← hs3] at hc3 hhl
  rw [← hs3] at hhd
  replace hc3 := hid hc3
  replace hs3 := hid hs3
  replace hhd := hid hhd
  have h0 : KeySt (w.heap.size + 1) w.heap.size (reqCs r (.slice a1 r.args.length k1)).toArray [] w ((w.alloc (.cells (reqCs r (.slice a1 r.args.length k1)).toArray 25 (0, 0))).alloc (.cells #[.pointer none, .slice none 0 0] 55 (0, 0))) := by
    have hn := BldF.new (from_ (w.heap.size + 1)) (w.alloc (.cells (reqCs r (.slice a1 r.args.length k1)).toArray 25 (0, 0))) (by show w.heap.size + 1 ≤ _; simp)
    have e : (w.alloc (.cells (reqCs r (.slice a1 r.args.length k1)).toArray 25 (0, 0))).heap.size = w.heap.size + 1 := by simp
    rw [e] at hn
    exact ⟨hn, heap_alloc_lt (heap_alloc_new' _ _), ((Below.refl _ w).alloc (Nat.le_refl _) _).alloc (by simp) _, Nat.lt_succ_self _⟩
  replace h0 := hid h0
  go_enter Tryd.func11, Tryd.ntmps11
  go_wp2_with fail
  refine (hc0.out _).mono ?_
  rintro e w1a ⟨rfl, hb⟩
  have g0 := h0.out.below hb
  clear hb h0
  have hw0 := hid (g0.run (s := s0) (by first | omega | (simp; omega)))
  clear g0
  go_wp2_with fail
  refine hw0.out.mono ?_
  rintro e w1b ⟨rfl, h1⟩
  clear hw0
  obtain ⟨L1, hL1⟩ : ∃ L, L = [] ++ s0 := ⟨_, rfl⟩
  have hl1 : L1.length = 0 + s0.length := by rw [hL1, List.length_append] <;> first | rfl | done
  rw [← hL1] at h1
  replace h1 := hid h1
  replace hL1 := hid hL1
  have cc : w1b.cell? ⟨w.heap.size, 1, none⟩ = some (sv r.name) := (cell_of h1.out.box).trans rfl
  go_wp2_with fail
  clear cc
  refine (hc1.out _).mono ?_
  rintro e w2a ⟨rfl, hb⟩
  have g1 := h1.out.below hb
  clear hb h1
  have hw1 := hid (g1.run (s := s1) (by first | omega | (simp; omega)))
  clear g1
  go_wp2_with fail
  refine hw1.out.mono ?_
  rintro e w2b ⟨rfl, h2⟩
  clear hw1
  obtain ⟨L2, hL2⟩ : ∃ L, L = L1 ++ s1 := ⟨_, rfl⟩
  have hl2 : L2.length = L1.length + s1.length := by rw [hL2, List.length_append] <;> first | rfl | done
  rw [← hL2] at h2
  replace h2 := hid h2
  replace hL2 := hid hL2
  have cc : w2b.cell? ⟨w.heap.size, 3, none⟩ = some (iv r.ord) := (cell_of h2.out.box).trans rfl
  go_wp2_with fail
  clear cc
  refine (hc2.out _).mono ?_
  rintro e w3a ⟨rfl, hb⟩
  have g2 := h2.out.below hb
  clear hb h2
  have hw2 := hid (g2.run (s := s2) (by first | omega | (simp; omega)))
  clear g2
  go_wp2_with fail
  refine hw2.out.mono ?_
  rintro e w3b ⟨rfl, h3⟩
  clear hw2
  obtain ⟨L3, hL3⟩ : ∃ L, L = L2 ++ s2 := ⟨_, rfl⟩
  have hl3 : L3.length = L2.length + s2.length := by rw [hL3, List.length_append] <;> first | rfl | done
  rw [← hL3] at h3
  replace h3 := hid h3
  replace hL3 := hid hL3
  have cc : w3b.cell? ⟨w.heap.size, 2, none⟩ = some (.slice a1 r.args.length k1) := (cell_of h3.out.box).trans rfl
  go_wp2_with fail
  clear cc
  refine (hc3.out _).mono ?_
  rintro e w4a ⟨rfl, hb⟩
  have g3 := h3.out.below hb
  clear hb h3
  have hw3 := hid (g3.run (s := s3) (by first | omega | (simp; omega)))
  clear g3
  go_wp2_with fail
  refine hw3.out.mono ?_
  rintro e w4b ⟨rfl, h4⟩
  clear hw3
  obtain ⟨L4, hL4⟩ : ∃ L, L = L3 ++ s3 := ⟨_, rfl⟩
  have hl4 : L4.length = L3.length + s3.length := by rw [hL4, List.length_append] <;> first | rfl | done
  rw [← hL4] at h4
  replace h4 := hid h4
  replace hL4 := hid hL4
  have hL : L4 = headK r := by rw [hhd.out, hL4.out, hL3.out, hL2.out, hL1.out]; simp only [List.append_assoc, List.nil_append]
  rw [hL] at h4
  have cc : w4b.cell? ⟨w.heap.size, 2, none⟩ = some (.slice a1 r.args.length k1) := (cell_of h4.out.box).trans rfl
  clear hL hL1 hL2 hL3 hL4 hl1 hl2 hl3 hl4 hc0 hc1 hc2 hc3 hs0 hs1 hs2 hs3 hhd hhl
  go_wp2_with fail
  clear cc
  go_loopw [26] (fun i wr => ∃ k : Nat, i = .int .i64 k ∧ k ≤ r.args.length ∧ Hid (KeySt (w.heap.size + 1) w.heap.size (reqCs r (.slice a1 r.args.length k1)).toArray (headK r ++ ((r.args.take k).map argF).flatten) w wr)) (fun i _ => r.args.length - (intOf i).toNat)
  case atStart => exact ⟨0, rfl, Nat.zero_le _, by simpa using h4⟩
  case round =>
    clear h4
    obtain ⟨k, rfl, hk, hS⟩ := hrel
    by_cases hlt : k < r.args.length
    · obtain ⟨y, hy⟩ : ∃ y, r.args[k]? = some y := ⟨_, List.getElem?_eq_getElem hlt⟩
      obtain ⟨g, o, cs, hidx, hSg, hg, hc, hry⟩ := (hvs.out.below goodVal hS.out.bel).at (P := Tryd.prog) (t := 23) (by kernel_rfl) (fun _ => by kernel_rfl) hy
      have hb1 : ∀ o, Below wr.heap.size wr (wr.alloc o) := fun o => (Below.refl _ wr).alloc (Nat.le_refl _) o
      have hsn := flat_sn argF r.args k y hy
      have hft := flat_tk argF r.args (k + 1)
      rw [hsn] at hft
      simp only [List.length_append] at hft
      have hal2 : (bytesF y).length ≤ (argF y).length := by unfold argF tenc; simp
      have hcall := hid (fun o => bytes_any y (hr1.out.2 y (List.mem_of_getElem? hy)) (by omega) _ cs _ (goodVal.below hry (hb1 o)))
      have htx := hid (fun W => text_any (bytesF y) W (by omega))
      obtain ⟨a2, k2, rfl, -⟩ := valR_open hry
      have c0 := hc 0 _ rfl
      have c1 := hc 1 _ rfl
      have c2 := hc 2 _ rfl
      have c3 := hc 3 _ rfl
      have c4 := hc 4 _ rfl
      have c5 := hc 5 _ rfl
      rw [Nat.add_zero] at c0
      replace hsn := hid hsn
      have hlen2 : (headK r ++ ((r.args.take k).map argF).flatten).length + (argF y).length ≤ 1048576 := by simp only [List.length_append]; omega
      obtain ⟨L, hL⟩ : ∃ L, L = headK r ++ ((r.args.take k).map argF).flatten := ⟨_, rfl⟩
      rw [← hL] at hS hlen2
      have htx2 := hid (show ∀ W, Calls Tryd.prog 29 #[sv (bytesF y)] W fun e w' => e = .returned (sv (argF y)) ∧ Below W.heap.size W w' from htx.out)
      generalize argF y = ay at *
      generalize bytesF y = yb at *
      replace hL := hid hL
      clear hc hry hft hy htx hal2
      go_wp2_with fail
      refine (hcall.out _).mono ?_
      rintro e w3 ⟨rfl, hb3⟩
      go_wp2_with fail
      refine (htx2.out _).mono ?_
      rintro e w4 ⟨rfl, hb4⟩
      have hS4 := hS.out.below ((hb1 _).trans ((hb3.trans (hb4.mono hb3.size)).mono (hb1 _).size))
      have hwr := hid (hS4.run (s := ay) (by omega))
      clear hS4 hb3 hb4 hS hb1 c0 c1 c2 c3 c4 c5 hidx hcall htx2
      go_wp2_with fail
      refine hwr.out.mono ?_
      rintro e w5 ⟨rfl, h5⟩
      rw [hL.out, List.append_assoc, ← hsn.out] at h5
      replace h5 := hid h5
      clear hwr hsn hL
      go_wp2_with fail
      exact ⟨⟨k + 1, by go_num, by omega, h5⟩, by simp [intOf]; omega⟩
    · have hkl : k = r.args.length := by omega
      subst hkl
      rw [List.take_length, ← hEq.out] at hS
      have hbl := hid (bldString (w.heap.size + 1) (w.heap.size + 1) E wr hS.out.bld.bld (Nat.le_of_lt (by obtain ⟨_, p, v, _, h3, _⟩ := hS.out.bld; exact lt_of_heap h3)))
      have hB := hid hS.out.bel
      clear hS hlt hk
      go_wp2_with fail
      refine hbl.out.mono ?_
      rintro e w3 ⟨rfl, hb3⟩
      have hB3 : Below w.heap.size w w3 := hB.out.trans (hb3.mono (Nat.le_succ _))
      have hsha := hid (sha_any E w3 (hid (ht.out.below hB3 (Nat.le_refl _))) hK)
      have hhex := hid (fun W => hex_any (shaF E) (shaF_len E) W)
      rw [← hres2.out] at hhex
      replace hB3 := hid hB3
      clear hbl hb3 hB hres2
      generalize shaF E = D at *
      go_wp2_with fail
      refine hsha.out.mono ?_
      rintro e w4 ⟨rfl, hb4⟩
      go_wp2_with fail
      refine (hhex.out _).mono ?_
      rintro e w5 ⟨rfl, hb5⟩
      have hB5 := hid (hB3.out.trans ((hb4.trans (hb5.mono hb4.size)).mono hB3.out.size))
      clear hb4 hb5 hsha hhex
      go_wp2_with fail
      go_ret
      exact ⟨rfl, hB5.out⟩
end Go.Proofs.YtnbhpicmflagcaaDoor
