/- match.Pairs. -/
import Derived.Test.YtnbhpicmflagcaaDoorMatM
set_option linter.unusedVariables false
set_option linter.unusedSimpArgs false
namespace Go.Proofs.YtnbhpicmflagcaaDoor
open Go.RowKit
open Go.Lib (hid)
def PairR : Rel (Nat × Nat) := fun _ _ p cs => cs = [iv p.1, iv p.2]
theorem goodPair : Good 2 PairR := ⟨fun h => by rw [h]; rfl, fun h u hu => by rw [h] at hu; simp at hu; rcases hu with rfl | rfl <;> rfl, fun h _ => h⟩
theorem infoPair : (Tryd.prog.info? 40).map (fun i => (i.zero, i.size, i.bytes)) = some (some (.agg #[.int .i64 0, .int .i64 0]), 2, 16) := by kernel_rfl
/-- the slice without its first element -/
theorem SlR.tail {α : Type} {sz : Nat} {R : Rel α} {S : Foot} {w : World} {x : α} {l : List α} {b off n cap : Nat} (h : SlR sz R S w (x :: l) (.slice (some ⟨b, off, none⟩) n cap)) : SlR sz R S w l (.slice (if cap = 1 then some ⟨b, off, none⟩ else some ⟨b, off + sz, none⟩) l.length (cap - 1)) := by
  obtain ⟨a, cap', b', off', cs, h1, h2, h3, h4, h5⟩ := h
  simp only [Value.slice.injEq] at h1
  obtain ⟨ha, rfl, rfl⟩ := h1
  obtain ⟨e, hs, hb⟩ := h3 (by simp)
  rw [e] at ha
  injection ha with ha
  injection ha with e1 e2
  subst e1 e2
  refine ⟨_, _, b, off + sz, fun i => cs (i + 1), rfl, by simp at h2 ⊢; omega, fun hl => ⟨if_neg (by simp at h2; omega), hs, hb⟩, fun i hi j u hu => ?_, fun i y hy => h5 (i + 1) y (by rw [List.getElem?_cons_succ]; exact hy)⟩
  have := h4 (i + 1) (by simp; omega) j u hu
  rw [show off + (i + 1) * sz + j = off + sz + i * sz + j by rw [Nat.succ_mul]; omega] at this
  exact this
theorem rest_cong {a b : List Req} {i : Nat} {x y : Req} (h : AlikeP x y) : restF a b i x = restF a b i y := by unfold restF; rw [fre_congr b _ h, cnt_congr a i h]
/-- Pairs' state: the classes, what is found -/
structure PrU (a b : List Req) (B W0 k : Nat) (t : Tags) (N : Nat) (f : Lit → Option Value) (w : World) (v : Value) : Prop where
  tk : ∀ q, W0 ≤ q → t.tk q = none
  mb : B < W0
  le : W0 ≤ w.heap.size
  map : MapV Tryd.prog 9 B N f w
  keys : ∀ s, KeyR FreS t B B s w (grpF b b.length (restF a b k) s) ((f (.string s)).getD (.slice none 0 0))
  own : OwnR 40 2 PairR (fun q => W0 ≤ q) w (pairsF a b k) v
def PrSt (a b : List Req) (B W0 k : Nat) (w : World) (v : Value) : Prop := ∃ t N f, PrU a b B W0 k t N f w v
section
variable {a b : List Req} {B W0 k : Nat} {t : Tags} {N : Nat} {f : Lit → Option Value} {w w' : World} {v : Value} {r : Req}
theorem PrU.below (h : PrU a b B W0 k t N f w v) (hb : Below w.heap.size w w') : PrU a b B W0 k t N f w' v :=
  ⟨h.tk, h.mb, Nat.le_trans h.le hb.size, h.map.below hb h.map.lt, fun s => (h.keys s).below goodS hb, h.own.below goodPair hb⟩
theorem PrSt.start (h : GrpSt b B B b.length w) : PrSt a b B w.heap.size 0 w (.slice none 0 0) := by
  obtain ⟨t, N, h1, h2⟩ := h
  have hmb : B < w.heap.size := by obtain ⟨f, h3, _⟩ := h2; exact h3.lt
  have hg : GM FreS ⟨fun q => if q < w.heap.size then t.tk q else none, t.ti⟩ B B N (grpF b b.length (restF a b 0)) w := by
    refine (h2.loose.congr (G' := grpF b b.length (restF a b 0)) fun s => ?_).move goodS rfl fun s k hk hf => ⟨?_, rfl, rfl⟩
    · unfold grpF
      exact List.map_congr_left fun j _ => by rw [rest_zero]
    · rcases hf with h | ⟨h3, h4, h5⟩
      · exact Or.inl h
      · exact Or.inr ⟨h3, h4, (if_pos hk).trans h5⟩
  obtain ⟨f, h3, h4, h5⟩ := hg
  exact ⟨_, N, f, fun q hq => if_neg (by omega), hmb, Nat.le_refl _, h3, h5, OwnR.nil _ _ _ _ _⟩
/-- a request that meets nobody -/
theorem PrU.skip (h : PrU a b B W0 k t N f w v) (hr : rq a k = r) (hn : restF a b k r = []) : PrU a b B W0 (k + 1) t N f w v := by
  refine ⟨h.tk, h.mb, h.le, h.map, fun s => ?_, ?_⟩
  · have e : grpF b b.length (restF a b (k + 1)) s = grpF b b.length (restF a b k) s := by
      unfold grpF
      refine List.map_congr_left fun j _ => ?_
      congr 1
      by_cases hal : AlikeP (rq b j) r
      · rw [rest_next hr _ hal, rest_cong hal, hn]; rfl
      · exact rest_keep hr _ hal
    rw [e]
    exact h.keys s
  · rw [pairs_succ, show mateF a b k = none by unfold mateF; rw [hr, hn]; rfl, List.append_nil]
    exact h.own
/-- a request that meets one -/
theorem PrU.step {W5 : World} {v' u : Value} {p j y g9 n cap : Nat} {ys : List Nat} (h : PrU a b B W0 k t N f w v) (hr : rq a k = r) (hj : (idsF b b.length (keyF r))[p]? = some j) (hal : AlikeP (rq b j) r) (hfr : restF a b k (rq b j) = y :: ys)
    (hv : (f (.string (keyF r))).getD (.slice none 0 0) = .slice (some ⟨g9, 0, none⟩) n cap) (hF : Fr (fun q => W0 ≤ q) w W5) (hO : OwnR 40 2 PairR (fun q => W0 ≤ q) W5 (pairsF a b k ++ [(k, y)]) v')
    (hu : FreS (fun q => (FootG t B B (keyF r) q ∧ q ≠ g9) ∧ B ≤ q ∧ t.ti q = j) w ys u) :
    PrSt a b B W0 (k + 1) (W5.setCell ⟨g9, p * 9 + 8, none⟩ u) v' := by
  have hlow : ∀ s q, q < w.heap.size → FootG t B B s q → W5.heap[q]? = w.heap[q]? := fun s q hq hf => hF.block q hq (fun h9 => by
    rcases hf with h1 | ⟨_, _, h1⟩
    · have := h.mb; omega
    · rw [h.tk q h9] at h1; cases h1)
  have h5 : PrU a b B W0 k t N f W5 v' → True := fun _ => trivial
  have hm5 : MapV Tryd.prog 9 B N f W5 := h.map.same (hF.block B h.map.lt (by have := h.mb; omega))
  have hk5 : ∀ s, KeyR FreS t B B s W5 (grpF b b.length (restF a b k) s) ((f (.string s)).getD (.slice none 0 0)) := fun s => (h.keys s).move goodS fun q hq hf => ⟨hf, rfl, hlow s q hq hf⟩
  have hgW : g9 < W0 ∧ B ≤ g9 := by
    have hks := h.keys (keyF r)
    rw [hv] at hks
    obtain ⟨⟨xs, _, h2, _⟩, h3⟩ := hks
    refine ⟨?_, h3 g9 rfl⟩
    rcases h2 g9 rfl with h4 | ⟨_, _, h4⟩
    · have := h.mb; omega
    · rcases Nat.lt_or_ge g9 W0 with h5 | h5
      · exact h5
      · rw [h.tk g9 h5] at h4; cases h4
  have hst := GM.step (G := grpF b b.length (restF a b k)) (G' := grpF b b.length (restF a b (k + 1))) (fr' := ys) (u := u) (w1 := W5) goodS hm5 (Nat.le_refl _) (Nat.le_trans (Nat.le_of_lt h.mb) (Nat.le_trans h.le hF.size)) hk5 hv (grp_at hj) (fun q z hq hz e => by
      unfold grpF at hz
      rw [List.getElem?_map] at hz
      rcases hy : (idsF b b.length (keyF r))[q]? with _ | y
      · rw [hy] at hz; simp at hz
      · rw [hy] at hz
        simp only [Option.map_some, Option.some.injEq] at hz
        have e2 : y = j := by rw [← hz] at e; exact e
        subst e2
        exact hq ((List.getElem?_inj (List.getElem?_eq_some_iff.1 hy).1 (ids_nodup _ _ _)).1 (hy.trans hj.symm)))
    (fun _ _ _ => rfl)
    (goodS.move hu fun q hq hs => ⟨⟨hs.2.1, hs.1.2, by
      rcases hs.1.1 with h1 | ⟨_, h1, _⟩
      · omega
      · exact h1, by
      rcases hs.1.1 with h1 | ⟨_, _, h1⟩
      · omega
      · exact (if_pos (Nat.lt_of_lt_of_le hq hF.size)).trans h1, (if_pos (Nat.lt_of_lt_of_le hq hF.size)).trans hs.2.2⟩, (heap_setCell_other _ hs.1.2).trans (hlow _ q hq hs.1.1)⟩)
    (by rw [grp_set hj hal (fun x hx => rest_keep hr x hx), rest_next hr _ hal, hfr]; rfl) (fun s' hs' => grp_other hs' (fun x hx => rest_keep hr x hx))
  have hst2 : GM FreS t B B N (grpF b b.length (restF a b (k + 1))) (W5.setCell ⟨g9, p * 9 + 8, none⟩ u) := by
    refine hst.move goodS rfl fun s q hq hf => ?_
    have hq5 : q < W5.heap.size := by simpa using hq
    refine ⟨?_, (Tags.new_ti hq5 _ _).symm, rfl⟩
    rcases hf with h1 | ⟨h0, h1, h2⟩
    · exact Or.inl h1
    · exact Or.inr ⟨h0, h1, (if_pos hq5).symm.trans h2⟩
  obtain ⟨f', h6, _, h7⟩ := hst2
  refine ⟨t, N, f', h.tk, h.mb, ?_, h6, h7, ?_⟩
  · exact Nat.le_trans h.le (Nat.le_trans hF.size (by simp))
  · rw [pairs_succ, show mateF a b k = some y by rw [mate_of hr hal, hfr]; rfl]
    exact hO.move goodPair fun q hq hs => ⟨hs, heap_setCell_other _ (by omega)⟩
end
theorem pairs_nil {a b : List Req} (k : Nat) (h : a = [] ∨ b = []) (hk : k ≤ a.length) : pairsF a b k = [] := by
  rcases h with rfl | rfl
  · have : k = 0 := by simpa using hk
    subst this; rfl
  · unfold pairsF
    refine List.filterMap_eq_nil_iff.2 fun i hi => ?_
    have : mateF a [] i = none := by unfold mateF restF freF; simp
    rw [this]; rfl
theorem rest_none {a b : List Req} {i : Nat} {r : Req} (hn : ∀ j, j < b.length → ¬ AlikeP (rq b j) r) : restF a b i r = [] := by unfold restF; rw [fre_none hn]; simp
set_option maxHeartbeats 8000000 in
set_option maxRecDepth 100000 in
theorem pairs_any (a b : List Req) (ha : ReqsB a) (hb : ReqsB b) (hKa : ∀ x ∈ a, (keyS x).length ≤ 1048576) (hKb : ∀ x ∈ b, (keyS x).length ≤ 1048576) (S T : Foot) (va vb : Value) (w : World) (ht : TabR w) (hRa : ReqsR S w a va) (hRb : ReqsR T w b vb) :
    Calls Tryd.prog 18 #[va, vb] w fun e w' => ∃ v, e = .returned v ∧ OwnR 40 2 PairR (from_ w.heap.size) w' (pairsF a b a.length) v ∧ Below w.heap.size w w' := by
  obtain ⟨aa, ca, rfl, -⟩ := hRa.slice
  obtain ⟨ab, cb, rfl, -⟩ := hRb.slice
  have hla := ha.1
  have hlb := hb.1
  have hgrp := hid (group_any b hb hKb T _ w ht hRb)
  replace hRa := hid (hRa.mono goodReq (T := fun k => k < w.heap.size) fun k hk _ => hk)
  replace ha := hid ha
  replace hb := hid hb
  replace hKa := hid hKa
  replace ht := hid ht
  clear hKb hRb
  by_cases h0 : a.length = 0
  · have q1 : ((a.length : Int) == 0) = true := by rw [h0]; rfl
    have hfin := hid (pairs_nil (a := a) (b := b) a.length (Or.inl (List.eq_nil_of_length_eq_zero h0)) (Nat.le_refl _))
    replace h0 := hid h0
    go_enter Tryd.func18, Tryd.ntmps18
    go_wp2_with fail
    go_ret
    exact ⟨_, rfl, by rw [hfin.out]; exact OwnR.nil _ _ _ _ _, Below.refl _ _⟩
  · by_cases h1 : b.length = 0
    · have q1 : ((a.length : Int) == 0) = false := beq_eq_false_iff_ne.2 (by omega)
      have q2 : ((b.length : Int) == 0) = true := by rw [h1]; rfl
      have hfin := hid (pairs_nil (a := a) (b := b) a.length (Or.inr (List.eq_nil_of_length_eq_zero h1)) (Nat.le_refl _))
      replace h1 := hid h1
      go_enter Tryd.func18, Tryd.ntmps18
      go_wp2_with fail
      go_ret
      exact ⟨_, rfl, by rw [hfin.out]; exact OwnR.nil _ _ _ _ _, Below.refl _ _⟩
    · have q1 : ((a.length : Int) == 0) = false := beq_eq_false_iff_ne.2 (by omega)
      have q2 : ((b.length : Int) == 0) = false := beq_eq_false_iff_ne.2 (by omega)
      go_enter Tryd.func18, Tryd.ntmps18
      go_wp2_with fail
      refine hgrp.out.mono ?_
      rintro e w0 ⟨rfl, hg, hB0⟩
      have hP := hid (PrSt.start (a := a) hg)
      clear hgrp hg
      go_wp2_with fail
      go_loopw [5, 24] (fun res i wr => ∃ k : Nat, i = .int .i64 k ∧ k ≤ a.length ∧ Hid (PrSt a b w.heap.size w0.heap.size k wr res) ∧ Below w.heap.size w wr) (fun _ i _ => a.length - (intOf i).toNat)
      case atStart => exact ⟨0, rfl, Nat.zero_le _, hP, hB0⟩
      case round =>
        clear hP hB0 h0 h1 q1 q2
        obtain ⟨k, rfl, hk, hP, hB⟩ := hrel
        by_cases hlt : k < a.length
        · obtain ⟨x, hx⟩ : ∃ x, a[k]? = some x := ⟨_, List.getElem?_eq_getElem hlt⟩
          obtain ⟨g, o, cs, hidx, hS, hg, hc, hr⟩ := (hRa.out.below goodReq hB).at (P := Tryd.prog) (t := 22) (by kernel_rfl) (fun _ => by kernel_rfl) hx
          have hb1 : ∀ o, Below wr.heap.size wr (wr.alloc o) := fun o => (Below.refl _ wr).alloc (Nat.le_refl _) o
          have hxm := List.mem_of_getElem? hx
          have hcall := hid (fun o => key_any x (ha.out.2 x hxm) (hKa.out x hxm) _ cs (wr.alloc o) ((ht.out.below hB (Nat.le_refl _)).below (hb1 o) (Nat.le_refl _)) (goodReq.below hr (hb1 o)))
          obtain ⟨a1, k1, rfl, -⟩ := id hr
          obtain ⟨t, N, f, hP⟩ := hP.out
          have hP0 := hid hP
          obtain ⟨ar, cr, rfl, -, -⟩ := hP.own.slice
          clear hP
          have hprl := pairs_len a b k
          have c0 := hc 0 _ rfl
          have c1 := hc 1 _ rfl
          have c2 := hc 2 _ rfl
          have c3 := hc 3 _ rfl
          have c4 := hc 4 _ rfl
          have c5 := hc 5 _ rfl
          have c6 := hc 6 _ rfl
          have c7 := hc 7 _ rfl
          rw [Nat.add_zero] at c0
          clear hc
          have hbx := hid (heap_alloc_new' wr (.cells (reqCs x (.slice a1 x.args.length k1)).toArray 25 (0, 0)))
          replace hb1 := hid hb1
          replace hr := hid hr
          go_wp2_with fail
          refine (hcall.out _).mono ?_
          rintro e w2 ⟨rfl, hb2⟩
          obtain ⟨s, hs⟩ : ∃ s, s = keyF x := ⟨_, rfl⟩
          have hsl : s.length ≤ 1048576 := by rw [hs, keyF_len]; decide
          rw [← hs]
          have hlw2 := Nat.lt_of_lt_of_le (lt_of_heap hbx.out) hb2.size
          have hP2 := (hP0.out.below (hb1.out _)).below hb2
          have hkv := hP2.keys s
          obtain ⟨kv, hkve⟩ : ∃ kv, (f (.string s)).getD (.slice none 0 0) = kv := ⟨_, rfl⟩
          have hlook := hP2.map.look keyedS (t := 67) (e := 69) Tryd.underlying67 (z := .slice none 0 0) (by kernel_rfl) (keyW s hsl) trivial
          rw [hkve] at hlook hkv
          obtain ⟨av, cv, rfl, -, -⟩ := hkv.1.slice
          have hbx2 := below_keep hb2 hbx.out (lt_of_heap hbx.out)
          have d0 : w2.cell? ⟨wr.heap.size, 0, none⟩ = some (sv x.path) := (cell_of hbx2).trans rfl
          have d1 : w2.cell? ⟨wr.heap.size, 1, none⟩ = some (sv x.name) := (cell_of hbx2).trans rfl
          have d2 : w2.cell? ⟨wr.heap.size, 2, none⟩ = some (.slice a1 x.args.length k1) := (cell_of hbx2).trans rfl
          have d3 : w2.cell? ⟨wr.heap.size, 3, none⟩ = some (iv x.ord) := (cell_of hbx2).trans rfl
          have d4 : w2.cell? ⟨wr.heap.size, 4, none⟩ = some (sv x.reply) := (cell_of hbx2).trans rfl
          have d5 : w2.cell? ⟨wr.heap.size, 5, none⟩ = some (iv x.sent) := (cell_of hbx2).trans rfl
          have d6 : w2.cell? ⟨wr.heap.size, 6, none⟩ = some (iv x.tick) := (cell_of hbx2).trans rfl
          have d7 : w2.cell? ⟨wr.heap.size, 7, none⟩ = some (.bool x.opn) := (cell_of hbx2).trans rfl
          have hr2 := goodReq.below (goodReq.below hr.out (hb1.out (.cells (reqCs x (.slice a1 x.args.length k1)).toArray 25 (0, 0)))) hb2
          obtain ⟨G, hGe⟩ : ∃ G, G = grpF b b.length (restF a b k) := ⟨_, rfl⟩
          rw [← hGe] at hkv hlook hkve
          have hGl : (G s).length ≤ b.length := by rw [hGe]; unfold grpF; rw [List.length_map]; exact ids_len _ _ _
          have hfind := hid (cfind_any ((G s).map fun c => ⟨c.rq, c.free⟩) x (by rw [List.length_map]; omega) (fun c hc => by
            obtain ⟨y, hy, rfl⟩ := List.mem_map.1 hc
            rw [hGe] at hy
            obtain ⟨j, hj, rfl⟩ := List.mem_map.1 hy
            have hjk := (mem_ids.1 hj).1
            exact hb.out.2 _ (List.mem_of_getElem? (at_rq hjk))) (ha.out.2 x hxm) _ _ _ _ w2 (hkv.sl goodS) hr2)
          have hB2 := hid (hB.trans (((hb1.out (.cells (reqCs x (.slice a1 x.args.length k1)).toArray 25 (0, 0))).trans (hb2.mono (by simp))).mono hB.size))
          replace hkve := hid hkve
          replace hbx2 := hid hbx2
          replace hr2 := hid hr2
          replace hs := hid hs
          replace hGe := hid hGe
          replace hP2 := hid hP2
          replace hkv := hid hkv
          clear c0 c1 c2 c3 c4 c5 c6 c7 hcall hidx hr hbx hb1 hB hP0
          go_wp2_with fail
          refine hfind.out.mono ?_
          rintro e w3 ⟨rfl, hb3⟩
          rw [clsF_hit]
          have hB3 := hid (hB2.out.trans (hb3.mono hB2.out.size))
          have hP3 := hid (hP2.out.below hb3)
          have hkv3 := hkv.out.below goodS hb3
          clear hb2 hb3 hB2 hkv hbx2 hr2 d0 d1 d2 d3 d4 d5 d6 d7 hlook hlw2 hfind hP2
          have hqx := rq_at hx
          rcases hh : hitG (G s) x with _ | p
          · have hnone := hit_none (b := b) (k := b.length) (F := restF a b k) (r := x) (by rw [← hs.out, ← hGe.out]; exact hh)
            have hsk := hid (hP3.out.skip hqx (rest_none hnone))
            rw [show ixV none = iv (-1) from rfl]
            clear hnone hh hkv3 hP3
            go_wp2_with fail
            exact ⟨⟨k + 1, by go_num, by omega, hid ⟨_, _, _, hsk.out⟩, hB3.out⟩, by simp [intOf]; omega⟩
          · obtain ⟨j, hj, hal⟩ := hit_some (b := b) (k := b.length) (F := restF a b k) (s := s) (r := x) (c := p) (by rw [← hGe.out]; exact hh)
            have hat := grp_at (F := restF a b k) hj
            rw [← hGe.out] at hat
            obtain ⟨g9, cap9, u, hv9, hBg, hg9, hcu, hfu, hQ, hidx9⟩ := hkv3.form goodS hat
            injection hv9 with ea el ec
            subst ea ec
            clear el
            dsimp only at hQ
            obtain ⟨fr, hfr⟩ : ∃ fr, fr = restF a b k (rq b j) := ⟨_, rfl⟩
            rw [← hfr] at hQ hat
            obtain ⟨a2, c2, rfl, hlc2⟩ := hQ.slice
            rw [show ixV (some p) = iv (p : Int) from rfl]
            have hpk : p < (G s).length := (List.getElem?_eq_some_iff.1 hat).1
            have q1 : decide ((p : Int) < 0) = false := decide_eq_false (by omega)
            replace hat := hid hat
            rcases fr with _ | ⟨y, ys⟩
            · have hsk := hid (hP3.out.skip hqx (by rw [← rest_cong hal]; exact hfr.symm))
              replace hfr := hid hfr
              clear hh hkv3 hP3
              go_wp2_with fail
              exact ⟨⟨k + 1, by go_num, by omega, hid ⟨_, _, _, hsk.out⟩, hB3.out⟩, by simp [intOf]; omega⟩
            · obtain ⟨b2, o2, ea2⟩ : ∃ b2 o2, a2 = some ⟨b2, o2, none⟩ := by
                obtain ⟨a', c', b', o', cs', h1, _, h3, _⟩ := id hQ
                injection h1 with e1 _ _
                exact ⟨b', o', e1.trans (h3 (by simp)).1⟩
              subst ea2
              have e0 : w3.cell? ⟨b2, o2, none⟩ = some (iv y) := by
                obtain ⟨a', c', b', o', cs', h1, _, h3, h4, h5⟩ := id hQ
                injection h1 with e1 _ _
                have e3 := e1.trans (h3 (by simp)).1
                injection e3 with e3
                injection e3 with e4 e5
                subst e4 e5
                have h6 : cs' 0 = [iv y] := h5 0 y rfl
                have := h4 0 (by simp) 0 (iv y) (by rw [h6]; rfl)
                simpa using this
              have hyb : y < b.length := by
                have hm : y ∈ restF a b k (rq b j) := by rw [← hfr]; exact List.mem_cons_self
                exact (mem_fre.1 (List.mem_of_mem_drop hm)).1
              obtain ⟨i0, hi, hz0, hz1, hz2⟩ := info_parts infoPair
              have hb4 : Below w3.heap.size w3 (w3.alloc (.cells #[iv k, iv y] 40)) := (Below.refl _ _).alloc (Nat.le_refl _) _
              have hO4 := hP3.out.own.below goodPair hb4
              obtain ⟨v', W5, hap, hO5, hF5⟩ := OwnR.append1 (t := 34) (ty := 34) (x := (k, y)) goodPair (by kernel_rfl) hi hz0 hz1 hz2 rfl (by decide) hO4 (row_of_block (cs := [iv k, iv y]) (heap_alloc_new' w3 (.cells #[iv k, iv y] 40)) rfl) rfl (by unfold maxLen; omega) (by omega) (fun q hq => by
                have := hP3.out.le
                simp at hq
                show w0.heap.size ≤ q
                omega)
              have hF : Fr (fun q => w0.heap.size ≤ q) w3 W5 := (Fr.of_below hb4 _).trans hF5
              obtain ⟨a5, c5, rfl, -, -⟩ := hO5.slice
              have hst := hid (hP3.out.step hqx (by rw [← hs.out]; exact hj) hal hfr.symm (by rw [← hs.out]; exact hkve.out) hF hO5 (u := .slice (if c2 = 1 then some ⟨b2, o2, none⟩ else some ⟨b2, o2 + 1, none⟩) ys.length (c2 - 1)) (by rw [← hs.out]; exact SlR.tail hQ))
              have hB5 : Below w.heap.size w (W5.setCell ⟨g9, p * 9 + 8, none⟩ (.slice (if c2 = 1 then some ⟨b2, o2, none⟩ else some ⟨b2, o2 + 1, none⟩) ys.length (c2 - 1))) := (hB3.out.trans (hF.to_below (Nat.le_trans (Nat.le_of_lt hP3.out.mb) hP3.out.le) (fun q hq h => by have := hP3.out.mb; have h9 : w0.heap.size ≤ q := h; omega))).setCell hBg _
              have hgw0 : g9 < w0.heap.size := by
                obtain ⟨⟨xs, _, h2, _⟩, _⟩ := hkv3
                rcases h2 g9 rfl with h4 | ⟨_, _, h4⟩
                · have := hP3.out.mb; omega
                · rcases Nat.lt_or_ge g9 w0.heap.size with h5 | h5
                  · exact h5
                  · rw [hP3.out.tk g9 h5] at h4; cases h4
              have hg5 : W5.heap[g9]? = w3.heap[g9]? := hF.block g9 hg9 (fun h => by have h9 : w0.heap.size ≤ g9 := h; omega)
              have hcu5 : W5.cell? ⟨g9, p * 9 + 8, none⟩ = some (.slice (some ⟨b2, o2, none⟩) (ys.length + 1) c2) := (World.cell?_of_block hg5).trans hcu
              have hfu5 : W5.frozen? ⟨g9, p * 9 + 8, none⟩ = false := (World.frozen?_of_block hg5).trans hfu
              rw [List.length_append, List.length_singleton] at hst hap
              rw [List.length_cons] at hcu hlc2
              replace hfr := hid hfr
              clear hi hz0 hz1 hz2 hO4 hO5 hb4 hF hF5 hg5 hkv3 hQ hP3 hh hqx
              go_wp2_with (first | (at_builtin; refine wpList_append_shut rfl (.tmp 47) (.tmp 57) rfl rfl rfl hap ?_))
              exact ⟨⟨k + 1, by go_num, by omega, hst, hB5⟩, by simp [intOf]; omega⟩
        · obtain rfl : k = a.length := by omega
          obtain ⟨t, N, f, hP⟩ := hP.out
          have hmb := hP.mb
          have hfin := hid (hP.own.mono goodPair (T := from_ w.heap.size) (fun q _ hq => Nat.le_trans (Nat.le_of_lt hmb) hq))
          clear hP
          go_wp2_with fail
          go_ret
          exact ⟨_, rfl, hfin.out, hB⟩
end Go.Proofs.YtnbhpicmflagcaaDoor
