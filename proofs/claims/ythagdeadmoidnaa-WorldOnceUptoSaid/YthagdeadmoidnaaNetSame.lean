/- net.Same at two slices that stand for the same list of effects with distinct keys. -/
import Derived.Test.YthagdeadmoidnaaRefA
import Derived.Test.YthagdeadmoidnaaEq2
import Derived.Test.YthagdeadmoidnaaMapV
import Derived.Test.YthagdeadmoidnaaWorld1
set_option linter.unusedVariables false
namespace Go.Proofs.Ythagdeadmoidnaa
open Go.RowKit
open Go.Lib (hid)
set_option maxHeartbeats 2000000 in
set_option maxRecDepth 100000 in
theorem indexFuncSame_any (p : Out → Bool) (l : List Out) (hl : l.length ≤ 1048576) (B : Nat) (S : Foot) (v : Value) (w : World) (hr : SlR 5 OutR S w l v)
    (hf : ∀ x ∈ l, ∀ (cs : List Value) (W : World), Below w.heap.size w W → OutR S W x cs → Calls Try.prog 37 #[.agg cs.toArray, pt B] W fun e w' => e = .returned (.bool (p x)) ∧ Below W.heap.size W w') :
    Calls Try.prog 36 #[v, .func (Fn.func 37) #[] #[pt B]] w fun e w' => e = .returned (iv (idxF p l)) ∧ Below w.heap.size w w' := by
  obtain ⟨a, c, rfl, -⟩ := hr.slice
  replace hr := hid hr
  replace hf := hid hf
  generalize hres : idxF p l = r
  replace hres := hid hres
  go_enter Try.func36, Try.ntmps36
  go_wp2
  go_loopw [5, 8] (fun _ i wr => ∃ k : Nat, i = .int .i64 k ∧ k ≤ l.length ∧ Hid (∀ i y, i < k → l[i]? = some y → p y = false) ∧ Below w.heap.size w wr) (fun _ i _ => l.length - (intOf i).toNat)
  case atStart => exact ⟨0, rfl, Nat.zero_le _, hid (fun i y h => absurd h (by omega)), Below.refl _ _⟩
  case round =>
    obtain ⟨k, rfl, hk, hn, hB⟩ := hrel
    by_cases hlt : k < l.length
    · obtain ⟨x, hx⟩ : ∃ x, l[k]? = some x := ⟨_, List.getElem?_eq_getElem hlt⟩
      obtain ⟨g, o, cs, hidx, hS, hg, hc, hR⟩ := (hr.out.below goodOut hB).at (P := Try.prog) (t := 41) (by kernel_rfl) (fun _ => by kernel_rfl) hx
      have hcall := hid (hf.out x (List.mem_of_getElem? hx) _ _ hB hR)
      obtain ⟨a1, k1, rfl, -⟩ := id hR
      have c0 := hc 0 _ rfl
      have c1 := hc 1 _ rfl
      have c2 := hc 2 _ rfl
      have c3 := hc 3 _ rfl
      have c4 := hc 4 _ rfl
      rw [Nat.add_zero] at c0
      clear hR hc
      replace hx := hid hx
      go_wp2_with fail
      refine hcall.out.mono ?_
      rintro e w2 ⟨rfl, hb2⟩
      have hB2 := hB.trans (hb2.mono hB.size)
      clear c0 c1 c2 c3 c4 hcall hb2 hidx
      cases hp : p x with
      | true =>
        have hfin := idxF_hit hx.out hp hn.out
        rw [hres.out] at hfin
        replace hfin := hid hfin
        clear hp
        go_wp2
        go_ret
        exact ⟨by rw [hfin.out]; rfl, hB2⟩
      | false =>
        have hn2 := hid (show ∀ i y, i < k + 1 → l[i]? = some y → p y = false from fun i y hi hy => by
          by_cases e : i = k
          · subst e; rw [hx.out] at hy; injection hy with hy; rw [← hy]; exact hp
          · exact hn.out i y (by omega) hy)
        clear hp
        go_wp2
        exact ⟨⟨k + 1, by go_num, by omega, hn2, hB2⟩, by simp [intOf]; omega⟩
    · have hkl : k = l.length := by omega
      subst hkl
      have hfin := idxF_miss hn.out
      rw [hres.out] at hfin
      replace hfin := hid hfin
      go_wp2
      go_ret
      exact ⟨by rw [hfin.out]; rfl, hB⟩
set_option maxHeartbeats 2000000 in
set_option maxRecDepth 100000 in
theorem deleteOut_own (l : List Out) (hl : l.length ≤ 1048576) (k : Nat) (hk : k < l.length) (S : Foot) (g cap : Nat) (w : World) (hr : OwnR 54 5 OutR S w l (.slice (some ⟨g, 0, none⟩) l.length cap)) :
    Calls Try.prog 39 #[.slice (some ⟨g, 0, none⟩) l.length cap, iv k, iv ((k : Int) + 1)] w fun e w' => ∃ v', e = .returned v' ∧ OwnR 54 5 OutR S w' (l.eraseIdx k) v' ∧ Fr (fun q => q = g) w w' := by
  obtain ⟨g', cap', he, hS, hg, hcap, hcm⟩ := hr.form (by omega)
  simp only [Value.slice.injEq, Option.some.injEq, Addr.mk.injEq, and_true, true_and] at he
  obtain ⟨rfl, rfl⟩ := he
  unfold maxLen at hcm
  obtain ⟨i0, hi, hz0, hz1, hz2⟩ := info_parts infoOut
  have hkI : (k : Int) < l.length := by omega
  have hne : ((k : Int) == (k : Int) + 1) = false := by simp; omega
  obtain ⟨n, hn⟩ : ∃ n, l.length = n + 1 := ⟨l.length - 1, by omega⟩
  have hkn : k ≤ n := by omega
  rcases (by omega : cap = k + 1 ∨ k + 1 < cap) with hc | hc
  · obtain ⟨W1, W2, h1, h2, h3, h4⟩ := delete_own goodOut (t := 41) (ty := 41) (ty2 := 0) (z := .agg #[.string .empty, .string .empty, .slice none 0 0, .bool false, .int .i64 0]) (by kernel_rfl) hi hz1 (fun _ => by kernel_rfl) rfl (by intro u hu; simp [Value.cells] at hu; rcases hu with rfl | rfl | rfl | rfl | rfl <;> rfl) (hr.drew goodOut) hk (by decide) ⟨g, 0, none⟩ (fun h => by omega)
    obtain rfl : k = n := by omega
    subst hc
    rw [hn] at h1 h2 h3 hcap hkI ⊢
    rw [Nat.sub_self, Nat.add_sub_cancel] at h1
    rw [Nat.add_sub_cancel, Nat.add_sub_cancel_left] at h2
    rw [Nat.add_sub_cancel] at h3
    have hf : Fr (fun q => q = g) w W2 := (Fr.refl _ w).drew.trans h4
    replace h3 := hid h3
    have k1 : k ≤ k + 1 := by omega
    have k3 : (k : Int) ≤ (k : Int) + 1 := by omega
    have k5 : (0 : Int) ≤ (k : Int) + 1 := by omega
    have k9 : ¬ k + 1 = k := by omega
    clear hr h4 hi hz0 hz1 hz2
    go_enter Try.func39, Try.ntmps39
    go_wp2_with fail
    go_region_law (refine step_append_shut (by rfl) (.tmp 22) (.tmp 25) (by rfl) (by rfl) (by rfl) h1 ?_)
    go_wp2_with fail
    go_ret
    exact ⟨_, rfl, h3.out, hf⟩
  · obtain ⟨W1, W2, h1, h2, h3, h4⟩ := delete_own goodOut (t := 41) (ty := 41) (ty2 := 0) (z := .agg #[.string .empty, .string .empty, .slice none 0 0, .bool false, .int .i64 0]) (by kernel_rfl) hi hz1 (fun _ => by kernel_rfl) rfl (by intro u hu; simp [Value.cells] at hu; rcases hu with rfl | rfl | rfl | rfl | rfl <;> rfl) (hr.drew goodOut) hk (by decide) ⟨g, (k + 1) * 5, none⟩ (fun h => rfl)
    rw [hn] at h1 h2 h3 hcap hkI ⊢
    rw [show n + 1 - (k + 1) = n - k by omega, Nat.add_sub_cancel] at h1
    rw [Nat.add_sub_cancel] at h2 h3
    have k5 : (0 : Int) ≤ (k : Int) + 1 := by omega
    have k6 : ¬ cap = k + 1 := by omega
    have k7 : n + 1 ≤ cap := hcap
    have k8 : n ≤ cap := by omega
    have k9 : ¬ cap = n := by omega
    have hf : Fr (fun q => q = g) w W2 := (Fr.refl _ w).drew.trans h4
    replace h3 := hid h3
    have k1 : k ≤ cap := by omega
    have k2 : k + 1 ≤ n + 1 := by omega
    have k3 : (k : Int) ≤ (cap : Int) := by omega
    have k4 : (k : Int) + 1 ≤ (n : Int) + 1 := by omega
    clear hr h4 hi hz0 hz1 hz2
    go_enter Try.func39, Try.ntmps39
    go_wp2_with fail
    go_region_law (refine step_append_shut (by rfl) (.tmp 22) (.tmp 25) (by rfl) (by rfl) (by rfl) h1 ?_)
    go_wp2_with fail
    go_ret
    exact ⟨_, rfl, h3.out, hf⟩
theorem outEq_refl (o : Out) : OutEq o o := ⟨rfl, rfl, rfl, rfl⟩
set_option maxRecDepth 100000 in
theorem sameC_any (o x : Out) (ho : ValsB o.args) (hx : ValsB x.args) (cs : List Value) (S T : Foot) (vo : Value) (w : World) (B : Nat) (hB : w.heap[B]? = some (.cells (outCs o vo).toArray 54)) (hro : OutR T w o (outCs o vo)) (hr : OutR S w x cs) :
    Calls Try.prog 37 #[.agg cs.toArray, pt B] w fun e w' => e = .returned (.bool (dec (OutEq x o))) ∧ Below w.heap.size w w' := by
  obtain ⟨a1, k1, rfl, -⟩ := id hr
  have hb : Below w.heap.size w (w.alloc (.cells (outCs x (.slice a1 x.args.length k1)).toArray 54)) := (Below.refl _ w).alloc (Nat.le_refl _) _
  have hBl := lt_of_some hB
  obtain ⟨a2, k2, he, -⟩ := id hro
  simp only [List.cons.injEq, and_true, true_and] at he
  obtain rfl := he
  have c0 : w.cell? ⟨B, 0, none⟩ = some (sv o.key) := (cell_of hB).trans rfl
  have c1 : w.cell? ⟨B, 1, none⟩ = some (sv o.name) := (cell_of hB).trans rfl
  have c2 : w.cell? ⟨B, 2, none⟩ = some (.slice a2 o.args.length k2) := (cell_of hB).trans rfl
  have c3 : w.cell? ⟨B, 3, none⟩ = some (.bool o.part) := (cell_of hB).trans rfl
  have c4 : w.cell? ⟨B, 4, none⟩ = some (iv o.tick) := (cell_of hB).trans rfl
  have hcall := hid (nEqOut_any x o hx ho S T _ _ _ (goodOut.below hr hb) (goodOut.below hro hb))
  replace hb := hid hb
  clear hr hro hB
  go_enter Try.func37, Try.ntmps37
  go_wp2_with fail
  refine hcall.out.mono ?_
  rintro e w3 ⟨rfl, hb3⟩
  clear c0 c1 c2 c3 c4 hcall
  go_wp2_with fail
  go_ret
  exact ⟨rfl, hb.out.trans (hb3.mono hb.out.size)⟩
/-- append(nil, x): a new row -/
theorem nil_app1 {α : Type} {E : TypeId} {sz : Nat} {R : Rel α} {P : Program} {t ty : TypeId} {bytes : Nat} {i : TypeInfo} {z : Value} (hR : Good sz R) (ht : P.underlying t = some (.slice E)) (hi : P.info? E = some i) (hz : i.zero = some z) (hsize : i.size = sz) (hby : i.bytes = bytes) (hzs : z.cells.size = sz) (hsz : 0 < sz)
    {T : Foot} {w : World} {x : α} {C : Nat} {cs : List Value} {vs : Value} (hr : Row C w sz vs 1 cs) (hx : R T w x cs) (hT : ∀ q, T q → q < w.heap.size) (hbytes : (0 + 1) * bytes ≤ 140737488355328) :
    ∃ v' w', AppRun P t t ty (.slice none 0 0) vs v' w w' ∧ OwnR E sz R (fun q => T q ∨ v'.ownBlock = some q) w' [x] v' ∧ v'.ownBlock = some w.heap.size ∧ Below w.heap.size w w' := by
  obtain ⟨v', w', hrun, hown, hg, hv⟩ := append_row w 0 t ty E i z sz bytes ht hi hz hsize hby hzs hsz (.slice none 0 0) 0 [] (World.ownsRow_nil _ _ _ _) C vs 1 cs hr (hR.one hx) (by unfold maxLen; omega) hbytes (Nat.zero_le _)
  have hvo : v'.ownBlock = some w.heap.size := by
    rcases hv with e | e
    · rcases hown.2 with ⟨rfl, h0⟩ | ⟨g, cap, cur, rfl, _⟩
      · omega
      · cases e
    · exact e
  have hb : Below w.heap.size w w' := ⟨hg.os, hg.tape, hg.output, hg.size, fun k hk => hg.block k hk (fun e => by cases e)⟩
  refine ⟨v', w', ⟨hrun⟩, ⟨cs, by simpa using hown, fun q hq => Or.inr hq, fun k y hy => ?_⟩, hvo, hb⟩
  rcases k with _ | k
  · simp at hy; subst hy
    refine ⟨cs, fun j u hu => by rw [Nat.zero_mul, Nat.zero_add]; exact hu, hR.move hx fun q hq hs => ⟨⟨Or.inl hs, fun e => ?_⟩, hb.block q hq⟩⟩
    rw [hvo] at e; injection e with e; have := hT q hs; omega
  · simp at hy
/-- what is left: at the keys of lo..hi a row of that effect alone; at no other key of l anything -/
structure LeftR (l : List Out) (B mb lo hi : Nat) (w : World) : Prop where
  ex : ∃ (N : Nat) (f : Lit → Option Value) (vs : Nat → Value), MapV Try.prog 9 mb N f w ∧ N ≤ hi + lo ∧
    (∀ j o, lo ≤ j → j < hi → l[j]? = some o → f (.string o.key) = some (vs j) ∧ OwnR 54 5 OutR (fun q => q < B ∨ (vs j).ownBlock = some q) w [o] (vs j) ∧ ∃ q, (vs j).ownBlock = some q ∧ B < q ∧ q ≠ mb ∧ q < w.heap.size) ∧
    (∀ i j, lo ≤ i → i < hi → lo ≤ j → j < hi → i ≠ j → (vs i).ownBlock ≠ (vs j).ownBlock) ∧
    (∀ s, (∀ j o, j < hi → l[j]? = some o → o.key ≠ s) → f (.string s) = none)
theorem LeftR.below {l : List Out} {B mb lo hi : Nat} {w w' : World} (h : LeftR l B mb lo hi w) (hb : Below w.heap.size w w') (hB : B ≤ w.heap.size) : LeftR l B mb lo hi w' := by
  obtain ⟨N, f, vs, h1, h2, h3, h4, h5⟩ := h.ex
  refine ⟨N, f, vs, h1.below hb h1.lt, h2, fun j o h6 h7 h8 => ?_, h4, h5⟩
  obtain ⟨h9, h10, q, h11, h12, h13, h14⟩ := h3 j o h6 h7 h8
  exact ⟨h9, h10.below goodOut hb, q, h11, h12, h13, Nat.lt_of_lt_of_le h14 hb.size⟩
theorem key_ne {l : List Out} (hnd : (l.map Out.key).Nodup) {i j : Nat} {x y : Out} (hx : l[i]? = some x) (hy : l[j]? = some y) (h : i ≠ j) : x.key ≠ y.key := by
  intro e
  have hi := (List.getElem?_eq_some_iff.1 hx).1
  have hj := (List.getElem?_eq_some_iff.1 hy).1
  have h1 : (l.map Out.key)[i]? = some x.key := by rw [List.getElem?_map, hx]; rfl
  have h2 : (l.map Out.key)[j]? = some x.key := by rw [List.getElem?_map, hy, e]; rfl
  exact h ((List.getElem?_inj (by simpa using hi) hnd).1 (h1.trans h2.symm))
theorem LeftR.push {l : List Out} {B mb k : Nat} {w w3 w4 : World} (h : LeftR l B mb 0 k w) (hnd : (l.map Out.key).Nodup) {o : Out} (ho : l[k]? = some o) {v : Value} (hb : Below w.heap.size w w3) (hBw : B ≤ w.heap.size)
    (hO : OwnR 54 5 OutR (fun q => q < B ∨ v.ownBlock = some q) w3 [o] v) {g : Nat} (hg : v.ownBlock = some g) (hg2 : w.heap.size ≤ g) (hmB : mb < w.heap.size) (hmB2 : B ≤ mb) (hkey : keyOf Try.prog 9 (sv o.key) = some (.string o.key))
    (hput : ∀ (N : Nat) (f : Lit → Option Value), MapV Try.prog 9 mb N f w3 → N < maxLen → MapV Try.prog 9 mb (N + 1) (putF f (.string o.key) v) w4) (hgr : w3.grownBy w4 (some mb)) (hk : k < maxLen) : LeftR l B mb 0 (k + 1) w4 := by
  obtain ⟨N, f, vs, h1, h2, h3, h4, h5⟩ := h.ex
  have hm3 := h1.below hb h1.lt
  have hgl : g < w3.heap.size := hO.lt hg
  refine ⟨N + 1, putF f (.string o.key) v, fun j => if j = k then v else vs j, hput N f hm3 (by omega), by omega, fun j y h6 h7 h8 => ?_, fun i j hi hik hj hjk hij => ?_, fun s hs => ?_⟩
  · by_cases e : j = k
    · subst e
      rw [ho] at h8; injection h8 with h8; subst h8
      simp only [if_true]
      refine ⟨by unfold putF; rw [if_pos rfl], hO.move goodOut fun q hq hs => ⟨hs, ?_⟩, g, hg, by omega, by omega, Nat.lt_of_lt_of_le hgl hgr.size⟩
      refine hgr.block q hq fun e => ?_
      injection e with e
      rcases hs with hs | hs
      · omega
      · rw [hg] at hs; injection hs with hs; omega
    · obtain ⟨h9, h10, q, h11, h12, h13, h14⟩ := h3 j y h6 (by omega) h8
      simp only [if_neg e]
      refine ⟨?_, (h10.below goodOut hb).move goodOut fun q2 hq hs => ⟨hs, ?_⟩, q, h11, h12, h13, Nat.lt_of_lt_of_le h14 (Nat.le_trans hb.size hgr.size)⟩
      · unfold putF
        rw [if_neg (fun h => by injection h with h; exact key_ne hnd h8 ho e h)]
        exact h9
      · refine hgr.block q2 hq fun e => ?_
        injection e with e
        rcases hs with hs | hs
        · omega
        · rw [h11] at hs; injection hs with hs; omega
  · by_cases e : i = k
    · have e2 : ¬ j = k := fun h => hij (by rw [e, h])
      have hjl : j < l.length := by have := (List.getElem?_eq_some_iff.1 ho).1; omega
      obtain ⟨-, -, q, h11, h12, h13, h14⟩ := h3 j l[j] (by omega) (by omega) (List.getElem?_eq_getElem hjl)
      simp only [if_pos e, if_neg e2]
      rw [hg, h11]; intro h; injection h with h; omega
    · have hil : i < l.length := by have := (List.getElem?_eq_some_iff.1 ho).1; omega
      obtain ⟨-, -, q, h11, h12, h13, h14⟩ := h3 i l[i] (by omega) (by omega) (List.getElem?_eq_getElem hil)
      by_cases e2 : j = k
      · simp only [if_neg e, if_pos e2]
        rw [hg, h11]; intro h; injection h with h; omega
      · simp only [if_neg e, if_neg e2]
        exact h4 i j (by omega) (by omega) (by omega) (by omega) hij
  · unfold putF
    rw [if_neg (fun h => by injection h with h; exact hs k o (by omega) ho h.symm)]
    exact h5 s fun j y hj hy => hs j y (by omega) hy
theorem LeftR.pop {l : List Out} {B mb k : Nat} {w w3 w4 : World} (h : LeftR l B mb k l.length w) (hnd : (l.map Out.key).Nodup) {o : Out} (ho : l[k]? = some o) {g : Nat} (hBw : B ≤ w.heap.size) (hmB : mb < w.heap.size) (hmB2 : B ≤ mb)
    (hg : ∀ v, (∃ f N, MapV Try.prog 9 mb N f w ∧ f (.string o.key) = some v) → v.ownBlock = some g) (hb : Fr (fun q => q = g) w w3) (v' : Value)
    (hput : ∀ (N : Nat) (f : Lit → Option Value), MapV Try.prog 9 mb N f w3 → N < maxLen → MapV Try.prog 9 mb (N + 1) (putF f (.string o.key) v') w4) (hgr : w3.grownBy w4 (some mb)) (hk : 2 * l.length < maxLen) : LeftR l B mb (k + 1) l.length w4 := by
  obtain ⟨N, f, vs, h1, h2, h3, h4, h5⟩ := h.ex
  have hkl := (List.getElem?_eq_some_iff.1 ho).1
  obtain ⟨k9, k10, q0, k11, k12, k13, k14⟩ := h3 k o (Nat.le_refl _) hkl ho
  have hg0 : q0 = g := by
    have := hg (vs k) ⟨f, N, h1, k9⟩
    rw [k11] at this; injection this
  have hm3 : MapV Try.prog 9 mb N f w3 := h1.same (hb.block mb hmB (fun e => k13 (hg0.trans e.symm)))
  refine ⟨N + 1, putF f (.string o.key) v', vs, hput N f hm3 (by omega), by omega, fun j y h6 h7 h8 => ?_, fun i j hi hik hj hjk hij => h4 i j (by omega) hik (by omega) hjk hij, fun s hs => ?_⟩
  · obtain ⟨h9, h10, q, h11, h12, h13, h14⟩ := h3 j y (by omega) h7 h8
    have hqg : q ≠ g := fun e => h4 k j (Nat.le_refl _) hkl (by omega) h7 (by omega) (by rw [k11, h11, hg0, e])
    refine ⟨?_, h10.move goodOut fun q2 hq hs => ⟨hs, ?_⟩, q, h11, h12, h13, Nat.lt_of_lt_of_le h14 (Nat.le_trans hb.size hgr.size)⟩
    · unfold putF
      rw [if_neg (fun h => by injection h with h; exact key_ne hnd h8 ho (by omega) h)]
      exact h9
    · have hne : q2 ≠ g ∧ q2 ≠ mb := by
        rcases hs with hs | hs
        · exact ⟨by omega, by omega⟩
        · rw [h11] at hs; injection hs with hs; subst hs; exact ⟨hqg, h13⟩
      exact (hgr.block q2 (Nat.lt_of_lt_of_le hq hb.size) (fun e => by injection e with e; exact hne.2 e)).trans (hb.block q2 hq hne.1)
  · unfold putF
    rw [if_neg (fun h => by injection h with h; exact hs k o hkl ho h.symm)]
    exact h5 s hs
end Go.Proofs.Ythagdeadmoidnaa
