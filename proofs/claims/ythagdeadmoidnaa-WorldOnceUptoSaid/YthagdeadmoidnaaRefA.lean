/- Rows that a call makes anew out of older elements; the reference's effects: Find, put. -/
import Derived.Test.YthagdeadmoidnaaNetFold
set_option linter.unusedVariables false
namespace Go.Proofs.Ythagdeadmoidnaa
open Go.RowKit
open Go.Lib (hid)
def flatC (cs : Nat → List Value) : Nat → List Value
  | 0 => []
  | n + 1 => flatC cs n ++ cs n
theorem flatC_len {cs : Nat → List Value} {sz : Nat} : ∀ n, (∀ i, i < n → (cs i).length = sz) → (flatC cs n).length = n * sz
  | 0, _ => by simp [flatC]
  | n + 1, h => by rw [flatC, List.length_append, flatC_len n (fun i hi => h i (by omega)), h n (by omega), Nat.succ_mul]
theorem flatC_get {cs : Nat → List Value} {sz : Nat} {i j : Nat} (hj : j < sz) : ∀ n, (∀ i, i < n → (cs i).length = sz) → i < n → (flatC cs n)[i * sz + j]? = (cs i)[j]?
  | 0, _, h => absurd h (by omega)
  | n + 1, h, hi => by
    have hl := flatC_len n (fun i hi => h i (by omega))
    rw [flatC]
    rcases Nat.lt_or_ge i n with h1 | h1
    · have : i * sz + sz ≤ n * sz := by rw [← Nat.succ_mul]; exact Nat.mul_le_mul_right _ h1
      rw [List.getElem?_append_left (by rw [hl]; omega)]
      exact flatC_get hj n (fun i hi => h i (by omega)) h1
    · have : i = n := by omega
      subst this
      rw [List.getElem?_append_right (by rw [hl]; omega), hl, show i * sz + j - i * sz = j by omega]
section
variable {α : Type} {E : TypeId} {sz : Nat} {R : Rel α} {S T : Foot} {w w' : World} {x : α} {l l2 : List α} {v vs : Value} {B : Nat}
theorem row_of_sl (hR : Good sz R) (hp : 0 < sz) (h : SlR sz R S w l v) : ∃ news, Row w.heap.size w sz v l.length news ∧ (∀ u ∈ news, u.oneCell' = true) ∧ ∀ i x, l[i]? = some x → ∃ cs, R S w x cs ∧ ∀ j u, cs[j]? = some u → news[i * sz + j]? = some u := by
  obtain ⟨a, cap, b, off, cs, rfl, hle, ha, hc, hx⟩ := h
  have hcl : ∀ i, i < l.length → (cs i).length = sz := fun i hi => hR.len (hx i l[i] (List.getElem?_eq_getElem hi))
  have hfl := flatC_len l.length hcl
  have hat : ∀ q, q < l.length * sz → ∃ i j, i < l.length ∧ j < sz ∧ q = i * sz + j := fun q hq => by
    refine ⟨q / sz, q % sz, Nat.div_lt_of_lt_mul (by rw [Nat.mul_comm]; exact hq), Nat.mod_lt _ hp, ?_⟩
    rw [Nat.mul_comm]; exact (Nat.div_add_mod q sz).symm
  refine ⟨flatC cs l.length, ⟨a, cap, b, off, rfl, hfl, fun h0 => ⟨(ha h0).1, (ha h0).2.2⟩, fun q hq => ?_⟩, fun u hu => ?_, fun i x hix => ?_⟩
  · obtain ⟨i, j, hi, hj, rfl⟩ := hat q (by rw [← hfl]; exact hq)
    rw [← Nat.add_assoc]
    refine hc i hi j _ ?_
    rw [← flatC_get hj l.length hcl hi]
    exact List.getElem?_eq_getElem hq
  · obtain ⟨q, hq⟩ := List.mem_iff_getElem?.1 hu
    obtain ⟨i, j, hi, hj, rfl⟩ := hat q (by rw [← hfl]; exact (List.getElem?_eq_some_iff.1 hq).1)
    rw [flatC_get hj l.length hcl hi] at hq
    exact hR.one (hx i l[i] (List.getElem?_eq_getElem hi)) u (List.mem_of_getElem? hq)
  · have hi := (List.getElem?_eq_some_iff.1 hix).1
    refine ⟨cs i, hx i x hix, fun j u hu => ?_⟩
    rw [flatC_get (by rw [← hcl i hi]; exact (List.getElem?_eq_some_iff.1 hu).1) l.length hcl hi]; exact hu
theorem SlR.take {a : Option Addr} {n cap k : Nat} (h : SlR sz R S w l (.slice a n cap)) (hk : k ≤ n) : SlR sz R S w (l.take k) (.slice a k cap) := by
  obtain ⟨a', cap', b, off, cs, he, hle, ha, hc, hx⟩ := h
  simp only [Value.slice.injEq] at he
  obtain ⟨rfl, rfl, rfl⟩ := he
  have hl : (l.take k).length = k := by rw [List.length_take]; omega
  refine ⟨a, cap, b, off, cs, by rw [hl], by omega, fun h0 => ha (by omega), fun i hi => hc i (by omega), fun i x hix => hx i x ?_⟩
  rw [List.getElem?_take_of_lt (by have := (List.getElem?_eq_some_iff.1 hix).1; omega)] at hix; exact hix
theorem SlR.drop {a : Addr} {n cap k : Nat} {a2 : Addr} (h : SlR sz R S w l (.slice (some a) n cap)) (hk : k ≤ n) (h2 : k < n → a2 = ⟨a.block, a.off + k * sz, none⟩) : SlR sz R S w (l.drop k) (.slice (some a2) (n - k) (cap - k)) := by
  obtain ⟨a', cap', b, off, cs, he, hle, ha, hc, hx⟩ := h
  simp only [Value.slice.injEq] at he
  obtain ⟨rfl, rfl, rfl⟩ := he
  have hl : (l.drop k).length = l.length - k := List.length_drop ..
  refine ⟨some a2, cap - k, b, off + k * sz, fun i => cs (k + i), by rw [hl], by omega, fun h0 => ?_, fun i hi j u hu => ?_, fun i x hix => hx (k + i) x ?_⟩
  · obtain ⟨e, hs, hb⟩ := ha (by omega)
    injection e with e
    rw [h2 (by omega), e]
    exact ⟨rfl, hs, hb⟩
  · have := hc (k + i) (by omega) j u hu
    rw [Nat.add_mul] at this
    rw [show off + k * sz + i * sz + j = off + (k * sz + i * sz) + j by omega]; exact this
  · rw [List.getElem?_drop] at hix; exact hix
/-- a row of the call's own (memory from B on), whose elements refer to older memory of S and to new memory -/
def FrR (E : TypeId) (sz : Nat) (R : Rel α) (S : Foot) (B : Nat) (w : World) (l : List α) (v : Value) : Prop :=
  OwnR E sz R (fun q => (S q ∧ q < B) ∨ B ≤ q) w l v ∧ ∀ q, v.ownBlock = some q → B ≤ q
theorem FrR.made (hB : B ≤ w.heap.size) : FrR E sz R S B (w.alloc (.cells #[] E)) [] (.slice (some ⟨w.heap.size, 0, none⟩) 0 0) :=
  ⟨⟨[], World.ownsRow_made w #[] 0 (Nat.zero_le _) (Nat.zero_le _) (by simp), fun k h => by simp [Value.ownBlock] at h; subst h; exact Or.inr hB, fun i x h => by simp at h⟩, fun q h => by simp [Value.ownBlock] at h; subst h; exact hB⟩
theorem FrR.sl (hR : Good sz R) (h : FrR E sz R S B w l v) (hS : ∀ q, B ≤ q → S q) : SlR sz R S w l v :=
  (h.1.sl hR).mono hR fun q _ hq => hq.elim (fun h => h.1) (hS q)
theorem FrR.below (hR : Good sz R) (h : FrR E sz R S B w l v) (hb : Below w.heap.size w w') : FrR E sz R S B w' l v := ⟨h.1.below hR hb, h.2⟩
theorem FrR.app {P : Program} {t ty : TypeId} {bytes : Nat} {i : TypeInfo} {z : Value} (hR : Good sz R) (ht : P.underlying t = some (.slice E)) (hi : P.info? E = some i) (hz : i.zero = some z) (hsize : i.size = sz) (hby : i.bytes = bytes) (hzs : z.cells.size = sz) (hsz : 0 < sz)
    (h : FrR E sz R S B w l v) (hB : B ≤ w.heap.size) {C : Nat} {news : List Value} (hr : Row C w sz vs l2.length news) (h1 : ∀ u ∈ news, u.oneCell' = true)
    (hx : ∀ i x, l2[i]? = some x → ∃ cs, R (fun q => S q ∧ q < B) w x cs ∧ ∀ j u, cs[j]? = some u → news[i * sz + j]? = some u) (h63 : l.length + l2.length ≤ maxLen) (hbytes : (l.length + l2.length) * bytes ≤ 140737488355328) :
    ∃ v' w', AppRun P t t ty v vs v' w w' ∧ FrR E sz R S B w' (l ++ l2) v' ∧ Below B w w' := by
  obtain ⟨⟨xs, ho, hk2, hxs⟩, hv⟩ := h
  obtain ⟨v', w', hrun, hown, hg, hv'⟩ := append_row w 0 t ty E i z sz bytes ht hi hz hsize hby hzs hsz v l.length xs ho C vs l2.length news hr h1 h63 hbytes (Nat.zero_le _)
  have hvb : ∀ q, v'.ownBlock = some q → B ≤ q := fun q hq => by
    rcases hv' with e | e
    · exact hv q (e ▸ hq)
    · rw [e] at hq; injection hq with hq; omega
  have hvn : ∀ k, k < w.heap.size → v.ownBlock ≠ some k → v'.ownBlock ≠ some k := fun k hk hu => by
    rcases hv' with e | e
    · rw [e]; exact hu
    · rw [e]; intro e2; injection e2 with e2; omega
  refine ⟨v', w', ⟨hrun⟩, ⟨⟨xs ++ news, by rw [List.length_append]; exact hown, fun q hq => Or.inr (hvb q hq), fun k y hy => ?_⟩, hvb⟩, ⟨hg.os, hg.tape, hg.output, hg.size, fun k hk => hg.block k (by omega) (fun e => by have := hv k e.symm; omega)⟩⟩
  by_cases hkl : k < l.length
  · rw [List.getElem?_append_left hkl] at hy
    obtain ⟨ds, h4, h5⟩ := hxs k y hy
    refine ⟨ds, fun j u hu => ?_, hR.move h5 fun q hq hs => ⟨⟨hs.1, hvn q hq hs.2⟩, hg.block q hq (fun e => hs.2 e.symm)⟩⟩
    have := h4 j u hu
    rw [List.getElem?_append_left (List.getElem?_eq_some_iff.1 this).1]; exact this
  · rw [List.getElem?_append_right (by omega)] at hy
    obtain ⟨cs, h4, h5⟩ := hx (k - l.length) y hy
    refine ⟨cs, fun j u hu => ?_, hR.move h4 fun q hq hs => ⟨⟨Or.inl hs, fun e => by have := hvb q e; omega⟩, hg.block q hq (fun e => by have := hv q e.symm; omega)⟩⟩
    have hle : l.length * sz ≤ k * sz := Nat.mul_le_mul_right _ (by omega)
    rw [List.getElem?_append_right (by rw [ho.1]; omega), ho.1, show k * sz + j - l.length * sz = (k - l.length) * sz + j by rw [Nat.sub_mul]; omega]
    exact h5 j u hu
/-- append(out, l2...) -/
theorem FrR.appSl {P : Program} {t ty : TypeId} {bytes : Nat} {i : TypeInfo} {z : Value} (hR : Good sz R) (ht : P.underlying t = some (.slice E)) (hi : P.info? E = some i) (hz : i.zero = some z) (hsize : i.size = sz) (hby : i.bytes = bytes) (hzs : z.cells.size = sz) (hsz : 0 < sz)
    (h : FrR E sz R S B w l v) (hB : B ≤ w.heap.size) (hs : SlR sz R (fun q => S q ∧ q < B) w l2 vs) (h63 : l.length + l2.length ≤ maxLen) (hbytes : (l.length + l2.length) * bytes ≤ 140737488355328) :
    ∃ v' w', AppRun P t t ty v vs v' w w' ∧ FrR E sz R S B w' (l ++ l2) v' ∧ Below B w w' := by
  obtain ⟨news, h1, h2, h3⟩ := row_of_sl hR hsz hs
  exact h.app hR ht hi hz hsize hby hzs hsz hB h1 h2 h3 h63 hbytes
/-- append(out, x) -/
theorem FrR.app1 {P : Program} {t ty : TypeId} {bytes : Nat} {i : TypeInfo} {z : Value} (hR : Good sz R) (ht : P.underlying t = some (.slice E)) (hi : P.info? E = some i) (hz : i.zero = some z) (hsize : i.size = sz) (hby : i.bytes = bytes) (hzs : z.cells.size = sz) (hsz : 0 < sz)
    (h : FrR E sz R S B w l v) (hB : B ≤ w.heap.size) {C : Nat} {cs : List Value} (hr : Row C w sz vs 1 cs) (hx : R (fun q => S q ∧ q < B) w x cs) (h63 : l.length + 1 ≤ maxLen) (hbytes : (l.length + 1) * bytes ≤ 140737488355328) :
    ∃ v' w', AppRun P t t ty v vs v' w w' ∧ FrR E sz R S B w' (l ++ [x]) v' ∧ Below B w w' := by
  refine h.app (l2 := [x]) hR ht hi hz hsize hby hzs hsz hB hr (hR.one hx) (fun i y hy => ?_) h63 hbytes
  rcases i with _ | i
  · simp at hy; subst hy
    exact ⟨cs, hx, fun j u hu => by rw [Nat.zero_mul, Nat.zero_add]; exact hu⟩
  · simp at hy
end
set_option maxHeartbeats 2000000 in
set_option maxRecDepth 100000 in
theorem find44_any (l : List Out) (hl : l.length ≤ 1048576) (key : List UInt8) (S : Foot) (v : Value) (w : World) (hr : SlR 5 OutR S w l v) :
    Calls Try.prog 42 #[v, sv key] w fun e w' => e = .returned (iv (findO l key)) ∧ Below w.heap.size w w' := by
  obtain ⟨a, c, rfl, -⟩ := hr.slice
  replace hr := hid hr
  generalize hres : findO l key = r
  replace hres := hid hres
  go_enter Try.func42, Try.ntmps42
  go_wp2
  go_loopw [5] (fun i wr => ∃ k : Nat, i = .int .i64 k ∧ k ≤ l.length ∧ Hid (∀ i y, i < k → l[i]? = some y → keyP key y = false) ∧ Below w.heap.size w wr) (fun i _ => l.length - (intOf i).toNat)
  case atStart => exact ⟨0, rfl, Nat.zero_le _, hid (fun i y h => absurd h (by omega)), Below.refl _ _⟩
  case round =>
    obtain ⟨k, rfl, hk, hn, hB⟩ := hrel
    by_cases hlt : k < l.length
    · obtain ⟨x, hx⟩ : ∃ x, l[k]? = some x := ⟨_, List.getElem?_eq_getElem hlt⟩
      obtain ⟨g, o, cs, hidx, hS, hg, hc, hR⟩ := (hr.out.below goodOut hB).at (P := Try.prog) (t := 41) (by kernel_rfl) (fun _ => by kernel_rfl) hx
      obtain ⟨a1, k1, rfl, -⟩ := id hR
      have c0 := hc 0 _ rfl
      rw [Nat.add_zero] at c0
      clear hR hc
      replace hx := hid hx
      by_cases hkey : x.key = key
      · have hfin := idxF_hit hx.out (show keyP key x = true by unfold keyP; simpa using hkey) hn.out
        rw [show idxF (keyP key) l = r from hres.out] at hfin
        replace hfin := hid hfin
        have hkb : (x.key == key) = true := by simpa using hkey
        clear hkey
        go_wp2
        go_ret
        exact ⟨by rw [hfin.out]; rfl, hB⟩
      · have hn2 := hid (show ∀ i y, i < k + 1 → l[i]? = some y → keyP key y = false from fun i y hi hy => by
          by_cases e : i = k
          · subst e; rw [hx.out] at hy; injection hy with hy; rw [← hy]; unfold keyP; simpa using hkey
          · exact hn.out i y (by omega) hy)
        have hkb : (x.key == key) = false := by simpa using hkey
        clear hkey
        go_wp2
        exact ⟨⟨k + 1, by go_num, by omega, hn2, hB⟩, by simp [intOf]; omega⟩
    · have hkl : k = l.length := by omega
      subst hkl
      have hfin := idxF_miss hn.out
      rw [show idxF (keyP key) l = r from hres.out] at hfin
      replace hfin := hid hfin
      go_wp2
      go_ret
      exact ⟨by rw [hfin.out]; rfl, hB⟩
set_option maxHeartbeats 2000000 in
set_option maxRecDepth 100000 in
theorem put44_any (l : List Out) (hl : l.length ≤ 1048576) (k : Nat) (hk : k < l.length) (x : Out) (cs : List Value) (S : Foot) (v : Value) (w : World) (hr : SlR 5 OutR S w l v) (hx : OutR S w x cs) (hS : ∀ q, w.heap.size ≤ q → S q) :
    Calls Try.prog 43 #[v, iv k, .agg cs.toArray] w fun e w' => ∃ v', e = .returned v' ∧ SlR 5 OutR S w' (l.set k x) v' ∧ Below w.heap.size w w' := by
  obtain ⟨a, c, rfl, -⟩ := hr.slice
  obtain ⟨a1, k1, rfl, hv⟩ := hx
  obtain ⟨i0, hi, hz0, hz1, hz2⟩ := info_parts infoOut
  generalize hA : w.alloc (.cells #[sv x.key, sv x.name, .slice a1 x.args.length k1, .bool x.part, iv x.tick] 54) = W1 at *
  have hb1 : Below w.heap.size w W1 := hA ▸ (Below.refl _ w).alloc (Nat.le_refl _) _
  have hbox : W1.heap[w.heap.size]? = some (.cells #[sv x.key, sv x.name, .slice a1 x.args.length k1, .bool x.part, iv x.tick] 54) := hA ▸ heap_alloc_new' w _
  have hs1 : W1.heap.size = w.heap.size + 1 := by rw [← hA]; simp
  generalize hA2 : W1.alloc (.cells #[] 54) = W2 at *
  have hb2 : Below W1.heap.size W1 W2 := hA2 ▸ (Below.refl _ W1).alloc (Nat.le_refl _) _
  have hbox2 := below_keep hb2 hbox (by omega)
  have hb12 := hb1.trans (hb2.mono hb1.size)
  have hfr : FrR 54 5 OutR S (w.heap.size + 1) W2 [] (.slice (some ⟨W1.heap.size, 0, none⟩) 0 0) := hA2 ▸ FrR.made (by omega)
  obtain ⟨v3, W3, hap, hf3, hb3⟩ := hfr.appSl (t := 41) (ty := 41) goodOut (by kernel_rfl) hi hz0 hz1 hz2 rfl (by decide) (by have := hb12.size; have := hb2.size; omega) ((hr.mono goodOut (fun q hq h => ⟨h, by omega⟩)).below goodOut hb12) (by unfold maxLen; simp; omega) (by simp; omega)
  rw [List.nil_append] at hf3
  obtain ⟨g, cap, rfl, hgS, hgl, hcap, -⟩ := hf3.1.form (by omega)
  have hgB : w.heap.size + 1 ≤ g := hf3.2 g rfl
  have hbox3 := below_keep hb3 hbox2 (by omega)
  have hb03 : Below w.heap.size w W3 := hb12.trans (hb3.mono (by omega))
  have hx3 : OutR (fun q => ((S q ∧ q < w.heap.size + 1) ∨ w.heap.size + 1 ≤ q) ∧ q ≠ g) W3 x (outCs x (.slice a1 x.args.length k1)) := goodOut.below (goodOut.mono (outR_shut hv) (fun q hq h => ⟨Or.inl ⟨h, by omega⟩, by omega⟩)) hb03
  have hset := hf3.1.set goodOut hk hx3
  obtain ⟨⟨u0, d0⟩, f0⟩ := hf3.1.there (i := k) (j := 0) hk (by decide)
  obtain ⟨⟨u1, d1⟩, f1⟩ := hf3.1.there (i := k) (j := 1) hk (by decide)
  obtain ⟨⟨u2, d2⟩, f2⟩ := hf3.1.there (i := k) (j := 2) hk (by decide)
  obtain ⟨⟨u3, d3⟩, f3⟩ := hf3.1.there (i := k) (j := 3) hk (by decide)
  obtain ⟨⟨u4, d4⟩, f4⟩ := hf3.1.there (i := k) (j := 4) hk (by decide)
  have e0 : W3.cell? ⟨w.heap.size, 0, none⟩ = some (sv x.key) := (cell_of hbox3).trans rfl
  have e1 : W3.cell? ⟨w.heap.size, 1, none⟩ = some (sv x.name) := (cell_of hbox3).trans rfl
  have e2 : W3.cell? ⟨w.heap.size, 2, none⟩ = some (.slice a1 x.args.length k1) := (cell_of hbox3).trans rfl
  have e3 : W3.cell? ⟨w.heap.size, 3, none⟩ = some (.bool x.part) := (cell_of hbox3).trans rfl
  have e4 : W3.cell? ⟨w.heap.size, 4, none⟩ = some (iv x.tick) := (cell_of hbox3).trans rfl
  have hidx : ∀ kd W, (Instr.indexAt 41 (.slice (some ⟨g, 0, none⟩) l.length cap) (.int kd k)).run Try.prog W = .ok (.pointer (some ⟨g, k * 5, none⟩)) W := fun kd W => by
    have := row_idx (P := Try.prog) (t := 41) (sz := 5) (by kernel_rfl) (fun _ => by kernel_rfl) (rfl : (some ⟨g, 0, none⟩ : Option Addr) = some ⟨g, 0, none⟩) l.length cap k hk kd W
    simpa using this
  rw [Nat.add_zero] at d0 f0
  have hfin := hid (show SlR 5 OutR S (setCells W3 g (k * 5) (outCs x (.slice a1 x.args.length k1))) (l.set k x) (.slice (some ⟨g, 0, none⟩) l.length cap) ∧ Below w.heap.size w (setCells W3 g (k * 5) (outCs x (.slice a1 x.args.length k1))) from
    ⟨(hset.sl goodOut).mono goodOut (fun q _ h => by rcases h with h | h; exact h.1; exact hS q (by omega)),
     ⟨by simp only [setCells]; exact hb03.os, by simp only [setCells]; exact hb03.tape, by simp only [setCells]; exact hb03.output, by rw [setCells_size]; exact hb03.size, fun q hq => (setCells_other g _ W3 _ q (by omega)).trans (hb03.block q hq)⟩⟩)
  simp only [setCells] at hfin
  rw [hs1, ← hA2, ← hA] at hap
  clear hset hx3 hf3 hb3 hbox3 hbox2 hb12 hb2 hb1 hbox hr hv hfr hi hz0 hz1 hz2 hA hA2
  go_enter Try.func43, Try.ntmps43
  go_wp2_with (first | (at_builtin; refine wpList_append_shut rfl (.tmp 8) (.tmp 9) rfl rfl rfl hap ?_))
  go_ret
  exact ⟨_, rfl, hfin.out.1, hfin.out.2⟩
end Go.Proofs.Ythagdeadmoidnaa
