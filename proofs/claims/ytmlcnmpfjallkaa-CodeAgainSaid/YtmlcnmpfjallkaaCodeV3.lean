/- Chapter 02 (code): walks: the law's encoded. -/
import Derived.Test.YtmlcnmpfjallkaaCodeV2
set_option linter.unusedVariables false
namespace Go.Proofs.Ytmlcnmpfjallkaa
open Go.RowKit
open Go.Lib (hid IsBuilder byteCells)

/-- a row of values (five cells each), none of whose memory lies in S; ps: the slices in each -/
def VRow (S : Nat → Prop) (w : World) (v : Value) (ts : List CV) : Prop :=
  ∃ a cap g off, v = .slice a ts.length cap ∧ (0 < ts.length → a = some ⟨g, off, none⟩ ∧ g < w.heap.size ∧ ¬ S g) ∧
    ∀ k t, ts[k]? = some t → ∃ vt vn, w.cell? ⟨g, off + k * 5, none⟩ = some (iv t.kind) ∧ w.cell? ⟨g, off + k * 5 + 1, none⟩ = some (iv t.n) ∧ w.cell? ⟨g, off + k * 5 + 2, none⟩ = some (sv t.text) ∧
      w.cell? ⟨g, off + k * 5 + 3, none⟩ = some vt ∧ w.cell? ⟨g, off + k * 5 + 4, none⟩ = some vn ∧ RowS S w vt (t.texts.map sv) ∧ RowS S w vn (t.nums.map iv)
theorem VRow.fr {S T : Nat → Prop} {w w' : World} {v : Value} {ts : List CV} (h : VRow S w v ts) (hf : Fr T w w') (ht : ∀ k, T k → S k) : VRow S w' v ts := by
  obtain ⟨a, cap, g, off, h1, h2, h3⟩ := h
  refine ⟨a, cap, g, off, h1, fun h0 => ⟨(h2 h0).1, Nat.lt_of_lt_of_le (h2 h0).2.1 hf.size, (h2 h0).2.2⟩, fun k t hk => ?_⟩
  obtain ⟨vt, vn, c0, c1, c2, c3, c4, r1, r2⟩ := h3 k t hk
  have h0 : 0 < ts.length := by have := (List.getElem?_eq_some_iff.1 hk).1; omega
  have e : ∀ i, w'.cell? ⟨g, i, none⟩ = w.cell? ⟨g, i, none⟩ := fun i => World.cell?_of_block (w := w) (hf.block g (h2 h0).2.1 (fun e => (h2 h0).2.2 (ht g e)))
  exact ⟨vt, vn, by rw [e]; exact c0, by rw [e]; exact c1, by rw [e]; exact c2, by rw [e]; exact c3, by rw [e]; exact c4, r1.fr hf ht, r2.fr hf ht⟩
theorem VRow.below {S : Nat → Prop} {w w' : World} {v : Value} {ts : List CV} (h : VRow S w v ts) (hf : Below w.heap.size w w') : VRow S w' v ts := h.fr (Fr.of_below hf (fun _ => False)) (fun _ e => e.elim)

def encCV (t : CV) : List UInt8 :=
  if t.kind % 5 = 0 then nenc t.n else if t.kind % 5 = 1 then ienc t.n else if t.kind % 5 = 2 then tenc t.text else if t.kind % 5 = 3 then lenc t.texts else msenc t.nums
structure Small (t : CV) : Prop where
  kind : -9223372036854775808 ≤ t.kind ∧ t.kind ≤ 9223372036854775807
  n : -9223372036854775808 ≤ t.n ∧ t.n ≤ 9223372036854775807
  text : t.text.length ≤ 100000000
  texts : t.texts.length ≤ 100000000
  each : ∀ x ∈ t.texts, x.length ≤ 1000000000
  lenc : (lenc t.texts).length ≤ 1000000000
  nums : t.nums.length ≤ 100000000
  msenc : (msenc t.nums).length ≤ 1000000000
theorem Small.enc {t : CV} (h : Small t) : (encCV t).length ≤ 1000000000 := by
  unfold encCV nenc
  have h1 := h.n
  have h2 := h.text
  have h3 := h.lenc
  have h4 := h.msenc
  split
  · split
    · simp
    · have := (venc_bound t.n.toNat (by omega)).2; omega
  · split
    · have := ienc_bound t.n; omega
    · split
      · have := (venc_bound t.text.length (by omega)).2; simp only [tenc, List.length_append]; omega
      · split <;> omega
def encAll (ts : List CV) (k : Nat) : List UInt8 := ((ts.take k).map encCV).flatten
theorem encAll_succ (ts : List CV) (k : Nat) (t : CV) (h : ts[k]? = some t) : encAll ts (k + 1) = encAll ts k ++ encCV t := by
  unfold encAll; rw [List.take_add_one, h]; simp
theorem encAll_len (ts : List CV) (hs : ∀ t ∈ ts, Small t) : ∀ k, (encAll ts k).length ≤ k * 1000000000 := by
  intro k
  induction k with
  | zero => rw [show encAll ts 0 = [] from rfl]; simp only [List.length_nil, Nat.zero_mul, Nat.le_refl]
  | succ k ih =>
    rcases h : ts[k]? with _ | t
    · have e : encAll ts (k + 1) = encAll ts k := by unfold encAll; rw [List.take_add_one, h]; simp
      rw [congrArg List.length e]; exact Nat.le_trans ih (Nat.mul_le_mul_right _ (Nat.le_succ k))
    · have := (hs t (List.mem_of_getElem? h)).enc
      rw [encAll_succ ts k t h, List.length_append]; omega

set_option maxHeartbeats 8000000 in
set_option maxRecDepth 100000 in
theorem encoded_any (S : Nat → Prop) (ts : List CV) (v : Value) (w : World) (hv : VRow S w v ts) (hs : ∀ t ∈ ts, Small t) (hl : ts.length ≤ 1000000) :
    Calls Try.prog 42 #[v] w fun e w' => e = .returned (sv (encAll ts ts.length)) ∧ Below w.heap.size w w' := by
  have hv0 := hid hv
  obtain ⟨a, cap, g, off, rfl, h2, h3⟩ := hv
  clear h3
  go_enter Try.func42, Try.ntmps42
  go_wp2
  go_loopw [3, 4] (fun s i wr => ∃ k : Nat, k ≤ ts.length ∧ i = .int .i64 k ∧ s = sv (encAll ts k) ∧ Below w.heap.size w wr) (fun _ i _ => ts.length - (intOf i).toNat)
  case atStart => exact ⟨0, Nat.zero_le _, rfl, rfl, Below.refl _ _⟩
  case round =>
    obtain ⟨k, hk, rfl, rfl, hB⟩ := hrel
    by_cases hlt : k < ts.length
    · obtain ⟨t, ht⟩ : ∃ t, ts[k]? = some t := ⟨_, List.getElem?_eq_getElem hlt⟩
      have hsm := hs t (List.mem_of_getElem? ht)
      have hstep := hid (encAll_succ ts k t ht)
      have hidx := fun kd W => row_idx (P := Try.prog) (t := 42) (sz := 5) (by kernel_rfl) (fun _ => by kernel_rfl) (h2 (by omega)).1 ts.length cap k hlt kd W
      have hgl : g < w.heap.size := (h2 (by omega)).2.1
      have hacc : (encAll ts k).length ≤ 1000000000000000 := by have := encAll_len ts hs k; omega
      have hel : (encCV t).length ≤ 1000000000 := hsm.enc
      have hwr : ∃ vt vn, RowS S wr vt (t.texts.map sv) ∧ RowS S wr vn (t.nums.map iv) ∧ ∀ w2, Below wr.heap.size wr w2 → (w2.cell? ⟨g, off + k * 5, none⟩ = some (iv t.kind) ∧ w2.cell? ⟨g, off + k * 5 + 1, none⟩ = some (iv t.n) ∧ w2.cell? ⟨g, off + k * 5 + 2, none⟩ = some (sv t.text) ∧
          w2.cell? ⟨g, off + k * 5 + 3, none⟩ = some vt ∧ w2.cell? ⟨g, off + k * 5 + 4, none⟩ = some vn) := by
        obtain ⟨a', cap', g', off', e', h2', h3'⟩ := hv0.out.below hB
        simp only [Value.slice.injEq] at e'
        have e1 := (h2 (by omega)).1.symm.trans (e'.1.trans (h2' (by omega)).1)
        simp only [Option.some.injEq, Addr.mk.injEq] at e1
        obtain ⟨rfl, rfl, _⟩ := e1
        obtain ⟨vt, vn, c0, c1, c2, c3, c4, r1, r2⟩ := h3' k t ht
        refine ⟨vt, vn, r1, r2, fun w2 hb => ?_⟩
        have e : ∀ i, w2.cell? ⟨g, i, none⟩ = wr.cell? ⟨g, i, none⟩ := fun i => hb.cell (h2' (by omega)).2.1
        exact ⟨by rw [e]; exact c0, by rw [e]; exact c1, by rw [e]; exact c2, by rw [e]; exact c3, by rw [e]; exact c4⟩
      obtain ⟨vt, vn, r1, r2, hcells⟩ := hwr
      obtain ⟨c0, c1, c2, c3, c4⟩ := hcells wr (Below.refl _ _)
      replace hcells := hid hcells
      replace r1 := hid r1
      replace r2 := hid r2
      have hsm' := hid hsm
      generalize encAll ts k = acc at *
      clear ht hsm
      go_wp2_with fail
      refine (kind_any t.kind (iv t.n) (sv t.text) vt vn _ hsm'.out.kind).mono ?_
      rintro e w1 ⟨rfl, hb⟩
      replace hcells := hid (fun w2 hb2 => hcells.out w2 (hb.trans (Below.mono hb2 hb.size)))
      obtain ⟨c0, c1, c2, c3, c4⟩ := hcells.out w1 (Below.refl _ _)
      have hcs : t.kind % 5 = 0 ∨ t.kind % 5 = 1 ∨ t.kind % 5 = 2 ∨ t.kind % 5 = 3 ∨ t.kind % 5 = 4 := by omega
      have hsz := hb.size
      have hB1 := hB.trans (hb.mono hB.size)
      rcases hcs with hk5 | hk5 | hk5 | hk5 | hk5
      · have he : encCV t = nenc t.n := by simp [encCV, hk5]
        rw [he] at hel hstep
        rw [hk5]
        clear hk5
        replace he := hid he
        go_wp2_with fail
        refine (num_any t.n _ hsm'.out.n.2).mono ?_
        rintro e w2 ⟨rfl, hb2⟩
        go_wp2
        refine ⟨⟨k + 1, by omega, by go_num, ?_, hB1.trans (hb2.mono hB1.size)⟩, by simp [intOf]; omega⟩
        rw [hstep.out, ByteArray.mk_append_mk]
      · have he : encCV t = ienc t.n := by simp [encCV, hk5]
        rw [he] at hel hstep
        rw [hk5]
        clear hk5
        replace he := hid he
        go_wp2_with fail
        refine (int_any t.n _).mono ?_
        rintro e w2 ⟨rfl, hb2⟩
        go_wp2
        refine ⟨⟨k + 1, by omega, by go_num, ?_, hB1.trans (hb2.mono hB1.size)⟩, by simp [intOf]; omega⟩
        rw [hstep.out, ByteArray.mk_append_mk]
      · have he : encCV t = tenc t.text := by simp [encCV, hk5]
        rw [he] at hel hstep
        rw [hk5]
        clear hk5
        replace he := hid he
        go_wp2_with fail
        refine (text_any t.text _ (by have := hsm'.out.text; omega)).mono ?_
        rintro e w2 ⟨rfl, hb2⟩
        go_wp2
        refine ⟨⟨k + 1, by omega, by go_num, ?_, hB1.trans (hb2.mono hB1.size)⟩, by simp [intOf]; omega⟩
        rw [hstep.out, ByteArray.mk_append_mk]
      · have he : encCV t = lenc t.texts := by simp [encCV, hk5]
        rw [he] at hel hstep
        rw [hk5]
        clear hk5
        replace he := hid he
        go_wp2_with fail
        refine (list_any t.texts vt _ (by have h9 := r1.out.fr (Fr.of_below hb (fun _ => False)) (fun _ e => e.elim); have h8 := h9.row; rw [List.length_map] at h8; exact h8) (by omega) (by have := hsm'.out.texts; omega) hsm'.out.each).mono ?_
        rintro e w2 ⟨rfl, hb2⟩
        go_wp2
        refine ⟨⟨k + 1, by omega, by go_num, ?_, hB1.trans (hb2.mono hB1.size)⟩, by simp [intOf]; omega⟩
        rw [hstep.out, ByteArray.mk_append_mk]
      · have he : encCV t = msenc t.nums := by simp [encCV, hk5]
        rw [he] at hel hstep
        rw [hk5]
        clear hk5
        replace he := hid he
        go_wp2_with fail
        refine (nums_any t.nums vn _ (by have h9 := r2.out.fr (Fr.of_below hb (fun _ => False)) (fun _ e => e.elim); have h8 := h9.row; rw [List.length_map] at h8; exact h8) (by omega) (by have := hsm'.out.nums; omega)).mono ?_
        rintro e w2 ⟨rfl, hb2⟩
        go_wp2
        refine ⟨⟨k + 1, by omega, by go_num, ?_, hB1.trans (hb2.mono hB1.size)⟩, by simp [intOf]; omega⟩
        rw [hstep.out, ByteArray.mk_append_mk]
    · have hkl : k = ts.length := by omega
      subst hkl
      go_wp2
      go_ret
      exact ⟨rfl, hB⟩
end Go.Proofs.Ytmlcnmpfjallkaa
