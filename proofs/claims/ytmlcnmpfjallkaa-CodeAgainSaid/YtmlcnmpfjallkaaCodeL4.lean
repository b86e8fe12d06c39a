/- Chapter 02 (code): the law CodeBack. -/
import Derived.Test.YtmlcnmpfjallkaaCodeV4
import Derived.Test.YtmlcnmpfjallkaaCodeN4
set_option linter.unusedVariables false
namespace Go.Proofs.Ytmlcnmpfjallkaa
open Go.RowKit
open Go.Lib (hid IsBuilder byteCells)

theorem okCV_range (t : CV) (h : okCV t = true) (hn : t.n ≤ 9223372036854775807) : InRange t := by
  unfold okCV okHead at h
  simp only [Bool.and_eq_true, Bool.not_eq_true', Bool.and_eq_false_iff, decide_eq_true_eq, decide_eq_false_iff_not, Bool.not_eq_false', List.all_eq_true] at h
  obtain ⟨⟨⟨⟨⟨h1, h2⟩, h3⟩, h4⟩, h5⟩, h6⟩ := h
  obtain ⟨f1, f2, f3⟩ := few_all t.texts h3
  refine ⟨fun hk => ?_, fun hk => ?_, by omega, ⟨by omega, fun x hx => by have := f3 x hx; omega⟩, by omega, h6⟩
  · rcases h1 with h1 | h1
    · exact absurd hk h1
    · omega
  · rcases h2 with h2 | h2
    · exact absurd hk h2
    · exact h2
theorem okCV_small (t : CV) (h : okCV t = true) (hk : -9223372036854775808 ≤ t.kind ∧ t.kind ≤ 9223372036854775807) (hn : -9223372036854775808 ≤ t.n ∧ t.n ≤ 9223372036854775807) : Small t := by
  unfold okCV okHead at h
  simp only [Bool.and_eq_true, Bool.not_eq_true', Bool.and_eq_false_iff, decide_eq_true_eq, decide_eq_false_iff_not, Bool.not_eq_false', List.all_eq_true] at h
  obtain ⟨⟨⟨⟨⟨h1, h2⟩, h3⟩, h4⟩, h5⟩, h6⟩ := h
  obtain ⟨f1, f2, f3⟩ := few_all t.texts h3
  exact ⟨hk, hn, by omega, by omega, fun x hx => by have := f3 x hx; omega, lenc_few _ h3, by omega, msenc_few _ h5⟩
def rest (ts : List CV) (k : Nat) (r : List UInt8) : List UInt8 := ((ts.drop k).map encCV).flatten ++ r
theorem rest_step (ts : List CV) (k : Nat) (r : List UInt8) (t : CV) (h : ts[k]? = some t) : rest ts k r = encCV t ++ rest ts (k + 1) r := by
  obtain ⟨hk, e⟩ := List.getElem?_eq_some_iff.1 h
  unfold rest
  rw [List.drop_eq_getElem_cons hk, e]
  simp
theorem rest_end (ts : List CV) (r : List UInt8) : rest ts ts.length r = r := by simp [rest]
theorem rest_zero (ts : List CV) (r : List UInt8) : rest ts 0 r = encAll ts ts.length ++ r := by simp [rest, encAll]
theorem rest_len (ts : List CV) (hs : ∀ t ∈ ts, Small t) (hl : ts.length ≤ 20) (r : List UInt8) (hr : r.length ≤ 10000) (k : Nat) : (rest ts k r).length ≤ (encAll ts ts.length).length + r.length := by
  have e : encAll ts ts.length = encAll ts k ++ ((ts.drop k).map encCV).flatten := by
    unfold encAll; rw [List.take_length, ← List.flatten_append, ← List.map_append, List.take_append_drop]
  unfold rest
  rw [e]; simp only [List.length_append]; omega

set_option maxHeartbeats 8000000 in
set_option maxRecDepth 100000 in
theorem CodeBack_walk (ts : List CV) (r : List UInt8) (v : Value) (w : World) (hv : VRow (fun k => w.heap.size ≤ k) w v ts) (hK : ∀ t ∈ ts, (-9223372036854775808 ≤ t.kind ∧ t.kind ≤ 9223372036854775807) ∧ (-9223372036854775808 ≤ t.n ∧ t.n ≤ 9223372036854775807)) (hl : ts.length ≤ 100000000)
    (hx : ∀ t ∈ ts, t.texts.length ≤ 100000000 ∧ (∀ x ∈ t.texts, x.length ≤ 100000000)) (hn : ∀ t ∈ ts, t.nums.length ≤ 100000000 ∧ t.text.length ≤ 100000000) (hr : r.length ≤ 100000000) (hE : validB ts = true → (encAll ts ts.length).length ≤ 900000000) :
    Calls Try.prog 5 #[v, sv r] w fun e w' => e = .returned (.bool true) ∧ Below w.heap.size w w' := by
  have hv0 := hid hv
  obtain ⟨a, cap, g, off, rfl, h2, h3⟩ := hv
  clear h3
  have hval := hid (fun w2 (hb : Below w.heap.size w w2) => valid_any (fun k => w.heap.size ≤ k) ts (.slice a ts.length cap) w2 (hv0.out.below hb) (fun t ht => (hK t ht).1) (by omega) (fun t ht => ⟨by have := (hx t ht).1; omega, fun x hx' => by have := (hx t ht).2 x hx'; omega⟩) (fun t ht => by have := hn t ht; omega))
  cases hvb : validB ts with
  | false =>
    go_enter Try.func5, Try.ntmps5
    go_wp2_with fail
    refine (small_any _).mono ?_
    rintro e w1 ⟨rfl, hB⟩
    go_wp2_with fail
    refine (hval.out _ hB).mono ?_
    rintro e w2 ⟨rfl, hb⟩
    rw [hvb]
    replace hB := hB.trans (hb.mono hB.size)
    go_wp2
    go_ret
    exact ⟨rfl, hB⟩
  | true =>
    replace hE := hE hvb
    have hvb2 := hvb
    unfold validB at hvb2
    simp only [Bool.and_eq_true, List.all_eq_true, decide_eq_true_eq] at hvb2
    obtain ⟨hok, hl20⟩ := hvb2
    have hsm : ∀ t ∈ ts, Small t := fun t ht => okCV_small t (hok t ht) (hK t ht).1 (hK t ht).2
    have hir : ∀ t ∈ ts, InRange t := fun t ht => okCV_range t (hok t ht) (hK t ht).2.2
    by_cases hr1 : r.length ≤ 10000
    · have hd : decide (10000 < (r.length : Int)) = false := by simp; omega
      have hrl := hid (rest_len ts hsm hl20 r hr1)
      have hcalls := hid hK
      replace hsm := hid hsm
      replace hir := hid hir
      clear hok hK hx hn
      go_enter Try.func5, Try.ntmps5
      go_wp2_with fail
      refine (small_any _).mono ?_
      rintro e w1 ⟨rfl, hB⟩
      go_wp2_with fail
      refine (hval.out _ hB).mono ?_
      rintro e w2 ⟨rfl, hb⟩
      rw [hvb]
      replace hB := hB.trans (hb.mono hB.size); clear hb
      go_wp2_with fail
      refine (encoded_any _ ts _ _ (hv0.out.below hB) hsm.out (by omega)).mono ?_
      rintro e w3 ⟨rfl, hb⟩
      replace hB := hB.trans (hb.mono hB.size); clear hb
      have hrz := hid (rest_zero ts r)
      go_wp2_with fail
      rw [ByteArray.mk_append_mk]
      refine (open_any (encAll ts ts.length ++ r) _).mono ?_
      rintro e w4 ⟨rfl, hrd, hb, hz⟩
      have hb1 : w.heap.size ≤ w3.heap.size := hB.size
      replace hB := hB.trans (hb.mono hB.size); clear hb hz
      rw [← hrz.out] at hrd
      generalize w3.heap.size = b1 at *
      generalize encAll ts ts.length = enc at *
      go_wp2_with fail
      go_loopw [7] (fun i wr => ∃ k : Nat, i = .int .i64 k ∧ k ≤ ts.length ∧ Rd 59 b1 (rest ts k r, false) wr ∧ Below w.heap.size w wr) (fun i _ => ts.length - (intOf i).toNat)
      case atStart => exact ⟨0, rfl, Nat.zero_le _, hrd, hB⟩
      case round =>
        clear hrd hB
        obtain ⟨k, rfl, hk, hrd, hB⟩ := hrel
        by_cases hlt : k < ts.length
        · obtain ⟨t, ht⟩ : ∃ t, ts[k]? = some t := ⟨_, List.getElem?_eq_getElem hlt⟩
          have hmem := List.mem_of_getElem? ht
          have hstep := rest_step ts k r t ht
          have hg : Gives t (rest ts k r, false) (rest ts (k + 1) r, false) := by
            rw [hstep]; exact gives_enc t (hir.out t hmem) (rest ts (k + 1) r)
          have hlen := hrl.out k
          have hidx := fun kd W => row_idx (P := Try.prog) (t := 42) (sz := 5) (by kernel_rfl) (fun _ => by kernel_rfl) (h2 (by omega)).1 ts.length cap k hlt kd W
          obtain ⟨a', cap', g', off', e', h2', h3'⟩ := hv0.out.below hB
          simp only [Value.slice.injEq] at e'
          have e1 := (h2 (by omega)).1.symm.trans (e'.1.trans (h2' (by omega)).1)
          simp only [Option.some.injEq, Addr.mk.injEq] at e1
          obtain ⟨rfl, rfl, _⟩ := e1
          obtain ⟨vt, vn, c0, c1, c2, c3, c4, r1, r2⟩ := h3' k t ht
          have q1 := hid (show Row w.heap.size wr 1 vt t.texts.length (t.texts.map sv) from by
            obtain ⟨aa, cc, gg, oo, f1, f2, f3⟩ := r1
            rw [List.length_map] at f1 f2
            exact ⟨aa, cc, gg, oo, f1, by simp, fun h0 => ⟨(f2 h0).1, by have := (f2 h0).2.2; omega⟩, f3⟩)
          have q2 := hid (show Row w.heap.size wr 1 vn t.nums.length (t.nums.map iv) from by
            obtain ⟨aa, cc, gg, oo, f1, f2, f3⟩ := r2
            rw [List.length_map] at f1 f2
            exact ⟨aa, cc, gg, oo, f1, by simp, fun h0 => ⟨(f2 h0).1, by have := (f2 h0).2.2; omega⟩, f3⟩)
          have hkt := hid (hcalls.out t hmem).1
          replace hg := hid hg
          clear r1 r2 h3' h2' e' hstep hmem ht
          go_wp2_with fail
          refine (next_any b1 t vt vn w.heap.size _ _ _ hrd (by show (rest ts k r).length ≤ _; omega) hkt.out hg.out q1.out q2.out hb1).mono ?_
          rintro e w5 ⟨rfl, hrd2, hf⟩
          replace hB := hB.trans (hf.one_below hB.size hb1)
          go_wp2
          exact ⟨⟨k + 1, by go_num, by omega, hrd2, hB⟩, by simp [intOf]; omega⟩
        · have hkl : k = ts.length := by omega
          subst hkl
          rw [rest_end] at hrd
          by_cases hrr : r = []
          · subst hrr
            go_wp2_with fail
            refine (left_any b1 _ _ hrd).mono ?_
            rintro e w5 ⟨rfl, hrd2, hf⟩
            replace hB := hB.trans (hf.one_below hB.size hb1); clear hf
            go_wp2_with fail
            refine (done_any b1 _ _ hrd2).mono ?_
            rintro e w6 ⟨rfl, hrd3, hf⟩
            replace hB := hB.trans (hf.one_below hB.size hb1); clear hf
            rw [show doneB (([] : List UInt8), false) = true by rfl]
            go_wp2_with fail
            refine (readTake_eq b1 _ 0 _ hrd3 (by simp) [] ([], false) rfl).mono ?_
            rintro e w7 ⟨rfl, hrd4, hf⟩
            replace hB := hB.trans (hf.one_below hB.size hb1); clear hf
            go_wp2_with fail
            refine (done_any b1 _ _ hrd4).mono ?_
            rintro e w8 ⟨rfl, hrd5, hf⟩
            replace hB := hB.trans (hf.one_below hB.size hb1); clear hf
            rw [show doneB (([] : List UInt8), false) = true by rfl]
            go_wp2
            go_ret
            exact ⟨rfl, hB⟩
          · have hne : (r == []) = false := by simpa using hrr
            have hdn : doneB (r, false) = false := by unfold doneB; simpa using hrr
            have htk : stTake (r.length : Int) (r, false) = (r, ([], false)) := by
              rw [take_ok _ _ (by rintro (h | h | h); cases h; omega; exact absurd h (Int.lt_irrefl _))]
              simp
            have hem : r.isEmpty = false := by simpa using hrr
            clear hrr
            replace htk := hid htk
            go_wp2_with fail
            refine (left_any b1 _ _ hrd).mono ?_
            rintro e w5 ⟨rfl, hrd2, hf⟩
            replace hB := hB.trans (hf.one_below hB.size hb1); clear hf
            go_wp2_with fail
            refine (done_any b1 _ _ hrd2).mono ?_
            rintro e w6 ⟨rfl, hrd3, hf⟩
            replace hB := hB.trans (hf.one_below hB.size hb1); clear hf
            rw [hdn]
            go_wp2_with fail
            refine (readTake_eq b1 _ _ _ hrd3 (by show r.length ≤ _; omega) r ([], false) htk.out).mono ?_
            rintro e w7 ⟨rfl, hrd4, hf⟩
            replace hB := hB.trans (hf.one_below hB.size hb1); clear hf
            go_wp2_with fail
            refine (done_any b1 _ _ hrd4).mono ?_
            rintro e w8 ⟨rfl, hrd5, hf⟩
            replace hB := hB.trans (hf.one_below hB.size hb1); clear hf
            rw [show doneB (([] : List UInt8), false) = true by rfl]
            go_wp2
            go_ret
            exact ⟨rfl, hB⟩
    · have hd : decide (10000 < (r.length : Int)) = true := by simp; omega
      clear hir hsm hok hK hx hn
      go_enter Try.func5, Try.ntmps5
      go_wp2_with fail
      refine (small_any _).mono ?_
      rintro e w1 ⟨rfl, hB⟩
      go_wp2_with fail
      refine (hval.out _ hB).mono ?_
      rintro e w2 ⟨rfl, hb⟩
      rw [hvb]
      replace hB := hB.trans (hb.mono hB.size)
      go_wp2
      go_ret
      exact ⟨rfl, hB⟩
end Go.Proofs.Ytmlcnmpfjallkaa
