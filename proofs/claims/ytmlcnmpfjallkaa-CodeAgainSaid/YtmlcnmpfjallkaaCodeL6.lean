/- Chapter 02 (code): the law CodeAgain. -/
import Derived.Test.YtmlcnmpfjallkaaCodeL5
import Derived.Test.YtmlcnmpfjallkaaCodeV5
set_option linter.unusedVariables false
namespace Go.Proofs.Ytmlcnmpfjallkaa
open Go.RowKit
open Go.Lib (hid IsBuilder byteCells)

theorem one5 {a b c d e : Value} (h1 : a.oneCell' = true) (h2 : b.oneCell' = true) (h3 : c.oneCell' = true) (h4 : d.oneCell' = true) (h5 : e.oneCell' = true) : ∀ x ∈ [a, b, c, d, e], x.oneCell' = true := by
  intro x hx; simp at hx; rcases hx with rfl | rfl | rfl | rfl | rfl <;> assumption

theorem own_slice {w : World} {base : Nat} {e : TypeId} {sz n : Nat} {v : Value} {xs : List Value} (h : w.ownsRow base e sz v n xs) : ∃ a n c, v = .slice a n c := by
  rcases h.2 with ⟨rfl, _⟩ | ⟨g, cap, cur, rfl, _⟩ <;> exact ⟨_, _, _, rfl⟩
set_option maxHeartbeats 8000000 in
set_option maxRecDepth 100000 in
theorem CodeAgain_walk (s : List UInt8) (kinds : List Int) (v : Value) (w : World) (hs : s.length ≤ 140737488355328) (hr0 : Row w.heap.size w 1 v kinds.length (kinds.map iv)) (hal : kinds.length ≤ 140737488355328) (hK : ∀ κ ∈ kinds, -9223372036854775808 ≤ κ ∧ κ ≤ 9223372036854775807) :
    Calls Try.prog 6 #[sv s, v] w fun e w' => e = .returned (.bool true) ∧ Below w.heap.size w w' := by
  obtain ⟨a, cap, b, o, rfl, h2, h3, h4⟩ := hr0
  replace h4 := hid h4
  replace h2 := hid h2
  replace hK := hid hK
  have info : (Try.prog.info? 47).map (fun i => (i.zero, i.size, i.bytes)) = some (some (.agg #[.int .i64 0, .int .i64 0, .string ByteArray.empty, .slice none 0 0, .slice none 0 0]), 5, 80) := by kernel_rfl
  obtain ⟨i0, hi, hz0, hz1, hz2⟩ := info_parts info
  clear info
  go_enter Try.func6, Try.ntmps6
  go_wp2_with fail
  refine (small_any _).mono ?_
  rintro e w1 ⟨rfl, hB⟩
  go_wp2_with fail
  refine (open_any s _).mono ?_
  rintro e w2 ⟨rfl, hr, hb, hz⟩
  have hb1 : w.heap.size ≤ w1.heap.size := hB.size
  replace hB := hB.trans (hb.mono hB.size)
  have hlt := lt_of_heap hr
  clear hb hz
  generalize w1.heap.size = b1 at *
  have hbase : ∃ base, base = w2.heap.size := ⟨_, rfl⟩
  obtain ⟨base, hbase⟩ := hbase
  by_cases hbad : s.length ≤ 10000 ∧ kinds.length ≤ 20
  · obtain ⟨hs1, ha1⟩ := hbad
    clear hs hal
    have hd1 : decide (10000 < (s.length : Int)) = false := by simp; omega
    have hd2 : decide (20 < (kinds.length : Int)) = false := by simp; omega
    go_wp2_with fail
    go_loopw [7, 8] (fun l i wr => ∃ (k : Nat) (ts : List CV) (st : St) (la : Option Addr) (ln lc : Nat), l = .slice la ln lc ∧ i = .int .i64 k ∧ k ≤ kinds.length ∧ ts.length = k ∧ Inv s ts st ∧ Rd 59 b1 st wr ∧ VOwn b1 base wr l ts ∧ base ≤ wr.heap.size ∧ Below w.heap.size w wr) (fun _ i _ => kinds.length - (intOf i).toNat)
    case atStart => exact ⟨0, [], (s, false), none, 0, 0, rfl, rfl, Nat.zero_le _, rfl, Or.inl ⟨rfl, rfl, fun t ht => by cases ht⟩, hr, VOwn.nil _ _ _, by omega, hB⟩
    case round =>
      clear hr hB
      obtain ⟨k, ts, st, la, ln, lc, rfl, rfl, hk, htl, hI, hr, hV, hbs, hB⟩ := hrel
      have hb1lt : b1 < base := by omega
      have hIl := hI.len
      by_cases hlt : k < kinds.length
      · obtain ⟨z, hz⟩ : ∃ z, kinds[k]? = some z := ⟨_, List.getElem?_eq_getElem hlt⟩
        have hat := row_at1 (P := Try.prog) (t := 23) (by kernel_rfl) (fun _ => by kernel_rfl) h2.out h3 h4.out hB cap k hlt (u := iv z) (by simp [hz])
        obtain ⟨hidx, hcell⟩ := hat
        have hκ := hK.out z (List.mem_of_getElem? hz)
        have hI' := hid (hI.step hs1 z hκ)
        clear hz
        have hVo := hV
        obtain ⟨cs, hcs, hel⟩ := hVo
        have hcl := hcs.1
        have hS : ∀ k, (k = b1 ∨ Value.ownBlock (.slice la ln lc) = some k) → k < wr.heap.size := fun k e => by
          rcases e with rfl | e
          · exact lt_of_heap hr
          · exact (hcs.lt k e).2
        replace hS := hid hS
        replace hel := hid hel
        replace hV := hid hV
        have hnil : ∀ W, RowS (fun k => k = b1 ∨ Value.ownBlock (.slice la ln lc) = some k) W (.slice none 0 0) [] := fun W => ⟨none, 0, 0, 0, rfl, fun h => by simp at h, fun j hj => by simp at hj⟩
        replace hnil := hid hnil
        go_wp2_with fail
        refine (read_gen (fun k => k = b1 ∨ Value.ownBlock (.slice la ln lc) = some k) b1 ⟨z, 0, [], [], []⟩ _ _ st _ hr (by omega) hκ hS.out (Or.inl rfl) (hnil.out _) (hnil.out _)).mono ?_
        rintro e w5 ⟨vt, vn, rfl, r1, r2, hr5, hf⟩
        generalize (readCV ⟨z, 0, [], [], []⟩ st).1 = t at *
        generalize (readCV ⟨z, 0, [], [], []⟩ st).2 = st' at *
        obtain ⟨va, na, ca, rfl⟩ := r1.slice
        obtain ⟨vb, nb, cb, rfl⟩ := r2.slice
        have hf2 : Fr (one b1) wr (w5.alloc (.cells #[iv t.kind, iv t.n, sv t.text, .slice va na ca, .slice vb nb cb] 47)) := hf.alloc _
        have hcs5 := owns_fr hcs hf2 hb1lt
        have hsz5 := hf.size
        replace r1 := hid (r1.fr (((Fr.refl (one b1) w5).alloc (.cells #[iv t.kind, iv t.n, sv t.text, .slice va na ca, .slice vb nb cb] 47))) (fun k e => Or.inl e))
        replace r2 := hid (r2.fr (((Fr.refl (one b1) w5).alloc (.cells #[iv t.kind, iv t.n, sv t.text, .slice va na ca, .slice vb nb cb] 47))) (fun k e => Or.inl e))
        go_wp2_with (at_builtin; refine wpList_append_fresh _ rfl _ _ 42 rfl base 47 i0 _ 5 80 Try.underlying42 hi hz0 hz1 hz2 rfl (by decide) (.slice la ln lc) _ _ rfl hcs5 ⟨w5.heap.size, 0, none⟩ 1 1 [iv t.kind, iv t.n, sv t.text, .slice va na ca, .slice vb nb cb] rfl rfl (new5 _ _ _ _ _ _ _) (one5 rfl rfl rfl rfl rfl) (by unfold maxLen; omega) (by omega) (by simp; omega) ?_; intro v' w6 hown' hgrow hfresh)
        have h6 : Rd 59 b1 st' w6 := (hgrow.block b1 (lt_of_heap (heap_alloc_lt hr5)) (fun e => by have := (hcs5.lt b1 e.symm).1; omega)).trans (heap_alloc_lt hr5)
        go_roundw
        case rel =>
          have hB5 := hB.trans (hf2.one_below hB.size hb1)
          have hB6 : Below w.heap.size w w6 := hB5.trans (Fr.to_below ((Fr.refl (fun k => Value.ownBlock (.slice la ln lc) = some k) _).grown hgrow (fun k hk => Or.inl hk)) hB5.size (fun k hk e => by have := (hcs5.lt k e).1; omega))
          obtain ⟨a9, n9, c9, rfl⟩ := own_slice hown'
          refine ⟨k + 1, ts ++ [t], st', a9, n9, c9, rfl, by go_num, by omega, by simp [htl], hI'.out, h6, ?_, ?_, hB6⟩
          · exact VOwn.push cs (fun k t hk => by
              obtain ⟨xt, xn, c0, c1, c2, c3, c4, q1, q2⟩ := hel.out k t hk
              exact ⟨xt, xn, c0, c1, c2, c3, c4, q1.fr hf2 (fun k e => Or.inl e), q2.fr hf2 (fun k e => Or.inl e)⟩) hcl hown' hgrow hfresh r1.out r2.out
          · have := hgrow.size; simp at this; omega
        case measure => simp [intOf]; omega
      · have hkl : k = kinds.length := by omega
        subst hkl
        rcases hI with ⟨i1, i2, i3⟩ | rfl
        · obtain ⟨r, f⟩ := st
          obtain rfl : f = false := i1
          simp only at i2 hIl
          replace i2 := hid i2
          have hVr := hid hV.vrow
          have htk : stTake (r.length : Int) (r, false) = (r, ([], false)) := by
            rw [take_ok _ _ (by rintro (h | h | h); cases h; omega; exact absurd h (Int.lt_irrefl _))]
            simp
          replace htk := hid htk
          go_wp2_with fail
          refine (left_any b1 _ _ hr).mono ?_
          rintro e w5 ⟨rfl, hr2, hf⟩
          replace hB := hB.trans (hf.one_below hB.size hb1); replace hV := hV.fr hf hb1lt; clear hf
          go_wp2_with fail
          refine (readTake_eq b1 _ _ _ hr2 (by show r.length ≤ _; omega) r ([], false) htk.out).mono ?_
          rintro e w7 ⟨rfl, hr4, hf⟩
          replace hB := hB.trans (hf.one_below hB.size hb1); replace hV := hV.fr hf hb1lt; clear hf
          go_wp2_with fail
          refine (done_any b1 _ _ hr4).mono ?_
          rintro e w8 ⟨rfl, hr5, hf⟩
          replace hB := hB.trans (hf.one_below hB.size hb1); replace hV := hV.fr hf hb1lt; clear hf
          rw [show doneB (([] : List UInt8), false) = true by rfl]
          go_wp2_with fail
          refine (encoded_any _ ts _ _ hV.vrow i3 (by omega)).mono ?_
          rintro e w9 ⟨rfl, hb⟩
          replace hB := hB.trans (hb.mono hB.size); clear hb
          have hE : encAll ts ts.length ++ r = s := by rw [i2.out]; unfold encAll; rw [List.take_length]
          have hmk := ByteArray.mk_append_mk (encAll ts ts.length) r
          rw [hE] at hmk
          have hel : (encAll ts ts.length).length ≤ 10000 := by have := congrArg List.length hE; simp only [List.length_append] at this; omega
          generalize encAll ts ts.length = enc at *
          clear i2 hE
          go_wp2
          go_ret
          exact ⟨rfl, hB⟩
        · have htk : stTake ((failed.1.length : Nat) : Int) failed = ([], failed) := rfl
          replace htk := hid htk
          go_wp2_with fail
          refine (left_any b1 _ _ hr).mono ?_
          rintro e w5 ⟨rfl, hr2, hf⟩
          replace hB := hB.trans (hf.one_below hB.size hb1); clear hf
          go_wp2_with fail
          refine (readTake_eq b1 _ _ _ hr2 (by show failed.1.length ≤ _; simp [failed]) [] failed htk.out).mono ?_
          rintro e w7 ⟨rfl, hr4, hf⟩
          replace hB := hB.trans (hf.one_below hB.size hb1); clear hf
          go_wp2_with fail
          refine (done_any b1 _ _ hr4).mono ?_
          rintro e w8 ⟨rfl, hr5, hf⟩
          replace hB := hB.trans (hf.one_below hB.size hb1); clear hf
          rw [show doneB failed = false from rfl, show failed.1.length = 0 from rfl]
          go_wp2
          go_ret
          exact ⟨rfl, hB⟩
  · have hbad' : 10000 < s.length ∨ (s.length ≤ 10000 ∧ 20 < kinds.length) := by omega
    rcases hbad' with hg | ⟨hg1, hg2⟩
    · have hd1 : decide (10000 < (s.length : Int)) = true := by simp; omega
      go_wp2
      go_ret
      exact ⟨rfl, hB⟩
    · have hd1 : decide (10000 < (s.length : Int)) = false := by simp; omega
      have hd2 : decide (20 < (kinds.length : Int)) = true := by simp; omega
      go_wp2
      go_ret
      exact ⟨rfl, hB⟩
end Go.Proofs.Ytmlcnmpfjallkaa
