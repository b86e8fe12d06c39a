/- wal: Open, of a file that can be read. -/
import Derived.Test.YtffmmhofgocldaaWalW5
set_option linter.unusedVariables false
namespace Go.Proofs.Ytffmmhofgocldaa
open Go.RowKit
open Go.Lib (hid byteCells)
def tickV : Value → Nat | .bool true => 1 | _ => 0
theorem lv_new (db f : Nat) (w : World) : LV w.heap.size db f (.slice none 0 0) [] (w.alloc (.cells #[pt db, iv f, .slice none 0 0] 66)) := ⟨heap_alloc_new' _ _, World.ownsRow_nil _ _ _ _⟩
theorem foot_nil (b : Nat) : ∀ k, footL (.slice none 0 0) b k → k = b := fun k h => by
  rcases h with h | h
  · exact h
  · simp [Value.ownBlock] at h
set_option maxHeartbeats 8000000 in
set_option maxRecDepth 100000 in
theorem open_ok (F : Foot) (db f : Nat) (d : DS) (w : World) (hd : DkD F db d w) (hf : f ≤ 6) (hr : read1 f d = 0) :
    Calls Try.prog 14 #[pt db, iv f] w (OP F db f d w) := by
  have hrd := hid (read_any F db d f w hd)
  have hrv : read2 f d = d.data f := by unfold read2; rw [if_pos hr, Int.toNat_natCast]
  rw [hrv, hr] at hrd
  have hlen := hd.1.len f (by omega)
  have e1 : opn1 f d = if trim1 f d ≠ 0 then trim1 f d else if clr1 f (trim2 f d) ≠ 0 then clr1 f (trim2 f d) else flush1 f (clr2 f (trim2 f d)) := if_neg (by omega)
  have e2 : opn2 f d = if trim1 f d ≠ 0 then trim2 f d else if clr1 f (trim2 f d) ≠ 0 then clr2 f (trim2 f d) else flush2 f (clr2 f (trim2 f d)) := if_neg (by omega)
  have ht1 : trim1 f d = if validLen (d.data f) < (d.data f).length then cut1 f (validLen (d.data f)) d else 0 := rfl
  have ht2 : trim2 f d = if validLen (d.data f) < (d.data f).length then cut2 f (validLen (d.data f)) d else d := rfl
  unfold OP
  generalize opn1 f d = o1 at *
  generalize opn2 f d = o2 at *
  generalize trim1 f d = t1 at *
  generalize trim2 f d = t2 at *
  generalize hs : d.data f = s at *
  have q0 : decide ((f : Int) < 0) = false := decide_eq_false (by omega)
  have q1 : decide (6 < (f : Int)) = false := decide_eq_false (by omega)
  have hlog := lv_new db f w
  have hB1 : Below w.heap.size w (w.alloc (.cells #[pt db, iv f, .slice none 0 0] 66)) := (Below.refl _ _).alloc (Nat.le_refl _) _
  have hs1 : (w.alloc (.cells #[pt db, iv f, .slice none 0 0] 66)).heap.size = w.heap.size + 1 := by simp
  have hrec := hid (records_any s (w.alloc (.cells #[pt db, iv f, .slice none 0 0] 66)))
  rw [hs1] at hrec
  replace hd := hid hd
  replace e1 := hid e1
  replace e2 := hid e2
  replace ht1 := hid ht1
  replace ht2 := hid ht2
  replace hlog := hid hlog
  replace hB1 := hid hB1
  replace hs1 := hid hs1
  go_enter Try.func14, Try.ntmps14
  go_wp2_with fail
  refine hrd.out.mono ?_
  rintro e w0 ⟨rfl, rfl⟩
  clear hrd
  go_wp2_with fail
  generalize w.alloc (.cells #[pt db, iv f, .slice none 0 0] 66) = w1 at *
  refine hrec.out.mono ?_
  rintro e w2 ⟨rfl, hN2, hb2, hs2⟩
  have hl2 := hid (hlog.out.below (hb2.mono (by rw [hs1.out]; exact Nat.le_refl _)))
  have hB2 := hid (hB1.out.trans (hb2.mono (by have := hs1.out; omega)))
  have hnx := hid (next_any (w.heap.size + 1) (w.heap.size + 1 + 1) s 0 w2 hN2 (Nat.zero_le _) hlen)
  clear hrec hN2 hb2 hlog hB1
  rw [List.drop_zero] at hnx
  go_wp2_with fail
  refine hnx.out.mono ?_
  rintro e w3 ⟨rfl, hN3, hf3⟩
  generalize hBB : w.heap.size = B at *
  have hs3 := hf3.size
  have hB3 := hid (hB2.out.trans (hf3.to_below (by omega) (fun k hk e => by unfold one at e; omega)))
  have hl3 := hid (hl2.out.fr hf3 (fun k hk e => by have := foot_nil _ k hk; unfold one at e; omega))
  replace hN3 := hid hN3
  clear hnx hl2 hB2 hf3
  go_wp2_with fail
  go_loopw [10, 11, 12] (fun rv ev kv wr => ∃ (l : List (List UInt8)) (r : List UInt8) (o : Option (List UInt8)) (v : Value), rv = sv (o.getD []) ∧ ev = .int .i64 (nxAt (recs l).length o : Nat) ∧ kv = .bool o.isSome ∧ Hid (s = recs l ++ r) ∧ Hid (Pay l) ∧ Hid (nextF r = o) ∧ Hid (NX (B + 1) (B + 1 + 1) s (nxAt (recs l).length o) wr) ∧ Hid (LV B db f v l wr) ∧ Hid (Below B w wr) ∧ B + 3 ≤ wr.heap.size ∧ Hid (∀ k, footL v B k → k = B ∨ B + 3 ≤ k)) (fun _ ev kv _ => 2 * (s.length - (intOf ev).toNat) + tickV kv)
  case atStart => exact ⟨[], s, nextF s, .slice none 0 0, rfl, rfl, rfl, hid rfl, hid (fun p hp => by simp at hp), hid rfl, hN3, hl3, hB3, by omega, hid (fun k hk => Or.inl (foot_nil _ k hk))⟩
  case round =>
    clear hN3 hl3 hB3 hs3
    obtain ⟨l, r, o, v, rfl, rfl, rfl, hsr, hpay, hno, hN, hl, hB, hsz, hft⟩ := hrel
    have hsl : s.length = (recs l).length + r.length := by rw [hsr.out, List.length_append]
    rcases o with _ | p
    · have hro : rowsOf s = l := by
        have := rows_eq l r hpay.out hno.out
        rwa [← hsr.out] at this
      have hvl : validLen s = (recs l).length := by unfold validLen; rw [hro]
      have hDL : DL F w db B f v l d wr := by
        obtain ⟨G, h1, h2, h3, h4⟩ := dk_exact hd.out
        have hfb : Fr F w wr := Fr.of_below (by rw [hBB]; exact hB.out) F
        exact ⟨G, h1.fr (Fr.of_below (by rw [hBB]; exact hB.out) (fun _ => False)) (fun _ _ h => h), hl.out, hfb, fun k hk => Or.inl (h2 k hk), fun k hk hg => by
          have := h3 k hg
          rcases hft.out k hk with h | h <;> omega, fun k hk => Nat.lt_of_lt_of_le (h3 k hk) hfb.size⟩
      have hnz : nxAt (recs l).length none = (recs l).length := rfl
      rw [hvl] at ht1 ht2
      rw [hnz]
      have fin0 : ∀ (e : Ending) (w' : World), DL F w db B f v l o2 w' → e = .returned (.tuple #[pt B, iv 0]) → o1 = 0 → _ := fun e w' (h : DL F w db B f v l o2 w') he h0 => (show ∃ F', DkD F' db o2 w' ∧ Fr F w w' ∧ (∀ k, F' k → F k ∨ w.heap.size ≤ k) ∧ ((o1 = 0 ∧ ∃ b v, e = .returned (.tuple #[pt b, iv 0]) ∧ LV b db f v (rowsOf s) w' ∧ ∀ k, footL v b k → w.heap.size ≤ k) ∨ (o1 ≠ 0 ∧ e = .returned (.tuple #[.pointer none, iv o1]))) from by
        obtain ⟨G, h1, h2, h3, h4, h5⟩ := h
        exact ⟨G, h1, h3, h4, Or.inl ⟨h0, B, v, he, by rw [hro]; exact h2, fun k hk => by rw [hBB]; rcases hft.out k hk with h | h <;> omega⟩⟩)
      have finE : ∀ (e : Ending) (w' : World), DL F w db B f v l o2 w' → e = .returned (.tuple #[.pointer none, iv o1]) → o1 ≠ 0 → _ := fun e w' (h : DL F w db B f v l o2 w') he h0 => (show ∃ F', DkD F' db o2 w' ∧ Fr F w w' ∧ (∀ k, F' k → F k ∨ w.heap.size ≤ k) ∧ ((o1 = 0 ∧ ∃ b v, e = .returned (.tuple #[pt b, iv 0]) ∧ LV b db f v (rowsOf s) w' ∧ ∀ k, footL v b k → w.heap.size ≤ k) ∨ (o1 ≠ 0 ∧ e = .returned (.tuple #[.pointer none, iv o1]))) from by
        obtain ⟨G, h1, h2, h3, h4, h5⟩ := h
        exact ⟨G, h1, h3, h4, Or.inr ⟨h0, he⟩⟩)
      replace fin0 := hid fin0
      replace finE := hid finE
      replace hDL := hid hDL
      clear hN hl hB hpay hno hsr hft hvl hro hd hnz
      by_cases hlt : (recs l).length < s.length
      · have ht1' := ht1.out
        have ht2' := ht2.out
        rw [if_pos hlt] at ht1' ht2'
        have q2 : decide (((recs l).length : Int) < (s.length : Int)) = true := decide_eq_true (by omega)
        have q2' : decide ((recs l).length < s.length) = true := decide_eq_true hlt
        obtain ⟨G1, hd1, hl1, step1⟩ := DL.next hDL.out
        have hct := hid (cut_any G1 db d f ((recs l).length : Nat) wr hd1)
        rw [← ht1', ← ht2'] at hct
        replace step1 := hid step1
        clear hd1 hl1 hDL ht1 ht2 ht1' ht2'
        go_wp2_with fail
        refine hct.out.mono ?_
        rintro e wX h4
        obtain ⟨rfl, hDL4⟩ := step1.out _ _ _ _ h4
        clear h4 hct step1
        by_cases hz : t1 = 0
        · subst hz
          have e1' := e1.out
          have e2' := e2.out
          rw [if_neg (by simp)] at e1' e2'
          replace e1' := hid e1'
          replace e2' := hid e2'
          clear e1 e2
          obtain ⟨G2, hd2, hl2, step2⟩ := DL.next hDL4
          have hcl := hid (clear_any G2 B db f v l t2 wX hd2 hl2 (by omega))
          replace step2 := hid step2
          clear hd2 hl2 hDL4
          go_wp2_with fail
          refine hcl.out.mono ?_
          rintro e w5 h5
          obtain ⟨rfl, hDL5⟩ := step2.out _ _ _ _ h5
          clear h5 hcl step2
          generalize clr1 f t2 = k1 at *
          generalize clr2 f t2 = k2 at *
          by_cases hk : k1 = 0
          · subst hk
            have e1'' := e1'.out
            have e2'' := e2'.out
            rw [if_neg (by simp)] at e1'' e2''
            obtain ⟨G3, hd3, hl3, step3⟩ := DL.next hDL5
            have hfl := hid (flush_any G3 db k2 f w5 hd3)
            rw [← e1'', ← e2''] at hfl
            replace step3 := hid step3
            clear hd3 hl3 hDL5 e1' e2' e1'' e2''
            go_wp2_with fail
            refine hfl.out.mono ?_
            rintro e w6 h6
            obtain ⟨rfl, hDL6⟩ := step3.out _ _ _ _ h6
            clear h6 hfl step3
            by_cases ho : o1 = 0
            · replace hDL6 := hid hDL6
              have ho2 := hid ho
              have qo : (o1 == 0) = true := by simpa using ho
              have qo' : (o1 != 0) = false := by simpa using ho
              clear ho
              go_wp2_with fail
              go_ret2
              exact fin0.out _ _ hDL6.out rfl ho2.out
            · replace hDL6 := hid hDL6
              have ho2 := hid ho
              have qo : (o1 == 0) = false := by simpa using ho
              have qo' : (o1 != 0) = true := by simpa using ho
              clear ho
              go_wp2_with fail
              go_ret2
              exact finE.out _ _ hDL6.out rfl ho2.out
          · have e1'' := e1'.out
            have e2'' := e2'.out
            rw [if_pos hk] at e1'' e2''
            have qz : (k1 == 0) = false := by simpa using hk
            have qz' : (k1 != 0) = true := by simpa using hk
            have hfin := finE.out (.returned (.tuple #[.pointer none, iv k1])) w5 (by rw [e2'']; exact hDL5) (by rw [e1'']) (by rw [e1'']; exact hk)
            replace hfin := hid hfin
            clear e1' e2' e1'' e2'' hk finE fin0 hDL5
            go_wp2_with fail
            go_ret2
            exact hfin.out
        · have e1' := e1.out
          have e2' := e2.out
          rw [if_pos hz] at e1' e2'
          have qz : (t1 == 0) = false := by simpa using hz
          have qz' : (t1 != 0) = true := by simpa using hz
          have hfin := finE.out (.returned (.tuple #[.pointer none, iv t1])) wX (by rw [e2']; exact hDL4) (by rw [e1']) (by rw [e1']; exact hz)
          replace hfin := hid hfin
          clear e1 e2 e1' e2' hz finE fin0 hDL4
          go_wp2_with fail
          go_ret2
          exact hfin.out
      · have ht1' := ht1.out
        have ht2' := ht2.out
        rw [if_neg hlt] at ht1' ht2'
        have q2 : decide (((recs l).length : Int) < (s.length : Int)) = false := decide_eq_false (by omega)
        have q2' : decide ((recs l).length < s.length) = false := decide_eq_false hlt
        subst ht1'
        subst ht2'
        have e1' := e1.out
        have e2' := e2.out
        rw [if_neg (by simp)] at e1' e2'
        replace e1' := hid e1'
        replace e2' := hid e2'
        have hDL4 := hDL.out
        clear e1 e2 ht1 ht2 hDL
        obtain ⟨G2, hd2, hl2, step2⟩ := DL.next hDL4
        have hcl := hid (clear_any G2 B db f v l t2 wr hd2 hl2 (by omega))
        replace step2 := hid step2
        clear hd2 hl2 hDL4
        go_wp2_with fail
        refine hcl.out.mono ?_
        rintro e w5 h5
        obtain ⟨rfl, hDL5⟩ := step2.out _ _ _ _ h5
        clear h5 hcl step2
        generalize clr1 f t2 = k1 at *
        generalize clr2 f t2 = k2 at *
        by_cases hk : k1 = 0
        · subst hk
          have e1'' := e1'.out
          have e2'' := e2'.out
          rw [if_neg (by simp)] at e1'' e2''
          obtain ⟨G3, hd3, hl3, step3⟩ := DL.next hDL5
          have hfl := hid (flush_any G3 db k2 f w5 hd3)
          rw [← e1'', ← e2''] at hfl
          replace step3 := hid step3
          clear hd3 hl3 hDL5 e1' e2' e1'' e2''
          go_wp2_with fail
          refine hfl.out.mono ?_
          rintro e w6 h6
          obtain ⟨rfl, hDL6⟩ := step3.out _ _ _ _ h6
          clear h6 hfl step3
          by_cases ho : o1 = 0
          · replace hDL6 := hid hDL6
            have ho2 := hid ho
            have qo : (o1 == 0) = true := by simpa using ho
            have qo' : (o1 != 0) = false := by simpa using ho
            clear ho
            go_wp2_with fail
            go_ret2
            exact fin0.out _ _ hDL6.out rfl ho2.out
          · replace hDL6 := hid hDL6
            have ho2 := hid ho
            have qo : (o1 == 0) = false := by simpa using ho
            have qo' : (o1 != 0) = true := by simpa using ho
            clear ho
            go_wp2_with fail
            go_ret2
            exact finE.out _ _ hDL6.out rfl ho2.out
        · have e1'' := e1'.out
          have e2'' := e2'.out
          rw [if_pos hk] at e1'' e2''
          have qz : (k1 == 0) = false := by simpa using hk
          have qz' : (k1 != 0) = true := by simpa using hk
          have hfin := finE.out (.returned (.tuple #[.pointer none, iv k1])) w5 (by rw [e2'']; exact hDL5) (by rw [e1'']) (by rw [e1'']; exact hk)
          replace hfin := hid hfin
          clear e1' e2' e1'' e2'' hk finE fin0 hDL5
          go_wp2_with fail
          go_ret2
          exact hfin.out
    · obtain ⟨hp, r2, hr2⟩ := next_some hno.out
      have hat : nxAt (recs l).length (some p) = (recs (l ++ [p])).length := by
        rw [recs_app, List.length_append, recs_cons, recs_nil, List.append_nil]; rfl
      have hrl : 1 ≤ (recF p).length := List.length_pos_iff.2 (rec_ne p)
      have hsr2 : s = recs (l ++ [p]) ++ r2 := by rw [hsr.out, hr2, recs_app]; simp [recs]
      have hal : (recs (l ++ [p])).length = (recs l).length + (recF p).length := by rw [← hat]; rfl
      have hrr : r.length = (recF p).length + r2.length := by rw [hr2, List.length_append]
      have hpay2 := hid (show Pay (l ++ [p]) from fun q hq => by
        rcases List.mem_append.1 hq with h | h
        · exact hpay.out q h
        · simp at h; subst h; exact hp)
      have hll := recs_len_ge l
      obtain ⟨a, c, a', c', w7, hv, hrun, hfz, hc7, hc2, hl8, hf8, hft8⟩ := lv_push hl.out p (by omega)
      have hc0 : wr.cell? ⟨B, 2, none⟩ = some v := (hl.out.cell 2).trans rfl
      have hN8 := hN.out.fr hf8 (fun h => by rcases hft.out _ h with h | h <;> omega) (fun h => by rcases hft.out _ h with h | h <;> omega)
      have hB8 := hB.out.trans (hf8.to_below (B := B) (by omega) (fun k hk h => by rcases hft.out _ h with h | h <;> omega))
      have hs8 := hf8.size
      have hft9 := hid (show ∀ k, footL (.slice a' (l.length + 1) c') B k → k = B ∨ B + 3 ≤ k from fun k hk => by
        rcases hft8 k hk with h | h
        · exact hft.out k h
        · right; omega)
      rw [hat] at hN8
      have hdr : s.drop (recs (l ++ [p])).length = r2 := by rw [hsr2, List.drop_left]
      have hnx := next_any (B + 1) (B + 1 + 1) s (recs (l ++ [p])).length (w7.setCell ⟨B, 2, none⟩ (.slice a' (l.length + 1) c')) hN8 (by omega) hlen
      rw [hdr] at hnx
      subst hv
      replace hnx := hid hnx
      replace hl8 := hid hl8
      replace hB8 := hid hB8
      replace hsr2 := hid hsr2
      have hX : Hid (nxAt (recs l).length (some p) = (recs (l ++ [p])).length) := hid hat
      clear hN hl hB hpay hno hsr hf8 hft8 hN8 hdr hft hr2 hat hll
      go_wp2_with (at_builtin; refine wpList_append_run rfl _ _ _ _ rfl rfl rfl hrun ?_)
      refine hnx.out.mono ?_
      rintro e w9 ⟨rfl, hN9, hf9⟩
      have hs9 := hf9.size
      have hl9 := hid (hl8.out.fr hf9 (fun k hk e => by
        unfold one at e
        rcases hft9.out k hk with h | h <;> omega))
      have hB9 := hid (hB8.out.trans (hf9.to_below (by omega) (fun k hk e => by unfold one at e; omega)))
      have hmes : 2 * (s.length - nxAt (recs (l ++ [p])).length (nextF r2)) + tickV (.bool (nextF r2).isSome) < 2 * (s.length - (recs (l ++ [p])).length) + 1 := by
        cases ho2 : nextF r2 with
        | none => show 2 * (s.length - (recs (l ++ [p])).length) + 0 < _; omega
        | some q =>
          obtain ⟨_, r3, h3⟩ := next_some ho2
          have h4 : 1 ≤ (recF q).length := List.length_pos_iff.2 (rec_ne q)
          have h5 := congrArg List.length h3
          rw [List.length_append] at h5
          show 2 * (s.length - ((recs (l ++ [p])).length + (recF q).length)) + 1 < _
          omega
      clear hnx hl8 hB8 hf9 hrun hc7 hc2 hc0 hfz hal
      go_wp2_with fail
      refine ⟨⟨l ++ [p], r2, nextF r2, .slice a' (l.length + 1) c', rfl, rfl, rfl, hsr2, hpay2, hid rfl, hid hN9, hl9, hB9, by omega, hft9⟩, ?_⟩
      simp only [intOf, Int.toNat_natCast, hX.out]
      exact hmes
end Go.Proofs.Ytffmmhofgocldaa
