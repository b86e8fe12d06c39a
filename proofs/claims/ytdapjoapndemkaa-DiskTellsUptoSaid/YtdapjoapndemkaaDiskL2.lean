/- Chapter 05 (disk): the law DiskLoses. -/
import Derived.Test.YtdapjoapndemkaaDiskL0
import Derived.Test.YtdapjoapndemkaaDiskT
set_option linter.unusedVariables false
namespace Go.Proofs.Ytdapjoapndemkaa
open Go.RowKit
open Go.Lib (hid)
/-- a Disk whose memory may grow into whatever is new -/
theorem DP.absorb {T E : TypeId} {G : Nat → Prop} {b : Nat} {w : World} {v : Value} {d' : DS} {e : Ending} {w' : World} (h : DP T E G b w v d' e w') (hG : ∀ k, w.heap.size ≤ k → G k) : e = .returned v ∧ Dk T E G b d' w' ∧ Fr G w w' := by
  obtain ⟨he, F', h1, h2, h3⟩ := h
  exact ⟨he, h1.mono (fun k _ hk => by rcases h3 k hk with h | h; exact h; exact hG k h), h2⟩

def lossD (s : List UInt8) (k : Nat) : DS := { dNew with data := upd dNew.data 0 s, lost := k }
theorem l_app (s : List UInt8) (n : Int) (h : s.length ≤ 50000) : app1 0 s (dLose n dNew) = 0 ∧ app2 0 s (dLose n dNew) = lossD s n.toNat :=
  app_calm (d := dLose n dNew) ⟨rfl, rfl⟩ (f := 0) (s := s) rfl (by show 0 + s.length ≤ _; omega)
theorem l_flush (s : List UInt8) (k : Nat) : flush1 0 (lossD s (k + 1)) = 13 ∧ flush2 0 (lossD s (k + 1)) = lossD s k :=
  flush_lost (d := lossD s (k + 1)) ⟨rfl, rfl⟩ (f := 0) rfl (Nat.succ_pos k)
theorem l_read (s : List UInt8) (k : Nat) : read1 0 (dStart (dCrash [] (lossD s k))) = 0 ∧ read2 0 (dStart (dCrash [] (lossD s k))) = [] := by
  refine ⟨(read_up rfl rfl).1, ?_⟩
  rw [(read_up (d := dStart (dCrash [] (lossD s k))) rfl (f := 0) rfl).2]
  show List.take (0 + min 0 (s.length - 0)) s = []
  simp
theorem l_end (s : List UInt8) : flush1 0 (lossD s 0) = 0 ∧ read1 0 (dStart (dCrash [] (flush2 0 (lossD s 0)))) = 0 ∧ read2 0 (dStart (dCrash [] (flush2 0 (lossD s 0)))) = s := by
  have h := flush_calm (d := lossD s 0) ⟨rfl, rfl⟩ (f := 0) rfl rfl
  refine ⟨h.1, (read_up rfl rfl).1, ?_⟩
  rw [(read_up (d := dStart (dCrash [] (flush2 0 (lossD s 0)))) rfl (f := 0) rfl).2, h.2]
  exact fallF_dur (keptF []) (d := { lossD s 0 with dur := upd (lossD s 0).dur 0 s.length }) (f := 0) rfl

set_option maxRecDepth 100000 in
set_option maxHeartbeats 8000000 in
theorem DiskLoses_walk (s : List UInt8) (n : Int) (w : World) (hs : s.length ≤ 140737488351232) (hn : -9223372036854775808 ≤ n ∧ n ≤ 9223372036854775807) :
    Calls Try.prog 6 #[sv s, iv n] w fun e9 w' => e9 = .returned (.bool true) ∧ Below w.heap.size w w' := by
  obtain ⟨hn1, hn2⟩ := hn
  by_cases h1 : s.length ≤ 50000
  · have hd1 : decide (50000 < (s.length : Int)) = false := by simp; omega
    by_cases h2 : n ≤ 20
    · have ha := hid (l_app s n h1)
      go_enter Try.func6, Try.ntmps6
      go_wp2_with fail
      refine (small_any w).mono ?_
      rintro e9 w0 ⟨rfl, hB⟩
      go_wp2_with fail
      refine (new_any _).mono ?_
      rintro e9 w1 ⟨rfl, h, hb, hz⟩
      clear hz
      have hd := hid (show DkD (from_ w.heap.size) w0.heap.size dNew w1 from h.mono (fun k _ hk => Nat.le_trans hB.size hk))
      replace hB := hB.trans (hb.mono hB.size)
      clear h hb
      generalize w0.heap.size = b at *
      go_wp2_with fail
      refine (lose_s _ _ dNew n _ hd.out hB.size hn2).mono ?_
      rintro e9 w2 ⟨rfl, h, hb⟩
      replace hB := hB.trans hb
      replace hd := hid h
      clear h hb
      go_wp2_with fail
      refine (app_s _ _ (dLose n dNew) 0 s _ hd.out hB.size hs).mono ?_
      rintro e9 w3 ⟨rfl, h, hb⟩
      rw [ha.out.1]
      rw [ha.out.2] at h
      replace hB := hB.trans hb
      replace hd := hid h
      clear h hb
      go_wp2_with fail
      go_loopw [7] (fun i wr => ∃ k : Nat, i = .int .i64 k ∧ k ≤ n.toNat ∧ DkD (from_ w.heap.size) b (lossD s (n.toNat - k)) wr ∧ Below w.heap.size w wr) (fun i _ => n.toNat - (intOf i).toNat)
      case atStart => exact ⟨0, rfl, Nat.zero_le _, hd.out, hB⟩
      case round =>
        clear hd hB
        obtain ⟨k, rfl, hk, hd, hB⟩ := hrel
        by_cases hlt : (k : Int) < n
        · obtain ⟨m, hm⟩ : ∃ m, n.toNat - k = m + 1 := ⟨n.toNat - k - 1, by omega⟩
          rw [hm] at hd
          have hm2 : n.toNat - (k + 1) = m := by omega
          have hf := hid (l_flush s m)
          have hr := hid (l_read s m)
          replace hm := hid hm
          replace hm2 := hid hm2
          have hd0 := hid (hd.mono (G := fun k => w.heap.size ≤ k ∧ k < wr.heap.size) (fun k h1 h2 => ⟨h2, h1⟩))
          replace hd := hid hd
          go_wp2_with fail
          refine (copy_any (from_ w.heap.size) b _ _ hd.out).mono ?_
          rintro e9 w4 ⟨rfl, hc, hb⟩
          have hsz := hb.size
          have hBs := hB.size
          have hd1 := hid (dk_below hd0.out hb)
          have hc1 := hid (hc.mono (G := fun k => wr.heap.size ≤ k ∧ k < w4.heap.size) (fun k h1 h2 => ⟨h2, h1⟩))
          replace hB := hB.trans (hb.mono hBs)
          clear hd hd0 hc hb
          generalize wr.heap.size = cb at *
          go_wp2_with fail
          refine (flush_any (fun k => w.heap.size ≤ k ∧ k < cb) b _ 0 _ hd1.out).mono ?_
          rintro e9 w5 ⟨rfl, F', hd2, hf2, hF2⟩
          rw [hf.out.1]
          rw [hf.out.2] at hd2
          have hsz2 := hf2.size
          have hc2 := hid (hc1.out.fr hf2 (fun k h1 h2 => by omega))
          have hd3 := hid (hd2.mono (G := fun k => (w.heap.size ≤ k ∧ k < cb) ∨ (w4.heap.size ≤ k ∧ k < w5.heap.size)) (fun k h1 h2 => by
            rcases hF2 k h2 with h | h
            · exact Or.inl h
            · exact Or.inr ⟨h, h1⟩))
          replace hB := hB.trans (hf2.to_below hB.size (fun k hk h => by omega))
          have hc3 := hid (hc2.out.mono (G := fun k => (cb ≤ k ∧ k < w4.heap.size) ∨ w5.heap.size ≤ k) (fun k _ h2 => Or.inl h2))
          clear hd1 hc1 hd2 hf2 hF2 hc2
          go_wp2_with fail
          refine (flush_any (fun k => (cb ≤ k ∧ k < w4.heap.size) ∨ w5.heap.size ≤ k) cb _ 0 _ hc3.out).mono ?_
          rintro e9 w6 h
          obtain ⟨rfl, hc4, hf4⟩ := h.absorb (fun k h => Or.inr h)
          rw [hf.out.2] at hc4
          have hs4 := hf4.size
          have hd4 := hid (hd3.out.fr hf4 (fun k h1 h2 => by omega))
          replace hB := hB.trans (hf4.to_below hB.size (fun k hk h => by omega))
          replace hc4 := hid hc4
          clear h hc3 hf4 hd3
          go_wp2_with fail
          refine (crash_any (fun k => (cb ≤ k ∧ k < w4.heap.size) ∨ w5.heap.size ≤ k) cb _ [] (.slice none 0 0) _ hc4.out (Row.nil _ _ _ _) (by simp) (by simp)).mono ?_
          rintro e9 w7 h
          obtain ⟨rfl, hc5, hf5⟩ := h.absorb (fun k h => Or.inr (by omega))
          have hs5 := hf5.size
          have hd5 := hid (hd4.out.fr hf5 (fun k h1 h2 => by omega))
          replace hB := hB.trans (hf5.to_below hB.size (fun k hk h => by omega))
          replace hc5 := hid hc5
          clear h hc4 hf5 hd4
          go_wp2_with fail
          refine (start_any (fun k => (cb ≤ k ∧ k < w4.heap.size) ∨ w5.heap.size ≤ k) cb _ _ hc5.out).mono ?_
          rintro e9 w8 h
          obtain ⟨rfl, hc6, hf6⟩ := h.absorb (fun k h => Or.inr (by omega))
          have hd6 := hid (hd5.out.fr hf6 (fun k h1 h2 => by omega))
          replace hB := hB.trans (hf6.to_below hB.size (fun k hk h => by omega))
          replace hc6 := hid hc6
          clear h hc5 hf6 hd5
          go_wp2_with fail
          refine (read_any _ cb _ 0 _ hc6.out).mono ?_
          rintro e9 w9 ⟨rfl, rfl⟩
          rw [hr.out.1, hr.out.2]
          go_wp2_with fail
          go_roundw
          case rel => exact ⟨k + 1, by go_num, by omega, by rw [hm2.out]; exact hd6.out.mono (fun x _ h => by show w.heap.size ≤ x; omega), hB⟩
          case measure => simp [intOf]; omega
        · have hk0 : n.toNat - k = 0 := by omega
          rw [hk0] at hd
          have he := hid (l_end s)
          replace hd := hid hd
          clear hk0
          go_wp2_with fail
          refine (flush_s _ _ _ 0 _ hd.out hB.size).mono ?_
          rintro e9 w4 ⟨rfl, h, hb⟩
          rw [he.out.1]
          replace hB := hB.trans hb
          replace hd := hid h
          clear h hb
          go_wp2_with fail
          refine (crash_s _ _ _ [] (.slice none 0 0) _ hd.out hB.size (Row.nil _ _ _ _) (by simp) (by simp)).mono ?_
          rintro e9 w5 ⟨rfl, h, hb⟩
          replace hB := hB.trans hb
          replace hd := hid h
          clear h hb
          go_wp2_with fail
          refine (start_s _ _ _ _ hd.out hB.size).mono ?_
          rintro e9 w6 ⟨rfl, h, hb⟩
          replace hB := hB.trans hb
          replace hd := hid h
          clear h hb
          go_wp2_with fail
          refine (read_any _ _ _ 0 _ hd.out).mono ?_
          rintro e9 w7 ⟨rfl, rfl⟩
          rw [he.out.2.1, he.out.2.2]
          go_wp2_with fail
          go_ret
          exact ⟨rfl, hB⟩
    · go_enter Try.func6, Try.ntmps6
      go_wp2_with fail
      refine (small_any w).mono ?_
      rintro e9 w0 ⟨rfl, hB⟩
      go_wp2_with fail
      refine (new_any _).mono ?_
      rintro e9 w1 ⟨rfl, h, hb, hz⟩
      replace hB := hB.trans (hb.mono hB.size)
      clear h hb hz
      go_wp2_with fail
      go_ret
      exact ⟨rfl, hB⟩
  · have hd1 : decide (50000 < (s.length : Int)) = true := by simp; omega
    go_enter Try.func6, Try.ntmps6
    go_wp2_with fail
    refine (small_any w).mono ?_
    rintro e9 w0 ⟨rfl, hB⟩
    go_wp2_with fail
    refine (new_any _).mono ?_
    rintro e9 w1 ⟨rfl, h, hb, hz⟩
    replace hB := hB.trans (hb.mono hB.size)
    clear h hb hz
    go_wp2_with fail
    go_ret
    exact ⟨rfl, hB⟩
end Go.Proofs.Ytdapjoapndemkaa
