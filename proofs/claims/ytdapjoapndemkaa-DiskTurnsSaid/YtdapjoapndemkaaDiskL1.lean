/- Chapter 05 (disk): the law DiskTurns. -/
import Derived.Test.YtdapjoapndemkaaDiskL0
import Derived.Test.YtdapjoapndemkaaDiskT
set_option linter.unusedVariables false
namespace Go.Proofs.Ytdapjoapndemkaa
open Go.RowKit
open Go.Lib (hid)
set_option maxRecDepth 100000 in
set_option maxHeartbeats 4000000 in
theorem DiskTurns_walk (e n : List UInt8) (step : Int) (l : List Int) (v : Value) (w : World) (he : e.length ≤ 140737488351232) (hn : n.length ≤ 140737488351232) (hv : Row w.heap.size w 1 v l.length (l.map iv)) (hl : l.length ≤ 140737488355328) (hx : ∀ x ∈ l, x ≤ 9223372036854775807) :
    Calls Try.prog 3 #[sv e, sv n, iv step, v] w fun e9 w' => e9 = .returned (.bool true) ∧ Below w.heap.size w w' := by
  have hv0 := hv
  obtain ⟨a, cap, g, off, rfl, -, -, -⟩ := hv0
  replace hv := hid hv
  replace hx := hid hx
  by_cases h1 : e.length ≤ 50000
  · by_cases h2 : n.length ≤ 50000
    · have hd1 : decide (50000 < (e.length : Int)) = false := by simp; omega
      have hd2 : decide (50000 < (n.length : Int)) = false := by simp; omega
      have a3 := hid (t_app3 e h1)
      have f3 := hid (t_flush3 e h1)
      have a4 := hid (t_app4 e n h2)
      go_enter Try.func3, Try.ntmps3
      go_wp2_with fail
      refine (small_any w).mono ?_
      rintro e9 w0 ⟨rfl, hB⟩
      go_wp2_with fail
      refine (new_any _).mono ?_
      rintro e9 w1 ⟨rfl, h, hb, hz⟩
      clear hz
      have hd := hid (show DkD (from_ w.heap.size) w0.heap.size dNew w1 from h.mono (fun k _ hk => Nat.le_trans hB.size hk))
      replace hB := hB.trans (hb.mono hB.size)
      clear h hb
      generalize w0.heap.size = b at *
      go_wp2_with fail
      refine (app_s _ _ dNew 3 e _ hd.out hB.size he).mono ?_
      rintro e9 w2 ⟨rfl, h, hb⟩
      rw [a3.out.1]
      replace hB := hB.trans hb
      replace hd := hid h
      clear h hb
      go_wp2_with fail
      refine (flush_s _ _ _ 3 _ hd.out hB.size).mono ?_
      rintro e9 w3 ⟨rfl, h, hb⟩
      rw [f3.out.1]
      rw [f3.out.2] at h
      replace hB := hB.trans hb
      replace hd := hid h
      clear h hb
      by_cases s0 : step = 0
      · subst s0
        have hend := hid (t_end0 e l)
        go_wp2_with fail
        refine (turn_s _ _ (tA e) 3 4 _ hd.out hB.size).mono ?_
        rintro e9 w4 ⟨rfl, h, hb⟩
        rw [hend.out.1]
        replace hB := hB.trans hb
        replace hd := hid h
        clear h hb
        go_wp2_with fail
        refine (crash_s _ _ _ l (.slice a l.length cap) _ hd.out hB.size (((hv.out.below hB (Nat.le_refl _)).mono hB.size)) hl hx.out).mono ?_
        rintro e9 w5 ⟨rfl, h, hb⟩
        replace hB := hB.trans hb
        replace hd := hid h
        clear h hb
        go_wp2_with fail
        refine (start_s _ _ _ _ hd.out hB.size).mono ?_
        rintro e9 w6 ⟨rfl, h, hb⟩
        replace hB := hB.trans hb
        replace hd := hid h
        clear h hb
        go_wp2_with fail
        refine (read_any (from_ w.heap.size) _ _ 3 _ hd.out).mono ?_
        rintro e9 w7 ⟨rfl, rfl⟩
        rw [hend.out.2.1, hend.out.2.2]
        go_wp2_with fail
        go_ret
        exact ⟨rfl, hB⟩
      · have s0' : (step != 0) = true := by simpa using s0
        have s0b : (step == 0) = false := by simpa using s0
        clear s0
        go_wp2_with fail
        refine (app_s _ _ (tA e) 4 n _ hd.out hB.size hn).mono ?_
        rintro e9 w2 ⟨rfl, h, hb⟩
        rw [a4.out.2] at h
        replace hB := hB.trans hb
        replace hd := hid h
        clear h hb
        by_cases s1 : step = 1
        · subst s1
          rcases n with _ | ⟨c, r⟩
          · have hend := hid (t_endE e l)
            go_wp2_with fail
            refine (turn_s _ _ (tB e []) 3 4 _ hd.out hB.size).mono ?_
            rintro e9 w4 ⟨rfl, h, hb⟩
            rw [hend.out.1]
            replace hB := hB.trans hb
            replace hd := hid h
            clear h hb
            go_wp2_with fail
            refine (crash_s _ _ _ l (.slice a l.length cap) _ hd.out hB.size (((hv.out.below hB (Nat.le_refl _)).mono hB.size)) hl hx.out).mono ?_
            rintro e9 w5 ⟨rfl, h, hb⟩
            replace hB := hB.trans hb
            replace hd := hid h
            clear h hb
            go_wp2_with fail
            refine (start_s _ _ _ _ hd.out hB.size).mono ?_
            rintro e9 w6 ⟨rfl, h, hb⟩
            replace hB := hB.trans hb
            replace hd := hid h
            clear h hb
            go_wp2_with fail
            refine (read_any (from_ w.heap.size) _ _ 3 _ hd.out).mono ?_
            rintro e9 w7 ⟨rfl, rfl⟩
            rw [hend.out.2.1, hend.out.2.2.1]
            go_wp2_with fail
            refine (size_any (from_ w.heap.size) _ _ 4 _ hd.out).mono ?_
            rintro e9 w7 ⟨rfl, rfl⟩
            rw [hend.out.2.2.2]
            go_wp2_with fail
            go_ret
            exact ⟨rfl, hB⟩
          · have hend := hid (t_endB e (c :: r) l (by simp))
            have hsz : size1 4 (dStart (dCrash l (turn2 3 4 (tB e (c :: r))))) ≤ r.length + 1 := hend.out.2.2.2
            go_wp2_with fail
            refine (turn_s _ _ (tB e (c :: r)) 3 4 _ hd.out hB.size).mono ?_
            rintro e9 w4 ⟨rfl, h, hb⟩
            rw [hend.out.1]
            replace hB := hB.trans hb
            replace hd := hid h
            clear h hb
            go_wp2_with fail
            refine (crash_s _ _ _ l (.slice a l.length cap) _ hd.out hB.size (((hv.out.below hB (Nat.le_refl _)).mono hB.size)) hl hx.out).mono ?_
            rintro e9 w5 ⟨rfl, h, hb⟩
            replace hB := hB.trans hb
            replace hd := hid h
            clear h hb
            go_wp2_with fail
            refine (start_s _ _ _ _ hd.out hB.size).mono ?_
            rintro e9 w6 ⟨rfl, h, hb⟩
            replace hB := hB.trans hb
            replace hd := hid h
            clear h hb
            go_wp2_with fail
            refine (read_any (from_ w.heap.size) _ _ 3 _ hd.out).mono ?_
            rintro e9 w7 ⟨rfl, rfl⟩
            rw [hend.out.2.1, hend.out.2.2.1]
            go_wp2_with fail
            refine (size_any (from_ w.heap.size) _ _ 4 _ hd.out).mono ?_
            rintro e9 w7 ⟨rfl, rfl⟩
            generalize size1 4 (dStart (dCrash l (turn2 3 4 (tB e (c :: r))))) = z at *
            go_wp2_with fail
            go_ret
            exact ⟨ret_bool (decide_eq_true (by omega)), hB⟩
        · have s1' : (step != 1) = true := by simpa using s1
          have s1b : (step == 1) = false := by simpa using s1
          clear s1
          have f4 := hid (t_flush4 e n)
          have hend := hid (t_endC e n l)
          go_wp2_with fail
          refine (flush_s _ _ (tB e n) 4 _ hd.out hB.size).mono ?_
          rintro e9 w3 ⟨rfl, h, hb⟩
          rw [f4.out] at h
          replace hB := hB.trans hb
          replace hd := hid h
          clear h hb
          go_wp2_with fail
          refine (turn_s _ _ (tC e n) 3 4 _ hd.out hB.size).mono ?_
          rintro e9 w4 ⟨rfl, h, hb⟩
          rw [hend.out.1]
          replace hB := hB.trans hb
          replace hd := hid h
          clear h hb
          go_wp2_with fail
          refine (crash_s _ _ _ l (.slice a l.length cap) _ hd.out hB.size (((hv.out.below hB (Nat.le_refl _)).mono hB.size)) hl hx.out).mono ?_
          rintro e9 w5 ⟨rfl, h, hb⟩
          replace hB := hB.trans hb
          replace hd := hid h
          clear h hb
          go_wp2_with fail
          refine (start_s _ _ _ _ hd.out hB.size).mono ?_
          rintro e9 w6 ⟨rfl, h, hb⟩
          replace hB := hB.trans hb
          replace hd := hid h
          clear h hb
          go_wp2_with fail
          refine (read_any (from_ w.heap.size) _ _ 3 _ hd.out).mono ?_
          rintro e9 w7 ⟨rfl, rfl⟩
          rw [hend.out.2.1, hend.out.2.2.1]
          go_wp2_with fail
          refine (size_any (from_ w.heap.size) _ _ 4 _ hd.out).mono ?_
          rintro e9 w7 ⟨rfl, rfl⟩
          rw [hend.out.2.2.2]
          go_wp2_with fail
          go_ret
          exact ⟨rfl, hB⟩
    · have hd1 : decide (50000 < (e.length : Int)) = false := by simp; omega
      have hd2 : decide (50000 < (n.length : Int)) = true := by simp; omega
      go_enter Try.func3, Try.ntmps3
      go_wp2_with fail
      refine (small_any w).mono ?_
      rintro e9 w0 ⟨rfl, hB⟩
      go_wp2_with fail
      refine (new_any _).mono ?_
      rintro e9 w1 ⟨rfl, h, hb, hz⟩
      clear hz
      have hd := hid (show DkD (from_ w.heap.size) w0.heap.size dNew w1 from h.mono (fun k _ hk => Nat.le_trans hB.size hk))
      replace hB := hB.trans (hb.mono hB.size)
      clear h hb
      generalize w0.heap.size = b at *
      go_wp2_with fail
      go_ret
      exact ⟨rfl, hB⟩
  · have hd1 : decide (50000 < (e.length : Int)) = true := by simp; omega
    go_enter Try.func3, Try.ntmps3
    go_wp2_with fail
    refine (small_any w).mono ?_
    rintro e9 w0 ⟨rfl, hB⟩
    go_wp2_with fail
    refine (new_any _).mono ?_
    rintro e9 w1 ⟨rfl, h, hb, hz⟩
    clear hz
    have hd := hid (show DkD (from_ w.heap.size) w0.heap.size dNew w1 from h.mono (fun k _ hk => Nat.le_trans hB.size hk))
    replace hB := hB.trans (hb.mono hB.size)
    clear h hb
    generalize w0.heap.size = b at *
    go_wp2_with fail
    go_ret
    exact ⟨rfl, hB⟩
end Go.Proofs.Ytdapjoapndemkaa
