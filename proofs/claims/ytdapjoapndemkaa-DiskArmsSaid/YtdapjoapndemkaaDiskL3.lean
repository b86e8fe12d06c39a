/- Chapter 05 (disk): the law DiskArms. -/
import Derived.Test.YtdapjoapndemkaaDiskL0
import Derived.Test.YtdapjoapndemkaaDiskA
set_option linter.unusedVariables false
namespace Go.Proofs.Ytdapjoapndemkaa
open Go.RowKit
open Go.Lib (hid)
theorem row_lit {w w' : World} {F : Nat → Prop} {cs : List Value} {t : TypeId} (hf : Fr F (w.alloc (.cells cs.toArray t)) w') (hF : ¬ F w.heap.size) : Row w'.heap.size w' 1 (.slice (some ⟨w.heap.size, 0, none⟩) cs.length cs.length) cs.length cs := by
  have hk := hf.keep (heap_alloc_new' w (.cells cs.toArray t)) hF
  exact ⟨_, _, w.heap.size, 0, rfl, by simp, fun _ => ⟨rfl, lt_of_heap hk⟩, fun j hj => by rw [Nat.zero_add, cell_of hk]; simp [hj]⟩
theorem kept1 (keep : Int) : keptF [keep] 0 = keep.toNat := rfl
set_option maxRecDepth 100000 in
set_option maxHeartbeats 16000000 in
theorem DiskArms_walk (l : List (List UInt8)) (n keep : Int) (v : Value) (w : World) (hv : Row w.heap.size w 1 v l.length (l.map sv)) (hl : l.length ≤ 140737488355328) (hx : ∀ x ∈ l, x.length ≤ 140737488351232) (hn : -9223372036854775808 ≤ n ∧ n ≤ 9223372036854775807) (hkp : -9223372036854775808 ≤ keep ∧ keep ≤ 9223372036854775807) :
    Calls Try.prog 5 #[v, iv n, iv keep] w fun e9 w' => e9 = .returned (.bool true) ∧ Below w.heap.size w w' := by
  obtain ⟨hn1, hn2⟩ := hn
  obtain ⟨hkp1, hkp2⟩ := hkp
  obtain ⟨a, cap, g, off, rfl, q1, q2, q3⟩ := hv
  replace q3 := hid q3
  replace hx := hid hx
  by_cases h50 : l.length ≤ 50
  · have hd1 : decide (50 < (l.length : Int)) = false := by simp; omega
    have htot := hid (show ∀ k, tot l k ≤ l.length * 140737488351232 from tot_le l hx.out)
    go_enter Try.func5, Try.ntmps5
    go_wp2_with fail
    refine (small_any w).mono ?_
    rintro e9 w0 ⟨rfl, hB⟩
    go_wp2_with fail
    refine (new_any _).mono ?_
    rintro e9 w1 ⟨rfl, h, hb, hz⟩
    clear hz
    have hd := hid (show DkD (from_ w.heap.size) w0.heap.size dNew w1 from h.mono (fun k _ hk => Nat.le_trans hB.size hk))
    replace hB := hB.trans (hb.mono hB.size)
    clear h hb
    generalize w0.heap.size = b at *
    go_wp2_with fail
    go_loop [9, 10] (fun s i => ∃ (k : Nat) (z : Int), i = .int .i64 k ∧ k ≤ l.length ∧ s = .int .i64 z ∧ z = (tot l k : Nat)) (fun _ i => l.length - (intOf i).toNat)
    case atStart => exact ⟨0, 0, rfl, Nat.zero_le _, rfl, rfl⟩
    case round =>
      obtain ⟨k, z, rfl, hk, rfl, hz⟩ := hrel
      by_cases hlt : k < l.length
      · obtain ⟨s, hs⟩ : ∃ s, l[k]? = some s := ⟨_, List.getElem?_eq_getElem hlt⟩
        obtain ⟨hidx, hcell⟩ := row_at1 (P := Try.prog) (t := 37) (by kernel_rfl) (fun _ => by kernel_rfl) q1 q2 q3.out hB cap k hlt (u := sv s) (by rw [List.getElem?_map, hs]; rfl)
        have hsl := hx.out s (List.mem_of_getElem? hs)
        have ht := tot_succ l k s hs
        have htl := htot.out k
        subst hz
        clear hs
        go_wp2_with fail
        go_round
        case rel => exact ⟨k + 1, _, by go_num, by omega, rfl, by omega⟩
        case measure => simp [intOf]; omega
      · have hkl : k = l.length := by omega
        subst hkl
        have hB2 := hB
        by_cases h20 : tot l l.length ≤ 20000
        · by_cases hn3 : 1 ≤ n ∧ n ≤ 100
          · obtain ⟨hn3, hn4⟩ := hn3
            obtain ⟨nn, rfl⟩ : ∃ nn : Nat, n = (nn : Int) := ⟨n.toNat, by omega⟩
            subst hz
            go_wp2_with fail
            have hF := hid (hd.out.mono (G := fun k => w.heap.size ≤ k ∧ k < w1.heap.size) (fun k h1 h2 => ⟨h2, h1⟩))
            refine (arm_any (fun k => w.heap.size ≤ k ∧ k < w1.heap.size) b dNew (nn : Int) [keep] _ _ (dk_alloc hF.out _) (by omega) (fun w' hf => row_lit (cs := [iv keep]) hf (fun h => Nat.lt_irrefl _ h.2)) (by simp) (by simp; omega)).mono ?_
            rintro e9 w2 ⟨rfl, F', h, hf, hF'⟩
            rw [armD_new, Int.toNat_natCast] at h
            have hsz := hf.size
            have hd2 := hid (h.mono (G := from_ w.heap.size) (fun k _ hk => by
              rcases hF' k hk with h | h
              · exact h.1
              · have h9 := hB.size
                simp at h
                show w.heap.size ≤ k
                omega))
            replace hB := (hB.alloc hB.size _).trans (hf.to_below (by have := hB.size; simp; omega) (fun k hk h => by omega))
            clear h hf hF' hF hd hsz
            have hkp0 := hid (kept1 keep)
            generalize keptF [keep] = kp at *
            go_wp2_with fail
            go_loopw [11, 12, 13, 14] (fun safe rest calls i wr => ∃ (k c : Nat) (S R : List UInt8), i = .int .i64 k ∧ calls = .int .i64 c ∧ safe = sv S ∧ rest = sv R ∧ k ≤ l.length ∧ S.length + R.length = tot l k ∧ c ≤ 2 * k ∧ Below w.heap.size w wr ∧
              ((c < nn ∧ DkD (from_ w.heap.size) b (armD S R (nn - c) kp) wr) ∨ (c = nn ∧ DkD (from_ w.heap.size) b (downD S R kp) wr))) (fun _ _ _ i _ => l.length - (intOf i).toNat)
            case atStart => exact ⟨0, 0, [], [], rfl, rfl, rfl, rfl, Nat.zero_le _, rfl, Nat.zero_le _, hB, Or.inl ⟨by omega, hd2.out⟩⟩
            case round =>
              clear hB hd2 hB2
              obtain ⟨k, c, S, R, rfl, rfl, rfl, rfl, hk, hSR, hc2, hB, hst⟩ := hrel
              rcases hst with ⟨hc, hd⟩ | ⟨hc, hd⟩
              · by_cases hlt : k < l.length
                · obtain ⟨s, hs⟩ : ∃ s, l[k]? = some s := ⟨_, List.getElem?_eq_getElem hlt⟩
                  have ht := tot_succ l k s hs
                  have htm := tot_mono l (k + 1)
                  have hsl := hx.out s (List.mem_of_getElem? hs)
                  have hrow := hid (fun wz (hBz : Below w.heap.size w wz) => row_at1 (P := Try.prog) (t := 37) (by kernel_rfl) (fun _ => by kernel_rfl) q1 q2 q3.out hBz cap k hlt (u := sv s) (by rw [List.getElem?_map, hs]; rfl))
                  obtain ⟨hidx, hcell⟩ := hrow.out _ hB
                  replace hs := hid hs
                  replace hd := hid hd
                  have hSl : S.length + R.length + s.length ≤ 16777216 := by omega
                  by_cases ha : nn - c = 1
                  · rw [ha] at hd
                    have hap := hid (arm_app_down S R s kp hSl)
                    have hcn : ((c : Int) + 1 == (nn : Int)) = true := by simp; omega
                    have hcl : decide ((c : Int) + 1 < (nn : Int)) = false := by simp; omega
                    have hce := hid (show c + 1 = nn by omega)
                    clear ha
                    go_wp2_with fail
                    refine (down_any _ b _ _ hd.out).mono ?_
                    rintro e9 w3 ⟨rfl, rfl⟩
                    rw [show (armD S R 1 kp).down = false from rfl]
                    go_wp2_with fail
                    refine (app_s _ _ (armD S R 1 kp) 0 s _ hd.out hB.size hsl).mono ?_
                    rintro e9 w4 ⟨rfl, h, hb⟩
                    rw [hap.out.1]
                    rw [hap.out.2] at h
                    replace hB := hB.trans hb
                    replace hd := hid h
                    clear h hb hcell
                    obtain ⟨_, hcell⟩ := hrow.out _ hB
                    by_cases hodd : (k : Int) % 2 = 1
                    · have hob : ((k : Int) % 2 == 1) = true := by simp [hodd]
                      clear hodd
                      go_wp2_with fail
                      refine (down_any _ b _ _ hd.out).mono ?_
                      rintro e9 w5 ⟨rfl, rfl⟩
                      rw [show (downD S (R ++ s) kp).down = true from rfl]
                      go_wp2_with fail
                      go_roundw
                      case rel => exact ⟨k + 1, c + 1, S, R ++ s, by go_num, by go_num, rfl, by rw [ByteArray.mk_append_mk], by omega, by rw [List.length_append]; omega, by omega, hB, Or.inr ⟨hce.out, hd.out⟩⟩
                      case measure => simp [intOf]; omega
                    · have hob : ((k : Int) % 2 == 1) = false := by simpa using hodd
                      clear hodd
                      go_wp2_with fail
                      go_roundw
                      case rel => exact ⟨k + 1, c + 1, S, R ++ s, by go_num, by go_num, rfl, by rw [ByteArray.mk_append_mk], by omega, by rw [List.length_append]; omega, by omega, hB, Or.inr ⟨hce.out, hd.out⟩⟩
                      case measure => simp [intOf]; omega
                  · obtain ⟨m, hm⟩ : ∃ m, nn - c = m + 2 := ⟨nn - c - 2, by omega⟩
                    rw [hm] at hd
                    have hap := hid (arm_app S R s m kp hSl)
                    have hcn : ((c : Int) + 1 == (nn : Int)) = false := by simp; omega
                    have hcl : (c : Int) + 1 < (nn : Int) := by omega
                    have hm1 := hid (show nn - (c + 1) = m + 1 by omega)
                    clear ha
                    replace hm := hid hm
                    go_wp2_with fail
                    refine (down_any _ b _ _ hd.out).mono ?_
                    rintro e9 w3 ⟨rfl, rfl⟩
                    rw [show (armD S R (m + 2) kp).down = false from rfl]
                    go_wp2_with fail
                    refine (app_s _ _ (armD S R (m + 2) kp) 0 s _ hd.out hB.size hsl).mono ?_
                    rintro e9 w4 ⟨rfl, h, hb⟩
                    rw [hap.out.1]
                    rw [hap.out.2] at h
                    replace hB := hB.trans hb
                    replace hd := hid h
                    clear h hb hcell
                    obtain ⟨_, hcell⟩ := hrow.out _ hB
                    by_cases hodd : (k : Int) % 2 = 1
                    · have hob : ((k : Int) % 2 == 1) = true := by simp [hodd]
                      clear hodd
                      by_cases ha2 : m = 0
                      · have hcn2 : ((c : Int) + 1 + 1 == (nn : Int)) = true := by have := hm.out; simp; omega
                        have hcl2 : decide ((c : Int) + 1 + 1 < (nn : Int)) = false := by have := hm.out; simp; omega
                        have hce := hid (show c + 2 = nn by have := hm.out; omega)
                        rw [ha2] at hd
                        have hfl := hid (arm_flush_down S (R ++ s) kp)
                        clear ha2
                        go_wp2_with fail
                        refine (down_any _ b _ _ hd.out).mono ?_
                        rintro e9 w5 ⟨rfl, rfl⟩
                        rw [show (armD S (R ++ s) (0 + 1) kp).down = false from rfl]
                        go_wp2_with fail
                        refine (flush_s _ _ (armD S (R ++ s) 1 kp) 0 _ hd.out hB.size).mono ?_
                        rintro e9 w6 ⟨rfl, h, hb⟩
                        rw [hfl.out.1]
                        rw [hfl.out.2] at h
                        replace hB := hB.trans hb
                        replace hd := hid h
                        clear h hb
                        go_wp2_with fail
                        go_roundw
                        case rel => exact ⟨k + 1, c + 2, S, R ++ s, by go_num, by go_num, rfl, by rw [ByteArray.mk_append_mk], by omega, by rw [List.length_append]; omega, by omega, hB, Or.inr ⟨hce.out, hd.out⟩⟩
                        case measure => simp [intOf]; omega
                      · obtain ⟨m', rfl⟩ : ∃ m', m = m' + 1 := ⟨m - 1, by omega⟩
                        have hcn2 : ((c : Int) + 1 + 1 == (nn : Int)) = false := by have := hm.out; simp; omega
                        have hcl2 : (c : Int) + 1 + 1 < (nn : Int) := by have := hm.out; omega
                        have hm2 := hid (show nn - (c + 2) = m' + 1 by have := hm.out; omega)
                        have hfl := hid (arm_flush S (R ++ s) m' kp)
                        clear ha2
                        go_wp2_with fail
                        refine (down_any _ b _ _ hd.out).mono ?_
                        rintro e9 w5 ⟨rfl, rfl⟩
                        rw [show (armD S (R ++ s) (m' + 1 + 1) kp).down = false from rfl]
                        go_wp2_with fail
                        refine (flush_s _ _ (armD S (R ++ s) (m' + 2) kp) 0 _ hd.out hB.size).mono ?_
                        rintro e9 w6 ⟨rfl, h, hb⟩
                        rw [hfl.out.1]
                        rw [hfl.out.2] at h
                        replace hB := hB.trans hb
                        replace hd := hid h
                        clear h hb
                        go_wp2_with fail
                        go_roundw
                        case rel => exact ⟨k + 1, c + 2, S ++ (R ++ s), [], by go_num, by go_num, by rw [ByteArray.mk_append_mk, ByteArray.mk_append_mk], rfl, by omega, by simp only [List.length_append, List.length_nil]; omega, by omega, hB, Or.inl ⟨by omega, by rw [hm2.out]; exact hd.out⟩⟩
                        case measure => simp [intOf]; omega
                    · have hob : ((k : Int) % 2 == 1) = false := by simpa using hodd
                      clear hodd
                      go_wp2_with fail
                      go_roundw
                      case rel => exact ⟨k + 1, c + 1, S, R ++ s, by go_num, by go_num, rfl, by rw [ByteArray.mk_append_mk], by omega, by rw [List.length_append]; omega, by omega, hB, Or.inl ⟨by omega, by rw [hm1.out]; exact hd.out⟩⟩
                      case measure => simp [intOf]; omega
                · have hcl : (c : Int) < (nn : Int) := by omega
                  have hkl : decide ((k : Int) < (l.length : Int)) = false := by simp; omega
                  have hrd := hid (arm_read S R (nn - c) kp)
                  have hlen : S.length + R.length ≤ 20000 := by have := tot_mono l k; omega
                  replace hd := hid hd
                  go_wp2_with fail
                  refine (down_any _ b _ _ hd.out).mono ?_
                  rintro e9 w3 ⟨rfl, rfl⟩
                  rw [show (armD S R (nn - c) kp).down = false from rfl]
                  go_wp2_with fail
                  refine (read_any _ b _ 0 _ hd.out).mono ?_
                  rintro e9 w4 ⟨rfl, rfl⟩
                  rw [hrd.out.1, hrd.out.2]
                  have hmk := ByteArray.mk_append_mk S R
                  go_wp2_with fail
                  go_ret
                  exact ⟨rfl, hB⟩
              · have hlen : S.length + R.length ≤ 20000 := by have := tot_mono l k; omega
                replace hd := hid hd
                replace hc := hid hc
                have hrd0 := down_read S R kp
                rw [hkp0.out] at hrd0
                have hcase : (keep < 0 ∧ read2 0 (dStart (downD S R kp)) = S ++ R.take 0) ∨ (∃ m : Nat, keep = (m : Int) ∧ m ≤ R.length ∧ read2 0 (dStart (downD S R kp)) = S ++ R.take m) ∨ ((R.length : Int) < keep ∧ read2 0 (dStart (downD S R kp)) = S ++ R) := by
                  rcases Int.lt_or_le keep 0 with h | h
                  · left; exact ⟨h, by rw [hrd0.2]; congr 2; omega⟩
                  · rcases Int.lt_or_le (R.length : Int) keep with h2 | h2
                    · right; right; exact ⟨h2, by rw [hrd0.2, List.take_of_length_le (by omega)]⟩
                    · right; left; exact ⟨keep.toNat, by omega, by omega, by rw [hrd0.2]; congr 2; omega⟩
                have hr1 := hid hrd0.1
                clear hrd0
                have hup : k < l.length ∨ ¬ k < l.length := by omega
                rcases hcase with ⟨hc1, hr2⟩ | ⟨m, hc1, hc3, hr2⟩ | ⟨hc1, hr2⟩
                · have hmk := ByteArray.mk_append_mk S (R.take 0)
                  have hex := ext_take R 0
                  replace hr2 := hid hr2
                  rcases hup with hlt | hlt
                  all_goals
                    go_wp2_with (go_at_call 19; refine (down_any _ b _ _ hd.out).mono ?_; rintro e9 w3 ⟨rfl, rfl⟩; rw [show (downD S R kp).down = true from rfl])
                    refine (start_s _ _ _ _ hd.out hB.size).mono ?_
                    rintro e9 w4 ⟨rfl, h, hb⟩
                    replace hB := hB.trans hb
                    replace hd := hid h
                    clear h hb
                    go_wp2_with fail
                    refine (read_any _ b _ 0 _ hd.out).mono ?_
                    rintro e9 w5 ⟨rfl, rfl⟩
                    rw [hr1.out, hr2.out]
                    go_wp2_with fail
                    go_ret
                    exact ⟨rfl, hB⟩
                · have hmk := ByteArray.mk_append_mk S (R.take m)
                  have hex := ext_take R m
                  subst hc1
                  replace hr2 := hid hr2
                  rcases hup with hlt | hlt
                  all_goals
                    go_wp2_with (go_at_call 19; refine (down_any _ b _ _ hd.out).mono ?_; rintro e9 w3 ⟨rfl, rfl⟩; rw [show (downD S R kp).down = true from rfl])
                    refine (start_s _ _ _ _ hd.out hB.size).mono ?_
                    rintro e9 w4 ⟨rfl, h, hb⟩
                    replace hB := hB.trans hb
                    replace hd := hid h
                    clear h hb
                    go_wp2_with fail
                    refine (read_any _ b _ 0 _ hd.out).mono ?_
                    rintro e9 w5 ⟨rfl, rfl⟩
                    rw [hr1.out, hr2.out]
                    go_wp2_with fail
                    go_ret
                    exact ⟨rfl, hB⟩
                · have hmk := ByteArray.mk_append_mk S R
                  have hex := ext_take R R.length
                  replace hr2 := hid hr2
                  rcases hup with hlt | hlt
                  all_goals
                    go_wp2_with (go_at_call 19; refine (down_any _ b _ _ hd.out).mono ?_; rintro e9 w3 ⟨rfl, rfl⟩; rw [show (downD S R kp).down = true from rfl])
                    refine (start_s _ _ _ _ hd.out hB.size).mono ?_
                    rintro e9 w4 ⟨rfl, h, hb⟩
                    replace hB := hB.trans hb
                    replace hd := hid h
                    clear h hb
                    go_wp2_with fail
                    refine (read_any _ b _ 0 _ hd.out).mono ?_
                    rintro e9 w5 ⟨rfl, rfl⟩
                    rw [hr1.out, hr2.out]
                    go_wp2_with fail
                    go_ret
                    exact ⟨rfl, hB⟩
          · have hn4 : n < 1 ∨ (1 ≤ n ∧ 100 < n) := by omega
            clear hn3
            subst hz
            rcases hn4 with hn4 | ⟨hn4, hn5⟩
            all_goals
              go_wp2_with fail
              go_ret
              exact ⟨rfl, hB⟩
        · subst hz
          have h20' : 20000 < tot l l.length := by omega
          go_wp2_with fail
          go_ret
          exact ⟨rfl, hB⟩
  · have hd1 : decide (50 < (l.length : Int)) = true := by simp; omega
    go_enter Try.func5, Try.ntmps5
    go_wp2_with fail
    refine (small_any w).mono ?_
    rintro e9 w0 ⟨rfl, hB⟩
    go_wp2_with fail
    refine (new_any _).mono ?_
    rintro e9 w1 ⟨rfl, h, hb, hz⟩
    clear hz
    have hd := hid (show DkD (from_ w.heap.size) w0.heap.size dNew w1 from h.mono (fun k _ hk => Nat.le_trans hB.size hk))
    replace hB := hB.trans (hb.mono hB.size)
    clear h hb
    generalize w0.heap.size = b at *
    go_wp2_with fail
    go_loop [9, 10] (fun s i => ∃ (k : Nat) (z : Int), i = .int .i64 k ∧ k ≤ l.length ∧ s = .int .i64 z) (fun _ i => l.length - (intOf i).toNat)
    case atStart => exact ⟨0, 0, rfl, Nat.zero_le _, rfl⟩
    case round =>
      obtain ⟨k, z, rfl, hk, rfl⟩ := hrel
      by_cases hlt : k < l.length
      · obtain ⟨s, hs⟩ : ∃ s, l[k]? = some s := ⟨_, List.getElem?_eq_getElem hlt⟩
        obtain ⟨hidx, hcell⟩ := row_at1 (P := Try.prog) (t := 37) (by kernel_rfl) (fun _ => by kernel_rfl) q1 q2 q3.out hB cap k hlt (u := sv s) (by rw [List.getElem?_map, hs]; rfl)
        have hsl := hx.out s (List.mem_of_getElem? hs)
        clear hs
        go_wp2_with fail
        go_round
        case rel => exact ⟨k + 1, _, by go_num, by omega, rfl⟩
        case measure => simp [intOf]; omega
      · have hkl : k = l.length := by omega
        subst hkl
        go_wp2_with fail
        go_ret
        exact ⟨rfl, hB⟩
end Go.Proofs.Ytdapjoapndemkaa
