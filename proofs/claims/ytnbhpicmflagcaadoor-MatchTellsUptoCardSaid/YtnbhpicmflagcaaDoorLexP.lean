/- Chapter 01 (num): walks: Parse. -/
import Derived.Test.YtnbhpicmflagcaaDoorChecked
import Derived.Test.YtnbhpicmflagcaaDoorRel
import Derived.Test.YtnbhpicmflagcaaDoorNumP
import Derived.Test.YtnbhpicmflagcaaDoorStr
set_option linter.unusedVariables false
namespace Go.Proofs.YtnbhpicmflagcaaDoor
open Go.RowKit
open Go.Lib (hid IsBuilder byteCells)

abbrev two (n : Int) (b : Bool) : Value := .tuple #[.int .i64 n, .bool b]
theorem pbad_nil : pbad [] = true := by decide
theorem pneg_cons (c : UInt8) (r : List UInt8) : pneg (c :: r) = decide (c = 45) := by simp [pneg]
theorem byte_ne {c d : UInt8} (h : c ≠ d) : ((c.toNat : Int) == (d.toNat : Int)) = false := by
  simp only [beq_eq_false_iff_ne, ne_eq, Int.natCast_inj]
  intro e; exact h (UInt8.toNat_inj.1 e)

abbrev optv (o : Option Int) : Value := two (o.getD 0) o.isSome

set_option maxRecDepth 100000 in
set_option maxHeartbeats 1000000 in
theorem parse_bad (s : List UInt8) (low high : Int) (w : World) (hb : pbad s = true) : Calls Tryd.prog 72 #[sv s, iv low, iv high] w fun e w' => e = .returned (two 0 false) ∧ w = w' := by
  rcases s with _ | ⟨c, r⟩
  · go_enter Tryd.func72, Tryd.ntmps72
    go_wp2
    go_ret2
    exact ⟨rfl, rfl⟩
  · have hi := idx_str0 (P := Tryd.prog) 9 (by kernel_rfl) c r
    by_cases hc : c = 45
    · subst hc
      rcases r with _ | ⟨d, r'⟩
      · go_enter Tryd.func72, Tryd.ntmps72
        go_wp2
        go_ret2
        exact ⟨rfl, rfl⟩
      · have hi2 := idx_str0 (P := Tryd.prog) 9 (by kernel_rfl) d r'
        have hd : d = 48 := by
          unfold pbad pdig at hb
          rw [pneg_cons] at hb
          simpa using hb
        subst hd
        have hex := ext_tail2 45 48 r'
        go_enter Tryd.func72, Tryd.ntmps72
        go_wp2
        go_ret2
        exact ⟨rfl, rfl⟩
    · have h45 : ((c.toNat : Int) == 45) = false := byte_ne hc
      have hd : c = 48 ∧ r ≠ [] := by
        unfold pbad pdig at hb
        rw [pneg_cons, decide_eq_false hc] at hb
        have hb' : c = 48 ∧ (¬c = 48 ∨ ¬r = []) := by simpa using hb
        exact ⟨hb'.1, by have := hb'.1; have := hb'.2; simp_all⟩
      obtain ⟨rfl, hr⟩ := hd
      rcases r with _ | ⟨d, r'⟩
      · exact absurd rfl hr
      · clear hr
        go_enter Tryd.func72, Tryd.ntmps72
        go_wp2
        go_ret2
        exact ⟨rfl, rfl⟩

theorem str_size (l : List UInt8) : (ByteArray.mk l.toArray).size = l.length := by rw [ByteArray.size_mk', List.size_toArray]
theorem str_get (l : List UInt8) (k : Nat) (c : UInt8) (h : k < (ByteArray.mk l.toArray).size) (hc : l[k]? = some c) : (ByteArray.mk l.toArray)[k]'h = c := by
  obtain ⟨hk, e⟩ := List.getElem?_eq_some_iff.1 hc
  subst e; rfl
theorem pgo_cons (c : UInt8) (r : List UInt8) (n : Int) : pgo (c :: r) n = if isDg c then (if n < (-9223372036854775808 + ((c.toNat : Int) - 48)).tdiv 10 then none else pgo r (n * 10 - ((c.toNat : Int) - 48))) else none := rfl
theorem parse_good (s : List UInt8) (low high : Int) (hb : pbad s = false) : parse s low high = (pgo (pdig s) 0).bind fun n => pend (pneg s) n low high := by unfold parse; rw [hb]; rfl

set_option maxRecDepth 100000 in
set_option maxHeartbeats 2000000 in
theorem parse_ok (s : List UInt8) (low high : Int) (w : World) (hs : s.length ≤ 140737488355328) (hb : pbad s = false) : Calls Tryd.prog 72 #[sv s, iv low, iv high] w fun e w' => e = .returned (optv ((pgo (pdig s) 0).bind fun n => pend (pneg s) n low high)) ∧ Below w.heap.size w w' := by
  rcases s with _ | ⟨c, r⟩
  · rw [pbad_nil] at hb; cases hb
  · have hi := idx_str0 (P := Tryd.prog) 9 (by kernel_rfl) c r
    have hlen : (pdig (c :: r)).length ≤ 140737488355328 := by
      unfold pdig; split
      · simp at hs ⊢; omega
      · exact hs
    have hb0 := hb
    unfold pbad at hb
    simp only [Bool.or_eq_false_iff, decide_eq_false_iff_not, Bool.and_eq_false_iff, Bool.not_eq_false'] at hb
    obtain ⟨b1, b2⟩ := hb
    have key : ∀ (d : List UInt8) (neg : Bool), d = pdig (c :: r) → neg = pneg (c :: r) → True := fun _ _ _ _ => trivial
    clear hb0
    go_enter Tryd.func72, Tryd.ntmps72
    go_upto_if 21 with (fail)
    go_cut [8, 9] (fun d g w' => d = sv (pdig (c :: r)) ∧ g = .bool (pneg (c :: r)) ∧ w = w')
    case first =>
      by_cases hc : c = 45
      · subst hc
        have e1 : pdig ((45 : UInt8) :: r) = r := by unfold pdig; rw [pneg_cons]; rfl
        have e2 : pneg ((45 : UInt8) :: r) = true := by rw [pneg_cons]; rfl
        replace e1 := hid e1; replace e2 := hid e2
        have hex := ext_tail 45 r
        go_wp2
        go_meet
        case rel => exact ⟨by rw [e1.out], by rw [e2.out], rfl⟩
      · have h45 : ((c.toNat : Int) == 45) = false := byte_ne hc
        have e1 : pdig (c :: r) = c :: r := by unfold pdig; rw [pneg_cons, decide_eq_false hc]; rfl
        have e2 : pneg (c :: r) = false := by rw [pneg_cons, decide_eq_false hc]
        replace e1 := hid e1; replace e2 := hid e2
        go_wp2
        go_meet
        case rel => exact ⟨by rw [e1.out], by rw [e2.out], rfl⟩
    case rest =>
      obtain ⟨rfl, rfl, rfl⟩ := hcut
      clear key
      generalize hpn : pneg (c :: r) = neg at *
      generalize hpd : pdig (c :: r) = d at *
      replace hpn := hid hpn
      replace hpd := hid hpd
      rcases d with _ | ⟨x, t⟩
      · exact absurd rfl b1
      · have hix := idx_str0 (P := Tryd.prog) 9 (by kernel_rfl) x t
        have hcase : ((x.toNat : Int) == 48) = false ∨ (((x.toNat : Int) == 48) = true ∧ c = 48 ∧ r = []) := by
          rcases b2 with b2 | b2
          · left; exact byte_ne (d := 48) (by intro e; subst e; exact b2 rfl)
          · by_cases hx : x = 48
            · right; exact ⟨by subst hx; rfl, by simpa using b2⟩
            · left; exact byte_ne (d := 48) hx
        clear b1 b2
        have hres0 := hid (show ∀ m, pgo (x :: t) 0 = some m → (pgo (pdig (c :: r)) 0).bind (fun n => pend (pneg (c :: r)) n low high) = pend neg m low high from fun m h => by rw [hpd.out, hpn.out, h]; rfl)
        rcases hcase with h48 | ⟨h48, rfl, rfl⟩
        all_goals
          go_wp2_with fail
          clear hix h48
          generalize x :: t = l at *
          go_loopw [10] (fun n w' => ∃ (pos : Nat) (m : Int), w' = w.iter ⟨l.toArray⟩ pos ∧ n = .int .i64 m ∧ pos ≤ l.length ∧ -9223372036854775808 ≤ m ∧ m ≤ 0 ∧ pgo l 0 = pgo (l.drop pos) m) (fun _ w' => l.length - w'.iterPos w.heap.size)
          case atStart => exact ⟨0, 0, rfl, rfl, Nat.zero_le _, by omega, by omega, rfl⟩
          case round =>
            obtain ⟨pos, m, rfl, rfl, hp, h0, h1, h2⟩ := hrel
            by_cases hlt : pos < l.length
            · obtain ⟨q, hq⟩ : ∃ q, l[pos]? = some q := ⟨_, List.getElem?_eq_getElem hlt⟩
              have hsz : pos < (ByteArray.mk l.toArray).size := by rw [str_size]; exact hlt
              have hget := str_get l pos q hsz hq
              have hdrop : l.drop pos = q :: l.drop (pos + 1) := by
                obtain ⟨_, e⟩ := List.getElem?_eq_some_iff.1 hq
                rw [List.drop_eq_getElem_cons hlt, e]
              rw [hdrop, pgo_cons] at h2
              clear hdrop hq
              have hq256 : q.toNat < 256 := q.toNat_lt
              cases hdg : isDg q with
              | true =>
                have hdg2 := (isDg_iff q).1 hdg
                obtain ⟨hg1, hg2⟩ := hdg2
                have hnx : ∀ ty, (Instr.next (.pointer (some ⟨w.heap.size, 0, none⟩)) true ty).run Tryd.prog (w.iter ⟨l.toArray⟩ pos) = _ := fun ty => run_next_ascii w ⟨l.toArray⟩ pos ty hsz (by rw [hget]; omega)
                rw [hget] at hnx
                clear hget
                rw [hdg, if_pos rfl] at h2
                have hst := pgo_step (c := q) (n := m) hdg h1
                by_cases hov : m < (-9223372036854775808 + ((q.toNat : Int) - 48)).tdiv 10
                · rw [if_pos hov] at h2
                  replace h2 := hid h2
                  clear hst hdg
                  go_wp2
                  go_ret2
                  exact ⟨by rw [hpd.out, h2.out]; rfl, (Below.refl _ _).alloc (Nat.le_refl _) _⟩
                · rw [if_neg hov] at h2
                  replace h2 := hid h2
                  have hst2 := hst hov
                  obtain ⟨hs1, hs2⟩ := hst2
                  clear hst hdg
                  go_wp2
                  go_roundw
                  case rel => exact ⟨pos + 1, _, rfl, rfl, by omega, hs1, hs2, h2.out⟩
                  case measure => simp; omega
              | false =>
                rw [hdg, if_neg (by simp)] at h2
                replace h2 := hid h2
                have hnd : q.toNat < 48 ∨ (57 < q.toNat ∧ q.toNat < 128) ∨ 128 ≤ q.toNat := by
                  have := isDg_iff q
                  rw [hdg] at this
                  simp at this
                  omega
                clear hdg
                rcases hnd with hnd | hnd | hnd
                · have hnx : ∀ ty, (Instr.next (.pointer (some ⟨w.heap.size, 0, none⟩)) true ty).run Tryd.prog (w.iter ⟨l.toArray⟩ pos) = _ := fun ty => run_next_ascii w ⟨l.toArray⟩ pos ty hsz (by rw [hget]; omega)
                  rw [hget] at hnx
                  clear hget
                  go_wp2
                  go_ret2
                  exact ⟨by rw [hpd.out, h2.out]; rfl, (Below.refl _ _).alloc (Nat.le_refl _) _⟩
                · obtain ⟨hn1, hn2⟩ := hnd
                  have hnx : ∀ ty, (Instr.next (.pointer (some ⟨w.heap.size, 0, none⟩)) true ty).run Tryd.prog (w.iter ⟨l.toArray⟩ pos) = _ := fun ty => run_next_ascii w ⟨l.toArray⟩ pos ty hsz (by rw [hget]; omega)
                  rw [hget] at hnx
                  clear hget
                  go_wp2
                  go_ret2
                  exact ⟨by rw [hpd.out, h2.out]; rfl, (Below.refl _ _).alloc (Nat.le_refl _) _⟩
                · have hnx : ∀ ty, (Instr.next (.pointer (some ⟨w.heap.size, 0, none⟩)) true ty).run Tryd.prog (w.iter ⟨l.toArray⟩ pos) = _ := fun ty => run_next_any w ⟨l.toArray⟩ pos ty hsz
                  have hh := (decode_high ⟨l.toArray⟩ pos hsz (by rw [hget]; exact hnd)).1
                  clear hget
                  generalize Utf8.decode ⟨l.toArray⟩ pos = rn at *
                  go_wp2
                  go_ret2
                  exact ⟨by rw [hpd.out, h2.out]; rfl, (Below.refl _ _).alloc (Nat.le_refl _) _⟩
            · have hpl : pos = l.length := by omega
              rw [hpl, List.drop_length] at h2
              have h3 : pgo l 0 = some m := h2
              have hnx : ∀ ty, (Instr.next (.pointer (some ⟨w.heap.size, 0, none⟩)) true ty).run Tryd.prog (w.iter ⟨l.toArray⟩ pos) = _ := fun ty => run_next_end w ⟨l.toArray⟩ pos ty (by rw [str_size]; exact hlt)
              clear h2
              subst hpl
              have hres := hres0.out m h3
              replace hres := hid hres
              clear h3
              cases neg with
              | true =>
                by_cases k1 : m < low
                · have hp : pend true m low high = none := by simp [pend, k1]
                  replace hp := hid hp
                  go_wp2
                  go_ret2
                  exact ⟨by rw [hres.out, hp.out]; rfl, (Below.refl _ _).alloc (Nat.le_refl _) _⟩
                · by_cases k2 : high < m
                  · have hp : pend true m low high = none := by simp [pend, k2]
                    replace hp := hid hp
                    go_wp2
                    go_ret2
                    exact ⟨by rw [hres.out, hp.out]; rfl, (Below.refl _ _).alloc (Nat.le_refl _) _⟩
                  · have hp : pend true m low high = some m := by simp [pend, k1, k2]
                    replace hp := hid hp
                    go_wp2
                    go_ret2
                    exact ⟨by rw [hres.out, hp.out]; rfl, (Below.refl _ _).alloc (Nat.le_refl _) _⟩
              | false =>
                by_cases k0 : m = -9223372036854775808
                · subst k0
                  have hp : pend false (-9223372036854775808) low high = none := by simp [pend]
                  replace hp := hid hp
                  go_wp2
                  go_ret2
                  exact ⟨by rw [hres.out, hp.out]; rfl, (Below.refl _ _).alloc (Nat.le_refl _) _⟩
                · have k0' : (m == -9223372036854775808) = false := by simpa using k0
                  by_cases k1 : -m < low
                  · have hp : pend false m low high = none := by simp [pend, k0, k1]
                    replace hp := hid hp
                    have k3 : -9223372036854775808 < m := by omega
                    clear k0
                    go_wp2
                    go_ret2
                    exact ⟨by rw [hres.out, hp.out]; rfl, (Below.refl _ _).alloc (Nat.le_refl _) _⟩
                  · by_cases k2 : high < -m
                    · have hp : pend false m low high = none := by simp [pend, k0, k2]
                      replace hp := hid hp
                      have k3 : -9223372036854775808 < m := by omega
                      clear k0
                      go_wp2
                      go_ret2
                      exact ⟨by rw [hres.out, hp.out]; rfl, (Below.refl _ _).alloc (Nat.le_refl _) _⟩
                    · have hp : pend false m low high = some (-m) := by simp [pend, k0, k1, k2]
                      replace hp := hid hp
                      have k3 : -9223372036854775808 < m := by omega
                      clear k0
                      go_wp2
                      go_ret2
                      exact ⟨by rw [hres.out, hp.out]; rfl, (Below.refl _ _).alloc (Nat.le_refl _) _⟩

theorem parse_any (s : List UInt8) (low high : Int) (w : World) (hs : s.length ≤ 140737488355328) : Calls Tryd.prog 72 #[sv s, iv low, iv high] w fun e w' => e = .returned (optv (parse s low high)) ∧ Below w.heap.size w w' := by
  cases hb : pbad s with
  | true =>
    refine (parse_bad s low high w hb).mono ?_
    rintro e w' ⟨rfl, rfl⟩
    refine ⟨?_, Below.refl _ _⟩
    unfold parse; rw [hb]; rfl
  | false =>
    rw [parse_good s low high hb]
    exact parse_ok s low high w hs hb
end Go.Proofs.YtnbhpicmflagcaaDoor
