/- retroactlaw12.weight, Few; retroactlaw39.Few: what they let in is small. -/
import Derived.Test.YtnbhpicmflagcaaDoorMatK
import Derived.Deep.RegionHeld3
set_option linter.unusedVariables false
set_option linter.unusedSimpArgs false
namespace Go.Proofs.YtnbhpicmflagcaaDoor
open Go.RowKit
open Go.Lib (hid)
theorem vencF_le : ∀ f n, (vencF f n).length ≤ f
  | 0, n => by simp [vencF]
  | f + 1, n => by
    have := vencF_le f (n / 128)
    unfold vencF
    split
    · simp
    · simp only [List.length_cons]; omega
theorem venc_le (n : Nat) : (venc n).length ≤ 9 := vencF_le 9 n
theorem nenc_le (n : Int) : (nenc n).length ≤ 9 := by unfold nenc; split; simp; exact venc_le _
theorem tenc_le (s : List UInt8) : (tenc s).length ≤ 9 + s.length := by unfold tenc; rw [List.length_append]; have := venc_le s.length; omega
theorem headF_le (x : Val) : (headF x).length ≤ 6 * (10 + x.t.length + x.s.length) := by
  unfold headF
  simp only [List.length_append]
  have h1 := nenc_le x.kind
  have h2 := tenc_le x.t
  have h3 := ienc_bound x.n
  have h4 := ienc_bound x.m
  have h5 := tenc_le x.s
  have h6 := nenc_le x.l.length
  omega
/-- the weight of x, as retroactlaw12 reckons it: bounds alone -/
def WPost (x : Val) (deep : Nat) (B : Nat) (w : World) (e : Ending) (w' : World) : Prop :=
  ∃ m : Nat, e = .returned (iv m) ∧ 10 ≤ m ∧ m ≤ 2100000 + 1200 * deep ∧ (m ≤ 1100 → (encF x).length ≤ 6 * m) ∧ Below B w w'
theorem flat_len_succ {l : List Val} {k : Nat} {y : Val} (h : l[k]? = some y) : (((l.take (k + 1)).map encF).flatten).length = (((l.take k).map encF).flatten).length + (encF y).length := by
  rw [List.take_add_one, h, Option.toList_some, List.map_append, List.flatten_append, List.length_append]
  simp
set_option maxHeartbeats 4000000 in
set_option maxRecDepth 100000 in
theorem weight_of (n : Nat) : ∀ (x : Val), SizeOf.sizeOf x < n → ValB x → ∀ (d : Nat), d ≤ 21 → ∀ (S : Foot) (cs : List Value) (w : World), ValR S w x cs →
    Calls Tryd.prog 48 #[.agg cs.toArray, iv ((d : Int) - 1)] w (WPost x d w.heap.size w) := by
  induction n with
  | zero => intro x h; omega
  | succ n ih =>
    intro x hn hx d hd S cs w hR
    obtain ⟨a, k0, rfl, hl⟩ := valR_open hR
    have hxl := hx.len
    obtain ⟨ht, hs⟩ : x.t.length ≤ 1048576 ∧ x.s.length ≤ 1048576 := by cases hx; exact ⟨by assumption, by assumption⟩
    have hbx := hid (heap_alloc_new' w (.cells (valCs x (.slice a x.l.length k0)).toArray 44 (0, 0)))
    have hb0 : ∀ o, Below w.heap.size w (w.alloc o) := fun o => (Below.refl _ w).alloc (Nat.le_refl _) o
    replace hl := hid hl
    replace hR := hid hR
    have hhd := headF_le x
    have heq := hid (encF_eq x)
    have e1 : IntKind.i64.wrap (10 + (x.t.length : Int)) = 10 + (x.t.length : Int) := i64_wrap_id _ (by omega) (by omega)
    have e2 : IntKind.i64.wrap (10 + (x.t.length : Int) + (x.s.length : Int)) = 10 + (x.t.length : Int) + (x.s.length : Int) := i64_wrap_id _ (by omega) (by omega)
    by_cases h0 : d = 0
    · subst h0
      have q1 : decide (((0 : Nat) : Int) - 1 < 0) = true := by decide
      go_enter Tryd.func48, Tryd.ntmps48
      go_wp2_with fail
      go_ret
      exact ⟨100000, rfl, by decide, by decide, fun h => absurd h (by decide), hb0 _⟩
    · have q1 : decide ((d : Int) - 1 < 0) = false := decide_eq_false (by omega)
      obtain ⟨dd, hdd⟩ : ∃ dd : Int, dd = (d : Int) - 1 := ⟨_, rfl⟩
      rw [← hdd] at q1 ⊢
      replace hdd := hid hdd
      go_enter Tryd.func48, Tryd.ntmps48
      go_wp2_with fail
      go_loopw [5, 6] (fun nv i wr => ∃ k m : Nat, i = .int .i64 k ∧ nv = iv m ∧ k ≤ x.l.length ∧ 10 ≤ m ∧ m ≤ 2100000 + 1200 * d ∧ Hid (m ≤ 1100 → (headF x).length + (((x.l.take k).map encF).flatten).length ≤ 6 * m) ∧ Hid (wr.heap[w.heap.size]? = some (.cells (valCs x (.slice a x.l.length k0)).toArray 44 (0, 0))) ∧ Below w.heap.size w wr) (fun _ i _ => x.l.length - (intOf i).toNat)
      case atStart =>
        refine ⟨0, 10 + x.t.length + x.s.length, rfl, ?_, Nat.zero_le _, by omega, by omega, hid (fun _ => ?_), hbx, hb0 _⟩
        · go_num
        · simp; exact hhd
      case round =>
        clear hbx hb0 e1 e2
        obtain ⟨k, m, rfl, rfl, hk, hm1, hm2, hE, hbx, hB⟩ := hrel
        have d0 : wr.cell? ⟨w.heap.size, 5, none⟩ = some (.slice a x.l.length k0) := (cell_of (i := 5) hbx.out).trans rfl
        by_cases hlt : k < x.l.length
        · have q2 : decide ((k : Int) < (x.l.length : Int)) = true := decide_eq_true (by omega)
          by_cases hm : m ≤ 1100
          · have q3 : decide ((m : Int) ≤ 1100) = true := decide_eq_true (by omega)
            obtain ⟨y, hy⟩ : ∃ y, x.l[k]? = some y := ⟨_, List.getElem?_eq_getElem hlt⟩
            have hym := List.mem_of_getElem? hy
            obtain ⟨g, o, cs, hidx, hS, hg, hc, hr⟩ := (hl.out.below goodVal hB).at (P := Tryd.prog) (t := 23) (by kernel_rfl) (fun _ => by kernel_rfl) hy
            have hcall := hid (ih y (by have := val_mem_lt hym; omega) (hx.mem hym) (d - 1) (by omega) _ _ wr hr)
            have hfl := flat_len_succ hy
            obtain ⟨a1, k1, rfl, -⟩ := valR_open hr
            have c0 := hc 0 _ rfl
            have c1 := hc 1 _ rfl
            have c2 := hc 2 _ rfl
            have c3 := hc 3 _ rfl
            have c4 := hc 4 _ rfl
            have c5 := hc 5 _ rfl
            rw [Nat.add_zero] at c0
            clear hc
            have hdd' : dd = (d : Int) - 1 := hdd.out
            have e3 : IntKind.i64.wrap (dd - 1) = ((d - 1 : Nat) : Int) - 1 := by
              rw [IntKind.wrap_i64]; omega
            clear hdd'
            replace hfl := hid hfl
            go_wp2_with fail
            refine hcall.out.mono ?_
            rintro e w2 ⟨m2, rfl, hm3, hm4, hE2, hb2⟩
            have e4 : IntKind.i64.wrap ((m : Int) + (m2 : Int)) = ((m + m2 : Nat) : Int) := by rw [i64_wrap_id _ (by omega) (by omega)]; omega
            have hbx2 := hid (below_keep hb2 hbx.out (lt_of_heap hbx.out))
            have hB2 := hB.trans (hb2.mono hB.size)
            have hE3 := hid (fun h : m + m2 ≤ 1100 => show (headF x).length + (((x.l.take (k + 1)).map encF).flatten).length ≤ 6 * (m + m2) by
              have h1 := hE.out hm
              have h2 := hE2 (by omega)
              rw [hfl.out]; omega)
            have hm5 : m + m2 ≤ 2100000 + 1200 * d := by omega
            clear hE2 hb2 c0 c1 c2 c3 c4 c5 hcall hidx hbx d0
            go_wp2_with fail
            exact ⟨⟨k + 1, m + m2, by go_num, rfl, by omega, by omega, hm5, hE3, hbx2, hB2⟩, by simp [intOf]; omega⟩
          · have q3 : decide ((m : Int) ≤ 1100) = false := decide_eq_false (by omega)
            go_wp2_with fail
            go_ret
            exact ⟨m, rfl, hm1, hm2, fun h => absurd h hm, hB⟩
        · have q2 : decide ((k : Int) < (x.l.length : Int)) = false := decide_eq_false (by omega)
          have hkl : k = x.l.length := by omega
          subst hkl
          have hfin := hid (fun h : m ≤ 1100 => show (encF x).length ≤ 6 * m by
            have := hE.out h
            rw [List.take_length] at this
            rw [heq.out, List.length_append]; exact this)
          go_wp2_with fail
          go_ret
          exact ⟨m, rfl, hm1, hm2, hfin.out, hB⟩
/-- what Few lets in: small things alone -/
def FewV (x : Val) : Prop := (encF x).length ≤ 6600
def Few12Post (x : Val) (w : World) (e : Ending) (w' : World) : Prop := ∃ b : Bool, e = .returned (.bool b) ∧ (b = true → FewV x) ∧ Below w.heap.size w w'
set_option maxHeartbeats 4000000 in
set_option maxRecDepth 100000 in
theorem few12_any (x : Val) (hx : ValB x) (S : Foot) (cs : List Value) (w : World) (hR : ValR S w x cs) : Calls Tryd.prog 26 #[.agg cs.toArray] w (Few12Post x w) := by
  obtain ⟨a, k0, rfl, hl⟩ := valR_open hR
  have hb0 : ∀ o, Below w.heap.size w (w.alloc o) := fun o => (Below.refl _ w).alloc (Nat.le_refl _) o
  have hcall := hid (fun o => weight_of _ x (Nat.lt_succ_self _) hx 21 (by decide) S _ (w.alloc o) (goodVal.below hR (hb0 o)))
  have hbx := hid (heap_alloc_new' w (.cells (valCs x (.slice a x.l.length k0)).toArray 44 (0, 0)))
  replace hb0 := hid hb0
  go_enter Tryd.func26, Tryd.ntmps26
  go_wp2_with fail
  refine (hcall.out _).mono ?_
  rintro e w2 ⟨m, rfl, hm1, hm2, hE, hb2⟩
  have hB := hid ((hb0.out _).trans (hb2.mono (by simp)))
  by_cases h : m ≤ 1100
  · have q1 : decide ((m : Int) ≤ 1100) = true := decide_eq_true (by omega)
    go_wp2_with fail
    go_ret
    exact ⟨true, rfl, fun _ => by have := hE h; unfold FewV; omega, hB.out⟩
  · have q1 : decide ((m : Int) ≤ 1100) = false := decide_eq_false (by omega)
    go_wp2_with fail
    go_ret
    exact ⟨false, rfl, fun h => (by cases h), hB.out⟩
def FewR (r : Req) : Prop := r.args.length ≤ 10 ∧ r.path.length + r.name.length + r.reply.length ≤ 500 ∧ ∀ a ∈ r.args, FewV a
def FewP (l : List Req) : Prop := l.length ≤ 12 ∧ ∀ r ∈ l, FewR r
def FewPost (l : List Req) (w : World) (e : Ending) (w' : World) : Prop := ∃ b : Bool, e = .returned (.bool b) ∧ (b = true → FewP l) ∧ Below w.heap.size w w'
set_option maxHeartbeats 4000000 in
set_option maxRecDepth 100000 in
theorem few_any (l : List Req) (hl : ReqsB l) (S : Foot) (v : Value) (w : World) (hR : ReqsR S w l v) : Calls Tryd.prog 8 #[v] w (FewPost l w) := by
  obtain ⟨a, c, rfl, -⟩ := hR.slice
  have hln := hl.1
  replace hR := hid hR
  replace hl := hid hl
  go_enter Tryd.func8, Tryd.ntmps8
  go_wp2_with fail
  go_loopw [3] (fun i wr => ∃ k : Nat, i = .int .i64 k ∧ k ≤ l.length ∧ Hid (∀ i r, i < k → l[i]? = some r → FewR r) ∧ Below w.heap.size w wr) (fun i _ => l.length - (intOf i).toNat)
  case atStart => exact ⟨0, rfl, Nat.zero_le _, hid (fun i r h => absurd h (by omega)), Below.refl _ _⟩
  case round =>
    obtain ⟨k, rfl, hk, hok, hB⟩ := hrel
    by_cases hlt : k < l.length
    · have q1 : decide ((k : Int) < (l.length : Int)) = true := decide_eq_true (by omega)
      by_cases h20 : k < 20
      · have q2 : decide ((k : Int) < 20) = true := decide_eq_true (by omega)
        have q2n : decide (k < 20) = true := decide_eq_true (by omega)
        obtain ⟨x, hx⟩ : ∃ x, l[k]? = some x := ⟨_, List.getElem?_eq_getElem hlt⟩
        have hxB := hl.out.2 x (List.mem_of_getElem? hx)
        obtain ⟨hx1, hx2, hx3, hx4⟩ := id hxB
        have hx5 := hx1.1
        obtain ⟨g, o, cs, hidx, hS, hg, hc, hr⟩ := (hR.out.below goodReq hB).at (P := Tryd.prog) (t := 22) (by kernel_rfl) (fun _ => by kernel_rfl) hx
        obtain ⟨a1, k1, rfl, hvs⟩ := id hr
        have c0 := hc 0 _ rfl
        have c1 := hc 1 _ rfl
        have c2 := hc 2 _ rfl
        have c4 := hc 4 _ rfl
        rw [Nat.add_zero] at c0
        clear hc hr
        have e1 : IntKind.i64.wrap ((x.path.length : Int) + (x.name.length : Int)) = (x.path.length : Int) + (x.name.length : Int) := by rw [IntKind.wrap_i64]; omega
        have e2 : IntKind.i64.wrap ((x.path.length : Int) + (x.name.length : Int) + (x.reply.length : Int)) = (x.path.length : Int) + (x.name.length : Int) + (x.reply.length : Int) := by rw [IntKind.wrap_i64]; omega
        replace hx1 := hid hx1
        replace hvs := hid hvs
        by_cases h10 : x.args.length ≤ 10
        · have q3 : decide ((x.args.length : Int) > 10) = false := decide_eq_false (by omega)
          by_cases h500 : x.path.length + x.name.length + x.reply.length ≤ 500
          · have q4 : decide ((x.path.length : Int) + (x.name.length : Int) + (x.reply.length : Int) > 500) = false := decide_eq_false (by omega)
            go_wp2_with fail
            go_quiet (fail)
            have hBq : Below w.heap.size w (wr.drewN nq) := below_drewM hB nq
            generalize wr.drewN nq = wq at *
            clear c0 c1 c2 c4 hvs e1 e2 q4 q3 hidx
            go_wp2_with fail
            go_loopw [4] (fun i wr => ∃ m : Nat, i = .int .i64 m ∧ m ≤ x.args.length ∧ Hid (∀ i r, i < m → x.args[i]? = some r → FewV r) ∧ Below w.heap.size w wr) (fun i _ => x.args.length - (intOf i).toNat)
            case atStart => exact ⟨0, rfl, Nat.zero_le _, hid (fun i r h => absurd h (by omega)), hBq⟩
            case round =>
              clear hBq hB
              obtain ⟨m, rfl, hm, hok2, hB⟩ := hrel
              obtain ⟨g, o, cs, hidx, hS, hg, hc, hr⟩ := (hR.out.below goodReq hB).at (P := Tryd.prog) (t := 22) (by kernel_rfl) (fun _ => by kernel_rfl) hx
              obtain ⟨a1, k1, rfl, hvs⟩ := id hr
              have c2 := hc 2 _ rfl
              clear hc hr
              by_cases hml : m < x.args.length
              · have p1 : decide ((m : Int) < (x.args.length : Int)) = true := decide_eq_true (by omega)
                obtain ⟨y, hy⟩ : ∃ y, x.args[m]? = some y := ⟨_, List.getElem?_eq_getElem hml⟩
                obtain ⟨g2, o2, cs2, hidx2, -, hg2, hc2, hr2⟩ := SlR.at (P := Tryd.prog) (t := 23) hvs (by kernel_rfl) (fun _ => by kernel_rfl) hy
                have hcall := hid (few12_any y (hx1.out.2 y (List.mem_of_getElem? hy)) _ _ _ hr2)
                obtain ⟨a3, k3, rfl, -⟩ := valR_open hr2
                have d0 := hc2 0 _ rfl
                have d1 := hc2 1 _ rfl
                have d2 := hc2 2 _ rfl
                have d3 := hc2 3 _ rfl
                have d4 := hc2 4 _ rfl
                have d5 := hc2 5 _ rfl
                rw [Nat.add_zero] at d0
                clear hc2 hvs
                replace hr2 := hid hr2
                go_wp2_with fail
                refine hcall.out.mono ?_
                rintro e w2 ⟨b, rfl, hb, hb2⟩
                have hB2 := hB.trans (hb2.mono hB.size)
                clear hb2 d0 d1 d2 d3 d4 d5 c2 hidx hidx2 hcall
                cases b with
                | true =>
                  have hok3 := hid (fun i r (hi : i < m + 1) (hir : x.args[i]? = some r) => show FewV r by
                    by_cases h : i = m
                    · subst h; rw [hy] at hir; injection hir with hir; subst hir; exact hb rfl
                    · exact hok2.out i r (by omega) hir)
                  clear hb
                  go_wp2_with fail
                  exact ⟨⟨m + 1, by go_num, by omega, hok3, hB2⟩, by simp [intOf]; omega⟩
                | false =>
                  clear hb
                  go_wp2_with fail
                  go_ret
                  exact ⟨false, rfl, fun h => (by cases h), hB2⟩
              · have p1 : decide ((m : Int) < (x.args.length : Int)) = false := decide_eq_false (by omega)
                have hml2 : m = x.args.length := by omega
                subst hml2
                have hok3 := hid (fun i r (hi : i < k + 1) (hir : l[i]? = some r) => show FewR r by
                  by_cases h : i = k
                  · subst h; rw [hx] at hir; injection hir with hir; subst hir
                    refine ⟨h10, h500, fun y hy => ?_⟩
                    obtain ⟨i, hi, rfl⟩ := List.getElem_of_mem hy
                    exact hok2.out i _ hi (List.getElem?_eq_getElem hi)
                  · exact hok.out i r (by omega) hir)
                go_wp2_with fail
                exact ⟨⟨k + 1, by go_num, by omega, hok3, hB⟩, by simp [intOf]; omega⟩
          · have q4 : decide ((x.path.length : Int) + (x.name.length : Int) + (x.reply.length : Int) > 500) = true := decide_eq_true (by omega)
            go_wp2_with fail
            go_quiet (fail)
            have hBq : Below w.heap.size w (wr.drewN nq) := below_drewM hB nq
            generalize wr.drewN nq = wq at *
            go_wp2_with fail
            go_ret
            exact ⟨false, rfl, fun h => (by cases h), hBq⟩
        · have q3 : decide ((x.args.length : Int) > 10) = true := decide_eq_true (by omega)
          go_wp2_with fail
          go_quiet (fail)
          have hBq : Below w.heap.size w (wr.drewN nq) := below_drewM hB nq
          generalize wr.drewN nq = wq at *
          go_wp2_with fail
          go_ret
          exact ⟨false, rfl, fun h => (by cases h), hBq⟩
      · have q2 : decide ((k : Int) < 20) = false := decide_eq_false (by omega)
        have q3 : decide ((l.length : Int) ≤ 12) = false := decide_eq_false (by omega)
        go_wp2_with fail
        go_ret
        exact ⟨false, rfl, fun h => (by cases h), hB⟩
    · have q1 : decide ((k : Int) < (l.length : Int)) = false := decide_eq_false (by omega)
      have hkl : k = l.length := by omega
      subst hkl
      by_cases h12 : l.length ≤ 12
      · have q3 : decide ((l.length : Int) ≤ 12) = true := decide_eq_true (by omega)
        go_wp2_with fail
        go_ret
        refine ⟨true, rfl, fun _ => ⟨h12, fun r hr => ?_⟩, hB⟩
        obtain ⟨i, hi, rfl⟩ := List.getElem_of_mem hr
        exact hok.out i _ hi (List.getElem?_eq_getElem hi)
      · have q3 : decide ((l.length : Int) ≤ 12) = false := decide_eq_false (by omega)
        go_wp2_with fail
        go_ret
        exact ⟨false, rfl, fun h => (by cases h), hB⟩
end Go.Proofs.YtnbhpicmflagcaaDoor
