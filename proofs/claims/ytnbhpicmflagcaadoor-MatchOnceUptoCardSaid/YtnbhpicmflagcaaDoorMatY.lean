/- MatchOnce walked. -/
import Derived.Test.YtnbhpicmflagcaaDoorMatX
import Derived.Test.YtnbhpicmflagcaaDoorMatT
import Derived.Test.YtnbhpicmflagcaaDoorMatI
set_option linter.unusedVariables false
set_option linter.unusedSimpArgs false
namespace Go.Proofs.YtnbhpicmflagcaaDoor
open Go.RowKit
open Go.Lib (hid)
def BoolR : Rel Bool := fun _ _ b cs => cs = [.bool b]
theorem goodBool : Good 1 BoolR := ⟨fun h => by rw [h]; rfl, fun h => by rw [h]; exact one1 rfl, fun h _ => h⟩
set_option maxHeartbeats 8000000 in
set_option maxRecDepth 100000 in
/-- alike: how many are like r (and marked, where marks are given) -/
theorem alike39_any (l : List Req) (r : Req) (u : List Bool) (hl : ReqsB l) (hr : ReqB r) (hu : u = [] ∨ u.length = l.length) (S T U : Foot) (v vu : Value) (cr : List Value) (w0 : World) (hR : ReqsR S w0 l v) (hr' : ReqR T w0 r cr) (hU : SlR 1 BoolR U w0 u vu) :
    Calls Tryd.prog 23 #[v, .agg cr.toArray, vu] w0 fun e w' => e = .returned (iv (alkC l r u l.length : Nat)) ∧ Below w0.heap.size w0 w' := by
  obtain ⟨a, c, rfl, -⟩ := hR.slice
  obtain ⟨au, cu, rfl, -⟩ := hU.slice
  obtain ⟨a9, k9, rfl, -⟩ := id hr'
  have hln := hl.1
  replace hl := hid hl
  have hbx := hid (heap_alloc_new' w0 (.cells (reqCs r (.slice a9 r.args.length k9)).toArray 25 (0, 0)))
  have hb0 : Below w0.heap.size w0 (w0.alloc (.cells (reqCs r (.slice a9 r.args.length k9)).toArray 25 (0, 0))) := (Below.refl _ w0).alloc (Nat.le_refl _) _
  replace hR := hid hR
  replace hU := hid hU
  replace hr' := hid hr'
  obtain ⟨res, hres⟩ : ∃ res, res = alkC l r u l.length := ⟨_, rfl⟩
  rw [← hres]
  replace hres := hid hres
  go_enter Tryd.func23, Tryd.ntmps23
  go_wp2_with fail
  go_loopw [7, 8] (fun nv i wr => ∃ k : Nat, i = .int .i64 k ∧ nv = iv (alkC l r u k : Nat) ∧ k ≤ l.length ∧ Hid (wr.heap[w0.heap.size]? = some (.cells (reqCs r (.slice a9 r.args.length k9)).toArray 25 (0, 0))) ∧ Hid (Below w0.heap.size w0 wr)) (fun _ i _ => l.length - (intOf i).toNat)
  case atStart => exact ⟨0, rfl, rfl, Nat.zero_le _, hbx, hid hb0⟩
  case round =>
    clear hbx hb0
    obtain ⟨k, rfl, rfl, hk, hbx, hB⟩ := hrel
    by_cases hlt : k < l.length
    · obtain ⟨x, hx⟩ : ∃ x, l[k]? = some x := ⟨_, List.getElem?_eq_getElem hlt⟩
      have hxB := hl.out.2 x (List.mem_of_getElem? hx)
      obtain ⟨g, o, cs, hidx, -, hg, hc, hrx⟩ := (hR.out.below goodReq hB.out).at (P := Tryd.prog) (t := 22) (by kernel_rfl) (fun _ => by kernel_rfl) hx
      obtain ⟨a1, k1, rfl, -⟩ := id hrx
      have c0 := hc 0 _ rfl
      have c1 := hc 1 _ rfl
      have c2 := hc 2 _ rfl
      have c3 := hc 3 _ rfl
      have c4 := hc 4 _ rfl
      have c5 := hc 5 _ rfl
      have c6 := hc 6 _ rfl
      have c7 := hc 7 _ rfl
      rw [Nat.add_zero] at c0
      have hsc := alkC_succ l r u k
      rw [rq_at hx] at hsc
      have hcl := alkC_le l r u k
      obtain ⟨cc, hcc⟩ : ∃ cc, cc = alkC l r u k := ⟨_, rfl⟩
      rw [← hcc] at hsc hcl ⊢
      replace hcc := hid hcc
      have hw1 : IntKind.i64.wrap ((cc : Int) + 1) = ((cc + 1 : Nat) : Int) := by rw [IntKind.wrap_i64]; omega
      have hrr := hid (goodReq.below hr'.out hB.out)
      replace hrx := hid hrx
      have hgb := lt_of_some hbx.out
      clear hc
      rcases dec_cases (AlikeP x r) with ⟨hal, hd⟩ | ⟨hal, hd⟩
      · have hax : alk x r = true := hd
        rw [hax] at hsc
        by_cases hu0 : u.length = 0
        · have q0 : ((u.length : Int) == 0) = true := by rw [hu0]; rfl
          have hsc2 : Hid (alkC l r u (k + 1) = cc + 1) := hid (by rw [hsc, hu0]; rfl)
          clear hsc
          replace hd := hid hd
          replace hu0 := hid hu0
          go_wp2_with fail
          refine wp_region_held_drew (S := (fun w9 => Below wr.heap.size wr w9)) (by kernel_rfl) ?_ (fun hHeld => ?_)
          · exact (Below.refl _ _).drew
          generalize wr.drew = wd at *
          refine wpAnyH_take (i := 0) (oi := ⟨_, _, _, _, _, _⟩) (v := ?_) rfl (by kernel_rfl) (by kernel_rfl) (by kernel_rfl) (fun _ _ _ h => h) (Or.inl ⟨by rfl, ?hy⟩) (by assumption) ?_
          case hy =>
            intro w hSw
            skip
            go_simp
            all_goals with_reducible rfl
          try simp only [Act.put, List.setIfInBounds_toArray, List.set_cons_zero, List.set_cons_succ]
          refine wpAnyH_take (i := 1) (oi := ⟨_, _, _, _, _, _⟩) (v := ?_) rfl (by kernel_rfl) (by kernel_rfl) (by kernel_rfl) (fun _ _ _ h => h) (Or.inl ⟨by rfl, ?hy⟩) (by assumption) ?_
          case hy =>
            intro w hSw
            skip
            go_simp
            all_goals with_reducible rfl
          try simp only [Act.put, List.setIfInBounds_toArray, List.set_cons_zero, List.set_cons_succ]
          refine wpAnyH_take (i := 2) (oi := ⟨_, _, _, _, _, _⟩) (v := ?_) rfl (by kernel_rfl) (by kernel_rfl) (by kernel_rfl) (fun _ _ _ h => h) (Or.inl ⟨by rfl, ?hy⟩) (by assumption) ?_
          case hy =>
            intro w hSw
            skip
            go_simp
            all_goals with_reducible rfl
          try simp only [Act.put, List.setIfInBounds_toArray, List.set_cons_zero, List.set_cons_succ]
          refine wpAnyH_take (i := 3) (oi := ⟨_, _, _, _, _, _⟩) (v := ?_) rfl (by kernel_rfl) (by kernel_rfl) (by kernel_rfl) (fun _ _ _ h => h) (Or.inl ⟨by rfl, ?hy⟩) (by assumption) ?_
          case hy =>
            intro w hSw
            have c0 : w.cell? ⟨g, o, none⟩ = some (sv x.path) := (hSw.cell (p := ⟨g, o, none⟩) hg).trans c0
            have c1 : w.cell? ⟨g, o + 1, none⟩ = some (sv x.name) := (hSw.cell (p := ⟨g, o + 1, none⟩) hg).trans c1
            have c2 : w.cell? ⟨g, o + 2, none⟩ = some (.slice a1 x.args.length k1) := (hSw.cell (p := ⟨g, o + 2, none⟩) hg).trans c2
            have c3 : w.cell? ⟨g, o + 3, none⟩ = some (iv x.ord) := (hSw.cell (p := ⟨g, o + 3, none⟩) hg).trans c3
            have c4 : w.cell? ⟨g, o + 4, none⟩ = some (sv x.reply) := (hSw.cell (p := ⟨g, o + 4, none⟩) hg).trans c4
            have c5 : w.cell? ⟨g, o + 5, none⟩ = some (iv x.sent) := (hSw.cell (p := ⟨g, o + 5, none⟩) hg).trans c5
            have c6 : w.cell? ⟨g, o + 6, none⟩ = some (iv x.tick) := (hSw.cell (p := ⟨g, o + 6, none⟩) hg).trans c6
            have c7 : w.cell? ⟨g, o + 7, none⟩ = some (.bool x.opn) := (hSw.cell (p := ⟨g, o + 7, none⟩) hg).trans c7
            go_simp
            all_goals with_reducible rfl
          try simp only [Act.put, List.setIfInBounds_toArray, List.set_cons_zero, List.set_cons_succ]
          refine wpAnyH_take (i := 4) (oi := ⟨_, _, _, _, _, _⟩) (v := ?_) rfl (by kernel_rfl) (by kernel_rfl) (by kernel_rfl) (fun _ _ _ h => h) (Or.inl ⟨by rfl, ?hy⟩) (by assumption) ?_
          case hy =>
            intro w hSw
            have hrow := below_keep hSw hbx.out hgb
            have b0 : w.cell? ⟨w0.heap.size, 0, none⟩ = some (sv r.path) := (cell_of (i := 0) hrow).trans rfl
            have b1 : w.cell? ⟨w0.heap.size, 1, none⟩ = some (sv r.name) := (cell_of (i := 1) hrow).trans rfl
            have b2 : w.cell? ⟨w0.heap.size, 2, none⟩ = some (.slice a9 r.args.length k9) := (cell_of (i := 2) hrow).trans rfl
            have b3 : w.cell? ⟨w0.heap.size, 3, none⟩ = some (iv r.ord) := (cell_of (i := 3) hrow).trans rfl
            have b4 : w.cell? ⟨w0.heap.size, 4, none⟩ = some (sv r.reply) := (cell_of (i := 4) hrow).trans rfl
            have b5 : w.cell? ⟨w0.heap.size, 5, none⟩ = some (iv r.sent) := (cell_of (i := 5) hrow).trans rfl
            have b6 : w.cell? ⟨w0.heap.size, 6, none⟩ = some (iv r.tick) := (cell_of (i := 6) hrow).trans rfl
            have b7 : w.cell? ⟨w0.heap.size, 7, none⟩ = some (.bool r.opn) := (cell_of (i := 7) hrow).trans rfl
            go_simp
            all_goals with_reducible rfl
          try simp only [Act.put, List.setIfInBounds_toArray, List.set_cons_zero, List.set_cons_succ]
          refine wpAnyH_ready (rs := [5]) (by kernel_rfl) (by simp) ?_
          refine AllReadyH.cons (o := ⟨_, _, _, _, _, _⟩) rfl (fun K hK => ?_) AllReadyH.nil
          go_simp
          go_at_call 15
          refine (alike_any x r hxB hr _ _ (reqCs x (.slice a1 x.args.length k1)) (reqCs r (.slice a9 r.args.length k9)) wd (goodReq.below hrx.out hHeld) (goodReq.below hrr.out hHeld)).mono ?_
          rintro e wq ⟨rfl, hb⟩
          rw [hd.out]
          have hZ := hHeld.trans (hb.mono hHeld.size)
          refine hK.out _ _ ?_ (fun hHeld2 => ?_)
          · exact hZ
          clear hK K
          clear hHeld
          have hHeld := hHeld2
          clear hHeld2
          try simp only [Act.put, List.setIfInBounds_toArray, List.set_cons_zero, List.set_cons_succ]
          refine wpAnyH_take (i := 6) (oi := ⟨_, _, _, _, _, _⟩) (v := ?_) rfl (by kernel_rfl) (by kernel_rfl) (by kernel_rfl) (fun _ _ _ h => h) (Or.inl ⟨by rfl, ?hy⟩) (by assumption) ?_
          case hy =>
            intro w hSw
            skip
            go_simp
            all_goals with_reducible rfl
          try simp only [Act.put, List.setIfInBounds_toArray, List.set_cons_zero, List.set_cons_succ]
          refine wpAnyH_take (i := 7) (oi := ⟨_, _, _, _, _, _⟩) (v := ?_) rfl (by kernel_rfl) (by kernel_rfl) (by kernel_rfl) (fun _ _ _ h => h) (Or.inl ⟨by rfl, ?hy⟩) (by assumption) ?_
          case hy =>
            intro w hSw
            skip
            go_simp
            all_goals with_reducible rfl
          try simp only [Act.put, List.setIfInBounds_toArray, List.set_cons_zero, List.set_cons_succ]
          refine wpAnyH_take (i := 8) (oi := ⟨_, _, _, _, _, _⟩) (v := ?_) rfl (by kernel_rfl) (by kernel_rfl) (by kernel_rfl) (fun _ _ _ h => h) (Or.inl ⟨by rfl, ?hy⟩) (by assumption) ?_
          case hy =>
            intro w hSw
            skip
            go_simp
            all_goals with_reducible rfl
          try simp only [Act.put, List.setIfInBounds_toArray, List.set_cons_zero, List.set_cons_succ]
          refine wpAnyH_take (i := 9) (oi := ⟨_, _, _, _, _, _⟩) (v := ?_) rfl (by kernel_rfl) (by kernel_rfl) (by kernel_rfl) (fun _ _ _ h => h) (Or.inl ⟨by rfl, ?hy⟩) (by assumption) ?_
          case hy =>
            intro w hSw
            skip
            go_simp
            all_goals with_reducible rfl
          try simp only [Act.put, List.setIfInBounds_toArray, List.set_cons_zero, List.set_cons_succ]
          refine wpAnyH_take (i := 10) (oi := ⟨_, _, _, _, _, _⟩) (v := ?_) rfl (by kernel_rfl) (by kernel_rfl) (by kernel_rfl) (fun _ _ _ h => h) (Or.inl ⟨by rfl, ?hy⟩) (by assumption) ?_
          case hy =>
            intro w hSw
            skip
            go_simp
            all_goals with_reducible rfl
          try simp only [Act.put, List.setIfInBounds_toArray, List.set_cons_zero, List.set_cons_succ]
          refine wpAnyH_take (i := 11) (oi := ⟨_, _, _, _, _, _⟩) (v := undef) rfl (by kernel_rfl) (by kernel_rfl) (by kernel_rfl) (fun _ _ _ h => h) (Or.inr ⟨by rfl, rfl⟩) (by assumption) ?_
          try simp only [Act.put, List.setIfInBounds_toArray, List.set_cons_zero, List.set_cons_succ]
          refine wpAnyH_take (i := 12) (oi := ⟨_, _, _, _, _, _⟩) (v := undef) rfl (by kernel_rfl) (by kernel_rfl) (by kernel_rfl) (fun _ _ _ h => h) (Or.inr ⟨by rfl, rfl⟩) (by assumption) ?_
          try simp only [Act.put, List.setIfInBounds_toArray, List.set_cons_zero, List.set_cons_succ]
          refine wpAnyH_take (i := 13) (oi := ⟨_, _, _, _, _, _⟩) (v := undef) rfl (by kernel_rfl) (by kernel_rfl) (by kernel_rfl) (fun _ _ _ h => h) (Or.inr ⟨by rfl, rfl⟩) (by assumption) ?_
          try simp only [Act.put, List.setIfInBounds_toArray, List.set_cons_zero, List.set_cons_succ]
          refine wpAnyH_take (i := 14) (oi := ⟨_, _, _, _, _, _⟩) (v := undef) rfl (by kernel_rfl) (by kernel_rfl) (by kernel_rfl) (fun _ _ _ h => h) (Or.inr ⟨by rfl, rfl⟩) (by assumption) ?_
          try simp only [Act.put, List.setIfInBounds_toArray, List.set_cons_zero, List.set_cons_succ]
          refine wpAnyH_take (i := 15) (oi := ⟨_, _, _, _, _, _⟩) (v := ?_) rfl (by kernel_rfl) (by kernel_rfl) (by kernel_rfl) (fun _ _ _ h => h) (Or.inl ⟨by rfl, ?hy⟩) (by assumption) ?_
          case hy =>
            intro w hSw
            skip
            go_simp
            all_goals with_reducible rfl
          try simp only [Act.put, List.setIfInBounds_toArray, List.set_cons_zero, List.set_cons_succ]
          refine wpAnyH_take (i := 16) (oi := ⟨_, _, _, _, _, _⟩) (v := ?_) rfl (by kernel_rfl) (by kernel_rfl) (by kernel_rfl) (fun _ _ _ h => h) (Or.inl ⟨by rfl, ?hy⟩) (by assumption) ?_
          case hy =>
            intro w hSw
            skip
            go_simp
            all_goals with_reducible rfl
          try simp only [Act.put, List.setIfInBounds_toArray, List.set_cons_zero, List.set_cons_succ]
          refine wpAnyH_done (by kernel_rfl) ?_ _
          have hB2 := hid (hB.out.trans (hHeld.mono hB.out.size))
          have hbx2 := hid (below_keep hHeld hbx.out hgb)
          clear hHeld
          go_wp2_with fail
          refine ⟨?_, by simp [intOf]; omega⟩
          repeat (first | exact ⟨⟨k + 1, by go_num, (by rw [hsc2.out]; go_num), by omega, hbx2, hB2⟩, rfl⟩ | exact ⟨k + 1, by go_num, (by rw [hsc2.out]; go_num), by omega, hbx2, hB2⟩ | apply Exists.intro)
        · have q0 : ((u.length : Int) == 0) = false := beq_eq_false_iff_ne.2 (by omega)
          have hul : u.length = l.length := by rcases hu with h | h; rw [h] at hu0; exact absurd rfl hu0; exact h
          obtain ⟨z, hz⟩ : ∃ z, u[k]? = some z := ⟨_, List.getElem?_eq_getElem (by omega)⟩
          obtain ⟨g3, o3, cs3, hidx3, -, hg3, hc3, hr3⟩ := (hU.out.below goodBool hB.out).at (P := Tryd.prog) (t := 39) (by kernel_rfl) (fun _ => by kernel_rfl) hz
          have hr3' : cs3 = [.bool z] := hr3
          subst hr3'
          have f0 := hc3 0 _ rfl
          rw [Nat.add_zero] at f0
          have hu00 : (u.length == 0) = false := beq_eq_false_iff_ne.2 hu0
          have hgz : u.getD k false = z := by rw [List.getD_eq_getElem?_getD, hz]; rfl
          rw [hu00, hgz] at hsc
          clear hc3 hr3
          replace hd := hid hd
          replace hul := hid hul
          cases z with
          | true =>
            have hsc2 : Hid (alkC l r u (k + 1) = cc + 1) := hid (by rw [hsc]; rfl)
            clear hsc
            go_wp2_with fail
            refine wp_region_held_drew (S := (fun w9 => Below wr.heap.size wr w9)) (by kernel_rfl) ?_ (fun hHeld => ?_)
            · exact (Below.refl _ _).drew
            generalize wr.drew = wd at *
            refine wpAnyH_take (i := 0) (oi := ⟨_, _, _, _, _, _⟩) (v := ?_) rfl (by kernel_rfl) (by kernel_rfl) (by kernel_rfl) (fun _ _ _ h => h) (Or.inl ⟨by rfl, ?hy⟩) (by assumption) ?_
            case hy =>
              intro w hSw
              skip
              go_simp
              all_goals with_reducible rfl
            try simp only [Act.put, List.setIfInBounds_toArray, List.set_cons_zero, List.set_cons_succ]
            refine wpAnyH_take (i := 1) (oi := ⟨_, _, _, _, _, _⟩) (v := ?_) rfl (by kernel_rfl) (by kernel_rfl) (by kernel_rfl) (fun _ _ _ h => h) (Or.inl ⟨by rfl, ?hy⟩) (by assumption) ?_
            case hy =>
              intro w hSw
              skip
              go_simp
              all_goals with_reducible rfl
            try simp only [Act.put, List.setIfInBounds_toArray, List.set_cons_zero, List.set_cons_succ]
            refine wpAnyH_take (i := 2) (oi := ⟨_, _, _, _, _, _⟩) (v := ?_) rfl (by kernel_rfl) (by kernel_rfl) (by kernel_rfl) (fun _ _ _ h => h) (Or.inl ⟨by rfl, ?hy⟩) (by assumption) ?_
            case hy =>
              intro w hSw
              skip
              go_simp
              all_goals with_reducible rfl
            try simp only [Act.put, List.setIfInBounds_toArray, List.set_cons_zero, List.set_cons_succ]
            refine wpAnyH_take (i := 3) (oi := ⟨_, _, _, _, _, _⟩) (v := ?_) rfl (by kernel_rfl) (by kernel_rfl) (by kernel_rfl) (fun _ _ _ h => h) (Or.inl ⟨by rfl, ?hy⟩) (by assumption) ?_
            case hy =>
              intro w hSw
              have c0 : w.cell? ⟨g, o, none⟩ = some (sv x.path) := (hSw.cell (p := ⟨g, o, none⟩) hg).trans c0
              have c1 : w.cell? ⟨g, o + 1, none⟩ = some (sv x.name) := (hSw.cell (p := ⟨g, o + 1, none⟩) hg).trans c1
              have c2 : w.cell? ⟨g, o + 2, none⟩ = some (.slice a1 x.args.length k1) := (hSw.cell (p := ⟨g, o + 2, none⟩) hg).trans c2
              have c3 : w.cell? ⟨g, o + 3, none⟩ = some (iv x.ord) := (hSw.cell (p := ⟨g, o + 3, none⟩) hg).trans c3
              have c4 : w.cell? ⟨g, o + 4, none⟩ = some (sv x.reply) := (hSw.cell (p := ⟨g, o + 4, none⟩) hg).trans c4
              have c5 : w.cell? ⟨g, o + 5, none⟩ = some (iv x.sent) := (hSw.cell (p := ⟨g, o + 5, none⟩) hg).trans c5
              have c6 : w.cell? ⟨g, o + 6, none⟩ = some (iv x.tick) := (hSw.cell (p := ⟨g, o + 6, none⟩) hg).trans c6
              have c7 : w.cell? ⟨g, o + 7, none⟩ = some (.bool x.opn) := (hSw.cell (p := ⟨g, o + 7, none⟩) hg).trans c7
              go_simp
              all_goals with_reducible rfl
            try simp only [Act.put, List.setIfInBounds_toArray, List.set_cons_zero, List.set_cons_succ]
            refine wpAnyH_take (i := 4) (oi := ⟨_, _, _, _, _, _⟩) (v := ?_) rfl (by kernel_rfl) (by kernel_rfl) (by kernel_rfl) (fun _ _ _ h => h) (Or.inl ⟨by rfl, ?hy⟩) (by assumption) ?_
            case hy =>
              intro w hSw
              have hrow := below_keep hSw hbx.out hgb
              have b0 : w.cell? ⟨w0.heap.size, 0, none⟩ = some (sv r.path) := (cell_of (i := 0) hrow).trans rfl
              have b1 : w.cell? ⟨w0.heap.size, 1, none⟩ = some (sv r.name) := (cell_of (i := 1) hrow).trans rfl
              have b2 : w.cell? ⟨w0.heap.size, 2, none⟩ = some (.slice a9 r.args.length k9) := (cell_of (i := 2) hrow).trans rfl
              have b3 : w.cell? ⟨w0.heap.size, 3, none⟩ = some (iv r.ord) := (cell_of (i := 3) hrow).trans rfl
              have b4 : w.cell? ⟨w0.heap.size, 4, none⟩ = some (sv r.reply) := (cell_of (i := 4) hrow).trans rfl
              have b5 : w.cell? ⟨w0.heap.size, 5, none⟩ = some (iv r.sent) := (cell_of (i := 5) hrow).trans rfl
              have b6 : w.cell? ⟨w0.heap.size, 6, none⟩ = some (iv r.tick) := (cell_of (i := 6) hrow).trans rfl
              have b7 : w.cell? ⟨w0.heap.size, 7, none⟩ = some (.bool r.opn) := (cell_of (i := 7) hrow).trans rfl
              go_simp
              all_goals with_reducible rfl
            try simp only [Act.put, List.setIfInBounds_toArray, List.set_cons_zero, List.set_cons_succ]
            refine wpAnyH_ready (rs := [5]) (by kernel_rfl) (by simp) ?_
            refine AllReadyH.cons (o := ⟨_, _, _, _, _, _⟩) rfl (fun K hK => ?_) AllReadyH.nil
            go_simp
            go_at_call 15
            refine (alike_any x r hxB hr _ _ (reqCs x (.slice a1 x.args.length k1)) (reqCs r (.slice a9 r.args.length k9)) wd (goodReq.below hrx.out hHeld) (goodReq.below hrr.out hHeld)).mono ?_
            rintro e wq ⟨rfl, hb⟩
            rw [hd.out]
            have hZ := hHeld.trans (hb.mono hHeld.size)
            refine hK.out _ _ ?_ (fun hHeld2 => ?_)
            · exact hZ
            clear hK K
            clear hHeld
            have hHeld := hHeld2
            clear hHeld2
            try simp only [Act.put, List.setIfInBounds_toArray, List.set_cons_zero, List.set_cons_succ]
            refine wpAnyH_take (i := 6) (oi := ⟨_, _, _, _, _, _⟩) (v := ?_) rfl (by kernel_rfl) (by kernel_rfl) (by kernel_rfl) (fun _ _ _ h => h) (Or.inl ⟨by rfl, ?hy⟩) (by assumption) ?_
            case hy =>
              intro w hSw
              skip
              go_simp
              all_goals with_reducible rfl
            try simp only [Act.put, List.setIfInBounds_toArray, List.set_cons_zero, List.set_cons_succ]
            refine wpAnyH_take (i := 7) (oi := ⟨_, _, _, _, _, _⟩) (v := ?_) rfl (by kernel_rfl) (by kernel_rfl) (by kernel_rfl) (fun _ _ _ h => h) (Or.inl ⟨by rfl, ?hy⟩) (by assumption) ?_
            case hy =>
              intro w hSw
              skip
              go_simp
              all_goals with_reducible rfl
            try simp only [Act.put, List.setIfInBounds_toArray, List.set_cons_zero, List.set_cons_succ]
            refine wpAnyH_take (i := 8) (oi := ⟨_, _, _, _, _, _⟩) (v := ?_) rfl (by kernel_rfl) (by kernel_rfl) (by kernel_rfl) (fun _ _ _ h => h) (Or.inl ⟨by rfl, ?hy⟩) (by assumption) ?_
            case hy =>
              intro w hSw
              skip
              go_simp
              all_goals with_reducible rfl
            try simp only [Act.put, List.setIfInBounds_toArray, List.set_cons_zero, List.set_cons_succ]
            refine wpAnyH_take (i := 9) (oi := ⟨_, _, _, _, _, _⟩) (v := ?_) rfl (by kernel_rfl) (by kernel_rfl) (by kernel_rfl) (fun _ _ _ h => h) (Or.inl ⟨by rfl, ?hy⟩) (by assumption) ?_
            case hy =>
              intro w hSw
              skip
              go_simp
              all_goals with_reducible rfl
            try simp only [Act.put, List.setIfInBounds_toArray, List.set_cons_zero, List.set_cons_succ]
            refine wpAnyH_take (i := 10) (oi := ⟨_, _, _, _, _, _⟩) (v := ?_) rfl (by kernel_rfl) (by kernel_rfl) (by kernel_rfl) (fun _ _ _ h => h) (Or.inl ⟨by rfl, ?hy⟩) (by assumption) ?_
            case hy =>
              intro w hSw
              skip
              go_simp
              all_goals with_reducible rfl
            try simp only [Act.put, List.setIfInBounds_toArray, List.set_cons_zero, List.set_cons_succ]
            refine wpAnyH_take (i := 11) (oi := ⟨_, _, _, _, _, _⟩) (v := ?_) rfl (by kernel_rfl) (by kernel_rfl) (by kernel_rfl) (fun _ _ _ h => h) (Or.inl ⟨by rfl, ?hy⟩) (by assumption) ?_
            case hy =>
              intro w hSw
              skip
              go_simp
              all_goals with_reducible rfl
            try simp only [Act.put, List.setIfInBounds_toArray, List.set_cons_zero, List.set_cons_succ]
            refine wpAnyH_take (i := 12) (oi := ⟨_, _, _, _, _, _⟩) (v := ?_) rfl (by kernel_rfl) (by kernel_rfl) (by kernel_rfl) (fun _ _ _ h => h) (Or.inl ⟨by rfl, ?hy⟩) (by assumption) ?_
            case hy =>
              intro w hSw
              skip
              go_simp
              all_goals with_reducible rfl
            try simp only [Act.put, List.setIfInBounds_toArray, List.set_cons_zero, List.set_cons_succ]
            refine wpAnyH_take (i := 13) (oi := ⟨_, _, _, _, _, _⟩) (v := ?_) rfl (by kernel_rfl) (by kernel_rfl) (by kernel_rfl) (fun _ _ _ h => h) (Or.inl ⟨by rfl, ?hy⟩) (by assumption) ?_
            case hy =>
              intro w hSw
              skip
              go_simp
              all_goals with_reducible rfl
            try simp only [Act.put, List.setIfInBounds_toArray, List.set_cons_zero, List.set_cons_succ]
            refine wpAnyH_take (i := 14) (oi := ⟨_, _, _, _, _, _⟩) (v := ?_) rfl (by kernel_rfl) (by kernel_rfl) (by kernel_rfl) (fun _ _ _ h => h) (Or.inl ⟨by rfl, ?hy⟩) (by assumption) ?_
            case hy =>
              intro w hSw
              have f0 : w.cell? ⟨g3, o3, none⟩ = _ := (hSw.cell (p := ⟨g3, o3, none⟩) hg3).trans f0
              go_simp
              all_goals with_reducible rfl
            try simp only [Act.put, List.setIfInBounds_toArray, List.set_cons_zero, List.set_cons_succ]
            refine wpAnyH_take (i := 15) (oi := ⟨_, _, _, _, _, _⟩) (v := ?_) rfl (by kernel_rfl) (by kernel_rfl) (by kernel_rfl) (fun _ _ _ h => h) (Or.inl ⟨by rfl, ?hy⟩) (by assumption) ?_
            case hy =>
              intro w hSw
              skip
              go_simp
              all_goals with_reducible rfl
            try simp only [Act.put, List.setIfInBounds_toArray, List.set_cons_zero, List.set_cons_succ]
            refine wpAnyH_take (i := 16) (oi := ⟨_, _, _, _, _, _⟩) (v := ?_) rfl (by kernel_rfl) (by kernel_rfl) (by kernel_rfl) (fun _ _ _ h => h) (Or.inl ⟨by rfl, ?hy⟩) (by assumption) ?_
            case hy =>
              intro w hSw
              skip
              go_simp
              all_goals with_reducible rfl
            try simp only [Act.put, List.setIfInBounds_toArray, List.set_cons_zero, List.set_cons_succ]
            refine wpAnyH_done (by kernel_rfl) ?_ _
            have hB2 := hid (hB.out.trans (hHeld.mono hB.out.size))
            have hbx2 := hid (below_keep hHeld hbx.out hgb)
            clear hHeld
            go_wp2_with fail
            refine ⟨?_, by simp [intOf]; omega⟩
            repeat (first | exact ⟨⟨k + 1, by go_num, (by rw [hsc2.out]; go_num), by omega, hbx2, hB2⟩, rfl⟩ | exact ⟨k + 1, by go_num, (by rw [hsc2.out]; go_num), by omega, hbx2, hB2⟩ | apply Exists.intro)
          | false =>
            have hsc2 : Hid (alkC l r u (k + 1) = cc) := hid (by rw [hsc]; rfl)
            clear hsc
            go_wp2_with fail
            refine wp_region_held_drew (S := (fun w9 => Below wr.heap.size wr w9)) (by kernel_rfl) ?_ (fun hHeld => ?_)
            · exact (Below.refl _ _).drew
            generalize wr.drew = wd at *
            refine wpAnyH_take (i := 0) (oi := ⟨_, _, _, _, _, _⟩) (v := ?_) rfl (by kernel_rfl) (by kernel_rfl) (by kernel_rfl) (fun _ _ _ h => h) (Or.inl ⟨by rfl, ?hy⟩) (by assumption) ?_
            case hy =>
              intro w hSw
              skip
              go_simp
              all_goals with_reducible rfl
            try simp only [Act.put, List.setIfInBounds_toArray, List.set_cons_zero, List.set_cons_succ]
            refine wpAnyH_take (i := 1) (oi := ⟨_, _, _, _, _, _⟩) (v := ?_) rfl (by kernel_rfl) (by kernel_rfl) (by kernel_rfl) (fun _ _ _ h => h) (Or.inl ⟨by rfl, ?hy⟩) (by assumption) ?_
            case hy =>
              intro w hSw
              skip
              go_simp
              all_goals with_reducible rfl
            try simp only [Act.put, List.setIfInBounds_toArray, List.set_cons_zero, List.set_cons_succ]
            refine wpAnyH_take (i := 2) (oi := ⟨_, _, _, _, _, _⟩) (v := ?_) rfl (by kernel_rfl) (by kernel_rfl) (by kernel_rfl) (fun _ _ _ h => h) (Or.inl ⟨by rfl, ?hy⟩) (by assumption) ?_
            case hy =>
              intro w hSw
              skip
              go_simp
              all_goals with_reducible rfl
            try simp only [Act.put, List.setIfInBounds_toArray, List.set_cons_zero, List.set_cons_succ]
            refine wpAnyH_take (i := 3) (oi := ⟨_, _, _, _, _, _⟩) (v := ?_) rfl (by kernel_rfl) (by kernel_rfl) (by kernel_rfl) (fun _ _ _ h => h) (Or.inl ⟨by rfl, ?hy⟩) (by assumption) ?_
            case hy =>
              intro w hSw
              have c0 : w.cell? ⟨g, o, none⟩ = some (sv x.path) := (hSw.cell (p := ⟨g, o, none⟩) hg).trans c0
              have c1 : w.cell? ⟨g, o + 1, none⟩ = some (sv x.name) := (hSw.cell (p := ⟨g, o + 1, none⟩) hg).trans c1
              have c2 : w.cell? ⟨g, o + 2, none⟩ = some (.slice a1 x.args.length k1) := (hSw.cell (p := ⟨g, o + 2, none⟩) hg).trans c2
              have c3 : w.cell? ⟨g, o + 3, none⟩ = some (iv x.ord) := (hSw.cell (p := ⟨g, o + 3, none⟩) hg).trans c3
              have c4 : w.cell? ⟨g, o + 4, none⟩ = some (sv x.reply) := (hSw.cell (p := ⟨g, o + 4, none⟩) hg).trans c4
              have c5 : w.cell? ⟨g, o + 5, none⟩ = some (iv x.sent) := (hSw.cell (p := ⟨g, o + 5, none⟩) hg).trans c5
              have c6 : w.cell? ⟨g, o + 6, none⟩ = some (iv x.tick) := (hSw.cell (p := ⟨g, o + 6, none⟩) hg).trans c6
              have c7 : w.cell? ⟨g, o + 7, none⟩ = some (.bool x.opn) := (hSw.cell (p := ⟨g, o + 7, none⟩) hg).trans c7
              go_simp
              all_goals with_reducible rfl
            try simp only [Act.put, List.setIfInBounds_toArray, List.set_cons_zero, List.set_cons_succ]
            refine wpAnyH_take (i := 4) (oi := ⟨_, _, _, _, _, _⟩) (v := ?_) rfl (by kernel_rfl) (by kernel_rfl) (by kernel_rfl) (fun _ _ _ h => h) (Or.inl ⟨by rfl, ?hy⟩) (by assumption) ?_
            case hy =>
              intro w hSw
              have hrow := below_keep hSw hbx.out hgb
              have b0 : w.cell? ⟨w0.heap.size, 0, none⟩ = some (sv r.path) := (cell_of (i := 0) hrow).trans rfl
              have b1 : w.cell? ⟨w0.heap.size, 1, none⟩ = some (sv r.name) := (cell_of (i := 1) hrow).trans rfl
              have b2 : w.cell? ⟨w0.heap.size, 2, none⟩ = some (.slice a9 r.args.length k9) := (cell_of (i := 2) hrow).trans rfl
              have b3 : w.cell? ⟨w0.heap.size, 3, none⟩ = some (iv r.ord) := (cell_of (i := 3) hrow).trans rfl
              have b4 : w.cell? ⟨w0.heap.size, 4, none⟩ = some (sv r.reply) := (cell_of (i := 4) hrow).trans rfl
              have b5 : w.cell? ⟨w0.heap.size, 5, none⟩ = some (iv r.sent) := (cell_of (i := 5) hrow).trans rfl
              have b6 : w.cell? ⟨w0.heap.size, 6, none⟩ = some (iv r.tick) := (cell_of (i := 6) hrow).trans rfl
              have b7 : w.cell? ⟨w0.heap.size, 7, none⟩ = some (.bool r.opn) := (cell_of (i := 7) hrow).trans rfl
              go_simp
              all_goals with_reducible rfl
            try simp only [Act.put, List.setIfInBounds_toArray, List.set_cons_zero, List.set_cons_succ]
            refine wpAnyH_ready (rs := [5]) (by kernel_rfl) (by simp) ?_
            refine AllReadyH.cons (o := ⟨_, _, _, _, _, _⟩) rfl (fun K hK => ?_) AllReadyH.nil
            go_simp
            go_at_call 15
            refine (alike_any x r hxB hr _ _ (reqCs x (.slice a1 x.args.length k1)) (reqCs r (.slice a9 r.args.length k9)) wd (goodReq.below hrx.out hHeld) (goodReq.below hrr.out hHeld)).mono ?_
            rintro e wq ⟨rfl, hb⟩
            rw [hd.out]
            have hZ := hHeld.trans (hb.mono hHeld.size)
            refine hK.out _ _ ?_ (fun hHeld2 => ?_)
            · exact hZ
            clear hK K
            clear hHeld
            have hHeld := hHeld2
            clear hHeld2
            try simp only [Act.put, List.setIfInBounds_toArray, List.set_cons_zero, List.set_cons_succ]
            refine wpAnyH_take (i := 6) (oi := ⟨_, _, _, _, _, _⟩) (v := ?_) rfl (by kernel_rfl) (by kernel_rfl) (by kernel_rfl) (fun _ _ _ h => h) (Or.inl ⟨by rfl, ?hy⟩) (by assumption) ?_
            case hy =>
              intro w hSw
              skip
              go_simp
              all_goals with_reducible rfl
            try simp only [Act.put, List.setIfInBounds_toArray, List.set_cons_zero, List.set_cons_succ]
            refine wpAnyH_take (i := 7) (oi := ⟨_, _, _, _, _, _⟩) (v := ?_) rfl (by kernel_rfl) (by kernel_rfl) (by kernel_rfl) (fun _ _ _ h => h) (Or.inl ⟨by rfl, ?hy⟩) (by assumption) ?_
            case hy =>
              intro w hSw
              skip
              go_simp
              all_goals with_reducible rfl
            try simp only [Act.put, List.setIfInBounds_toArray, List.set_cons_zero, List.set_cons_succ]
            refine wpAnyH_take (i := 8) (oi := ⟨_, _, _, _, _, _⟩) (v := ?_) rfl (by kernel_rfl) (by kernel_rfl) (by kernel_rfl) (fun _ _ _ h => h) (Or.inl ⟨by rfl, ?hy⟩) (by assumption) ?_
            case hy =>
              intro w hSw
              skip
              go_simp
              all_goals with_reducible rfl
            try simp only [Act.put, List.setIfInBounds_toArray, List.set_cons_zero, List.set_cons_succ]
            refine wpAnyH_take (i := 9) (oi := ⟨_, _, _, _, _, _⟩) (v := ?_) rfl (by kernel_rfl) (by kernel_rfl) (by kernel_rfl) (fun _ _ _ h => h) (Or.inl ⟨by rfl, ?hy⟩) (by assumption) ?_
            case hy =>
              intro w hSw
              skip
              go_simp
              all_goals with_reducible rfl
            try simp only [Act.put, List.setIfInBounds_toArray, List.set_cons_zero, List.set_cons_succ]
            refine wpAnyH_take (i := 10) (oi := ⟨_, _, _, _, _, _⟩) (v := ?_) rfl (by kernel_rfl) (by kernel_rfl) (by kernel_rfl) (fun _ _ _ h => h) (Or.inl ⟨by rfl, ?hy⟩) (by assumption) ?_
            case hy =>
              intro w hSw
              skip
              go_simp
              all_goals with_reducible rfl
            try simp only [Act.put, List.setIfInBounds_toArray, List.set_cons_zero, List.set_cons_succ]
            refine wpAnyH_take (i := 11) (oi := ⟨_, _, _, _, _, _⟩) (v := ?_) rfl (by kernel_rfl) (by kernel_rfl) (by kernel_rfl) (fun _ _ _ h => h) (Or.inl ⟨by rfl, ?hy⟩) (by assumption) ?_
            case hy =>
              intro w hSw
              skip
              go_simp
              all_goals with_reducible rfl
            try simp only [Act.put, List.setIfInBounds_toArray, List.set_cons_zero, List.set_cons_succ]
            refine wpAnyH_take (i := 12) (oi := ⟨_, _, _, _, _, _⟩) (v := ?_) rfl (by kernel_rfl) (by kernel_rfl) (by kernel_rfl) (fun _ _ _ h => h) (Or.inl ⟨by rfl, ?hy⟩) (by assumption) ?_
            case hy =>
              intro w hSw
              skip
              go_simp
              all_goals with_reducible rfl
            try simp only [Act.put, List.setIfInBounds_toArray, List.set_cons_zero, List.set_cons_succ]
            refine wpAnyH_take (i := 13) (oi := ⟨_, _, _, _, _, _⟩) (v := ?_) rfl (by kernel_rfl) (by kernel_rfl) (by kernel_rfl) (fun _ _ _ h => h) (Or.inl ⟨by rfl, ?hy⟩) (by assumption) ?_
            case hy =>
              intro w hSw
              skip
              go_simp
              all_goals with_reducible rfl
            try simp only [Act.put, List.setIfInBounds_toArray, List.set_cons_zero, List.set_cons_succ]
            refine wpAnyH_take (i := 14) (oi := ⟨_, _, _, _, _, _⟩) (v := ?_) rfl (by kernel_rfl) (by kernel_rfl) (by kernel_rfl) (fun _ _ _ h => h) (Or.inl ⟨by rfl, ?hy⟩) (by assumption) ?_
            case hy =>
              intro w hSw
              have f0 : w.cell? ⟨g3, o3, none⟩ = _ := (hSw.cell (p := ⟨g3, o3, none⟩) hg3).trans f0
              go_simp
              all_goals with_reducible rfl
            try simp only [Act.put, List.setIfInBounds_toArray, List.set_cons_zero, List.set_cons_succ]
            refine wpAnyH_take (i := 15) (oi := ⟨_, _, _, _, _, _⟩) (v := ?_) rfl (by kernel_rfl) (by kernel_rfl) (by kernel_rfl) (fun _ _ _ h => h) (Or.inl ⟨by rfl, ?hy⟩) (by assumption) ?_
            case hy =>
              intro w hSw
              skip
              go_simp
              all_goals with_reducible rfl
            try simp only [Act.put, List.setIfInBounds_toArray, List.set_cons_zero, List.set_cons_succ]
            refine wpAnyH_take (i := 16) (oi := ⟨_, _, _, _, _, _⟩) (v := ?_) rfl (by kernel_rfl) (by kernel_rfl) (by kernel_rfl) (fun _ _ _ h => h) (Or.inl ⟨by rfl, ?hy⟩) (by assumption) ?_
            case hy =>
              intro w hSw
              skip
              go_simp
              all_goals with_reducible rfl
            try simp only [Act.put, List.setIfInBounds_toArray, List.set_cons_zero, List.set_cons_succ]
            refine wpAnyH_done (by kernel_rfl) ?_ _
            have hB2 := hid (hB.out.trans (hHeld.mono hB.out.size))
            have hbx2 := hid (below_keep hHeld hbx.out hgb)
            clear hHeld
            go_wp2_with fail
            refine ⟨?_, by simp [intOf]; omega⟩
            repeat (first | exact ⟨⟨k + 1, by go_num, by rw [hsc2.out], by omega, hbx2, hB2⟩, rfl⟩ | exact ⟨k + 1, by go_num, by rw [hsc2.out], by omega, hbx2, hB2⟩ | apply Exists.intro)
      · have hax : alk x r = false := hd
        rw [hax] at hsc
        have hsc2 : Hid (alkC l r u (k + 1) = cc) := hid (by rw [hsc]; rfl)
        clear hsc
        replace hd := hid hd
        replace hal := hid hal
        go_wp2_with fail
        refine wp_region_held_drew (S := (fun w9 => Below wr.heap.size wr w9)) (by kernel_rfl) ?_ (fun hHeld => ?_)
        · exact (Below.refl _ _).drew
        generalize wr.drew = wd at *
        refine wpAnyH_take (i := 0) (oi := ⟨_, _, _, _, _, _⟩) (v := ?_) rfl (by kernel_rfl) (by kernel_rfl) (by kernel_rfl) (fun _ _ _ h => h) (Or.inl ⟨by rfl, ?hy⟩) (by assumption) ?_
        case hy =>
          intro w hSw
          skip
          go_simp
          all_goals with_reducible rfl
        try simp only [Act.put, List.setIfInBounds_toArray, List.set_cons_zero, List.set_cons_succ]
        refine wpAnyH_take (i := 1) (oi := ⟨_, _, _, _, _, _⟩) (v := ?_) rfl (by kernel_rfl) (by kernel_rfl) (by kernel_rfl) (fun _ _ _ h => h) (Or.inl ⟨by rfl, ?hy⟩) (by assumption) ?_
        case hy =>
          intro w hSw
          skip
          go_simp
          all_goals with_reducible rfl
        try simp only [Act.put, List.setIfInBounds_toArray, List.set_cons_zero, List.set_cons_succ]
        refine wpAnyH_take (i := 2) (oi := ⟨_, _, _, _, _, _⟩) (v := ?_) rfl (by kernel_rfl) (by kernel_rfl) (by kernel_rfl) (fun _ _ _ h => h) (Or.inl ⟨by rfl, ?hy⟩) (by assumption) ?_
        case hy =>
          intro w hSw
          skip
          go_simp
          all_goals with_reducible rfl
        try simp only [Act.put, List.setIfInBounds_toArray, List.set_cons_zero, List.set_cons_succ]
        refine wpAnyH_take (i := 3) (oi := ⟨_, _, _, _, _, _⟩) (v := ?_) rfl (by kernel_rfl) (by kernel_rfl) (by kernel_rfl) (fun _ _ _ h => h) (Or.inl ⟨by rfl, ?hy⟩) (by assumption) ?_
        case hy =>
          intro w hSw
          have c0 : w.cell? ⟨g, o, none⟩ = some (sv x.path) := (hSw.cell (p := ⟨g, o, none⟩) hg).trans c0
          have c1 : w.cell? ⟨g, o + 1, none⟩ = some (sv x.name) := (hSw.cell (p := ⟨g, o + 1, none⟩) hg).trans c1
          have c2 : w.cell? ⟨g, o + 2, none⟩ = some (.slice a1 x.args.length k1) := (hSw.cell (p := ⟨g, o + 2, none⟩) hg).trans c2
          have c3 : w.cell? ⟨g, o + 3, none⟩ = some (iv x.ord) := (hSw.cell (p := ⟨g, o + 3, none⟩) hg).trans c3
          have c4 : w.cell? ⟨g, o + 4, none⟩ = some (sv x.reply) := (hSw.cell (p := ⟨g, o + 4, none⟩) hg).trans c4
          have c5 : w.cell? ⟨g, o + 5, none⟩ = some (iv x.sent) := (hSw.cell (p := ⟨g, o + 5, none⟩) hg).trans c5
          have c6 : w.cell? ⟨g, o + 6, none⟩ = some (iv x.tick) := (hSw.cell (p := ⟨g, o + 6, none⟩) hg).trans c6
          have c7 : w.cell? ⟨g, o + 7, none⟩ = some (.bool x.opn) := (hSw.cell (p := ⟨g, o + 7, none⟩) hg).trans c7
          go_simp
          all_goals with_reducible rfl
        try simp only [Act.put, List.setIfInBounds_toArray, List.set_cons_zero, List.set_cons_succ]
        refine wpAnyH_take (i := 4) (oi := ⟨_, _, _, _, _, _⟩) (v := ?_) rfl (by kernel_rfl) (by kernel_rfl) (by kernel_rfl) (fun _ _ _ h => h) (Or.inl ⟨by rfl, ?hy⟩) (by assumption) ?_
        case hy =>
          intro w hSw
          have hrow := below_keep hSw hbx.out hgb
          have b0 : w.cell? ⟨w0.heap.size, 0, none⟩ = some (sv r.path) := (cell_of (i := 0) hrow).trans rfl
          have b1 : w.cell? ⟨w0.heap.size, 1, none⟩ = some (sv r.name) := (cell_of (i := 1) hrow).trans rfl
          have b2 : w.cell? ⟨w0.heap.size, 2, none⟩ = some (.slice a9 r.args.length k9) := (cell_of (i := 2) hrow).trans rfl
          have b3 : w.cell? ⟨w0.heap.size, 3, none⟩ = some (iv r.ord) := (cell_of (i := 3) hrow).trans rfl
          have b4 : w.cell? ⟨w0.heap.size, 4, none⟩ = some (sv r.reply) := (cell_of (i := 4) hrow).trans rfl
          have b5 : w.cell? ⟨w0.heap.size, 5, none⟩ = some (iv r.sent) := (cell_of (i := 5) hrow).trans rfl
          have b6 : w.cell? ⟨w0.heap.size, 6, none⟩ = some (iv r.tick) := (cell_of (i := 6) hrow).trans rfl
          have b7 : w.cell? ⟨w0.heap.size, 7, none⟩ = some (.bool r.opn) := (cell_of (i := 7) hrow).trans rfl
          go_simp
          all_goals with_reducible rfl
        try simp only [Act.put, List.setIfInBounds_toArray, List.set_cons_zero, List.set_cons_succ]
        refine wpAnyH_ready (rs := [5]) (by kernel_rfl) (by simp) ?_
        refine AllReadyH.cons (o := ⟨_, _, _, _, _, _⟩) rfl (fun K hK => ?_) AllReadyH.nil
        go_simp
        go_at_call 15
        refine (alike_any x r hxB hr _ _ (reqCs x (.slice a1 x.args.length k1)) (reqCs r (.slice a9 r.args.length k9)) wd (goodReq.below hrx.out hHeld) (goodReq.below hrr.out hHeld)).mono ?_
        rintro e wq ⟨rfl, hb⟩
        rw [hd.out]
        have hZ := hHeld.trans (hb.mono hHeld.size)
        refine hK.out _ _ ?_ (fun hHeld2 => ?_)
        · exact hZ
        clear hK K
        clear hHeld
        have hHeld := hHeld2
        clear hHeld2
        try simp only [Act.put, List.setIfInBounds_toArray, List.set_cons_zero, List.set_cons_succ]
        refine wpAnyH_take (i := 6) (oi := ⟨_, _, _, _, _, _⟩) (v := ?_) rfl (by kernel_rfl) (by kernel_rfl) (by kernel_rfl) (fun _ _ _ h => h) (Or.inl ⟨by rfl, ?hy⟩) (by assumption) ?_
        case hy =>
          intro w hSw
          skip
          go_simp
          all_goals with_reducible rfl
        try simp only [Act.put, List.setIfInBounds_toArray, List.set_cons_zero, List.set_cons_succ]
        refine wpAnyH_take (i := 7) (oi := ⟨_, _, _, _, _, _⟩) (v := undef) rfl (by kernel_rfl) (by kernel_rfl) (by kernel_rfl) (fun _ _ _ h => h) (Or.inr ⟨by rfl, rfl⟩) (by assumption) ?_
        try simp only [Act.put, List.setIfInBounds_toArray, List.set_cons_zero, List.set_cons_succ]
        refine wpAnyH_take (i := 8) (oi := ⟨_, _, _, _, _, _⟩) (v := undef) rfl (by kernel_rfl) (by kernel_rfl) (by kernel_rfl) (fun _ _ _ h => h) (Or.inr ⟨by rfl, rfl⟩) (by assumption) ?_
        try simp only [Act.put, List.setIfInBounds_toArray, List.set_cons_zero, List.set_cons_succ]
        refine wpAnyH_take (i := 9) (oi := ⟨_, _, _, _, _, _⟩) (v := undef) rfl (by kernel_rfl) (by kernel_rfl) (by kernel_rfl) (fun _ _ _ h => h) (Or.inr ⟨by rfl, rfl⟩) (by assumption) ?_
        try simp only [Act.put, List.setIfInBounds_toArray, List.set_cons_zero, List.set_cons_succ]
        refine wpAnyH_take (i := 10) (oi := ⟨_, _, _, _, _, _⟩) (v := undef) rfl (by kernel_rfl) (by kernel_rfl) (by kernel_rfl) (fun _ _ _ h => h) (Or.inr ⟨by rfl, rfl⟩) (by assumption) ?_
        try simp only [Act.put, List.setIfInBounds_toArray, List.set_cons_zero, List.set_cons_succ]
        refine wpAnyH_take (i := 11) (oi := ⟨_, _, _, _, _, _⟩) (v := undef) rfl (by kernel_rfl) (by kernel_rfl) (by kernel_rfl) (fun _ _ _ h => h) (Or.inr ⟨by rfl, rfl⟩) (by assumption) ?_
        try simp only [Act.put, List.setIfInBounds_toArray, List.set_cons_zero, List.set_cons_succ]
        refine wpAnyH_take (i := 12) (oi := ⟨_, _, _, _, _, _⟩) (v := undef) rfl (by kernel_rfl) (by kernel_rfl) (by kernel_rfl) (fun _ _ _ h => h) (Or.inr ⟨by rfl, rfl⟩) (by assumption) ?_
        try simp only [Act.put, List.setIfInBounds_toArray, List.set_cons_zero, List.set_cons_succ]
        refine wpAnyH_take (i := 13) (oi := ⟨_, _, _, _, _, _⟩) (v := undef) rfl (by kernel_rfl) (by kernel_rfl) (by kernel_rfl) (fun _ _ _ h => h) (Or.inr ⟨by rfl, rfl⟩) (by assumption) ?_
        try simp only [Act.put, List.setIfInBounds_toArray, List.set_cons_zero, List.set_cons_succ]
        refine wpAnyH_take (i := 14) (oi := ⟨_, _, _, _, _, _⟩) (v := undef) rfl (by kernel_rfl) (by kernel_rfl) (by kernel_rfl) (fun _ _ _ h => h) (Or.inr ⟨by rfl, rfl⟩) (by assumption) ?_
        try simp only [Act.put, List.setIfInBounds_toArray, List.set_cons_zero, List.set_cons_succ]
        refine wpAnyH_take (i := 15) (oi := ⟨_, _, _, _, _, _⟩) (v := undef) rfl (by kernel_rfl) (by kernel_rfl) (by kernel_rfl) (fun _ _ _ h => h) (Or.inr ⟨by rfl, rfl⟩) (by assumption) ?_
        try simp only [Act.put, List.setIfInBounds_toArray, List.set_cons_zero, List.set_cons_succ]
        refine wpAnyH_take (i := 16) (oi := ⟨_, _, _, _, _, _⟩) (v := ?_) rfl (by kernel_rfl) (by kernel_rfl) (by kernel_rfl) (fun _ _ _ h => h) (Or.inl ⟨by rfl, ?hy⟩) (by assumption) ?_
        case hy =>
          intro w hSw
          skip
          go_simp
          all_goals with_reducible rfl
        try simp only [Act.put, List.setIfInBounds_toArray, List.set_cons_zero, List.set_cons_succ]
        refine wpAnyH_done (by kernel_rfl) ?_ _
        have hB2 := hid (hB.out.trans (hHeld.mono hB.out.size))
        have hbx2 := hid (below_keep hHeld hbx.out hgb)
        clear hHeld
        go_wp2_with fail
        refine ⟨?_, by simp [intOf]; omega⟩
        repeat (first | exact ⟨⟨k + 1, by go_num, by rw [hsc2.out], by omega, hbx2, hB2⟩, rfl⟩ | exact ⟨k + 1, by go_num, by rw [hsc2.out], by omega, hbx2, hB2⟩ | apply Exists.intro)
    · obtain rfl : k = l.length := by omega
      rw [← hres.out]
      go_wp2_with fail
      go_ret
      exact ⟨rfl, hB.out⟩
end Go.Proofs.YtnbhpicmflagcaaDoor
