/- MatchOrd walked. -/
import Derived.Test.YtnbhpicmflagcaaDoorMatU
import Derived.Test.YtnbhpicmflagcaaDoorMatT
import Derived.Test.YtnbhpicmflagcaaDoorMatI
set_option linter.unusedVariables false
set_option linter.unusedSimpArgs false
namespace Go.Proofs.YtnbhpicmflagcaaDoor
open Go.RowKit
open Go.Lib (hid)
theorem SlR.take {α : Type} {sz : Nat} {R : Rel α} {S : Foot} {w : World} {l : List α} {a : Option Addr} {len cap : Nat} (h : SlR sz R S w l (.slice a len cap)) (n : Nat) (hn : n ≤ l.length) : SlR sz R S w (l.take n) (.slice a n cap) := by
  obtain ⟨a', cap', b, off, cs, h1, h2, h3, h4, h5⟩ := h
  simp only [Value.slice.injEq] at h1
  obtain ⟨rfl, rfl, rfl⟩ := h1
  have hl : (l.take n).length = n := by rw [List.length_take]; omega
  refine ⟨a, cap, b, off, cs, by rw [hl], by omega, fun hp => h3 (by omega), fun i hi => h4 i (by omega), fun i x hx => ?_⟩
  have hi : i < n := by have := (List.getElem?_eq_some_iff.1 hx).1; omega
  rw [List.getElem?_take_of_lt hi] at hx
  exact h5 i x hx
theorem SlR.drop {α : Type} {sz : Nat} {R : Rel α} {S : Foot} {w : World} {l : List α} {a : Option Addr} {len cap : Nat} (h : SlR sz R S w l (.slice a len cap)) (n : Nat) (hn : n ≤ l.length) (a2 : Option Addr) (h2 : ∀ b off, a = some ⟨b, off, none⟩ → n < l.length → a2 = some ⟨b, off + n * sz, none⟩) : SlR sz R S w (l.drop n) (.slice a2 (l.length - n) (cap - n)) := by
  obtain ⟨a', cap', b, off, cs, h1, hle, h3, h4, h5⟩ := h
  simp only [Value.slice.injEq] at h1
  obtain ⟨rfl, rfl, rfl⟩ := h1
  have hl : (l.drop n).length = l.length - n := by rw [List.length_drop]
  refine ⟨a2, cap - n, b, off + n * sz, fun i => cs (n + i), by rw [hl], by omega, fun hp => ?_, fun i hi j u hu => ?_, fun i x hx => ?_⟩
  · obtain ⟨e, hs, hb⟩ := h3 (by omega)
    exact ⟨h2 b off e (by omega), hs, hb⟩
  · have := h4 (n + i) (by omega) j u hu
    rw [show off + n * sz + i * sz + j = off + (n + i) * sz + j by rw [Nat.add_mul]; omega]
    exact this
  · rw [List.getElem?_drop] at hx
    exact h5 (n + i) x hx
theorem sl_from (aa : Option Addr) (len ca k : Nat) (hk : k ≤ len) (W : World) : (Instr.sliceAt 22 (.slice aa len ca) (some (.int .i64 (k : Int))) none none).run Tryd.prog W = .ok (.slice (if ca = k then aa else aa.map (·.add (k * 8))) (len - k) (ca - k)) W := by
  have ht : Tryd.prog.underlying 22 = some (.slice (Tryd.prog.elem 22)) := by kernel_rfl
  have hz : ∀ w, (sizeOf (Tryd.prog.elem 22)).run Tryd.prog w = .ok 8 w := fun _ => by kernel_rfl
  rw [run_sliceAt_slice (h := ht), run_slice_l (ht := ht) (h0 := by omega) (h1 := by omega), hz]
  simp [Result.andThen, sliced]
theorem from_at {aa : Option Addr} {ca k : Nat} (b off : Nat) (e : aa = some ⟨b, off, none⟩) (h : k < ca) : (if ca = k then aa else aa.map (·.add (k * 8))) = some ⟨b, off + k * 8, none⟩ := by
  rw [if_neg (by omega), e]
  simp [Addr.add]
theorem allB {l : List Req} (hl : ReqsB l) {k : Nat} (hk : k ≤ l.length) : ReqsB (allK l k) := by
  refine ⟨by rw [allK_len]; have := hl.1; omega, fun x hx => ?_⟩
  obtain ⟨i, hi, rfl⟩ := List.mem_map.1 hx
  have hi := List.mem_range.1 hi
  have := hl.2 _ (List.mem_of_getElem? (at_rq (show i < l.length by omega)))
  exact this
theorem wOrd_keyS (r : Req) (n : Int) (h : FewR r) : (keyS (wOrd r n)).length ≤ 1048576 := few_key (r := wOrd r n) h
theorem allKeys {l : List Req} (hf : FewP l) {k : Nat} (hk : k ≤ l.length) : ∀ x ∈ allK l k, (keyS x).length ≤ 1048576 := fun x hx => by
  obtain ⟨i, hi, rfl⟩ := List.mem_map.1 hx
  have hi := List.mem_range.1 hi
  exact wOrd_keyS _ _ (hf.2 _ (List.mem_of_getElem? (at_rq (show i < l.length by omega))))
set_option maxHeartbeats 8000000 in
set_option maxRecDepth 100000 in
theorem MatchOrd_walk (l : List Req) (n : Int) (v : Value) (w0 : World) (ht : TabR w0) (hl : ReqsB l) (hR : ReqsR (fun _ => True) w0 l v) :
    Calls Tryd.prog 6 #[v, iv n] w0 fun e w' => e = .returned (.bool true) ∧ Below w0.heap.size w0 w' := by
  obtain ⟨a, c, rfl, -⟩ := hR.slice
  have hln := hl.1
  replace hR := hid (hR.mono goodReq (T := fun k => k < w0.heap.size) fun k hk _ => hk)
  replace ht := hid ht
  replace hl := hid hl
  go_enter Tryd.func6, Tryd.ntmps6
  go_wp2_with fail
  refine (small_any w0 ht.out).mono ?_
  rintro e w1 ⟨rfl, hb⟩
  have hB1 := hid hb
  clear hb
  go_wp2_with fail
  refine (few_any l hl.out _ _ w1 (hR.out.below goodReq hB1.out)).mono ?_
  rintro e w2 ⟨f, rfl, hf, hb⟩
  have hB2 := hid (hB1.out.trans (hb.mono hB1.out.size))
  clear hb hB1
  cases f with
  | false =>
    clear hf
    go_wp2_with fail
    go_ret
    exact ⟨rfl, hB2.out⟩
  | true =>
    have hF : Hid (FewP l) := hid (hf rfl)
    clear hf
    by_cases hn0 : n < 0
    · have q1 : decide (n < 0) = true := decide_eq_true hn0
      go_wp2_with fail
      go_ret
      exact ⟨rfl, hB2.out⟩
    · have q1 : decide (n < 0) = false := decide_eq_false hn0
      by_cases hnl : n > (l.length : Int)
      · have q2 : decide (n > (l.length : Int)) = true := decide_eq_true hnl
        go_wp2_with fail
        go_ret
        exact ⟨rfl, hB2.out⟩
      · have q2 : decide (n > (l.length : Int)) = false := decide_eq_false hnl
        obtain ⟨m, rfl⟩ : ∃ m : Nat, n = (m : Int) := ⟨n.toNat, by omega⟩
        have hm : m ≤ l.length := by omega
        have q2n : decide (l.length < m) = false := decide_eq_false (by omega)
        clear hn0 hnl
        go_wp2_with fail
        have hsz2 := hB2.out.size
        go_loopw [6, 7] (fun al i wr => ∃ k : Nat, i = .int .i64 k ∧ k ≤ l.length ∧ Hid (RowQ w0.heap.size w2.heap.size wr (allK l k) al) ∧ Hid (Below w2.heap.size w2 wr)) (fun _ i _ => l.length - (intOf i).toNat)
        case atStart => exact ⟨0, rfl, Nat.zero_le _, hid (RowQ.nil _ _ _), hid (Below.refl _ _)⟩
        case round =>
          obtain ⟨k, rfl, hk, hO, hB⟩ := hrel
          by_cases hlt : k < l.length
          · obtain ⟨x, hx⟩ : ∃ x, l[k]? = some x := ⟨_, List.getElem?_eq_getElem hlt⟩
            have hxm := List.mem_of_getElem? hx
            have hxB := hl.out.2 x hxm
            have hqx := rq_at hx
            obtain ⟨g, o, cs, hidx, hS, hg, hc, hr⟩ := ((hR.out.below goodReq hB2.out).below goodReq hB.out).at (P := Tryd.prog) (t := 22) (by kernel_rfl) (fun _ => by kernel_rfl) hx
            obtain ⟨a1, k1, rfl, -⟩ := id hr
            have c0 := hc 0 _ rfl
            have c1 := hc 1 _ rfl
            have c2 := hc 2 _ rfl
            have c3 := hc 3 _ rfl
            have c4 := hc 4 _ rfl
            have c5 := hc 5 _ rfl
            have c6 := hc 6 _ rfl
            have c7 := hc 7 _ rfl
            rw [Nat.add_zero] at c0
            have hbx := heap_alloc_new' wr (.cells (reqCs x (.slice a1 x.args.length k1)).toArray 25 (0, 0))
            have hb1 : Below wr.heap.size wr (wr.alloc (.cells (reqCs x (.slice a1 x.args.length k1)).toArray 25 (0, 0))) := (Below.refl _ wr).alloc (Nat.le_refl _) _
            obtain ⟨aa, ca, rfl, -, -⟩ := hO.out.1.slice
            have hal := allK_len l k
            rw [hal] at hO ⊢
            have hr1 := valsR_of hr
            have hcall := hid (ord_any (allK l k) x.path x.name x.args (allB hl.out (by omega)) hxB.1 _ _ _ _ (wr.alloc (.cells (reqCs x (.slice a1 x.args.length k1)).toArray 25 (0, 0))) (by have h9 := OwnR.sl goodReq ((hO.out.below hb1).1); exact h9) (hr1.below goodVal hb1))
            have hsc := allK_succ l k
            rw [hqx] at hsc
            replace hsc := hid hsc
            replace hr := hid hr
            replace hbx := hid hbx
            replace hb1 := hid hb1
            replace hr1 := hid hr1
            clear hc
            go_wp2_with fail
            refine hcall.out.mono ?_
            rintro e w3 ⟨rfl, hb3⟩
            obtain ⟨oN, hoN⟩ : ∃ oN, oN = ordF (allK l k) x.path x.name x.args := ⟨_, rfl⟩
            rw [← hoN] at hsc ⊢
            replace hoN := hid hoN
            have hrow3 := below_keep hb3 hbx.out (lt_of_some hbx.out)
            have hl3 := lt_of_some hrow3
            have hf3 : w3.frozen? ⟨wr.heap.size, 3, none⟩ = false := free_of hrow3
            have d3 : w3.cell? ⟨wr.heap.size, 3, none⟩ = some (iv x.ord) := (cell_of (i := 3) hrow3).trans rfl
            have hrow4 : (w3.setCell ⟨wr.heap.size, 3, none⟩ (iv oN)).heap[wr.heap.size]? = some (.cells (reqCs (wOrd x oN) (.slice a1 x.args.length k1)).toArray 25 (0, 0)) := heap_setCell_same hrow3 _
            have hb4 : Below wr.heap.size wr (w3.setCell ⟨wr.heap.size, 3, none⟩ (iv oN)) := (hb1.out.trans (hb3.mono hb1.out.size)).setCell (Nat.le_refl _) _
            have hO4 := hO.out.below hb4
            have hr4 : ReqR (fun q => q < w0.heap.size) (w3.setCell ⟨wr.heap.size, 3, none⟩ (iv oN)) (wOrd x oN) (reqCs (wOrd x oN) (.slice a1 x.args.length k1)) := reqR_shut (o := wOrd x oN) (hr1.out.below goodVal hb4)
            have hBw4 := hB.out.trans (hb4.mono hB.out.size)
            obtain ⟨a5, c5', W3, hap, hO5, hF5⟩ := push_req (w3.setCell ⟨wr.heap.size, 3, none⟩ (iv oN)) (allK l k) (wOrd x oN) aa ca a1 k1 w0.heap.size w2.heap.size hsz2 hBw4.size (by rw [hal]; omega) (by rw [hal]; exact hO4) hr4
            rw [hal] at hap hO5
            rw [← hsc.out] at hO5
            have hB5 := hid (hBw4.trans hF5)
            replace hO5 := hid hO5
            clear hcall hb3 hbx hb1 hr hr1 hO4 hr4 hBw4 hF5 hidx c0 c1 c2 c3 c4 c5 c6 c7 hb4
            have e0 : (w3.setCell ⟨wr.heap.size, 3, none⟩ (iv oN)).cell? ⟨wr.heap.size, 0, none⟩ = some (sv x.path) := (cell_of (i := 0) hrow4).trans rfl
            have e1 : (w3.setCell ⟨wr.heap.size, 3, none⟩ (iv oN)).cell? ⟨wr.heap.size, 1, none⟩ = some (sv x.name) := (cell_of (i := 1) hrow4).trans rfl
            have e2 : (w3.setCell ⟨wr.heap.size, 3, none⟩ (iv oN)).cell? ⟨wr.heap.size, 2, none⟩ = some (.slice a1 x.args.length k1) := (cell_of (i := 2) hrow4).trans rfl
            have e3 : (w3.setCell ⟨wr.heap.size, 3, none⟩ (iv oN)).cell? ⟨wr.heap.size, 3, none⟩ = some (iv oN) := (cell_of (i := 3) hrow4).trans rfl
            have e4 : (w3.setCell ⟨wr.heap.size, 3, none⟩ (iv oN)).cell? ⟨wr.heap.size, 4, none⟩ = some (sv x.reply) := (cell_of (i := 4) hrow4).trans rfl
            have e5 : (w3.setCell ⟨wr.heap.size, 3, none⟩ (iv oN)).cell? ⟨wr.heap.size, 5, none⟩ = some (iv x.sent) := (cell_of (i := 5) hrow4).trans rfl
            have e6 : (w3.setCell ⟨wr.heap.size, 3, none⟩ (iv oN)).cell? ⟨wr.heap.size, 6, none⟩ = some (iv x.tick) := (cell_of (i := 6) hrow4).trans rfl
            have e7 : (w3.setCell ⟨wr.heap.size, 3, none⟩ (iv oN)).cell? ⟨wr.heap.size, 7, none⟩ = some (.bool x.opn) := (cell_of (i := 7) hrow4).trans rfl
            obtain ⟨w4, hw4⟩ : ∃ w4, w4 = w3.setCell ⟨wr.heap.size, 3, none⟩ (iv oN) := ⟨_, rfl⟩
            rw [← hw4] at hap hrow4 e0 e1 e2 e3 e4 e5 e6 e7
            replace hw4 := hid hw4
            go_wp2_with (first | (rw [← hw4.out]) | (at_builtin; refine wpList_append_shut rfl (.tmp 48) (.tmp 50) rfl rfl rfl hap ?_))
            refine ⟨?_, by simp [intOf]; omega⟩
            repeat (first | exact ⟨⟨k + 1, by go_num, by omega, hO5, hB5⟩, rfl⟩ | exact ⟨k + 1, by go_num, by omega, hO5, hB5⟩ | apply Exists.intro)
          · obtain rfl : k = l.length := by omega
            clear hlt hk
            go_wp2_with fail
            rename World => wA
            obtain ⟨aa, ca, rfl, -, -⟩ := hO.out.1.slice
            have hXl := allK_len l l.length
            obtain ⟨X, hX⟩ : ∃ X, X = allK l l.length := ⟨_, rfl⟩
            have hXB : ReqsB X := by rw [hX]; exact allB hl.out (Nat.le_refl _)
            have hXK : ∀ x ∈ X, (keyS x).length ≤ 1048576 := by rw [hX]; exact allKeys hF.out (Nat.le_refl _)
            rw [← hX] at hO hXl ⊢
            rw [hXl] at hO ⊢
            have hXs := hid (show SlR 8 ReqR (fun _ => True) wA X (.slice aa l.length ca) by
              have h9 := OwnR.sl goodReq hO.out.1
              exact h9.mono goodReq fun _ _ _ => trivial)
            have hBA := hid (hB2.out.trans (hB.out.mono hsz2))
            replace hX := hid hX
            replace hXB := hid hXB
            replace hXK := hid hXK
            clear hO hB hB2
            go_wp2_with fail
            go_loopw [9] (fun i w' => ∃ k : Nat, i = .int .i64 k ∧ k ≤ l.length ∧ Hid (Below wA.heap.size wA w')) (fun i _ => l.length - (intOf i).toNat)
            case atStart => exact ⟨0, rfl, Nat.zero_le _, hid (Below.refl _ _)⟩
            case round =>
              obtain ⟨k, rfl, hk, hB⟩ := hrel
              have hX2 := hid (hXs.out.below goodReq hB.out)
              by_cases hlt : k < l.length
              · obtain ⟨y, hy⟩ : ∃ y, X[k]? = some y := ⟨_, List.getElem?_eq_getElem (by omega)⟩
                have hyB := hXB.out.2 y (List.mem_of_getElem? hy)
                obtain ⟨g, o, cs, hidx, -, hg, hc, hr⟩ := hX2.out.at (P := Tryd.prog) (t := 22) (by kernel_rfl) (fun _ => by kernel_rfl) hy
                have hfi : findF X y.path y.name y.args y.ord = some k := by
                  have h1 := hX.out
                  have h2 := all_find l hlt
                  have h3 := (allK_at hlt).symm.trans (h1 ▸ hy)
                  injection h3 with h3
                  rw [h1, ← h3]
                  exact h2
                obtain ⟨a1, k1, rfl, hva⟩ := id hr
                have c0 := hc 0 _ rfl
                have c1 := hc 1 _ rfl
                have c2 := hc 2 _ rfl
                have c3 := hc 3 _ rfl
                rw [Nat.add_zero] at c0
                replace hva := hid hva
                replace hfi := hid hfi
                clear hc hr
                go_wp2_with fail
                refine wp_region_held_drew (S := (fun w9 => Below wr.heap.size wr w9)) (by kernel_rfl) ?_ (fun hHeld => ?_)
                · exact (Below.refl _ _).drew
                generalize wr.drew = wd at *
                refine wpAnyH_take (i := 0) (oi := ⟨_, _, _, _, _, _⟩) (v := ?_) rfl (by kernel_rfl) (by kernel_rfl) (by kernel_rfl) (fun _ _ _ h => h) (Or.inl ⟨by rfl, ?hy⟩) (by assumption) ?_
                case hy =>
                  intro w hSw
                  skip
                  go_simp
                  all_goals with_reducible rfl
                try simp only [Act.put, List.setIfInBounds_toArray, List.set_cons_zero, List.set_cons_succ]
                refine wpAnyH_take (i := 1) (oi := ⟨_, _, _, _, _, _⟩) (v := ?_) rfl (by kernel_rfl) (by kernel_rfl) (by kernel_rfl) (fun _ _ _ h => h) (Or.inl ⟨by rfl, ?hy⟩) (by assumption) ?_
                case hy =>
                  intro w hSw
                  skip
                  go_simp
                  all_goals with_reducible rfl
                try simp only [Act.put, List.setIfInBounds_toArray, List.set_cons_zero, List.set_cons_succ]
                refine wpAnyH_take (i := 2) (oi := ⟨_, _, _, _, _, _⟩) (v := ?_) rfl (by kernel_rfl) (by kernel_rfl) (by kernel_rfl) (fun _ _ _ h => h) (Or.inl ⟨by rfl, ?hy⟩) (by assumption) ?_
                case hy =>
                  intro w hSw
                  skip
                  go_simp
                  all_goals with_reducible rfl
                try simp only [Act.put, List.setIfInBounds_toArray, List.set_cons_zero, List.set_cons_succ]
                refine wpAnyH_take (i := 3) (oi := ⟨_, _, _, _, _, _⟩) (v := ?_) rfl (by kernel_rfl) (by kernel_rfl) (by kernel_rfl) (fun _ _ _ h => h) (Or.inl ⟨by rfl, ?hy⟩) (by assumption) ?_
                case hy =>
                  intro w hSw
                  skip
                  go_simp
                  all_goals with_reducible rfl
                try simp only [Act.put, List.setIfInBounds_toArray, List.set_cons_zero, List.set_cons_succ]
                refine wpAnyH_take (i := 4) (oi := ⟨_, _, _, _, _, _⟩) (v := ?_) rfl (by kernel_rfl) (by kernel_rfl) (by kernel_rfl) (fun _ _ _ h => h) (Or.inl ⟨by rfl, ?hy⟩) (by assumption) ?_
                case hy =>
                  intro w hSw
                  skip
                  go_simp
                  all_goals with_reducible rfl
                try simp only [Act.put, List.setIfInBounds_toArray, List.set_cons_zero, List.set_cons_succ]
                refine wpAnyH_take (i := 5) (oi := ⟨_, _, _, _, _, _⟩) (v := ?_) rfl (by kernel_rfl) (by kernel_rfl) (by kernel_rfl) (fun _ _ _ h => h) (Or.inl ⟨by rfl, ?hy⟩) (by assumption) ?_
                case hy =>
                  intro w hSw
                  have c0 : w.cell? ⟨g, o, none⟩ = some (sv y.path) := (hSw.cell (p := ⟨g, o, none⟩) hg).trans c0
                  go_simp
                  all_goals with_reducible rfl
                try simp only [Act.put, List.setIfInBounds_toArray, List.set_cons_zero, List.set_cons_succ]
                refine wpAnyH_take (i := 6) (oi := ⟨_, _, _, _, _, _⟩) (v := ?_) rfl (by kernel_rfl) (by kernel_rfl) (by kernel_rfl) (fun _ _ _ h => h) (Or.inl ⟨by rfl, ?hy⟩) (by assumption) ?_
                case hy =>
                  intro w hSw
                  skip
                  go_simp
                  all_goals with_reducible rfl
                try simp only [Act.put, List.setIfInBounds_toArray, List.set_cons_zero, List.set_cons_succ]
                refine wpAnyH_take (i := 7) (oi := ⟨_, _, _, _, _, _⟩) (v := ?_) rfl (by kernel_rfl) (by kernel_rfl) (by kernel_rfl) (fun _ _ _ h => h) (Or.inl ⟨by rfl, ?hy⟩) (by assumption) ?_
                case hy =>
                  intro w hSw
                  skip
                  go_simp
                  all_goals with_reducible rfl
                try simp only [Act.put, List.setIfInBounds_toArray, List.set_cons_zero, List.set_cons_succ]
                refine wpAnyH_take (i := 8) (oi := ⟨_, _, _, _, _, _⟩) (v := ?_) rfl (by kernel_rfl) (by kernel_rfl) (by kernel_rfl) (fun _ _ _ h => h) (Or.inl ⟨by rfl, ?hy⟩) (by assumption) ?_
                case hy =>
                  intro w hSw
                  skip
                  go_simp
                  all_goals with_reducible rfl
                try simp only [Act.put, List.setIfInBounds_toArray, List.set_cons_zero, List.set_cons_succ]
                refine wpAnyH_take (i := 9) (oi := ⟨_, _, _, _, _, _⟩) (v := ?_) rfl (by kernel_rfl) (by kernel_rfl) (by kernel_rfl) (fun _ _ _ h => h) (Or.inl ⟨by rfl, ?hy⟩) (by assumption) ?_
                case hy =>
                  intro w hSw
                  skip
                  go_simp
                  all_goals with_reducible rfl
                try simp only [Act.put, List.setIfInBounds_toArray, List.set_cons_zero, List.set_cons_succ]
                refine wpAnyH_take (i := 10) (oi := ⟨_, _, _, _, _, _⟩) (v := ?_) rfl (by kernel_rfl) (by kernel_rfl) (by kernel_rfl) (fun _ _ _ h => h) (Or.inl ⟨by rfl, ?hy⟩) (by assumption) ?_
                case hy =>
                  intro w hSw
                  have c1 : w.cell? ⟨g, o + 1, none⟩ = some (sv y.name) := (hSw.cell (p := ⟨g, o + 1, none⟩) hg).trans c1
                  go_simp
                  all_goals with_reducible rfl
                try simp only [Act.put, List.setIfInBounds_toArray, List.set_cons_zero, List.set_cons_succ]
                refine wpAnyH_take (i := 11) (oi := ⟨_, _, _, _, _, _⟩) (v := ?_) rfl (by kernel_rfl) (by kernel_rfl) (by kernel_rfl) (fun _ _ _ h => h) (Or.inl ⟨by rfl, ?hy⟩) (by assumption) ?_
                case hy =>
                  intro w hSw
                  skip
                  go_simp
                  all_goals with_reducible rfl
                try simp only [Act.put, List.setIfInBounds_toArray, List.set_cons_zero, List.set_cons_succ]
                refine wpAnyH_take (i := 12) (oi := ⟨_, _, _, _, _, _⟩) (v := ?_) rfl (by kernel_rfl) (by kernel_rfl) (by kernel_rfl) (fun _ _ _ h => h) (Or.inl ⟨by rfl, ?hy⟩) (by assumption) ?_
                case hy =>
                  intro w hSw
                  skip
                  go_simp
                  all_goals with_reducible rfl
                try simp only [Act.put, List.setIfInBounds_toArray, List.set_cons_zero, List.set_cons_succ]
                refine wpAnyH_take (i := 13) (oi := ⟨_, _, _, _, _, _⟩) (v := ?_) rfl (by kernel_rfl) (by kernel_rfl) (by kernel_rfl) (fun _ _ _ h => h) (Or.inl ⟨by rfl, ?hy⟩) (by assumption) ?_
                case hy =>
                  intro w hSw
                  skip
                  go_simp
                  all_goals with_reducible rfl
                try simp only [Act.put, List.setIfInBounds_toArray, List.set_cons_zero, List.set_cons_succ]
                refine wpAnyH_take (i := 14) (oi := ⟨_, _, _, _, _, _⟩) (v := ?_) rfl (by kernel_rfl) (by kernel_rfl) (by kernel_rfl) (fun _ _ _ h => h) (Or.inl ⟨by rfl, ?hy⟩) (by assumption) ?_
                case hy =>
                  intro w hSw
                  skip
                  go_simp
                  all_goals with_reducible rfl
                try simp only [Act.put, List.setIfInBounds_toArray, List.set_cons_zero, List.set_cons_succ]
                refine wpAnyH_take (i := 15) (oi := ⟨_, _, _, _, _, _⟩) (v := ?_) rfl (by kernel_rfl) (by kernel_rfl) (by kernel_rfl) (fun _ _ _ h => h) (Or.inl ⟨by rfl, ?hy⟩) (by assumption) ?_
                case hy =>
                  intro w hSw
                  have c2 : w.cell? ⟨g, o + 2, none⟩ = some (.slice a1 y.args.length k1) := (hSw.cell (p := ⟨g, o + 2, none⟩) hg).trans c2
                  go_simp
                  all_goals with_reducible rfl
                try simp only [Act.put, List.setIfInBounds_toArray, List.set_cons_zero, List.set_cons_succ]
                refine wpAnyH_take (i := 16) (oi := ⟨_, _, _, _, _, _⟩) (v := ?_) rfl (by kernel_rfl) (by kernel_rfl) (by kernel_rfl) (fun _ _ _ h => h) (Or.inl ⟨by rfl, ?hy⟩) (by assumption) ?_
                case hy =>
                  intro w hSw
                  skip
                  go_simp
                  all_goals with_reducible rfl
                try simp only [Act.put, List.setIfInBounds_toArray, List.set_cons_zero, List.set_cons_succ]
                refine wpAnyH_take (i := 17) (oi := ⟨_, _, _, _, _, _⟩) (v := ?_) rfl (by kernel_rfl) (by kernel_rfl) (by kernel_rfl) (fun _ _ _ h => h) (Or.inl ⟨by rfl, ?hy⟩) (by assumption) ?_
                case hy =>
                  intro w hSw
                  skip
                  go_simp
                  all_goals with_reducible rfl
                try simp only [Act.put, List.setIfInBounds_toArray, List.set_cons_zero, List.set_cons_succ]
                refine wpAnyH_take (i := 18) (oi := ⟨_, _, _, _, _, _⟩) (v := ?_) rfl (by kernel_rfl) (by kernel_rfl) (by kernel_rfl) (fun _ _ _ h => h) (Or.inl ⟨by rfl, ?hy⟩) (by assumption) ?_
                case hy =>
                  intro w hSw
                  skip
                  go_simp
                  all_goals with_reducible rfl
                try simp only [Act.put, List.setIfInBounds_toArray, List.set_cons_zero, List.set_cons_succ]
                refine wpAnyH_take (i := 19) (oi := ⟨_, _, _, _, _, _⟩) (v := ?_) rfl (by kernel_rfl) (by kernel_rfl) (by kernel_rfl) (fun _ _ _ h => h) (Or.inl ⟨by rfl, ?hy⟩) (by assumption) ?_
                case hy =>
                  intro w hSw
                  skip
                  go_simp
                  all_goals with_reducible rfl
                try simp only [Act.put, List.setIfInBounds_toArray, List.set_cons_zero, List.set_cons_succ]
                refine wpAnyH_take (i := 20) (oi := ⟨_, _, _, _, _, _⟩) (v := ?_) rfl (by kernel_rfl) (by kernel_rfl) (by kernel_rfl) (fun _ _ _ h => h) (Or.inl ⟨by rfl, ?hy⟩) (by assumption) ?_
                case hy =>
                  intro w hSw
                  have c3 : w.cell? ⟨g, o + 3, none⟩ = some (iv y.ord) := (hSw.cell (p := ⟨g, o + 3, none⟩) hg).trans c3
                  go_simp
                  all_goals with_reducible rfl
                try simp only [Act.put, List.setIfInBounds_toArray, List.set_cons_zero, List.set_cons_succ]
                refine wpAnyH_ready (rs := [21]) (by kernel_rfl) (by simp) ?_
                refine AllReadyH.cons (o := ⟨_, _, _, _, _, _⟩) rfl (fun K hK => ?_) AllReadyH.nil
                go_simp
                go_at_call 9
                refine (find_any X y.path y.name y.args y.ord hXB.out hyB.1 _ _ _ _ wd (hX2.out.below goodReq hHeld) (hva.out.below goodVal hHeld)).mono ?_
                rintro e w4 ⟨rfl, hb⟩
                rw [show findV (findF X y.path y.name y.args y.ord) = .tuple #[iv k, .bool true] by rw [hfi.out]; rfl]
                have hZ := hHeld.trans (hb.mono hHeld.size)
                refine hK.out _ _ ?_ (fun hHeld2 => ?_)
                · exact hZ
                clear hK K
                clear hHeld
                have hHeld := hHeld2
                clear hHeld2
                try simp only [Act.put, List.setIfInBounds_toArray, List.set_cons_zero, List.set_cons_succ]
                refine wpAnyH_take (i := 22) (oi := ⟨_, _, _, _, _, _⟩) (v := ?_) rfl (by kernel_rfl) (by kernel_rfl) (by kernel_rfl) (fun _ _ _ h => h) (Or.inl ⟨by rfl, ?hy⟩) (by assumption) ?_
                case hy =>
                  intro w hSw
                  skip
                  go_simp
                  all_goals with_reducible rfl
                try simp only [Act.put, List.setIfInBounds_toArray, List.set_cons_zero, List.set_cons_succ]
                refine wpAnyH_take (i := 23) (oi := ⟨_, _, _, _, _, _⟩) (v := ?_) rfl (by kernel_rfl) (by kernel_rfl) (by kernel_rfl) (fun _ _ _ h => h) (Or.inl ⟨by rfl, ?hy⟩) (by assumption) ?_
                case hy =>
                  intro w hSw
                  skip
                  go_simp
                  all_goals with_reducible rfl
                try simp only [Act.put, List.setIfInBounds_toArray, List.set_cons_zero, List.set_cons_succ]
                refine wpAnyH_take (i := 24) (oi := ⟨_, _, _, _, _, _⟩) (v := ?_) rfl (by kernel_rfl) (by kernel_rfl) (by kernel_rfl) (fun _ _ _ h => h) (Or.inl ⟨by rfl, ?hy⟩) (by assumption) ?_
                case hy =>
                  intro w hSw
                  skip
                  go_simp
                  all_goals with_reducible rfl
                try simp only [Act.put, List.setIfInBounds_toArray, List.set_cons_zero, List.set_cons_succ]
                refine wpAnyH_take (i := 25) (oi := ⟨_, _, _, _, _, _⟩) (v := ?_) rfl (by kernel_rfl) (by kernel_rfl) (by kernel_rfl) (fun _ _ _ h => h) (Or.inl ⟨by rfl, ?hy⟩) (by assumption) ?_
                case hy =>
                  intro w hSw
                  skip
                  go_simp
                  all_goals with_reducible rfl
                try simp only [Act.put, List.setIfInBounds_toArray, List.set_cons_zero, List.set_cons_succ]
                refine wpAnyH_take (i := 26) (oi := ⟨_, _, _, _, _, _⟩) (v := ?_) rfl (by kernel_rfl) (by kernel_rfl) (by kernel_rfl) (fun _ _ _ h => h) (Or.inl ⟨by rfl, ?hy⟩) (by assumption) ?_
                case hy =>
                  intro w hSw
                  skip
                  go_simp
                  all_goals with_reducible rfl
                try simp only [Act.put, List.setIfInBounds_toArray, List.set_cons_zero, List.set_cons_succ]
                refine wpAnyH_done (by kernel_rfl) ?_ _
                have hB4 := hid (hB.out.trans (hHeld.mono hB.out.size))
                clear hHeld
                go_wp2_with fail
                refine ⟨?_, by simp [intOf]; omega⟩
                repeat (first | exact ⟨⟨k + 1, by go_num, by omega, hB4⟩, rfl⟩ | exact ⟨k + 1, by go_num, by omega, hB4⟩ | apply Exists.intro)
              · obtain rfl : k = l.length := by omega
                clear hlt hk
                have hT3 := hid (ht.out.below (hBA.out.trans (hB.out.mono hBA.out.size)) (Nat.le_refl _))
                have htk := hid (SlR.take hX2.out m (by omega))
                have hcl : l.length ≤ ca := by obtain ⟨_, _, h9, h8⟩ := hX2.out.slice; injection h9 with _ _ h9; omega
                have hcm : m ≤ ca := by obtain ⟨_, _, h9, h8⟩ := hX2.out.slice; injection h9 with _ _ h9; omega
                have hXtB : ReqsB (X.take m) := ⟨by rw [List.length_take]; omega, fun x hx => hXB.out.2 x (List.mem_of_mem_take hx)⟩
                have hpairs := hid (fun W (hW : Below wr.heap.size wr W) => pairs_any X (X.take m) hXB.out hXtB hXK.out (fun x hx => hXK.out x (List.mem_of_mem_take hx)) _ _ (.slice aa l.length ca) (.slice aa m ca) W (hT3.out.below hW (Nat.le_refl _)) (hX2.out.below goodReq hW) (htk.out.below goodReq hW))
                have hpe : pairsF X (X.take m) X.length = (List.range m).map fun i => (i, i) := by
                  rw [hX.out, allK_len, all_pairs l hm l.length (Nat.le_refl _), show min l.length m = m by omega]
                rename World => wB
                go_wp2_with fail
                refine (hpairs.out _ (Below.refl _ _)).mono ?_
                rintro e w5 ⟨vp, rfl, hP, hb5⟩
                rw [hpe] at hP
                obtain ⟨ap, cp, rfl, -, -⟩ := hP.slice
                have hpl : ((List.range m).map fun i => (i, i)).length = m := by simp
                rw [hpl] at hP ⊢
                have hPs := hid (OwnR.sl goodPair hP)
                have hb5' := hid hb5
                have hBz := hid ((hBA.out.trans (hB.out.mono hBA.out.size)).trans (hb5.mono (hBA.out.trans (hB.out.mono hBA.out.size)).size))
                clear hP hb5 hpe hpl hpairs
                go_wp2_with fail
                go_loopw [13] (fun i w' => ∃ k : Nat, i = .int .i64 k ∧ k ≤ m ∧ Hid (Below w5.heap.size w5 w')) (fun i _ => m - (intOf i).toNat)
                case atStart => exact ⟨0, rfl, Nat.zero_le _, hid (Below.refl _ _)⟩
                case round =>
                  obtain ⟨k, rfl, hk, hB6⟩ := hrel
                  by_cases hlt : k < m
                  · have hy : ((List.range m).map fun i => (i, i))[k]? = some (k, k) := by rw [List.getElem?_map, List.getElem?_range hlt]; rfl
                    obtain ⟨g, o, cs, hidx, -, hg, hc, hr⟩ := (hPs.out.below goodPair hB6.out).at (P := Tryd.prog) (t := 34) (by kernel_rfl) (fun _ => by kernel_rfl) hy
                    have hr' : cs = [iv k, iv k] := hr
                    subst hr'
                    have c0 := hc 0 _ rfl
                    have c1 := hc 1 _ rfl
                    rw [Nat.add_zero] at c0
                    have he := pr_equal wr (k : Int) (k : Int) (k : Int) (k : Int)
                    clear hc hr
                    go_wp2_with fail
                    refine ⟨?_, by simp [intOf]; omega⟩
                    repeat (first | exact ⟨⟨k + 1, by go_num, by omega, hB6⟩, rfl⟩ | exact ⟨k + 1, by go_num, by omega, hB6⟩ | apply Exists.intro)
                  · obtain rfl : k = m := by omega
                    have hok : onlyF X (X.take k) X.length = X.drop k := by
                      rw [hX.out, allK_len, all_only l hm l.length (Nat.le_refl _), ← hX.out, List.take_of_length_le (by rw [hXl]; exact Nat.le_refl _)]
                    have honly := hid (fun W (hW : Below wB.heap.size wB W) => only_any X (X.take k) hXB.out hXtB hXK.out (fun x hx => hXK.out x (List.mem_of_mem_take hx)) _ _ (.slice aa l.length ca) (.slice aa k ca) W (hT3.out.below hW (Nat.le_refl _)) (hX2.out.below goodReq hW) (htk.out.below goodReq hW))
                    have hXdB : ReqsB (X.drop k) := ⟨by rw [List.length_drop]; omega, fun x hx => hXB.out.2 x (List.mem_of_mem_drop hx)⟩
                    have hbw : Below wB.heap.size wB wr := hb5'.out.trans (hB6.out.mono hb5'.out.size)
                    have hdl : (X.drop k).length = l.length - k := by rw [List.length_drop, hXl]
                    replace hok := hid hok
                    replace hdl := hid hdl
                    go_wp2_with fail
                    refine wp_region_held_drew (S := (fun w9 => Below wr.heap.size wr w9)) (by kernel_rfl) ?_ (fun hHeld => ?_)
                    · exact (Below.refl _ _).drew
                    generalize wr.drew = wd at *
                    obtain ⟨a2, ha2⟩ : ∃ a2, a2 = (if ca = k then aa else aa.map (·.add (k * 8))) := ⟨_, rfl⟩
                    have hsl := fun W => sl_from aa l.length ca k (by omega) W
                    rw [← ha2] at hsl
                    replace ha2 := hid ha2
                    refine wpAnyH_take (i := 0) (oi := ⟨_, _, _, _, _, _⟩) (v := ?_) rfl (by kernel_rfl) (by kernel_rfl) (by kernel_rfl) (fun _ _ _ h => h) (Or.inl ⟨by rfl, ?hy⟩) (by assumption) ?_
                    case hy =>
                      intro w hSw
                      skip
                      go_simp
                      all_goals with_reducible rfl
                    try simp only [Act.put, List.setIfInBounds_toArray, List.set_cons_zero, List.set_cons_succ]
                    refine wpAnyH_take (i := 1) (oi := ⟨_, _, _, _, _, _⟩) (v := ?_) rfl (by kernel_rfl) (by kernel_rfl) (by kernel_rfl) (fun _ _ _ h => h) (Or.inl ⟨by rfl, ?hy⟩) (by assumption) ?_
                    case hy =>
                      intro w hSw
                      skip
                      go_simp
                      all_goals with_reducible rfl
                    try simp only [Act.put, List.setIfInBounds_toArray, List.set_cons_zero, List.set_cons_succ]
                    refine wpAnyH_take (i := 2) (oi := ⟨_, _, _, _, _, _⟩) (v := ?_) rfl (by kernel_rfl) (by kernel_rfl) (by kernel_rfl) (fun _ _ _ h => h) (Or.inl ⟨by rfl, ?hy⟩) (by assumption) ?_
                    case hy =>
                      intro w hSw
                      skip
                      go_simp
                      all_goals with_reducible rfl
                    try simp only [Act.put, List.setIfInBounds_toArray, List.set_cons_zero, List.set_cons_succ]
                    refine wpAnyH_take (i := 3) (oi := ⟨_, _, _, _, _, _⟩) (v := ?_) rfl (by kernel_rfl) (by kernel_rfl) (by kernel_rfl) (fun _ _ _ h => h) (Or.inl ⟨by rfl, ?hy⟩) (by assumption) ?_
                    case hy =>
                      intro w hSw
                      skip
                      go_simp
                      all_goals with_reducible rfl
                    try simp only [Act.put, List.setIfInBounds_toArray, List.set_cons_zero, List.set_cons_succ]
                    refine wpAnyH_take (i := 4) (oi := ⟨_, _, _, _, _, _⟩) (v := ?_) rfl (by kernel_rfl) (by kernel_rfl) (by kernel_rfl) (fun _ _ _ h => h) (Or.inl ⟨by rfl, ?hy⟩) (by assumption) ?_
                    case hy =>
                      intro w hSw
                      skip
                      go_simp
                      all_goals with_reducible rfl
                    try simp only [Act.put, List.setIfInBounds_toArray, List.set_cons_zero, List.set_cons_succ]
                    refine wpAnyH_take (i := 5) (oi := ⟨_, _, _, _, _, _⟩) (v := ?_) rfl (by kernel_rfl) (by kernel_rfl) (by kernel_rfl) (fun _ _ _ h => h) (Or.inl ⟨by rfl, ?hy⟩) (by assumption) ?_
                    case hy =>
                      intro w hSw
                      skip
                      go_simp
                      all_goals with_reducible rfl
                    try simp only [Act.put, List.setIfInBounds_toArray, List.set_cons_zero, List.set_cons_succ]
                    refine wpAnyH_take (i := 7) (oi := ⟨_, _, _, _, _, _⟩) (v := ?_) rfl (by kernel_rfl) (by kernel_rfl) (by kernel_rfl) (fun _ _ _ h => h) (Or.inl ⟨by rfl, ?hy⟩) (by assumption) ?_
                    case hy =>
                      intro w hSw
                      skip
                      go_simp
                      all_goals with_reducible rfl
                    try simp only [Act.put, List.setIfInBounds_toArray, List.set_cons_zero, List.set_cons_succ]
                    refine wpAnyH_take (i := 8) (oi := ⟨_, _, _, _, _, _⟩) (v := ?_) rfl (by kernel_rfl) (by kernel_rfl) (by kernel_rfl) (fun _ _ _ h => h) (Or.inl ⟨by rfl, ?hy⟩) (by assumption) ?_
                    case hy =>
                      intro w hSw
                      skip
                      go_simp
                      all_goals with_reducible rfl
                    try simp only [Act.put, List.setIfInBounds_toArray, List.set_cons_zero, List.set_cons_succ]
                    refine wpAnyH_take (i := 9) (oi := ⟨_, _, _, _, _, _⟩) (v := ?_) rfl (by kernel_rfl) (by kernel_rfl) (by kernel_rfl) (fun _ _ _ h => h) (Or.inl ⟨by rfl, ?hy⟩) (by assumption) ?_
                    case hy =>
                      intro w hSw
                      skip
                      go_simp
                      all_goals with_reducible rfl
                    try simp only [Act.put, List.setIfInBounds_toArray, List.set_cons_zero, List.set_cons_succ]
                    refine wpAnyH_ready (rs := [6]) (by kernel_rfl) (by simp) ?_
                    refine AllReadyH.cons (o := ⟨_, _, _, _, _, _⟩) rfl (fun K hK => ?_) AllReadyH.nil
                    go_simp
                    go_at_call 21
                    refine (honly.out wd (hbw.trans (hHeld.mono hbw.size))).mono ?_
                    rintro e w6 ⟨v6, rfl, hO6, hb⟩
                    rw [hok.out] at hO6
                    obtain ⟨a6, c6, rfl, -, -⟩ := hO6.slice
                    have hOs := hid (OwnR.sl goodReq hO6)
                    rw [hdl.out]
                    have hZ := hHeld.trans (hb.mono hHeld.size)
                    refine hK.out _ _ ?_ (fun hHeld2 => ?_)
                    · exact hZ
                    clear hK K
                    clear hHeld
                    have hHeld := hHeld2
                    clear hHeld2
                    try simp only [Act.put, List.setIfInBounds_toArray, List.set_cons_zero, List.set_cons_succ]
                    refine wpAnyH_ready (rs := [10]) (by kernel_rfl) (by simp) ?_
                    refine AllReadyH.cons (o := ⟨_, _, _, _, _, _⟩) rfl (fun K hK => ?_) AllReadyH.nil
                    go_simp
                    go_at_call 20
                    have hdr := SlR.drop (hX2.out.below goodReq (hbw.trans (hHeld.mono hbw.size))) k (by omega) a2 (fun b off e hl => by rw [ha2.out]; exact from_at b off e (by rw [hXl] at hl; omega))
                    rw [hXl] at hdr
                    have hdl2 := hdl.out
                    rw [hdl2] at hOs
                    refine (reqs_any (X.drop k) (X.drop k) _ _ (.slice a6 (l.length - k) c6) (.slice a2 (l.length - k) (ca - k)) w6 hXdB hXdB hOs.out hdr).mono ?_
                    rintro e w7 ⟨rfl, hb⟩
                    rw [dec_true rfl]
                    have hZ := hHeld.trans (hb.mono hHeld.size)
                    refine hK.out _ _ ?_ (fun hHeld2 => ?_)
                    · exact hZ
                    clear hK K
                    clear hHeld
                    have hHeld := hHeld2
                    clear hHeld2
                    try simp only [Act.put, List.setIfInBounds_toArray, List.set_cons_zero, List.set_cons_succ]
                    refine wpAnyH_take (i := 11) (oi := ⟨_, _, _, _, _, _⟩) (v := ?_) rfl (by kernel_rfl) (by kernel_rfl) (by kernel_rfl) (fun _ _ _ h => h) (Or.inl ⟨by rfl, ?hy⟩) (by assumption) ?_
                    case hy =>
                      intro w hSw
                      skip
                      go_simp
                      all_goals with_reducible rfl
                    try simp only [Act.put, List.setIfInBounds_toArray, List.set_cons_zero, List.set_cons_succ]
                    refine wpAnyH_take (i := 12) (oi := ⟨_, _, _, _, _, _⟩) (v := ?_) rfl (by kernel_rfl) (by kernel_rfl) (by kernel_rfl) (fun _ _ _ h => h) (Or.inl ⟨by rfl, ?hy⟩) (by assumption) ?_
                    case hy =>
                      intro w hSw
                      skip
                      go_simp
                      all_goals with_reducible rfl
                    try simp only [Act.put, List.setIfInBounds_toArray, List.set_cons_zero, List.set_cons_succ]
                    refine wpAnyH_done (by kernel_rfl) ?_ _
                    have hBf := hid (hBz.out.trans (hB6.out.mono hBz.out.size))
                    have hBf2 := hid (hBf.out.trans (hHeld.mono hBf.out.size))
                    clear hHeld
                    go_wp2_with fail
                    go_ret
                    exact ⟨rfl, hBf2.out⟩
end Go.Proofs.YtnbhpicmflagcaaDoor
