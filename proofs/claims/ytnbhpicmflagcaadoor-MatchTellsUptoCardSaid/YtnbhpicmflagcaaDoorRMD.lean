/- RMD: RMa, RMb, RMc, RMd, in one text. -/
import Derived.Test.YtnbhpicmflagcaaDoorMatA
import Derived.Test.YtnbhpicmflagcaaDoorMatX
import Derived.Test.YtnbhpicmflagcaaDoorMatR
import Derived.Test.YtnbhpicmflagcaaDoorSlOf
import Derived.Test.YtnbhpicmflagcaaDoorSha3
import Derived.Test.YtnbhpicmflagcaaDoorMatN
import Derived.Test.YtnbhpicmflagcaaDoorMatO
import Derived.Test.YtnbhpicmflagcaaDoorEqPair
import Derived.Deep.RegionHeld3
import Derived.Test.YtnbhpicmflagcaaDoorRVD
import Derived.Test.YtnbhpicmflagcaaDoorMatT
import Derived.Test.YtnbhpicmflagcaaDoorMatI
set_option linter.unusedVariables false
namespace Go.Proofs.YtnbhpicmflagcaaDoor
open Go.RowKit
open Go.Lib (hid)
set_option maxHeartbeats 1000000 in
set_option maxRecDepth 100000 in
theorem rfind_any (l : List Req) (path name : List UInt8) (args : List Val) (ord : Int) (hl : ReqsB l) (ha : ValsB args) (hp : path.length ≤ 1048576) (hn : name.length ≤ 1048576) (S T : Foot) (v va : Value) (w : World) (hR : ReqsR S w l v) (hA : ValsR T w args va) :
    Calls Tryd.prog 10 #[v, sv path, sv name, va, iv ord] w fun e w' => e = .returned (findV (findF l path name args ord)) ∧ Below w.heap.size w w' := by
  obtain ⟨a, c, rfl, -⟩ := hR.slice
  obtain ⟨a', c', rfl, -⟩ := hA.slice
  have hln := hl.1
  have hy := hid (show ReqB ⟨path, name, args, ord, [], 0, 0, false⟩ from ⟨ha, hp, hn, by simp⟩)
  replace hR := hid hR
  replace hA := hid hA
  replace hl := hid hl
  obtain ⟨res, hres⟩ : ∃ res, res = findF l path name args ord := ⟨_, rfl⟩
  rw [← hres]
  replace hres := hid hres
  go_enter Tryd.func10, Tryd.ntmps10
  go_wp2_with fail
  go_loopw [12] (fun i wr => ∃ k : Nat, i = .int .i64 k ∧ k ≤ l.length ∧ Hid (∀ i y, i < k → l[i]? = some y → fitO path name args ord y = false) ∧ Below w.heap.size w wr) (fun i _ => l.length - (intOf i).toNat)
  case atStart => exact ⟨0, rfl, Nat.zero_le _, hid (fun i y h => absurd h (by omega)), Below.refl _ _⟩
  case round =>
    obtain ⟨k, rfl, hk, hn, hB⟩ := hrel
    by_cases hlt : k < l.length
    · obtain ⟨x, hx⟩ : ∃ x, l[k]? = some x := ⟨_, List.getElem?_eq_getElem hlt⟩
      obtain ⟨g, o, cs, hidx, hS, hg, hc, hr⟩ := (hR.out.below goodReq hB).at (P := Tryd.prog) (t := 22) (by kernel_rfl) (fun _ => by kernel_rfl) hx
      have hcall := hid (ralike_any x ⟨path, name, args, ord, [], 0, 0, false⟩ (hl.out.2 x (List.mem_of_getElem? hx)) hy.out S T cs _ wr hr (reqR_shut (o := ⟨path, name, args, ord, [], 0, 0, false⟩) (hA.out.below goodVal hB)))
      obtain ⟨a1, k1, rfl, -⟩ := hr
      have c0 := hc 0 _ rfl
      have c1 := hc 1 _ rfl
      have c2 := hc 2 _ rfl
      have c3 := hc 3 _ rfl
      have c4 := hc 4 _ rfl
      have c5 := hc 5 _ rfl
      have c6 := hc 6 _ rfl
      have c7 := hc 7 _ rfl
      rw [Nat.add_zero] at c0
      clear hc
      replace hx := hid hx
      go_wp2_with fail
      refine hcall.out.mono ?_
      rintro e w2 ⟨rfl, hb2⟩
      have hB2 := hB.trans (hb2.mono hB.size)
      clear c0 c1 c2 c3 c4 c5 c6 c7 hcall hb2 hidx
      have e1 : dec (AlikeP x ⟨path, name, args, ord, [], 0, 0, false⟩) = fitO path name args ord x := rfl
      rw [e1]
      clear e1
      cases hp : fitO path name args ord x with
      | true =>
        have hfin : findF l path name args ord = some k := first_hit hx.out hp hn.out
        rw [← hres.out] at hfin
        replace hfin := hid hfin
        clear hp
        go_wp2_with fail
        go_ret2
        exact ⟨by rw [hfin.out]; rfl, hB2⟩
      | false =>
        have hn2 := hid (hit_next hx.out hp hn.out)
        clear hp
        go_wp2_with fail
        exact ⟨⟨k + 1, by go_num, by omega, hn2, hB2⟩, by simp [intOf]; omega⟩
    · have hkl : k = l.length := by omega
      subst hkl
      have hfin : findF l path name args ord = none := first_miss hn.out
      rw [← hres.out] at hfin
      replace hfin := hid hfin
      go_wp2_with fail
      go_ret2
      exact ⟨by rw [hfin.out]; rfl, hB⟩
set_option maxHeartbeats 1000000 in
set_option maxRecDepth 100000 in
theorem rord_any (l : List Req) (path name : List UInt8) (args : List Val) (hl : ReqsB l) (ha : ValsB args) (S T : Foot) (v va : Value) (w : World) (hR : ReqsR S w l v) (hA : ValsR T w args va) :
    Calls Tryd.prog 14 #[v, sv path, sv name, va] w fun e w' => e = .returned (iv (ordF l path name args)) ∧ Below w.heap.size w w' := by
  obtain ⟨a, c, rfl, -⟩ := hR.slice
  obtain ⟨a', c', rfl, -⟩ := hA.slice
  have hln := hl.1
  replace hR := hid hR
  replace hA := hid hA
  replace hl := hid hl
  replace ha := hid ha
  obtain ⟨res, hres⟩ : ∃ res, res = ordF l path name args := ⟨_, rfl⟩
  rw [← hres]
  replace hres := hid hres
  go_enter Tryd.func14, Tryd.ntmps14
  go_wp2_with fail
  go_loopw [9, 10] (fun n i wr => ∃ k : Nat, i = .int .i64 k ∧ n = iv (((l.take k).countP (fitB path name args) : Nat) : Int) ∧ k ≤ l.length ∧ Below w.heap.size w wr) (fun _ i _ => l.length - (intOf i).toNat)
  case atStart => exact ⟨0, rfl, rfl, Nat.zero_le _, Below.refl _ _⟩
  case round =>
    obtain ⟨k, rfl, rfl, hk, hB⟩ := hrel
    by_cases hlt : k < l.length
    · obtain ⟨x, hx⟩ : ∃ x, l[k]? = some x := ⟨_, List.getElem?_eq_getElem hlt⟩
      obtain ⟨g, o, cs, hidx, hS, hg, hc, hr⟩ := (hR.out.below goodReq hB).at (P := Tryd.prog) (t := 22) (by kernel_rfl) (fun _ => by kernel_rfl) hx
      have hxB := hl.out.2 x (List.mem_of_getElem? hx)
      obtain ⟨a1, k1, rfl, hrv⟩ := hr
      have hcall := hid (rSame_any x.args args hxB.1 ha.out S T _ _ wr hrv (hA.out.below goodVal hB))
      have hle : (l.take k).countP (fitB path name args) ≤ l.length := Nat.le_trans List.countP_le_length (by simp; omega)
      have hnx := hid (count_next (p := fitB path name args) hx)
      have c0 := hc 0 _ rfl
      have c1 := hc 1 _ rfl
      have c2 := hc 2 _ rfl
      rw [Nat.add_zero] at c0
      clear hc hrv
      replace hx := hid hx
      obtain ⟨m, hm⟩ : ∃ m, m = (l.take k).countP (fitB path name args) := ⟨_, rfl⟩
      rw [← hm] at hle ⊢
      have hw : IntKind.i64.wrap ((m : Int) + 1) = (((m + 1 : Nat)) : Int) := by rw [IntKind.wrap_i64]; omega
      rw [← hm] at hnx
      replace hm := hid hm
      by_cases h1 : x.path = path
      · have b1 : (x.path == path) = true := by simpa using h1
        by_cases h2 : x.name = name
        · have b2 : (x.name == name) = true := by simpa using h2
          have he := hid (show dec (x.args = args) = fitB path name args x from (dec_iff (show FitsP x path name args ↔ x.args = args from ⟨fun h => h.2.2, fun h => ⟨h1, h2, h⟩⟩)).symm)
          replace h1 := hid h1
          replace h2 := hid h2
          go_wp2_with fail
          refine hcall.out.mono ?_
          rintro e w2 ⟨rfl, hb2⟩
          have hB2 := hB.trans (hb2.mono hB.size)
          rw [he.out]
          clear c0 c1 c2 hcall hb2 hidx he b1 b2
          cases hp : fitB path name args x with
          | true =>
            rw [hp] at hnx
            clear hp
            go_wp2_with fail
            refine ⟨?_, by simp [intOf]; omega⟩
            repeat (first | exact ⟨⟨k + 1, by go_num, by rw [hnx.out]; rfl, by omega, hB2⟩, rfl⟩ | exact ⟨k + 1, by go_num, by rw [hnx.out]; rfl, by omega, hB2⟩ | apply Exists.intro)
          | false =>
            rw [hp] at hnx
            clear hp
            go_wp2_with fail
            refine ⟨?_, by simp [intOf]; omega⟩
            repeat (first | exact ⟨⟨k + 1, by go_num, by rw [hnx.out]; rfl, by omega, hB2⟩, rfl⟩ | exact ⟨k + 1, by go_num, by rw [hnx.out]; rfl, by omega, hB2⟩ | apply Exists.intro)
        · have b2 : (x.name == name) = false := by simpa using h2
          have hp : fitB path name args x = false := dec_false fun h => h2 h.2.1
          rw [hp] at hnx
          clear hp hcall
          replace h1 := hid h1
          replace h2 := hid h2
          go_wp2_with fail
          refine ⟨?_, by simp [intOf]; omega⟩
          repeat (first | exact ⟨⟨k + 1, by go_num, by rw [hnx.out]; rfl, by omega, hB⟩, rfl⟩ | exact ⟨k + 1, by go_num, by rw [hnx.out]; rfl, by omega, hB⟩ | apply Exists.intro)
      · have b1 : (x.path == path) = false := by simpa using h1
        have hp : fitB path name args x = false := dec_false fun h => h1 h.1
        rw [hp] at hnx
        clear hp hcall
        replace h1 := hid h1
        go_wp2_with fail
        refine ⟨?_, by simp [intOf]; omega⟩
        repeat (first | exact ⟨⟨k + 1, by go_num, by rw [hnx.out]; rfl, by omega, hB⟩, rfl⟩ | exact ⟨k + 1, by go_num, by rw [hnx.out]; rfl, by omega, hB⟩ | apply Exists.intro)
    · have hkl : k = l.length := by omega
      subst hkl
      rw [List.take_length]
      have hfin : l.countP (fitB path name args) = res := hres.out.symm
      rw [hfin]
      clear hfin
      go_wp2_with fail
      go_ret
      exact ⟨rfl, hB⟩
end Go.Proofs.YtnbhpicmflagcaaDoor
namespace Go.Proofs.YtnbhpicmflagcaaDoor
open Go.RowKit
open Go.Lib (hid)
/-- a row of marks -/
def RowB (g n : Nat) (f : Nat → Bool) (W : World) : Prop := W.heap[g]? = some (.cells (arrW n fun j => .bool (f j)) 4 (0, 0))
theorem RowB.at {g n : Nat} {f : Nat → Bool} {W : World} (h : RowB g n f W) {k : Nat} (hk : k < n) : W.cell? ⟨g, k, none⟩ = some (.bool (f k)) := (cell_of h).trans (arr_at _ hk)
theorem RowB.set {g n : Nat} {f f' : Nat → Bool} {W : World} (h : RowB g n f W) (k : Nat) (h1 : f' k = true) (h2 : ∀ j, j < n → j ≠ k → f' j = f j) : RowB g n f' (W.setCell ⟨g, k, none⟩ (.bool true)) := by
  unfold RowB
  rw [← arr_set (fun j => .bool (f j)) k (.bool true) (fun j => .bool (f' j)) (by rw [h1]) (fun j hj hk => by rw [h2 j hj hk])]
  exact heap_setCell_same h _
theorem RowB.below {g n : Nat} {f : Nat → Bool} {W W' : World} (h : RowB g n f W) (hb : Below W.heap.size W W') : RowB g n f W' := below_keep hb h (lt_of_some h)
theorem infoBoolG : (Tryd.prog.info? 4).map (fun i => (i.zero, i.size, i.bytes)) = some (some (.bool false), 1, 1) := by kernel_rfl
set_option maxRecDepth 100000 in
theorem mkB (n : Nat) (hn : n ≤ 1048576) (W : World) : (Instr.makeSlice 39 (.int .i64 (n : Int)) (.int .i64 (n : Int))).run Tryd.prog W = .ok (.slice (some ⟨W.heap.size, 0, none⟩) n n) (W.alloc (.cells (arrW n fun _ => .bool false) 4 (0, 0))) := by
  obtain ⟨i0, hi, hz0, hz1, hz2⟩ := info_parts infoBoolG
  have h := run_make (P := Tryd.prog) W 39 4 i0 _ (by kernel_rfl) hi hz0 .i64 .i64 (n : Int) (n : Int) (by omega) (Int.le_refl _) (by rw [hz2]; omega) (by omega)
  rw [h, Int.toNat_natCast, hz1, Nat.mul_one]
  congr 3
  apply Array.ext_getElem?
  intro j
  by_cases hj : j < n
  · rw [arr_at _ hj]
    simp [madeCells, hj, Value.cells, Nat.mod_one]
  · rw [Array.getElem?_eq_none (by simp [madeCells]; omega), Array.getElem?_eq_none (by rw [arr_size]; omega)]
theorem idxB (g n k : Nat) (hk : k < n) (kd : IntKind) (W : World) : (Instr.indexAt 39 (.slice (some ⟨g, 0, none⟩) n n) (.int kd (k : Int))).run Tryd.prog W = .ok (.pointer (some ⟨g, k, none⟩)) W := by
  have := row_idx (P := Tryd.prog) (t := 39) (sz := 1) (by kernel_rfl) (fun _ => by kernel_rfl) (rfl : (some ⟨g, 0, none⟩ : Option Addr) = some ⟨g, 0, none⟩) n n k hk kd W
  simpa using this
/-! plain: a request meets the first one that is like it and not taken yet -/
def UsP (a b : List Req) (i k : Nat) : Prop := ∃ j, j < i ∧ mateF a b j = some k
noncomputable def usF (a b : List Req) (i k : Nat) : Bool := dec (UsP a b i k)
theorem cnt_hit (a : List Req) (x : Req) : ∀ i p, p < cntF a i x → ∃ j, j < i ∧ AlikeP (rq a j) x ∧ cntF a j x = p
  | 0, p, h => by simp [cntF, freF] at h
  | i + 1, p, h => by
    rw [cnt_succ] at h
    by_cases h1 : p < cntF a i x
    · obtain ⟨j, h2, h3, h4⟩ := cnt_hit a x i p h1
      exact ⟨j, by omega, h3, h4⟩
    · by_cases h2 : alk (rq a i) x = true
      · rw [if_pos h2] at h
        exact ⟨i, by omega, alk_iff.1 h2, by omega⟩
      · rw [if_neg h2] at h; omega
theorem fre_asc (b : List Req) (k : Nat) (r : Req) : (freF b k r).Pairwise (· < ·) := List.Pairwise.sublist List.filter_sublist List.pairwise_lt_range
theorem fre_at {b : List Req} {n k : Nat} {r : Req} (hk : k < n) (h : AlikeP (rq b k) r) : ∃ p : Nat, (freF b n r)[p]? = some k := List.getElem?_of_mem (mem_fre.2 ⟨hk, h⟩)
theorem us_of_lt {a b : List Req} {i k p : Nat} (hp : (freF b b.length (rq a i))[p]? = some k) (hc : p < cntF a i (rq a i)) : UsP a b i k := by
  obtain ⟨j, hj, hal, hcn⟩ := cnt_hit a (rq a i) i p hc
  exact ⟨j, hj, by rw [mate_idx, fre_congr b _ hal, cnt_congr a j hal, hcn]; exact hp⟩
theorem us_not {a b : List Req} {i k p : Nat} (hp : (freF b b.length (rq a i))[p]? = some k) (hc : cntF a i (rq a i) ≤ p) : ¬ UsP a b i k := by
  rintro ⟨j, hj, hm⟩
  obtain ⟨hk, hal⟩ := mate_lt hm
  have hki := (mem_fre.1 (List.mem_of_getElem? hp)).2
  have hal2 : AlikeP (rq a j) (rq a i) := hal.symm'.trans' hki
  rw [mate_idx, fre_congr b _ hal2, cnt_congr a j hal2] at hm
  have hlt := cnt_lt a hj hal2
  have hp1 := (List.getElem?_eq_some_iff.1 hp).1
  have := (List.getElem?_inj (List.getElem?_eq_some_iff.1 hm).1 (fre_nodup b b.length (rq a i))).1 (hm.trans hp.symm)
  omega
theorem pick_some {a b : List Req} {i k : Nat} (hk : k < b.length) (hal : AlikeP (rq b k) (rq a i)) (hu : ¬ UsP a b i k) (hn : ∀ j, j < k → AlikeP (rq b j) (rq a i) → UsP a b i j) : mateF a b i = some k := by
  obtain ⟨p, hp⟩ := fre_at hk hal
  have hc : cntF a i (rq a i) ≤ p := by
    rcases Nat.lt_or_ge p (cntF a i (rq a i)) with h | h
    · exact absurd (us_of_lt hp h) hu
    · exact h
  rw [mate_idx]
  obtain ⟨h1, h2⟩ := List.getElem?_eq_some_iff.1 hp
  have e : cntF a i (rq a i) = p := by
    rcases Nat.lt_or_ge (cntF a i (rq a i)) p with h | h
    · exfalso
      have hq : (freF b b.length (rq a i))[cntF a i (rq a i)]? = some ((freF b b.length (rq a i))[cntF a i (rq a i)]'(by omega)) := List.getElem?_eq_getElem (by omega)
      have hlt := (List.pairwise_iff_getElem.1 (fre_asc b b.length (rq a i))) _ _ (by omega) h1 h
      rw [h2] at hlt
      exact us_not hq (Nat.le_refl _) (hn _ hlt (mem_fre.1 (List.mem_of_getElem? hq)).2)
    · omega
  rw [e]; exact hp
theorem pick_none {a b : List Req} {i : Nat} (hn : ∀ j, j < b.length → AlikeP (rq b j) (rq a i) → UsP a b i j) : mateF a b i = none := by
  rcases h : mateF a b i with _ | k
  · rfl
  · exfalso
    obtain ⟨hk, hal⟩ := mate_lt h
    obtain ⟨j, hj, hm⟩ := hn k hk hal
    have := mate_inj hm h
    omega
theorem us_next_none {a b : List Req} {i : Nat} (h : mateF a b i = none) (k : Nat) : usF a b (i + 1) k = usF a b i k := by
  apply dec_iff
  constructor
  · rintro ⟨j, hj, hm⟩
    rcases Nat.lt_or_ge j i with h2 | h2
    · exact ⟨j, h2, hm⟩
    · rw [show j = i by omega, h] at hm; cases hm
  · rintro ⟨j, hj, hm⟩
    exact ⟨j, by omega, hm⟩
theorem us_next_some {a b : List Req} {i k : Nat} (h : mateF a b i = some k) : usF a b (i + 1) k = true ∧ ∀ j, j ≠ k → usF a b (i + 1) j = usF a b i j := by
  refine ⟨dec_true ⟨i, by omega, h⟩, fun j hj => ?_⟩
  apply dec_iff
  constructor
  · rintro ⟨q, hq, hm⟩
    rcases Nat.lt_or_ge q i with h2 | h2
    · exact ⟨q, h2, hm⟩
    · rw [show q = i by omega, h] at hm; injection hm with hm; exact absurd hm.symm hj
  · rintro ⟨q, hq, hm⟩
    exact ⟨q, by omega, hm⟩
/-- Pairs' memory: the marks in the block B, the pairs behind it -/
structure RPM (B : Nat) (a b : List Req) (i : Nat) (v : Value) (w0 W : World) : Prop where
  us : RowB B b.length (usF a b i) W
  own : OwnR 40 2 PairR (fun q => B < q) W (pairsF a b i) v
  bel : Below B w0 W
theorem RPM.lt {B : Nat} {a b : List Req} {i : Nat} {v : Value} {w0 W : World} (h : RPM B a b i v w0 W) : B < W.heap.size := lt_of_some h.us
theorem RPM.below {B : Nat} {a b : List Req} {i : Nat} {v : Value} {w0 W W' : World} (h : RPM B a b i v w0 W) (hb : Below W.heap.size W W') : RPM B a b i v w0 W' := ⟨h.us.below hb, h.own.below goodPair hb, h.bel.trans (hb.mono (Nat.le_of_lt h.lt))⟩
theorem RPM.miss {B : Nat} {a b : List Req} {i : Nat} {v : Value} {w0 W : World} (h : RPM B a b i v w0 W) (hm : mateF a b i = none) : RPM B a b (i + 1) v w0 W := by
  refine ⟨?_, ?_, h.bel⟩
  · have := h.us
    rwa [show usF a b (i + 1) = usF a b i from funext (us_next_none hm)]
  · rw [pairs_succ, hm, List.append_nil]; exact h.own
theorem RPM.hit {B : Nat} {a b : List Req} {i k : Nat} {v : Value} {w0 W : World} (h : RPM B a b i v w0 W) (hm : mateF a b i = some k) (hl : a.length ≤ 1048576) (hi : i < a.length) : ∃ a5 c5 W', AppRun Tryd.prog 34 34 34 v (.slice (some ⟨W.heap.size, 0, none⟩) 1 1) (.slice a5 (pairsF a b (i + 1)).length c5) ((W.setCell ⟨B, k, none⟩ (.bool true)).alloc (.cells #[iv i, iv k] 40)) W' ∧ RPM B a b (i + 1) (.slice a5 (pairsF a b (i + 1)).length c5) w0 W' := by
  obtain ⟨i0, hi0, hz0, hz1, hz2⟩ := info_parts infoPair
  have hs1 : OwnR 40 2 PairR (fun q => B < q) (W.setCell ⟨B, k, none⟩ (.bool true)) (pairsF a b i) v := h.own.move goodPair fun q hq hs => ⟨hs, heap_setCell_other _ (by omega)⟩
  obtain ⟨hu1, hu2⟩ := us_next_some hm
  have hr1 : RowB B b.length (usF a b (i + 1)) (W.setCell ⟨B, k, none⟩ (.bool true)) := h.us.set k hu1 (fun j _ hj => hu2 j hj)
  have hsz : (W.setCell ⟨B, k, none⟩ (.bool true)).heap.size = W.heap.size := by simp [World.setCell]
  have hbl : Below B w0 (W.setCell ⟨B, k, none⟩ (.bool true)) := h.bel.setCell (Nat.le_refl _) _
  have hlt := h.lt
  have hpl := pairs_len a b i
  rw [← hsz] at hlt ⊢
  generalize W.setCell ⟨B, k, none⟩ (.bool true) = w1 at *
  have hb4 : Below w1.heap.size w1 (w1.alloc (.cells #[iv i, iv k] 40)) := (Below.refl _ _).alloc (Nat.le_refl _) _
  obtain ⟨v', W5, hap, hO5, hF5⟩ := OwnR.append1 (t := 34) (ty := 34) (x := (i, k)) goodPair (by kernel_rfl) hi0 hz0 hz1 hz2 rfl (by decide) (hs1.below goodPair hb4) (row_of_block (cs := [iv i, iv k]) (heap_alloc_new' w1 (.cells #[iv i, iv k] 40)) rfl) rfl (by unfold maxLen; omega) (by omega) (fun q hq => by
    simp at hq
    show B < q
    omega)
  have hO6 : OwnR 40 2 PairR (fun q => B < q) W5 (pairsF a b (i + 1)) v' := by rw [pairs_succ, hm]; exact hO5
  obtain ⟨a5, c5, rfl, -, -⟩ := hO6.slice
  refine ⟨a5, c5, W5, hap, ?_, hO6, ?_⟩
  · exact (hF5.block B (by simp; omega) (by show ¬ B < B; omega)).trans (hr1.below hb4)
  · exact hbl.trans ((hb4.mono (by omega)).trans (hF5.to_below (by simp; omega) (fun q hq hs => by have hs : B < q := hs; omega)))
theorem lt_of_cell {w : World} {p : Addr} {v : Value} (h : w.cell? p = some v) : p.block < w.heap.size := by
  unfold World.cell? at h
  rcases Nat.lt_or_ge p.block w.heap.size with h2 | h2
  · exact h2
  · rw [Array.getElem?_eq_none h2] at h; simp at h
set_option maxHeartbeats 2000000 in
set_option maxRecDepth 100000 in
theorem rpairs_any (a b : List Req) (ha : ReqsB a) (hb : ReqsB b) (S T : Foot) (va vb : Value) (w : World) (hRa : ReqsR S w a va) (hRb : ReqsR T w b vb) :
    Calls Tryd.prog 19 #[va, vb] w fun e w' => ∃ v, e = .returned v ∧ OwnR 40 2 PairR (from_ w.heap.size) w' (pairsF a b a.length) v ∧ Below w.heap.size w w' := by
  obtain ⟨aa, ca, rfl, -⟩ := hRa.slice
  obtain ⟨ab, cb, rfl, -⟩ := hRb.slice
  have hla := ha.1
  have hlb := hb.1
  replace hRa := hid (hRa.mono goodReq (T := fun k => k < w.heap.size) fun k hk _ => hk)
  replace hRb := hid (hRb.mono goodReq (T := fun k => k < w.heap.size) fun k hk _ => hk)
  replace ha := hid ha
  replace hb := hid hb
  have hmk := fun W => mkB b.length hlb W
  have hM0 := hid (show RPM w.heap.size a b 0 (.slice none 0 0) w (w.alloc (.cells (arrW b.length fun _ => .bool false) 4 (0, 0))) from ⟨by
    have : usF a b 0 = fun _ => false := funext fun k => dec_false (fun ⟨j, hj, _⟩ => by omega)
    rw [this]; exact heap_alloc_new' _ _, OwnR.nil _ _ _ _ _, (Below.refl _ _).alloc (Nat.le_refl _) _⟩)
  go_enter Tryd.func19, Tryd.ntmps19
  go_wp2_with fail
  go_loopw [5, 7] (fun v i wr => ∃ k : Nat, i = .int .i64 k ∧ k ≤ a.length ∧ Hid (RPM w.heap.size a b k v w wr)) (fun _ i _ => a.length - (intOf i).toNat)
  case atStart => exact ⟨0, rfl, Nat.zero_le _, hM0⟩
  case round =>
    clear hM0 hmk
    obtain ⟨i, rfl, hi, hM⟩ := hrel
    by_cases hlt : i < a.length
    · have q1 : decide ((i : Int) < (a.length : Int)) = true := decide_eq_true (by omega)
      obtain ⟨x, hx⟩ : ∃ x, a[i]? = some x := ⟨_, List.getElem?_eq_getElem hlt⟩
      obtain ⟨g, o, cs, hidx, hS, hg, hc, hr⟩ := hRa.out.at (P := Tryd.prog) (t := 22) (by kernel_rfl) (fun _ => by kernel_rfl) hx
      have hqx := rq_at hx
      obtain ⟨a1, k1, rfl, -⟩ := id hr
      have z0 := hc 0 _ rfl
      have z1 := hc 1 _ rfl
      have z2 := hc 2 _ rfl
      have z3 := hc 3 _ rfl
      have z4 := hc 4 _ rfl
      have z5 := hc 5 _ rfl
      have z6 := hc 6 _ rfl
      have z7 := hc 7 _ rfl
      rw [Nat.add_zero] at z0
      have hxB := hid (ha.out.2 x (List.mem_of_getElem? hx))
      obtain ⟨av, cv, rfl, -, -⟩ := hM.out.own.slice
      have hpl := pairs_len a b i
      replace hr := hid hr
      clear hc hx
      have hcx := hid (fun (W : World) (h : Below w.heap.size w W) => (⟨(h.cell (p := ⟨g, o, none⟩) hg).trans z0, (h.cell (p := ⟨g, o + 1, none⟩) hg).trans z1, (h.cell (p := ⟨g, o + 2, none⟩) hg).trans z2, (h.cell (p := ⟨g, o + 3, none⟩) hg).trans z3, (h.cell (p := ⟨g, o + 4, none⟩) hg).trans z4, (h.cell (p := ⟨g, o + 5, none⟩) hg).trans z5, (h.cell (p := ⟨g, o + 6, none⟩) hg).trans z6, (h.cell (p := ⟨g, o + 7, none⟩) hg).trans z7⟩ :
        W.cell? ⟨g, o, none⟩ = some (sv x.path) ∧ W.cell? ⟨g, o + 1, none⟩ = some (sv x.name) ∧ W.cell? ⟨g, o + 2, none⟩ = some (.slice a1 x.args.length k1) ∧ W.cell? ⟨g, o + 3, none⟩ = some (iv x.ord) ∧ W.cell? ⟨g, o + 4, none⟩ = some (sv x.reply) ∧ W.cell? ⟨g, o + 5, none⟩ = some (iv x.sent) ∧ W.cell? ⟨g, o + 6, none⟩ = some (iv x.tick) ∧ W.cell? ⟨g, o + 7, none⟩ = some (.bool x.opn)))
      clear z0 z1 z2 z3 z4 z5 z6 z7 hg hS
      replace hqx := hid hqx
      go_wp2_with fail
      go_loopw [5, 8] (fun v j wr => v = .slice av (pairsF a b i).length cv ∧ ∃ k : Nat, j = .int .i64 k ∧ k ≤ b.length ∧ Hid (∀ j, j < k → AlikeP (rq b j) (rq a i) → UsP a b i j) ∧ Hid (RPM w.heap.size a b i (.slice av (pairsF a b i).length cv) w wr)) (fun _ j _ => b.length - (intOf j).toNat)
      case atStart => exact ⟨rfl, 0, rfl, Nat.zero_le _, hid (fun j h => absurd h (by omega)), hM⟩
      case round =>
        clear hM
        obtain ⟨rfl, k, rfl, hk, hn, hM⟩ := hrel
        by_cases hltk : k < b.length
        · have q2 : decide ((k : Int) < (b.length : Int)) = true := decide_eq_true (by omega)
          obtain ⟨y, hy⟩ : ∃ y, b[k]? = some y := ⟨_, List.getElem?_eq_getElem hltk⟩
          obtain ⟨g2, o2, cs2, hidx2, hS2, hg2, hc2, hr2⟩ := hRb.out.at (P := Tryd.prog) (t := 22) (by kernel_rfl) (fun _ => by kernel_rfl) hy
          have hqy := rq_at hy
          obtain ⟨a2, k2, rfl, -⟩ := id hr2
          have y0 := hc2 0 _ rfl
          have y1 := hc2 1 _ rfl
          have y2 := hc2 2 _ rfl
          have y3 := hc2 3 _ rfl
          have y4 := hc2 4 _ rfl
          have y5 := hc2 5 _ rfl
          have y6 := hc2 6 _ rfl
          have y7 := hc2 7 _ rfl
          rw [Nat.add_zero] at y0
          have hbw : Below w.heap.size w wr.drew := hM.out.bel.drew
          obtain ⟨c0, c1, c2, c3, c4, c5, c6, c7⟩ := hcx.out wr.drew hbw
          have d0 := (hbw.cell (p := ⟨g2, o2, none⟩) hg2).trans y0
          have d1 := (hbw.cell (p := ⟨g2, o2 + 1, none⟩) hg2).trans y1
          have d2 := (hbw.cell (p := ⟨g2, o2 + 2, none⟩) hg2).trans y2
          have d3 := (hbw.cell (p := ⟨g2, o2 + 3, none⟩) hg2).trans y3
          have d4 := (hbw.cell (p := ⟨g2, o2 + 4, none⟩) hg2).trans y4
          have d5 := (hbw.cell (p := ⟨g2, o2 + 5, none⟩) hg2).trans y5
          have d6 := (hbw.cell (p := ⟨g2, o2 + 6, none⟩) hg2).trans y6
          have d7 := (hbw.cell (p := ⟨g2, o2 + 7, none⟩) hg2).trans y7
          have hyB := hb.out.2 y (List.mem_of_getElem? hy)
          have hcall := hid (ralike_any x y hxB.out hyB _ _ _ _ wr.drew (goodReq.move hr.out (T := fun q => q < w.heap.size) fun q hq _ => ⟨hq, hbw.block q hq⟩) (goodReq.move hr2 (T := fun q => q < w.heap.size) fun q hq _ => ⟨hq, hbw.block q hq⟩))
          have u0 : wr.drew.cell? ⟨w.heap.size, k, none⟩ = some (.bool (usF a b i k)) := hM.out.us.at hltk
          have hix := idxB w.heap.size b.length k hltk
          have hnx := hid (fun h : AlikeP (rq b k) (rq a i) → UsP a b i k => (fun j hj hal => by
            by_cases e : j = k
            · rw [e] at hal ⊢; exact h hal
            · exact hn.out j (by omega) hal : ∀ j, j < k + 1 → AlikeP (rq b j) (rq a i) → UsP a b i j))
          have hus : ∀ z, usF a b i k = z → (z = true ↔ UsP a b i k) := fun z hz => by rw [← hz]; exact dec_eq_true
          obtain ⟨z, hz⟩ : ∃ z, usF a b i k = z := ⟨_, rfl⟩
          rw [hz] at u0
          have hzu := hid (hus z hz)
          replace hqy := hid hqy
          clear y0 y1 y2 y3 y4 y5 y6 y7 hg2 hS2 hc2 hus hz hy hr2 hbw
          cases z with
          | true =>
            have hn2 := hid (hnx.out (fun _ => hzu.out.1 rfl))
            have hMd := hid (hM.out.below ((Below.refl _ wr).drew))
            clear hnx hcall hn hM
            go_wp2_with fail
            refine wp_region_held_drew (S := (fun w' => w'.cell? ⟨w.heap.size, k, none⟩ = some (.bool true) ∧ w'.cell? ⟨g, o, none⟩ = some (sv x.path) ∧ w'.cell? ⟨g, o + 1, none⟩ = some (sv x.name) ∧ w'.cell? ⟨g, o + 2, none⟩ = some (.slice a1 x.args.length k1) ∧ w'.cell? ⟨g, o + 3, none⟩ = some (iv x.ord) ∧ w'.cell? ⟨g, o + 4, none⟩ = some (sv x.reply) ∧ w'.cell? ⟨g, o + 5, none⟩ = some (iv x.sent) ∧ w'.cell? ⟨g, o + 6, none⟩ = some (iv x.tick) ∧ w'.cell? ⟨g, o + 7, none⟩ = some (.bool x.opn) ∧ w'.cell? ⟨g2, o2, none⟩ = some (sv y.path) ∧ w'.cell? ⟨g2, o2 + 1, none⟩ = some (sv y.name) ∧ w'.cell? ⟨g2, o2 + 2, none⟩ = some (.slice a2 y.args.length k2) ∧ w'.cell? ⟨g2, o2 + 3, none⟩ = some (iv y.ord) ∧ w'.cell? ⟨g2, o2 + 4, none⟩ = some (sv y.reply) ∧ w'.cell? ⟨g2, o2 + 5, none⟩ = some (iv y.sent) ∧ w'.cell? ⟨g2, o2 + 6, none⟩ = some (iv y.tick) ∧ w'.cell? ⟨g2, o2 + 7, none⟩ = some (.bool y.opn))) (by kernel_rfl) ?_ (fun hHeld => ?_)
            · exact ⟨u0, c0, c1, c2, c3, c4, c5, c6, c7, d0, d1, d2, d3, d4, d5, d6, d7⟩
            refine wpAnyH_take (i := 0) (oi := ⟨_, _, _, _, _, _⟩) (v := ?_) rfl (by as_aux_lemma => kernel_rfl) (by as_aux_lemma => kernel_rfl) (by as_aux_lemma => kernel_rfl) (fun _ _ _ h => h) (Or.inl ⟨by rfl, ?hy⟩) (by assumption) ?_
            case hy =>
              intro w hSw
              (try dsimp only at hSw)
              go_simp
              all_goals with_reducible rfl
            try simp only [Act.put, List.setIfInBounds_toArray, List.set_cons_zero, List.set_cons_succ]
            refine wpAnyH_take (i := 1) (oi := ⟨_, _, _, _, _, _⟩) (v := ?_) rfl (by as_aux_lemma => kernel_rfl) (by as_aux_lemma => kernel_rfl) (by as_aux_lemma => kernel_rfl) (fun _ _ _ h => h) (Or.inl ⟨by rfl, ?hy⟩) (by assumption) ?_
            case hy =>
              intro w hSw
              (try dsimp only at hSw)
              go_simp
              all_goals with_reducible rfl
            try simp only [Act.put, List.setIfInBounds_toArray, List.set_cons_zero, List.set_cons_succ]
            refine wpAnyH_take (i := 2) (oi := ⟨_, _, _, _, _, _⟩) (v := ?_) rfl (by as_aux_lemma => kernel_rfl) (by as_aux_lemma => kernel_rfl) (by as_aux_lemma => kernel_rfl) (fun _ _ _ h => h) (Or.inl ⟨by rfl, ?hy⟩) (by assumption) ?_
            case hy =>
              intro w hSw
              (try dsimp only at hSw)
              go_simp
              all_goals with_reducible rfl
            try simp only [Act.put, List.setIfInBounds_toArray, List.set_cons_zero, List.set_cons_succ]
            refine wpAnyH_take (i := 3) (oi := ⟨_, _, _, _, _, _⟩) (v := ?_) rfl (by as_aux_lemma => kernel_rfl) (by as_aux_lemma => kernel_rfl) (by as_aux_lemma => kernel_rfl) (fun _ _ _ h => h) (Or.inl ⟨by rfl, ?hy⟩) (by assumption) ?_
            case hy =>
              intro w hSw
              (try dsimp only at hSw)
              go_simp
              all_goals with_reducible rfl
            try simp only [Act.put, List.setIfInBounds_toArray, List.set_cons_zero, List.set_cons_succ]
            refine wpAnyH_take (i := 4) (oi := ⟨_, _, _, _, _, _⟩) (v := ?_) rfl (by as_aux_lemma => kernel_rfl) (by as_aux_lemma => kernel_rfl) (by as_aux_lemma => kernel_rfl) (fun _ _ _ h => h) (Or.inl ⟨by rfl, ?hy⟩) (by assumption) ?_
            case hy =>
              intro w hSw
              (try dsimp only at hSw)
              go_simp
              all_goals with_reducible rfl
            try simp only [Act.put, List.setIfInBounds_toArray, List.set_cons_zero, List.set_cons_succ]
            refine wpAnyH_take (i := 5) (oi := ⟨_, _, _, _, _, _⟩) (v := ?_) rfl (by as_aux_lemma => kernel_rfl) (by as_aux_lemma => kernel_rfl) (by as_aux_lemma => kernel_rfl) (fun _ _ _ h => h) (Or.inl ⟨by rfl, ?hy⟩) (by assumption) ?_
            case hy =>
              intro w hSw
              (try dsimp only at hSw)
              go_simp
              all_goals with_reducible rfl
            try simp only [Act.put, List.setIfInBounds_toArray, List.set_cons_zero, List.set_cons_succ]
            refine wpAnyH_take (i := 6) (oi := ⟨_, _, _, _, _, _⟩) (v := undef) rfl (by as_aux_lemma => kernel_rfl) (by as_aux_lemma => kernel_rfl) (by as_aux_lemma => kernel_rfl) (fun _ _ _ h => h) (Or.inr ⟨by rfl, rfl⟩) (by assumption) ?_
            try simp only [Act.put, List.setIfInBounds_toArray, List.set_cons_zero, List.set_cons_succ]
            refine wpAnyH_take (i := 7) (oi := ⟨_, _, _, _, _, _⟩) (v := undef) rfl (by as_aux_lemma => kernel_rfl) (by as_aux_lemma => kernel_rfl) (by as_aux_lemma => kernel_rfl) (fun _ _ _ h => h) (Or.inr ⟨by rfl, rfl⟩) (by assumption) ?_
            try simp only [Act.put, List.setIfInBounds_toArray, List.set_cons_zero, List.set_cons_succ]
            refine wpAnyH_take (i := 8) (oi := ⟨_, _, _, _, _, _⟩) (v := undef) rfl (by as_aux_lemma => kernel_rfl) (by as_aux_lemma => kernel_rfl) (by as_aux_lemma => kernel_rfl) (fun _ _ _ h => h) (Or.inr ⟨by rfl, rfl⟩) (by assumption) ?_
            try simp only [Act.put, List.setIfInBounds_toArray, List.set_cons_zero, List.set_cons_succ]
            refine wpAnyH_take (i := 9) (oi := ⟨_, _, _, _, _, _⟩) (v := undef) rfl (by as_aux_lemma => kernel_rfl) (by as_aux_lemma => kernel_rfl) (by as_aux_lemma => kernel_rfl) (fun _ _ _ h => h) (Or.inr ⟨by rfl, rfl⟩) (by assumption) ?_
            try simp only [Act.put, List.setIfInBounds_toArray, List.set_cons_zero, List.set_cons_succ]
            refine wpAnyH_take (i := 10) (oi := ⟨_, _, _, _, _, _⟩) (v := undef) rfl (by as_aux_lemma => kernel_rfl) (by as_aux_lemma => kernel_rfl) (by as_aux_lemma => kernel_rfl) (fun _ _ _ h => h) (Or.inr ⟨by rfl, rfl⟩) (by assumption) ?_
            try simp only [Act.put, List.setIfInBounds_toArray, List.set_cons_zero, List.set_cons_succ]
            refine wpAnyH_take (i := 11) (oi := ⟨_, _, _, _, _, _⟩) (v := undef) rfl (by as_aux_lemma => kernel_rfl) (by as_aux_lemma => kernel_rfl) (by as_aux_lemma => kernel_rfl) (fun _ _ _ h => h) (Or.inr ⟨by rfl, rfl⟩) (by assumption) ?_
            try simp only [Act.put, List.setIfInBounds_toArray, List.set_cons_zero, List.set_cons_succ]
            refine wpAnyH_take (i := 12) (oi := ⟨_, _, _, _, _, _⟩) (v := undef) rfl (by as_aux_lemma => kernel_rfl) (by as_aux_lemma => kernel_rfl) (by as_aux_lemma => kernel_rfl) (fun _ _ _ h => h) (Or.inr ⟨by rfl, rfl⟩) (by assumption) ?_
            try simp only [Act.put, List.setIfInBounds_toArray, List.set_cons_zero, List.set_cons_succ]
            refine wpAnyH_take (i := 13) (oi := ⟨_, _, _, _, _, _⟩) (v := undef) rfl (by as_aux_lemma => kernel_rfl) (by as_aux_lemma => kernel_rfl) (by as_aux_lemma => kernel_rfl) (fun _ _ _ h => h) (Or.inr ⟨by rfl, rfl⟩) (by assumption) ?_
            try simp only [Act.put, List.setIfInBounds_toArray, List.set_cons_zero, List.set_cons_succ]
            refine wpAnyH_take (i := 14) (oi := ⟨_, _, _, _, _, _⟩) (v := undef) rfl (by as_aux_lemma => kernel_rfl) (by as_aux_lemma => kernel_rfl) (by as_aux_lemma => kernel_rfl) (fun _ _ _ h => h) (Or.inr ⟨by rfl, rfl⟩) (by assumption) ?_
            try simp only [Act.put, List.setIfInBounds_toArray, List.set_cons_zero, List.set_cons_succ]
            refine wpAnyH_take (i := 15) (oi := ⟨_, _, _, _, _, _⟩) (v := ?_) rfl (by as_aux_lemma => kernel_rfl) (by as_aux_lemma => kernel_rfl) (by as_aux_lemma => kernel_rfl) (fun _ _ _ h => h) (Or.inl ⟨by rfl, ?hy⟩) (by assumption) ?_
            case hy =>
              intro w hSw
              (try dsimp only at hSw)
              go_simp
              all_goals with_reducible rfl
            try simp only [Act.put, List.setIfInBounds_toArray, List.set_cons_zero, List.set_cons_succ]
            refine wpAnyH_done (by as_aux_lemma => kernel_rfl) ?_ _
            go_wp2_with fail
            exact ⟨⟨rfl, k + 1, by go_num, by omega, hn2, hMd⟩, by simp [intOf]; omega⟩
          | false =>
            have hnu : ¬ UsP a b i k := fun h => by have := hzu.out.2 h; cases this
            replace hnu := hid hnu
            go_wp2_with fail
            refine wp_region_held_drew (S := (fun w' => w'.cell? ⟨w.heap.size, k, none⟩ = some (.bool false) ∧ w'.cell? ⟨g, o, none⟩ = some (sv x.path) ∧ w'.cell? ⟨g, o + 1, none⟩ = some (sv x.name) ∧ w'.cell? ⟨g, o + 2, none⟩ = some (.slice a1 x.args.length k1) ∧ w'.cell? ⟨g, o + 3, none⟩ = some (iv x.ord) ∧ w'.cell? ⟨g, o + 4, none⟩ = some (sv x.reply) ∧ w'.cell? ⟨g, o + 5, none⟩ = some (iv x.sent) ∧ w'.cell? ⟨g, o + 6, none⟩ = some (iv x.tick) ∧ w'.cell? ⟨g, o + 7, none⟩ = some (.bool x.opn) ∧ w'.cell? ⟨g2, o2, none⟩ = some (sv y.path) ∧ w'.cell? ⟨g2, o2 + 1, none⟩ = some (sv y.name) ∧ w'.cell? ⟨g2, o2 + 2, none⟩ = some (.slice a2 y.args.length k2) ∧ w'.cell? ⟨g2, o2 + 3, none⟩ = some (iv y.ord) ∧ w'.cell? ⟨g2, o2 + 4, none⟩ = some (sv y.reply) ∧ w'.cell? ⟨g2, o2 + 5, none⟩ = some (iv y.sent) ∧ w'.cell? ⟨g2, o2 + 6, none⟩ = some (iv y.tick) ∧ w'.cell? ⟨g2, o2 + 7, none⟩ = some (.bool y.opn))) (by kernel_rfl) ?_ (fun hHeld => ?_)
            · exact ⟨u0, c0, c1, c2, c3, c4, c5, c6, c7, d0, d1, d2, d3, d4, d5, d6, d7⟩
            refine wpAnyH_take (i := 0) (oi := ⟨_, _, _, _, _, _⟩) (v := ?_) rfl (by as_aux_lemma => kernel_rfl) (by as_aux_lemma => kernel_rfl) (by as_aux_lemma => kernel_rfl) (fun _ _ _ h => h) (Or.inl ⟨by rfl, ?hy⟩) (by assumption) ?_
            case hy =>
              intro w hSw
              (try dsimp only at hSw)
              go_simp
              all_goals with_reducible rfl
            try simp only [Act.put, List.setIfInBounds_toArray, List.set_cons_zero, List.set_cons_succ]
            refine wpAnyH_take (i := 1) (oi := ⟨_, _, _, _, _, _⟩) (v := ?_) rfl (by as_aux_lemma => kernel_rfl) (by as_aux_lemma => kernel_rfl) (by as_aux_lemma => kernel_rfl) (fun _ _ _ h => h) (Or.inl ⟨by rfl, ?hy⟩) (by assumption) ?_
            case hy =>
              intro w hSw
              (try dsimp only at hSw)
              go_simp
              all_goals with_reducible rfl
            try simp only [Act.put, List.setIfInBounds_toArray, List.set_cons_zero, List.set_cons_succ]
            refine wpAnyH_take (i := 2) (oi := ⟨_, _, _, _, _, _⟩) (v := ?_) rfl (by as_aux_lemma => kernel_rfl) (by as_aux_lemma => kernel_rfl) (by as_aux_lemma => kernel_rfl) (fun _ _ _ h => h) (Or.inl ⟨by rfl, ?hy⟩) (by assumption) ?_
            case hy =>
              intro w hSw
              (try dsimp only at hSw)
              go_simp
              all_goals with_reducible rfl
            try simp only [Act.put, List.setIfInBounds_toArray, List.set_cons_zero, List.set_cons_succ]
            refine wpAnyH_take (i := 3) (oi := ⟨_, _, _, _, _, _⟩) (v := ?_) rfl (by as_aux_lemma => kernel_rfl) (by as_aux_lemma => kernel_rfl) (by as_aux_lemma => kernel_rfl) (fun _ _ _ h => h) (Or.inl ⟨by rfl, ?hy⟩) (by assumption) ?_
            case hy =>
              intro w hSw
              (try dsimp only at hSw)
              go_simp
              all_goals with_reducible rfl
            try simp only [Act.put, List.setIfInBounds_toArray, List.set_cons_zero, List.set_cons_succ]
            refine wpAnyH_take (i := 4) (oi := ⟨_, _, _, _, _, _⟩) (v := ?_) rfl (by as_aux_lemma => kernel_rfl) (by as_aux_lemma => kernel_rfl) (by as_aux_lemma => kernel_rfl) (fun _ _ _ h => h) (Or.inl ⟨by rfl, ?hy⟩) (by assumption) ?_
            case hy =>
              intro w hSw
              (try dsimp only at hSw)
              go_simp
              all_goals with_reducible rfl
            try simp only [Act.put, List.setIfInBounds_toArray, List.set_cons_zero, List.set_cons_succ]
            refine wpAnyH_take (i := 5) (oi := ⟨_, _, _, _, _, _⟩) (v := ?_) rfl (by as_aux_lemma => kernel_rfl) (by as_aux_lemma => kernel_rfl) (by as_aux_lemma => kernel_rfl) (fun _ _ _ h => h) (Or.inl ⟨by rfl, ?hy⟩) (by assumption) ?_
            case hy =>
              intro w hSw
              (try dsimp only at hSw)
              go_simp
              all_goals with_reducible rfl
            try simp only [Act.put, List.setIfInBounds_toArray, List.set_cons_zero, List.set_cons_succ]
            refine wpAnyH_take (i := 6) (oi := ⟨_, _, _, _, _, _⟩) (v := ?_) rfl (by as_aux_lemma => kernel_rfl) (by as_aux_lemma => kernel_rfl) (by as_aux_lemma => kernel_rfl) (fun _ _ _ h => h) (Or.inl ⟨by rfl, ?hy⟩) (by assumption) ?_
            case hy =>
              intro w hSw
              (try dsimp only at hSw)
              go_simp
              all_goals with_reducible rfl
            try simp only [Act.put, List.setIfInBounds_toArray, List.set_cons_zero, List.set_cons_succ]
            refine wpAnyH_take (i := 7) (oi := ⟨_, _, _, _, _, _⟩) (v := ?_) rfl (by as_aux_lemma => kernel_rfl) (by as_aux_lemma => kernel_rfl) (by as_aux_lemma => kernel_rfl) (fun _ _ _ h => h) (Or.inl ⟨by rfl, ?hy⟩) (by assumption) ?_
            case hy =>
              intro w hSw
              (try dsimp only at hSw)
              go_simp
              all_goals with_reducible rfl
            try simp only [Act.put, List.setIfInBounds_toArray, List.set_cons_zero, List.set_cons_succ]
            refine wpAnyH_take (i := 8) (oi := ⟨_, _, _, _, _, _⟩) (v := ?_) rfl (by as_aux_lemma => kernel_rfl) (by as_aux_lemma => kernel_rfl) (by as_aux_lemma => kernel_rfl) (fun _ _ _ h => h) (Or.inl ⟨by rfl, ?hy⟩) (by assumption) ?_
            case hy =>
              intro w hSw
              (try dsimp only at hSw)
              go_simp
              all_goals with_reducible rfl
            try simp only [Act.put, List.setIfInBounds_toArray, List.set_cons_zero, List.set_cons_succ]
            refine wpAnyH_take (i := 9) (oi := ⟨_, _, _, _, _, _⟩) (v := ?_) rfl (by as_aux_lemma => kernel_rfl) (by as_aux_lemma => kernel_rfl) (by as_aux_lemma => kernel_rfl) (fun _ _ _ h => h) (Or.inl ⟨by rfl, ?hy⟩) (by assumption) ?_
            case hy =>
              intro w hSw
              (try dsimp only at hSw)
              go_simp
              all_goals with_reducible rfl
            try simp only [Act.put, List.setIfInBounds_toArray, List.set_cons_zero, List.set_cons_succ]
            refine wpAnyH_take (i := 10) (oi := ⟨_, _, _, _, _, _⟩) (v := ?_) rfl (by as_aux_lemma => kernel_rfl) (by as_aux_lemma => kernel_rfl) (by as_aux_lemma => kernel_rfl) (fun _ _ _ h => h) (Or.inl ⟨by rfl, ?hy⟩) (by assumption) ?_
            case hy =>
              intro w hSw
              (try dsimp only at hSw)
              go_simp
              all_goals with_reducible rfl
            try simp only [Act.put, List.setIfInBounds_toArray, List.set_cons_zero, List.set_cons_succ]
            refine wpAnyH_take (i := 11) (oi := ⟨_, _, _, _, _, _⟩) (v := ?_) rfl (by as_aux_lemma => kernel_rfl) (by as_aux_lemma => kernel_rfl) (by as_aux_lemma => kernel_rfl) (fun _ _ _ h => h) (Or.inl ⟨by rfl, ?hy⟩) (by assumption) ?_
            case hy =>
              intro w hSw
              (try dsimp only at hSw)
              go_simp
              all_goals with_reducible rfl
            try simp only [Act.put, List.setIfInBounds_toArray, List.set_cons_zero, List.set_cons_succ]
            refine wpAnyH_take (i := 12) (oi := ⟨_, _, _, _, _, _⟩) (v := ?_) rfl (by as_aux_lemma => kernel_rfl) (by as_aux_lemma => kernel_rfl) (by as_aux_lemma => kernel_rfl) (fun _ _ _ h => h) (Or.inl ⟨by rfl, ?hy⟩) (by assumption) ?_
            case hy =>
              intro w hSw
              (try dsimp only at hSw)
              go_simp
              all_goals with_reducible rfl
            try simp only [Act.put, List.setIfInBounds_toArray, List.set_cons_zero, List.set_cons_succ]
            refine wpAnyH_take (i := 13) (oi := ⟨_, _, _, _, _, _⟩) (v := ?_) rfl (by as_aux_lemma => kernel_rfl) (by as_aux_lemma => kernel_rfl) (by as_aux_lemma => kernel_rfl) (fun _ _ _ h => h) (Or.inl ⟨by rfl, ?hy⟩) (by assumption) ?_
            case hy =>
              intro w hSw
              (try dsimp only at hSw)
              go_simp
              all_goals with_reducible rfl
            try simp only [Act.put, List.setIfInBounds_toArray, List.set_cons_zero, List.set_cons_succ]
            refine wpAnyH_ready (rs := [14]) (by as_aux_lemma => kernel_rfl) (by simp) ?_
            refine AllReadyH.cons (o := ⟨_, _, _, _, _, _⟩) rfl (fun K hK => ?_) AllReadyH.nil
            go_simp
            go_at_call 16
            refine hcall.out.mono ?_
            rintro e w5 ⟨rfl, hb5⟩
            have hm5 := hM.out.below (((Below.refl _ wr).drew).trans hb5)
            have p0 := hm5.us.at hltk
            have ez : usF a b i k = false := by
              cases hq : usF a b i k with
              | false => rfl
              | true => exact absurd (dec_eq_true.1 hq) hnu.out
            rw [ez] at p0
            clear ez hm5
            have q0 := (hb5.cell (p := ⟨g, o, none⟩) (lt_of_cell c0)).trans c0
            have r0 := (hb5.cell (p := ⟨g2, o2, none⟩) (lt_of_cell d0)).trans d0
            have q1 := (hb5.cell (p := ⟨g, o + 1, none⟩) (lt_of_cell c1)).trans c1
            have r1 := (hb5.cell (p := ⟨g2, o2 + 1, none⟩) (lt_of_cell d1)).trans d1
            have q2 := (hb5.cell (p := ⟨g, o + 2, none⟩) (lt_of_cell c2)).trans c2
            have r2 := (hb5.cell (p := ⟨g2, o2 + 2, none⟩) (lt_of_cell d2)).trans d2
            have q3 := (hb5.cell (p := ⟨g, o + 3, none⟩) (lt_of_cell c3)).trans c3
            have r3 := (hb5.cell (p := ⟨g2, o2 + 3, none⟩) (lt_of_cell d3)).trans d3
            have q4 := (hb5.cell (p := ⟨g, o + 4, none⟩) (lt_of_cell c4)).trans c4
            have r4 := (hb5.cell (p := ⟨g2, o2 + 4, none⟩) (lt_of_cell d4)).trans d4
            have q5 := (hb5.cell (p := ⟨g, o + 5, none⟩) (lt_of_cell c5)).trans c5
            have r5 := (hb5.cell (p := ⟨g2, o2 + 5, none⟩) (lt_of_cell d5)).trans d5
            have q6 := (hb5.cell (p := ⟨g, o + 6, none⟩) (lt_of_cell c6)).trans c6
            have r6 := (hb5.cell (p := ⟨g2, o2 + 6, none⟩) (lt_of_cell d6)).trans d6
            have q7 := (hb5.cell (p := ⟨g, o + 7, none⟩) (lt_of_cell c7)).trans c7
            have r7 := (hb5.cell (p := ⟨g2, o2 + 7, none⟩) (lt_of_cell d7)).trans d7
            refine hK.out _ _ ?_ (fun hHeld2 => ?_)
            · exact ⟨p0, q0, q1, q2, q3, q4, q5, q6, q7, r0, r1, r2, r3, r4, r5, r6, r7⟩
            clear hK K hHeld
            have hHeld := hHeld2
            clear hHeld2
            try simp only [Act.put, List.setIfInBounds_toArray, List.set_cons_zero, List.set_cons_succ]
            refine wpAnyH_take (i := 15) (oi := ⟨_, _, _, _, _, _⟩) (v := ?_) rfl (by as_aux_lemma => kernel_rfl) (by as_aux_lemma => kernel_rfl) (by as_aux_lemma => kernel_rfl) (fun _ _ _ h => h) (Or.inl ⟨by rfl, ?hy⟩) (by assumption) ?_
            case hy =>
              intro w hSw
              (try dsimp only at hSw)
              go_simp
              all_goals with_reducible rfl
            try simp only [Act.put, List.setIfInBounds_toArray, List.set_cons_zero, List.set_cons_succ]
            refine wpAnyH_done (by as_aux_lemma => kernel_rfl) ?_ _
            have hM5 := hid (hM.out.below (((Below.refl _ wr).drew).trans hb5))
            have hal : dec (AlikeP x y) = dec (AlikeP (rq b k) (rq a i)) := dec_iff (by rw [hqx.out, hqy.out]; exact ⟨fun h => h.symm', fun h => h.symm'⟩)
            rw [hal]
            obtain ⟨z2, hz2⟩ : ∃ z, dec (AlikeP (rq b k) (rq a i)) = z := ⟨_, rfl⟩
            rw [hz2]
            clear c0 c1 c2 c3 c4 c5 c6 c7 d0 d1 d2 d3 d4 d5 d6 d7 hal hcall hidx2 hM u0
            cases z2 with
            | false =>
              have hna : ¬ AlikeP (rq b k) (rq a i) := fun h => by rw [dec_true h] at hz2; cases hz2
              have hn2 := hid (hnx.out (fun h => absurd h hna))
              clear hnx hn hb5 hz2 hna
              go_wp2_with fail
              exact ⟨⟨rfl, k + 1, by go_num, by omega, hn2, hM5⟩, by simp [intOf]; omega⟩
            | true =>
              have hya : AlikeP (rq b k) (rq a i) := dec_eq_true.1 hz2
              have hmate := pick_some hltk hya hnu.out hn.out
              obtain ⟨a5, c5, W', hap, hMn⟩ := hM5.out.hit hmate hla hlt
              have hl0 := hM5.out.lt
              have hc1 : w5.cell? ⟨w.heap.size, k, none⟩ = some (.bool (usF a b i k)) := hM5.out.us.at hltk
              have hf1 : w5.frozen? ⟨w.heap.size, k, none⟩ = false := free_of hM5.out.us
              replace hMn := hid hMn
              clear hnx hn hb5 hz2 hya hmate hM5 hl0
              go_wp2_with (first | (at_builtin; refine wpList_append_shut rfl (.tmp 43) (.tmp 47) rfl rfl rfl hap ?_))
              refine ⟨?_, by simp [intOf]; omega⟩
              repeat (first | exact ⟨⟨i + 1, by go_num, by omega, hMn⟩, rfl⟩ | exact ⟨i + 1, by go_num, by omega, hMn⟩ | apply Exists.intro)
        · have hkb : k = b.length := by omega
          subst hkb
          have hmate := pick_none hn.out
          have hMn := hid (hM.out.miss hmate)
          have hpe : (pairsF a b i).length = (pairsF a b (i + 1)).length := by rw [pairs_succ, hmate, List.append_nil]
          have q2 : decide ((b.length : Int) < (b.length : Int)) = false := decide_eq_false (by omega)
          clear hn hM hmate
          replace hpe := hid hpe
          go_wp2_with fail
          refine ⟨?_, by simp [intOf]; omega⟩
          repeat (first | exact ⟨⟨i + 1, by go_num, by omega, hMn⟩, rfl⟩ | exact ⟨i + 1, by go_num, by omega, hMn⟩ | apply Exists.intro)
    · have hia : i = a.length := by omega
      subst hia
      have q1 : decide ((a.length : Int) < (a.length : Int)) = false := decide_eq_false (by omega)
      go_wp2_with fail
      go_ret
      exact ⟨_, rfl, hM.out.own.mono goodPair (fun q _ hq => Nat.le_of_lt hq), hM.out.bel⟩
end Go.Proofs.YtnbhpicmflagcaaDoor
set_option linter.unusedSimpArgs false
namespace Go.Proofs.YtnbhpicmflagcaaDoor
open Go.RowKit
open Go.Lib (hid)
set_option maxHeartbeats 8000000 in
set_option maxRecDepth 100000 in
theorem ronly_any (a b : List Req) (ha : ReqsB a) (hb : ReqsB b) (S T : Foot) (va vb : Value) (w : World) (hRa : ReqsR S w a va) (hRb : ReqsR T w b vb) :
    Calls Tryd.prog 22 #[va, vb] w fun e w' => ∃ v, e = .returned v ∧ OwnR 25 8 ReqR (fun _ => True) w' (onlyF a b a.length) v ∧ Below w.heap.size w w' := by
  have hpairs := hid (rpairs_any a b ha hb S T va vb w hRa hRb)
  obtain ⟨aa, ca, rfl, -⟩ := hRa.slice
  obtain ⟨ab, cb, rfl, -⟩ := hRb.slice
  have hla := ha.1
  replace hRa := hid (hRa.mono goodReq (T := fun k => k < w.heap.size) fun k hk _ => hk)
  clear hRb ha hb
  go_enter Tryd.func22, Tryd.ntmps22
  go_wp2_with fail
  refine hpairs.out.mono ?_
  rintro e w1 ⟨vp, rfl, hO, hB1⟩
  clear hpairs
  have hPl := pairs_len a b a.length
  have hP0 := hid ((OwnR.sl goodPair hO).mono goodPair (T := fun q => q < w1.heap.size) fun q hq _ => hq)
  obtain ⟨ap, cp, rfl, -⟩ := hP0.out.slice
  obtain ⟨P, hPe⟩ : ∃ P, P = pairsF a b a.length := ⟨_, rfl⟩
  rw [← hPe] at hP0 hPl ⊢
  replace hPe := hid hPe
  clear hO
  have hsz1 := hB1.size
  go_wp2_with fail
  go_loopw [5, 7, 8] (fun res nx i wr => ∃ k : Nat, i = .int .i64 k ∧ k ≤ a.length ∧ nx = iv (((pairsF a b k).length : Nat) : Int) ∧ Hid (RowQ w.heap.size w1.heap.size wr (onlyF a b k) res) ∧ Hid (Below w1.heap.size w1 wr)) (fun _ _ i _ => a.length - (intOf i).toNat)
  case atStart => exact ⟨0, rfl, Nat.zero_le _, rfl, hid (RowQ.nil _ _ _), hid (Below.refl _ _)⟩
  case round =>
    obtain ⟨k, rfl, hk, rfl, hO, hB⟩ := hrel
    by_cases hlt : k < a.length
    · obtain ⟨x, hx⟩ : ∃ x, a[k]? = some x := ⟨_, List.getElem?_eq_getElem hlt⟩
      obtain ⟨g, o, cs, hidx, hS, hg, hc, hr⟩ := ((hRa.out.below goodReq hB1).below goodReq hB.out).at (P := Tryd.prog) (t := 22) (by kernel_rfl) (fun _ => by kernel_rfl) hx
      obtain ⟨a1, k1, rfl, -⟩ := id hr
      have hr0 := hid hr
      have c0 := hc 0 _ rfl
      have c1 := hc 1 _ rfl
      have c2 := hc 2 _ rfl
      have c3 := hc 3 _ rfl
      have c4 := hc 4 _ rfl
      have c5 := hc 5 _ rfl
      have c6 := hc 6 _ rfl
      have c7 := hc 7 _ rfl
      rw [Nat.add_zero] at c0
      clear hc hr
      have hqx := hid (rq_at hx)
      have hpa := pairs_at a b hlt
      rw [← hPe.out] at hpa
      have hps := pairs_succ a b k
      have hos := only_succ a b k
      rw [hqx.out] at hos
      have hnl := pairs_len a b k
      have hol := only_len a b k
      obtain ⟨ar, cr, rfl, -, -⟩ := hO.out.1.slice
      obtain ⟨nx, hnx⟩ : ∃ nx, nx = (pairsF a b k).length := ⟨_, rfl⟩
      rw [← hnx] at hpa hnl ⊢
      obtain ⟨RL, hRL⟩ : ∃ RL, RL = onlyF a b k := ⟨_, rfl⟩
      rw [← hRL] at hO hol hos ⊢
      replace hos := hid hos
      replace hRL := hid hRL
      replace hps := hid hps
      replace hnx := hid hnx
      have hpush := hid (fun (w3 : World) (hB3 : Below w1.heap.size w1 w3) (hO3 : RowQ w.heap.size w1.heap.size w3 RL (.slice ar RL.length cr)) (hr3 : ReqR (fun q => q < w.heap.size) w3 x (reqCs x (.slice a1 x.args.length k1))) => push_req w3 RL x ar cr a1 k1 w.heap.size w1.heap.size hsz1 hB3.size (by omega) hO3 hr3)
      rcases hp : P[nx]? with _ | p
      · rw [hp] at hpa
        have hge : P.length ≤ nx := by
          rcases Nat.lt_or_ge nx P.length with h | h
          · rw [List.getElem?_eq_getElem h] at hp; cases hp
          · exact h
        have q1 : decide ((nx : Int) < (P.length : Int)) = false := decide_eq_false (by omega)
        have q1n : decide (nx < P.length) = false := decide_eq_false (by omega)
        have hmn : mateF a b k = none := by cases hm : mateF a b k with
          | none => rfl
          | some j => rw [hm] at hpa; cases hpa
        rw [hmn] at hos hps
        have hb1 : Below wr.heap.size wr wr := Below.refl _ wr
        have hO1 := hO.out.below hb1
        have hB2 := hid (hB.out.trans (hb1.mono hB.out.size))
        have hr1 := goodReq.below hr0.out hb1
        obtain ⟨a5, c5', W3, hap, hO3, hF3⟩ := hpush.out _ hB2.out hO1 hr1
        have hB3 := hid (hB2.out.trans hF3)
        have hnx2 : Hid ((pairsF a b (k + 1)).length = nx) := hid (by rw [hps.out, List.append_nil, hnx.out])
        have hO4 := hid (show RowQ w.heap.size w1.heap.size W3 (onlyF a b (k + 1)) (.slice a5 (RL.length + 1) c5') by rw [hos.out]; exact hO3)
        clear hO3 hO1 hb1 hF3 hpa hmn hp hpush
        go_wp2_with (first | (at_builtin; refine wpList_append_shut rfl (.tmp 33) (.tmp 38) rfl rfl rfl hap ?_))
        exact ⟨⟨k + 1, by go_num, by omega, by rw [hnx2.out], hO4, hB3⟩, by simp [intOf]; omega⟩
      · rw [hp] at hpa
        have hltn : nx < P.length := (List.getElem?_eq_some_iff.1 hp).1
        have q1 : decide ((nx : Int) < (P.length : Int)) = true := decide_eq_true (by omega)
        have q1n : decide (nx < P.length) = true := decide_eq_true hltn
        obtain ⟨g2, o2, cs2, hidx2, hS2, hg2, hc2, hr2⟩ := (hP0.out.below goodPair hB.out).at (P := Tryd.prog) (t := 34) (by kernel_rfl) (fun _ => by kernel_rfl) hp
        have hr2' : cs2 = [iv p.1, iv p.2] := hr2
        subst hr2'
        have e0 := hc2 0 _ rfl
        rw [Nat.add_zero] at e0
        have hg2n : ¬ wr.heap.size = g2 := by omega
        have hg2n' : ¬ g2 = wr.heap.size := by omega
        by_cases hpk : p.1 = k
        · have hmn : ∃ j, mateF a b k = some j := by cases hm : mateF a b k with
            | some j => exact ⟨j, rfl⟩
            | none => rw [hm] at hpa; simp [hpk] at hpa
          obtain ⟨j, hmn⟩ := hmn
          rw [hmn] at hos hps
          have hnx2 : Hid ((pairsF a b (k + 1)).length = nx + 1) := hid (by rw [hps.out, List.length_append, hnx.out]; rfl)
          have hO4 := hid (show RowQ w.heap.size w1.heap.size wr (onlyF a b (k + 1)) (.slice ar RL.length cr) by rw [hos.out, List.append_nil]; exact hO.out)
          have hB3 := hid hB.out
          have q3 : ((p.1 : Int) == (k : Int)) = true := by rw [hpk]; simp
          rw [hpk] at e0
          clear hpa hmn hp hpush
          go_wp2_with fail
          exact ⟨⟨k + 1, by go_num, by omega, by rw [hnx2.out]; go_num, hO4, hB3⟩, by simp [intOf]; omega⟩
        · have hmn : mateF a b k = none := by cases hm : mateF a b k with
            | none => rfl
            | some j => rw [hm] at hpa; simp [hpk] at hpa
          rw [hmn] at hos hps
          have q3 : ((p.1 : Int) == (k : Int)) = false := beq_eq_false_iff_ne.2 (by omega)
          have hb1 : Below wr.heap.size wr wr := Below.refl _ wr
          have hO1 := hO.out.below hb1
          have hB2 := hid (hB.out.trans (hb1.mono hB.out.size))
          have hr1 := goodReq.below hr0.out hb1
          obtain ⟨a5, c5', W3, hap, hO3, hF3⟩ := hpush.out _ hB2.out hO1 hr1
          have hB3 := hid (hB2.out.trans hF3)
          have hnx2 : Hid ((pairsF a b (k + 1)).length = nx) := hid (by rw [hps.out, List.append_nil, hnx.out])
          have hO4 := hid (show RowQ w.heap.size w1.heap.size W3 (onlyF a b (k + 1)) (.slice a5 (RL.length + 1) c5') by rw [hos.out]; exact hO3)
          clear hO3 hO1 hb1 hF3 hpa hmn hp hpush
          go_wp2_with (first | (at_builtin; refine wpList_append_shut rfl (.tmp 33) (.tmp 38) rfl rfl rfl hap ?_))
          exact ⟨⟨k + 1, by go_num, by omega, by rw [hnx2.out], hO4, hB3⟩, by simp [intOf]; omega⟩
    · obtain rfl : k = a.length := by omega
      have hB2 := hB1.trans (hB.out.mono hsz1)
      go_wp2_with fail
      go_ret
      exact ⟨_, rfl, hO.out.1.mono goodReq fun _ _ _ => trivial, hB2⟩
set_option maxHeartbeats 1000000 in
set_option maxRecDepth 100000 in
theorem lpairs_any (l : List (Nat × Nat)) (hl : l.length ≤ 1048576) (S T : Foot) (va vb : Value) (w : World) (hA : SlR 2 PairR S w l va) (hB : SlR 2 PairR T w l vb) :
    Calls Tryd.prog 17 #[va, vb] w fun e w' => e = .returned (.bool true) ∧ Below w.heap.size w w' := by
  obtain ⟨aa, ca, rfl, -⟩ := hA.slice
  obtain ⟨ab, cb, rfl, -⟩ := hB.slice
  replace hA := hid hA
  replace hB := hid hB
  have q0 : ((l.length : Int) != (l.length : Int)) = false := by simp
  go_enter Tryd.func17, Tryd.ntmps17
  go_wp2_with fail
  go_loopw [5] (fun i wr => ∃ k : Nat, i = .int .i64 k ∧ k ≤ l.length ∧ Hid (Below w.heap.size w wr)) (fun i _ => l.length - (intOf i).toNat)
  case atStart => exact ⟨0, rfl, Nat.zero_le _, hid (Below.refl _ _)⟩
  case round =>
    obtain ⟨k, rfl, hk, hW⟩ := hrel
    by_cases hlt : k < l.length
    · have q1 : decide ((k : Int) < (l.length : Int)) = true := decide_eq_true (by omega)
      obtain ⟨p, hp⟩ : ∃ p, l[k]? = some p := ⟨_, List.getElem?_eq_getElem hlt⟩
      obtain ⟨g, o, cs, hidx, -, -, hc, hr⟩ := (hA.out.below goodPair hW.out).at (P := Tryd.prog) (t := 34) (by kernel_rfl) (fun _ => by kernel_rfl) hp
      obtain ⟨g2, o2, cs2, hidx2, -, -, hc2, hr2⟩ := (hB.out.below goodPair hW.out).at (P := Tryd.prog) (t := 34) (by kernel_rfl) (fun _ => by kernel_rfl) hp
      have hr' : cs = [iv p.1, iv p.2] := hr
      have hr2' : cs2 = [iv p.1, iv p.2] := hr2
      subst hr' hr2'
      have c0 := hc 0 _ rfl
      have c1 := hc 1 _ rfl
      have d0 := hc2 0 _ rfl
      have d1 := hc2 1 _ rfl
      rw [Nat.add_zero] at c0 d0
      have heq : ∀ W, (Op.equalIn 10000 40 (.agg #[iv p.1, iv p.2]) (.agg #[iv p.1, iv p.2])).run Tryd.prog W = .ok true W := fun W => (pr_equal W _ _ _ _).trans (by simp)
      have hWd := hid (fun n => below_drewM hW.out n)
      clear hr hr2 hc hc2 hp hA hB
      generalize (p.1 : Nat) = x1 at *
      generalize (p.2 : Nat) = x2 at *
      go_wp2_with fail
      go_region
      all_goals go_wp2_with fail
      all_goals exact ⟨⟨k + 1, by go_num, by omega, hid hW.out.drew⟩, by simp [intOf]; omega⟩
    · have hkl : k = l.length := by omega
      subst hkl
      have q1 : decide ((l.length : Int) < (l.length : Int)) = false := decide_eq_false (by omega)
      go_wp2_with fail
      go_ret
      exact ⟨rfl, hW.out⟩
end Go.Proofs.YtnbhpicmflagcaaDoor
set_option linter.unusedSimpArgs false
namespace Go.Proofs.YtnbhpicmflagcaaDoor
open Go.RowKit
open Go.Lib (hid)
/-- the eight cells of a request from an offset on -/
def ReqAt (g o : Nat) (x : Req) (v : Value) (W : World) : Prop := W.cell? ⟨g, o, none⟩ = some (sv x.path) ∧ W.cell? ⟨g, o + 1, none⟩ = some (sv x.name) ∧ W.cell? ⟨g, o + 2, none⟩ = some v ∧ W.cell? ⟨g, o + 3, none⟩ = some (iv x.ord) ∧ W.cell? ⟨g, o + 4, none⟩ = some (sv x.reply) ∧ W.cell? ⟨g, o + 5, none⟩ = some (iv x.sent) ∧ W.cell? ⟨g, o + 6, none⟩ = some (iv x.tick) ∧ W.cell? ⟨g, o + 7, none⟩ = some (.bool x.opn)
theorem ReqAt.below {g o : Nat} {x : Req} {v : Value} {W W' : World} (h : ReqAt g o x v W) (hg : g < W.heap.size) (hb : Below W.heap.size W W') : ReqAt g o x v W' :=
  ⟨(hb.cell (p := ⟨g, o, none⟩) hg).trans h.1, (hb.cell (p := ⟨g, o + 1, none⟩) hg).trans h.2.1, (hb.cell (p := ⟨g, o + 2, none⟩) hg).trans h.2.2.1, (hb.cell (p := ⟨g, o + 3, none⟩) hg).trans h.2.2.2.1, (hb.cell (p := ⟨g, o + 4, none⟩) hg).trans h.2.2.2.2.1, (hb.cell (p := ⟨g, o + 5, none⟩) hg).trans h.2.2.2.2.2.1, (hb.cell (p := ⟨g, o + 6, none⟩) hg).trans h.2.2.2.2.2.2.1, (hb.cell (p := ⟨g, o + 7, none⟩) hg).trans h.2.2.2.2.2.2.2⟩
theorem ReqAt.of {g : Nat} {x : Req} {v : Value} {W : World} (h : W.heap[g]? = some (.cells (reqCs x v).toArray 25 (0, 0))) : ReqAt g 0 x v W :=
  ⟨(cell_of (i := 0) h).trans rfl, (cell_of (i := 1) h).trans rfl, (cell_of (i := 2) h).trans rfl, (cell_of (i := 3) h).trans rfl, (cell_of (i := 4) h).trans rfl, (cell_of (i := 5) h).trans rfl, (cell_of (i := 6) h).trans rfl, (cell_of (i := 7) h).trans rfl⟩
theorem req_row {W : World} {b : Nat} {x : Req} {cx : List Value} {S : Foot} (h : W.heap[b]? = some (.cells cx.toArray 25 (0, 0))) (hx : ReqR S W x cx) : SlR 8 ReqR (fun _ => True) W [x] (.slice (some ⟨b, 0, none⟩) 1 1) :=
  SlR.of_block (css := [cx]) (l := [x]) rfl (fun cs hc => by simp at hc; rw [hc]; exact goodReq.len hx) (by simpa using h) trivial (fun i z cs h1 h2 => by
    have hi : i = 0 := by
      have := (List.getElem?_eq_some_iff.1 h1).1
      simp at this; omega
    subst hi
    simp at h1 h2
    subst h1 h2
    exact goodReq.mono hx fun _ _ _ => trivial)
theorem only_ok {a b : List Req} (ha : ReqsB a) : ReqsB (onlyF a b a.length) := by
  refine ⟨Nat.le_trans (only_len a b a.length) ha.1, fun x hx => ?_⟩
  unfold onlyF at hx
  obtain ⟨i, hi, h⟩ := List.mem_filterMap.1 hx
  have hlt := List.mem_range.1 hi
  split at h
  · cases h
  · injection h with h
    exact ha.2 x (h ▸ List.mem_of_getElem? (at_rq hlt))
set_option maxHeartbeats 4000000 in
set_option maxRecDepth 100000 in
theorem MatchTells_walk (a b : List Req) (r : Req) (va vb : Value) (cr : List Value) (w0 : World) (ht : TabR w0) (ha : ReqsB a) (hb : ReqsB b) (hr : ReqB r) (hRa : ReqsR (fun _ => True) w0 a va) (hRb : ReqsR (fun _ => True) w0 b vb) (hRr : ReqR (fun _ => True) w0 r cr) :
    Calls Tryd.prog 3 #[va, vb, .agg cr.toArray] w0 fun e w' => e = .returned (.bool true) ∧ Below w0.heap.size w0 w' := by
  obtain ⟨aa, ca, rfl, -⟩ := hRa.slice
  obtain ⟨ab, cb, rfl, -⟩ := hRb.slice
  obtain ⟨ar, kr, rfl, hrv⟩ := id hRr
  have hla := ha.1
  have hlb := hb.1
  have hRr2 := hid (goodReq.mono hRr (T := fun k => k < w0.heap.size) fun k hk _ => hk)
  have hRv := hid (hrv.mono goodVal (T := fun k => k < w0.heap.size) fun k hk _ => hk)
  replace hRa := hid (hRa.mono goodReq (T := fun k => k < w0.heap.size) fun k hk _ => hk)
  replace hRb := hid (hRb.mono goodReq (T := fun k => k < w0.heap.size) fun k hk _ => hk)
  have hbox := heap_alloc_new' w0 (.cells (reqCs r (.slice ar r.args.length kr)).toArray 25)
  have hBx := hid ((Below.refl w0.heap.size w0).alloc (Nat.le_refl _) (.cells (reqCs r (.slice ar r.args.length kr)).toArray 25))
  have hq0 := hid (ReqAt.of hbox)
  have hl0 : w0.heap.size < (w0.alloc (.cells (reqCs r (.slice ar r.args.length kr)).toArray 25)).heap.size := by simp
  replace ht := hid ht
  replace ha := hid ha
  replace hb := hid hb
  have hr1 := hr.1
  have hr2 := hr.2.1
  have hr3 := hr.2.2.1
  replace hr := hid hr
  clear hRr hrv hbox
  go_enter Tryd.func3, Tryd.ntmps3
  go_wp2_with fail
  refine (small_any _ (ht.out.below hBx.out (Nat.le_refl _))).mono ?_
  rintro e w1 ⟨rfl, hbb⟩
  have hB1 := hid (hBx.out.trans (hbb.mono hBx.out.size))
  have hq1 := hid (hq0.out.below hl0 hbb)
  have hl1 := Nat.lt_of_lt_of_le hl0 hbb.size
  clear hbb hq0 hl0 hBx
  go_wp2_with fail
  refine (few_any a ha.out _ _ w1 (hRa.out.below goodReq hB1.out)).mono ?_
  rintro e w2 ⟨f, rfl, hf, hbb⟩
  have hB2 := hid (hB1.out.trans (hbb.mono hB1.out.size))
  have hq2 := hid (hq1.out.below hl1 hbb)
  have hl2 := Nat.lt_of_lt_of_le hl1 hbb.size
  clear hbb hB1 hq1 hl1
  cases f with
  | false =>
    clear hf
    go_wp2_with fail
    go_ret
    exact ⟨rfl, hB2.out⟩
  | true =>
    have hFa : Hid (FewP a) := hid (hf rfl)
    clear hf
    go_wp2_with fail
    refine (few_any b hb.out _ _ w2 (hRb.out.below goodReq hB2.out)).mono ?_
    rintro e w3 ⟨f, rfl, hf, hbb⟩
    have hB3 := hid (hB2.out.trans (hbb.mono hB2.out.size))
    have hq3 := hid (hq2.out.below hl2 hbb)
    have hl3 := Nat.lt_of_lt_of_le hl2 hbb.size
    clear hbb hB2 hq2 hl2
    cases f with
    | false =>
      clear hf
      go_wp2_with fail
      go_ret
      exact ⟨rfl, hB3.out⟩
    | true =>
      have hFb : Hid (FewP b) := hid (hf rfl)
      clear hf
      obtain ⟨c0, c1, c2, c3, c4, c5, c6, c7⟩ := id hq3.out
      have hnew := heap_alloc_new' w3 (.cells (reqCs r (.slice ar r.args.length kr)).toArray 25)
      have hba : Below w3.heap.size w3 (w3.alloc (.cells (reqCs r (.slice ar r.args.length kr)).toArray 25)) := (Below.refl _ _).alloc (Nat.le_refl _) _
      have hrow := req_row hnew (goodReq.below (goodReq.below hRr2.out hB3.out) hba)
      have hfew := hid (few_any [r] ⟨by simp, fun x hx => by simp at hx; rw [hx]; exact hr.out⟩ _ _ _ hrow)
      have hba' := hid hba
      clear hnew hrow hba
      go_wp2_with fail
      refine hfew.out.mono ?_
      rintro e w4 ⟨f, rfl, hf, hbb⟩
      have hbb4 := hba'.out.trans (hbb.mono hba'.out.size)
      have hB4 := hid (hB3.out.trans (hbb4.mono hB3.out.size))
      have hq4 := hid (hq3.out.below hl3 hbb4)
      have hl4 := Nat.lt_of_lt_of_le hl3 hbb4.size
      clear hbb hbb4 hB3 hq3 hl3 hba' hfew c0 c1 c2 c3 c4 c5 c6 c7
      cases f with
      | false =>
        clear hf
        go_wp2_with fail
        go_ret
        exact ⟨rfl, hB4.out⟩
      | true =>
        have hFr := (hf rfl).2 r (by simp)
        have hKr := hid (few_key hFr)
        have hFe := hid (fun y (hy : y ∈ r.args) => (Nat.le_trans (hFr.2.2 y hy) (by decide) : (encF y).length ≤ 1000000000))
        have hKa := hid (fun x (hx : x ∈ a) => few_key (hFa.out.2 x hx))
        have hKb := hid (fun x (hx : x ∈ b) => few_key (hFb.out.2 x hx))
        clear hf hFr hFa hFb
        obtain ⟨c0, c1, c2, c3, c4, c5, c6, c7⟩ := id hq4.out
        go_wp2_with fail
        refine (find_any a r.path r.name r.args r.ord ha.out hr1 _ _ _ _ w4 (hRa.out.below goodReq hB4.out) (hRv.out.below goodVal hB4.out)).mono ?_
        rintro e w5 ⟨rfl, hbb⟩
        have hB5 := hid (hB4.out.trans (hbb.mono hB4.out.size))
        have hq5 := hid (hq4.out.below hl4 hbb)
        have hl5 := Nat.lt_of_lt_of_le hl4 hbb.size
        clear hbb hB4 hq4 hl4 c0 c1 c2 c3 c4 c5 c6 c7
        obtain ⟨c0, c1, c2, c3, c4, c5, c6, c7⟩ := id hq5.out
        obtain ⟨fo, hfo⟩ : ∃ fo, fo = findF a r.path r.name r.args r.ord := ⟨_, rfl⟩
        have hrf := hid (rfind_any a r.path r.name r.args r.ord ha.out hr1 hr2 hr3 _ _ _ _ w5 (hRa.out.below goodReq hB5.out) (hRv.out.below goodVal hB5.out))
        rw [← hfo] at hrf ⊢
        replace hfo := hid hfo
        unfold findV at hrf
        unfold findV
        obtain ⟨fi, hfi⟩ : ∃ fi, fi = fo.getD 0 := ⟨_, rfl⟩
        obtain ⟨fb, hfb⟩ : ∃ fb, fb = fo.isSome := ⟨_, rfl⟩
        rw [← hfi, ← hfb] at hrf ⊢
        replace hfi := hid hfi
        replace hfb := hid hfb
        go_wp2_with fail
        with_reducible refine hrf.out.mono ?_
        rintro e w6 ⟨rfl, hbb⟩
        have hB6 := hid (hB5.out.trans (hbb.mono hB5.out.size))
        have hq6 := hid (hq5.out.below hl5 hbb)
        have hl6 := Nat.lt_of_lt_of_le hl5 hbb.size
        clear hbb hB5 hq5 hl5 c0 c1 c2 c3 c4 c5 c6 c7 hrf
        have hqd : ReqAt w0.heap.size 0 r (.slice ar r.args.length kr) w6.drew := hq6.out
        have hld : w0.heap.size < w6.drew.heap.size := hl6
        have hBd := hid hB6.out.drew
        have hck := hid (fun (W : World) (h : Below w0.heap.size w0 W) => key_any r hr.out hKr.out _ _ W (ht.out.below h (Nat.le_refl _)) (goodReq.below hRr2.out h))
        have hcr := hid (fun (W : World) (h : Below w0.heap.size w0 W) => rkey_any r hr.out hKr.out hFe.out _ _ W (goodReq.below hRr2.out h))
        have hco := hid (fun (W : World) (h : Below w0.heap.size w0 W) => ord_any a r.path r.name r.args ha.out hr1 _ _ _ _ W (hRa.out.below goodReq h) (hRv.out.below goodVal h))
        have hcp := hid (fun (W : World) (h : Below w0.heap.size w0 W) => rord_any a r.path r.name r.args ha.out hr1 _ _ _ _ W (hRa.out.below goodReq h) (hRv.out.below goodVal h))
        generalize keyF r = KF at *
        generalize ordF a r.path r.name r.args = OF at *
        go_wp2_with fail
        refine wp_region_held_drew (S := fun w' => ReqAt w0.heap.size 0 r (.slice ar r.args.length kr) w') (by kernel_rfl) ?_ (fun hHeld => ?_)
        · exact hqd
        refine wpAnyH_take (i := 0) (oi := ⟨_, _, _, _, _, _⟩) (v := ?_) rfl (by as_aux_lemma => kernel_rfl) (by as_aux_lemma => kernel_rfl) (by as_aux_lemma => kernel_rfl) (fun _ _ _ h => h) (Or.inl ⟨by rfl, ?hy⟩) (by assumption) ?_
        case hy =>
          intro w hSw
          obtain ⟨c0, c1, c2, c3, c4, c5, c6, c7⟩ := hSw
          go_simp
          all_goals with_reducible rfl
        try simp only [Act.put, List.setIfInBounds_toArray, List.set_cons_zero, List.set_cons_succ]
        refine wpAnyH_take (i := 2) (oi := ⟨_, _, _, _, _, _⟩) (v := ?_) rfl (by as_aux_lemma => kernel_rfl) (by as_aux_lemma => kernel_rfl) (by as_aux_lemma => kernel_rfl) (fun _ _ _ h => h) (Or.inl ⟨by rfl, ?hy⟩) (by assumption) ?_
        case hy =>
          intro w hSw
          obtain ⟨c0, c1, c2, c3, c4, c5, c6, c7⟩ := hSw
          go_simp
          all_goals with_reducible rfl
        try simp only [Act.put, List.setIfInBounds_toArray, List.set_cons_zero, List.set_cons_succ]
        refine wpAnyH_ready (rs := [1]) (by as_aux_lemma => kernel_rfl) (by simp) ?_
        refine AllReadyH.cons (o := ⟨_, _, _, _, _, _⟩) rfl (fun K hK => ?_) AllReadyH.nil
        go_simp
        go_at_call 11
        with_reducible refine (hck.out _ hBd.out).mono ?_
        rintro e w7 ⟨rfl, hb7⟩
        have v7 := hqd.below hld hb7
        have l7 := Nat.lt_of_lt_of_le hld hb7.size
        have g7 := hid (hBd.out.trans (hb7.mono hBd.out.size))
        clear hb7
        refine hK.out _ _ ?_ (fun hHeld2 => ?_)
        · exact v7
        clear hK K hHeld
        have hHeld := hHeld2
        clear hHeld2
        try simp only [Act.put, List.setIfInBounds_toArray, List.set_cons_zero, List.set_cons_succ]
        refine wpAnyH_ready (rs := [3]) (by as_aux_lemma => kernel_rfl) (by simp) ?_
        refine AllReadyH.cons (o := ⟨_, _, _, _, _, _⟩) rfl (fun K hK => ?_) AllReadyH.nil
        go_simp
        go_at_call 12
        with_reducible refine (hcr.out _ g7.out).mono ?_
        rintro e w8 ⟨rfl, hb8⟩
        have v8 := v7.below l7 hb8
        have l8 := Nat.lt_of_lt_of_le l7 hb8.size
        have g8 := hid (g7.out.trans (hb8.mono g7.out.size))
        clear hb8
        refine hK.out _ _ ?_ (fun hHeld2 => ?_)
        · exact v8
        clear hK K hHeld
        have hHeld := hHeld2
        clear hHeld2
        try simp only [Act.put, List.setIfInBounds_toArray, List.set_cons_zero, List.set_cons_succ]
        refine wpAnyH_take (i := 4) (oi := ⟨_, _, _, _, _, _⟩) (v := ?_) rfl (by as_aux_lemma => kernel_rfl) (by as_aux_lemma => kernel_rfl) (by as_aux_lemma => kernel_rfl) (fun _ _ _ h => h) (Or.inl ⟨by rfl, ?hy⟩) (by assumption) ?_
        case hy =>
          intro w hSw
          obtain ⟨c0, c1, c2, c3, c4, c5, c6, c7⟩ := hSw
          go_simp
          all_goals with_reducible rfl
        try simp only [Act.put, List.setIfInBounds_toArray, List.set_cons_zero, List.set_cons_succ]
        refine wpAnyH_take (i := 5) (oi := ⟨_, _, _, _, _, _⟩) (v := ?_) rfl (by as_aux_lemma => kernel_rfl) (by as_aux_lemma => kernel_rfl) (by as_aux_lemma => kernel_rfl) (fun _ _ _ h => h) (Or.inl ⟨by rfl, ?hy⟩) (by assumption) ?_
        case hy =>
          intro w hSw
          obtain ⟨c0, c1, c2, c3, c4, c5, c6, c7⟩ := hSw
          go_simp
          all_goals with_reducible rfl
        try simp only [Act.put, List.setIfInBounds_toArray, List.set_cons_zero, List.set_cons_succ]
        refine wpAnyH_take (i := 6) (oi := ⟨_, _, _, _, _, _⟩) (v := ?_) rfl (by as_aux_lemma => kernel_rfl) (by as_aux_lemma => kernel_rfl) (by as_aux_lemma => kernel_rfl) (fun _ _ _ h => h) (Or.inl ⟨by rfl, ?hy⟩) (by assumption) ?_
        case hy =>
          intro w hSw
          obtain ⟨c0, c1, c2, c3, c4, c5, c6, c7⟩ := hSw
          go_simp
          all_goals with_reducible rfl
        try simp only [Act.put, List.setIfInBounds_toArray, List.set_cons_zero, List.set_cons_succ]
        refine wpAnyH_take (i := 7) (oi := ⟨_, _, _, _, _, _⟩) (v := ?_) rfl (by as_aux_lemma => kernel_rfl) (by as_aux_lemma => kernel_rfl) (by as_aux_lemma => kernel_rfl) (fun _ _ _ h => h) (Or.inl ⟨by rfl, ?hy⟩) (by assumption) ?_
        case hy =>
          intro w hSw
          obtain ⟨c0, c1, c2, c3, c4, c5, c6, c7⟩ := hSw
          go_simp
          all_goals with_reducible rfl
        try simp only [Act.put, List.setIfInBounds_toArray, List.set_cons_zero, List.set_cons_succ]
        refine wpAnyH_take (i := 8) (oi := ⟨_, _, _, _, _, _⟩) (v := ?_) rfl (by as_aux_lemma => kernel_rfl) (by as_aux_lemma => kernel_rfl) (by as_aux_lemma => kernel_rfl) (fun _ _ _ h => h) (Or.inl ⟨by rfl, ?hy⟩) (by assumption) ?_
        case hy =>
          intro w hSw
          obtain ⟨c0, c1, c2, c3, c4, c5, c6, c7⟩ := hSw
          go_simp
          all_goals with_reducible rfl
        try simp only [Act.put, List.setIfInBounds_toArray, List.set_cons_zero, List.set_cons_succ]
        refine wpAnyH_take (i := 9) (oi := ⟨_, _, _, _, _, _⟩) (v := ?_) rfl (by as_aux_lemma => kernel_rfl) (by as_aux_lemma => kernel_rfl) (by as_aux_lemma => kernel_rfl) (fun _ _ _ h => h) (Or.inl ⟨by rfl, ?hy⟩) (by assumption) ?_
        case hy =>
          intro w hSw
          obtain ⟨c0, c1, c2, c3, c4, c5, c6, c7⟩ := hSw
          go_simp
          all_goals with_reducible rfl
        try simp only [Act.put, List.setIfInBounds_toArray, List.set_cons_zero, List.set_cons_succ]
        refine wpAnyH_take (i := 10) (oi := ⟨_, _, _, _, _, _⟩) (v := ?_) rfl (by as_aux_lemma => kernel_rfl) (by as_aux_lemma => kernel_rfl) (by as_aux_lemma => kernel_rfl) (fun _ _ _ h => h) (Or.inl ⟨by rfl, ?hy⟩) (by assumption) ?_
        case hy =>
          intro w hSw
          obtain ⟨c0, c1, c2, c3, c4, c5, c6, c7⟩ := hSw
          go_simp
          all_goals with_reducible rfl
        try simp only [Act.put, List.setIfInBounds_toArray, List.set_cons_zero, List.set_cons_succ]
        refine wpAnyH_take (i := 11) (oi := ⟨_, _, _, _, _, _⟩) (v := ?_) rfl (by as_aux_lemma => kernel_rfl) (by as_aux_lemma => kernel_rfl) (by as_aux_lemma => kernel_rfl) (fun _ _ _ h => h) (Or.inl ⟨by rfl, ?hy⟩) (by assumption) ?_
        case hy =>
          intro w hSw
          obtain ⟨c0, c1, c2, c3, c4, c5, c6, c7⟩ := hSw
          go_simp
          all_goals with_reducible rfl
        try simp only [Act.put, List.setIfInBounds_toArray, List.set_cons_zero, List.set_cons_succ]
        refine wpAnyH_take (i := 12) (oi := ⟨_, _, _, _, _, _⟩) (v := ?_) rfl (by as_aux_lemma => kernel_rfl) (by as_aux_lemma => kernel_rfl) (by as_aux_lemma => kernel_rfl) (fun _ _ _ h => h) (Or.inl ⟨by rfl, ?hy⟩) (by assumption) ?_
        case hy =>
          intro w hSw
          obtain ⟨c0, c1, c2, c3, c4, c5, c6, c7⟩ := hSw
          go_simp
          all_goals with_reducible rfl
        try simp only [Act.put, List.setIfInBounds_toArray, List.set_cons_zero, List.set_cons_succ]
        refine wpAnyH_take (i := 13) (oi := ⟨_, _, _, _, _, _⟩) (v := ?_) rfl (by as_aux_lemma => kernel_rfl) (by as_aux_lemma => kernel_rfl) (by as_aux_lemma => kernel_rfl) (fun _ _ _ h => h) (Or.inl ⟨by rfl, ?hy⟩) (by assumption) ?_
        case hy =>
          intro w hSw
          obtain ⟨c0, c1, c2, c3, c4, c5, c6, c7⟩ := hSw
          go_simp
          all_goals with_reducible rfl
        try simp only [Act.put, List.setIfInBounds_toArray, List.set_cons_zero, List.set_cons_succ]
        refine wpAnyH_take (i := 14) (oi := ⟨_, _, _, _, _, _⟩) (v := ?_) rfl (by as_aux_lemma => kernel_rfl) (by as_aux_lemma => kernel_rfl) (by as_aux_lemma => kernel_rfl) (fun _ _ _ h => h) (Or.inl ⟨by rfl, ?hy⟩) (by assumption) ?_
        case hy =>
          intro w hSw
          obtain ⟨c0, c1, c2, c3, c4, c5, c6, c7⟩ := hSw
          go_simp
          all_goals with_reducible rfl
        try simp only [Act.put, List.setIfInBounds_toArray, List.set_cons_zero, List.set_cons_succ]
        refine wpAnyH_take (i := 15) (oi := ⟨_, _, _, _, _, _⟩) (v := ?_) rfl (by as_aux_lemma => kernel_rfl) (by as_aux_lemma => kernel_rfl) (by as_aux_lemma => kernel_rfl) (fun _ _ _ h => h) (Or.inl ⟨by rfl, ?hy⟩) (by assumption) ?_
        case hy =>
          intro w hSw
          obtain ⟨c0, c1, c2, c3, c4, c5, c6, c7⟩ := hSw
          go_simp
          all_goals with_reducible rfl
        try simp only [Act.put, List.setIfInBounds_toArray, List.set_cons_zero, List.set_cons_succ]
        refine wpAnyH_take (i := 16) (oi := ⟨_, _, _, _, _, _⟩) (v := ?_) rfl (by as_aux_lemma => kernel_rfl) (by as_aux_lemma => kernel_rfl) (by as_aux_lemma => kernel_rfl) (fun _ _ _ h => h) (Or.inl ⟨by rfl, ?hy⟩) (by assumption) ?_
        case hy =>
          intro w hSw
          obtain ⟨c0, c1, c2, c3, c4, c5, c6, c7⟩ := hSw
          go_simp
          all_goals with_reducible rfl
        try simp only [Act.put, List.setIfInBounds_toArray, List.set_cons_zero, List.set_cons_succ]
        refine wpAnyH_take (i := 17) (oi := ⟨_, _, _, _, _, _⟩) (v := ?_) rfl (by as_aux_lemma => kernel_rfl) (by as_aux_lemma => kernel_rfl) (by as_aux_lemma => kernel_rfl) (fun _ _ _ h => h) (Or.inl ⟨by rfl, ?hy⟩) (by assumption) ?_
        case hy =>
          intro w hSw
          obtain ⟨c0, c1, c2, c3, c4, c5, c6, c7⟩ := hSw
          go_simp
          all_goals with_reducible rfl
        try simp only [Act.put, List.setIfInBounds_toArray, List.set_cons_zero, List.set_cons_succ]
        refine wpAnyH_take (i := 18) (oi := ⟨_, _, _, _, _, _⟩) (v := ?_) rfl (by as_aux_lemma => kernel_rfl) (by as_aux_lemma => kernel_rfl) (by as_aux_lemma => kernel_rfl) (fun _ _ _ h => h) (Or.inl ⟨by rfl, ?hy⟩) (by assumption) ?_
        case hy =>
          intro w hSw
          obtain ⟨c0, c1, c2, c3, c4, c5, c6, c7⟩ := hSw
          go_simp
          all_goals with_reducible rfl
        try simp only [Act.put, List.setIfInBounds_toArray, List.set_cons_zero, List.set_cons_succ]
        refine wpAnyH_take (i := 19) (oi := ⟨_, _, _, _, _, _⟩) (v := ?_) rfl (by as_aux_lemma => kernel_rfl) (by as_aux_lemma => kernel_rfl) (by as_aux_lemma => kernel_rfl) (fun _ _ _ h => h) (Or.inl ⟨by rfl, ?hy⟩) (by assumption) ?_
        case hy =>
          intro w hSw
          obtain ⟨c0, c1, c2, c3, c4, c5, c6, c7⟩ := hSw
          go_simp
          all_goals with_reducible rfl
        try simp only [Act.put, List.setIfInBounds_toArray, List.set_cons_zero, List.set_cons_succ]
        refine wpAnyH_take (i := 20) (oi := ⟨_, _, _, _, _, _⟩) (v := ?_) rfl (by as_aux_lemma => kernel_rfl) (by as_aux_lemma => kernel_rfl) (by as_aux_lemma => kernel_rfl) (fun _ _ _ h => h) (Or.inl ⟨by rfl, ?hy⟩) (by assumption) ?_
        case hy =>
          intro w hSw
          obtain ⟨c0, c1, c2, c3, c4, c5, c6, c7⟩ := hSw
          go_simp
          all_goals with_reducible rfl
        try simp only [Act.put, List.setIfInBounds_toArray, List.set_cons_zero, List.set_cons_succ]
        refine wpAnyH_take (i := 21) (oi := ⟨_, _, _, _, _, _⟩) (v := ?_) rfl (by as_aux_lemma => kernel_rfl) (by as_aux_lemma => kernel_rfl) (by as_aux_lemma => kernel_rfl) (fun _ _ _ h => h) (Or.inl ⟨by rfl, ?hy⟩) (by assumption) ?_
        case hy =>
          intro w hSw
          obtain ⟨c0, c1, c2, c3, c4, c5, c6, c7⟩ := hSw
          go_simp
          all_goals with_reducible rfl
        try simp only [Act.put, List.setIfInBounds_toArray, List.set_cons_zero, List.set_cons_succ]
        refine wpAnyH_take (i := 22) (oi := ⟨_, _, _, _, _, _⟩) (v := ?_) rfl (by as_aux_lemma => kernel_rfl) (by as_aux_lemma => kernel_rfl) (by as_aux_lemma => kernel_rfl) (fun _ _ _ h => h) (Or.inl ⟨by rfl, ?hy⟩) (by assumption) ?_
        case hy =>
          intro w hSw
          obtain ⟨c0, c1, c2, c3, c4, c5, c6, c7⟩ := hSw
          go_simp
          all_goals with_reducible rfl
        try simp only [Act.put, List.setIfInBounds_toArray, List.set_cons_zero, List.set_cons_succ]
        refine wpAnyH_take (i := 24) (oi := ⟨_, _, _, _, _, _⟩) (v := ?_) rfl (by as_aux_lemma => kernel_rfl) (by as_aux_lemma => kernel_rfl) (by as_aux_lemma => kernel_rfl) (fun _ _ _ h => h) (Or.inl ⟨by rfl, ?hy⟩) (by assumption) ?_
        case hy =>
          intro w hSw
          obtain ⟨c0, c1, c2, c3, c4, c5, c6, c7⟩ := hSw
          go_simp
          all_goals with_reducible rfl
        try simp only [Act.put, List.setIfInBounds_toArray, List.set_cons_zero, List.set_cons_succ]
        refine wpAnyH_take (i := 25) (oi := ⟨_, _, _, _, _, _⟩) (v := ?_) rfl (by as_aux_lemma => kernel_rfl) (by as_aux_lemma => kernel_rfl) (by as_aux_lemma => kernel_rfl) (fun _ _ _ h => h) (Or.inl ⟨by rfl, ?hy⟩) (by assumption) ?_
        case hy =>
          intro w hSw
          obtain ⟨c0, c1, c2, c3, c4, c5, c6, c7⟩ := hSw
          go_simp
          all_goals with_reducible rfl
        try simp only [Act.put, List.setIfInBounds_toArray, List.set_cons_zero, List.set_cons_succ]
        refine wpAnyH_take (i := 26) (oi := ⟨_, _, _, _, _, _⟩) (v := ?_) rfl (by as_aux_lemma => kernel_rfl) (by as_aux_lemma => kernel_rfl) (by as_aux_lemma => kernel_rfl) (fun _ _ _ h => h) (Or.inl ⟨by rfl, ?hy⟩) (by assumption) ?_
        case hy =>
          intro w hSw
          obtain ⟨c0, c1, c2, c3, c4, c5, c6, c7⟩ := hSw
          go_simp
          all_goals with_reducible rfl
        try simp only [Act.put, List.setIfInBounds_toArray, List.set_cons_zero, List.set_cons_succ]
        refine wpAnyH_take (i := 27) (oi := ⟨_, _, _, _, _, _⟩) (v := ?_) rfl (by as_aux_lemma => kernel_rfl) (by as_aux_lemma => kernel_rfl) (by as_aux_lemma => kernel_rfl) (fun _ _ _ h => h) (Or.inl ⟨by rfl, ?hy⟩) (by assumption) ?_
        case hy =>
          intro w hSw
          obtain ⟨c0, c1, c2, c3, c4, c5, c6, c7⟩ := hSw
          go_simp
          all_goals with_reducible rfl
        try simp only [Act.put, List.setIfInBounds_toArray, List.set_cons_zero, List.set_cons_succ]
        refine wpAnyH_take (i := 28) (oi := ⟨_, _, _, _, _, _⟩) (v := ?_) rfl (by as_aux_lemma => kernel_rfl) (by as_aux_lemma => kernel_rfl) (by as_aux_lemma => kernel_rfl) (fun _ _ _ h => h) (Or.inl ⟨by rfl, ?hy⟩) (by assumption) ?_
        case hy =>
          intro w hSw
          obtain ⟨c0, c1, c2, c3, c4, c5, c6, c7⟩ := hSw
          go_simp
          all_goals with_reducible rfl
        try simp only [Act.put, List.setIfInBounds_toArray, List.set_cons_zero, List.set_cons_succ]
        refine wpAnyH_take (i := 29) (oi := ⟨_, _, _, _, _, _⟩) (v := ?_) rfl (by as_aux_lemma => kernel_rfl) (by as_aux_lemma => kernel_rfl) (by as_aux_lemma => kernel_rfl) (fun _ _ _ h => h) (Or.inl ⟨by rfl, ?hy⟩) (by assumption) ?_
        case hy =>
          intro w hSw
          obtain ⟨c0, c1, c2, c3, c4, c5, c6, c7⟩ := hSw
          go_simp
          all_goals with_reducible rfl
        try simp only [Act.put, List.setIfInBounds_toArray, List.set_cons_zero, List.set_cons_succ]
        refine wpAnyH_take (i := 30) (oi := ⟨_, _, _, _, _, _⟩) (v := ?_) rfl (by as_aux_lemma => kernel_rfl) (by as_aux_lemma => kernel_rfl) (by as_aux_lemma => kernel_rfl) (fun _ _ _ h => h) (Or.inl ⟨by rfl, ?hy⟩) (by assumption) ?_
        case hy =>
          intro w hSw
          obtain ⟨c0, c1, c2, c3, c4, c5, c6, c7⟩ := hSw
          go_simp
          all_goals with_reducible rfl
        try simp only [Act.put, List.setIfInBounds_toArray, List.set_cons_zero, List.set_cons_succ]
        refine wpAnyH_ready (rs := [23]) (by as_aux_lemma => kernel_rfl) (by simp) ?_
        refine AllReadyH.cons (o := ⟨_, _, _, _, _, _⟩) rfl (fun K hK => ?_) AllReadyH.nil
        go_simp
        go_at_call 13
        with_reducible refine (hco.out _ g8.out).mono ?_
        rintro e w9 ⟨rfl, hb9⟩
        have v9 := v8.below l8 hb9
        have l9 := Nat.lt_of_lt_of_le l8 hb9.size
        have g9 := hid (g8.out.trans (hb9.mono g8.out.size))
        clear hb9
        refine hK.out _ _ ?_ (fun hHeld2 => ?_)
        · exact v9
        clear hK K hHeld
        have hHeld := hHeld2
        clear hHeld2
        try simp only [Act.put, List.setIfInBounds_toArray, List.set_cons_zero, List.set_cons_succ]
        refine wpAnyH_ready (rs := [31]) (by as_aux_lemma => kernel_rfl) (by simp) ?_
        refine AllReadyH.cons (o := ⟨_, _, _, _, _, _⟩) rfl (fun K hK => ?_) AllReadyH.nil
        go_simp
        go_at_call 14
        with_reducible refine (hcp.out _ g9.out).mono ?_
        rintro e w10 ⟨rfl, hb10⟩
        have v10 := v9.below l9 hb10
        have l10 := Nat.lt_of_lt_of_le l9 hb10.size
        have g10 := hid (g9.out.trans (hb10.mono g9.out.size))
        clear hb10
        refine hK.out _ _ ?_ (fun hHeld2 => ?_)
        · exact v10
        clear hK K hHeld
        have hHeld := hHeld2
        clear hHeld2
        try simp only [Act.put, List.setIfInBounds_toArray, List.set_cons_zero, List.set_cons_succ]
        refine wpAnyH_take (i := 32) (oi := ⟨_, _, _, _, _, _⟩) (v := ?_) rfl (by as_aux_lemma => kernel_rfl) (by as_aux_lemma => kernel_rfl) (by as_aux_lemma => kernel_rfl) (fun _ _ _ h => h) (Or.inl ⟨by rfl, ?hy⟩) (by assumption) ?_
        case hy =>
          intro w hSw
          obtain ⟨c0, c1, c2, c3, c4, c5, c6, c7⟩ := hSw
          go_simp
          all_goals with_reducible rfl
        try simp only [Act.put, List.setIfInBounds_toArray, List.set_cons_zero, List.set_cons_succ]
        refine wpAnyH_take (i := 33) (oi := ⟨_, _, _, _, _, _⟩) (v := ?_) rfl (by as_aux_lemma => kernel_rfl) (by as_aux_lemma => kernel_rfl) (by as_aux_lemma => kernel_rfl) (fun _ _ _ h => h) (Or.inl ⟨by rfl, ?hy⟩) (by assumption) ?_
        case hy =>
          intro w hSw
          obtain ⟨c0, c1, c2, c3, c4, c5, c6, c7⟩ := hSw
          go_simp
          all_goals with_reducible rfl
        try simp only [Act.put, List.setIfInBounds_toArray, List.set_cons_zero, List.set_cons_succ]
        refine wpAnyH_done (by as_aux_lemma => kernel_rfl) ?_ _
        clear hck hcr hco hcp v7 v8 v9 hqd
        have hq10 := hid v10
        go_wp2_with fail
        go_loopw [12] (fun i wr => ∃ k : Nat, i = .int .i64 k ∧ k ≤ a.length ∧ Hid (ReqAt w0.heap.size 0 r (.slice ar r.args.length kr) wr) ∧ w0.heap.size < wr.heap.size ∧ Hid (Below w0.heap.size w0 wr)) (fun i _ => a.length - (intOf i).toNat)
        case atStart => exact ⟨0, rfl, Nat.zero_le _, hq10, l10, g10⟩
        case round =>
          clear v10 hq10 l10 g10 l7 l8 l9 g7 g8 g9 hBd hld hl6 hB6 hq6
          obtain ⟨k, rfl, hk, hq, hl, hB⟩ := hrel
          by_cases hlt : k < a.length
          · have q1 : decide ((k : Int) < (a.length : Int)) = true := decide_eq_true (by omega)
            obtain ⟨x, hx⟩ : ∃ x, a[k]? = some x := ⟨_, List.getElem?_eq_getElem hlt⟩
            obtain ⟨g, o, cs, hidx, hS, hg, hc, hxr⟩ := hRa.out.at (P := Tryd.prog) (t := 22) (by kernel_rfl) (fun _ => by kernel_rfl) hx
            have hxB := hid (ha.out.2 x (List.mem_of_getElem? hx))
            obtain ⟨a1, k1, rfl, -⟩ := id hxr
            have hxr2 := hid hxr
            have hx0 : ReqAt g o x (.slice a1 x.args.length k1) w0 := ⟨by have := hc 0 _ rfl; rwa [Nat.add_zero] at this, hc 1 _ rfl, hc 2 _ rfl, hc 3 _ rfl, hc 4 _ rfl, hc 5 _ rfl, hc 6 _ rfl, hc 7 _ rfl⟩
            have hxd : ReqAt g o x (.slice a1 x.args.length k1) wr.drew := hx0.below hg hB.out.drew
            have hqd : ReqAt w0.heap.size 0 r (.slice ar r.args.length kr) wr.drew := hq.out
            have hgl : g < wr.drew.heap.size := Nat.lt_of_lt_of_le hg hB.out.size
            have hld : w0.heap.size < wr.drew.heap.size := hl
            have hBd := hid hB.out.drew
            have hca := hid (fun (W : World) (h : Below w0.heap.size w0 W) => alike_any x r hxB.out hr.out _ _ _ _ W (goodReq.below hxr2.out h) (goodReq.below hRr2.out h))
            have hcb := hid (fun (W : World) (h : Below w0.heap.size w0 W) => ralike_any x r hxB.out hr.out _ _ _ _ W (goodReq.below hxr2.out h) (goodReq.below hRr2.out h))
            generalize dec (AlikeP x r) = AL at *
            clear hc hxr hx0 hx
            go_wp2_with fail
            refine wp_region_held_drew (S := fun w' => ReqAt w0.heap.size 0 r (.slice ar r.args.length kr) w' ∧ ReqAt g o x (.slice a1 x.args.length k1) w') (by kernel_rfl) ?_ (fun hHeld => ?_)
            · exact ⟨hqd, hxd⟩
            refine wpAnyH_take (i := 0) (oi := ⟨_, _, _, _, _, _⟩) (v := ?_) rfl (by as_aux_lemma => kernel_rfl) (by as_aux_lemma => kernel_rfl) (by as_aux_lemma => kernel_rfl) (fun _ _ _ h => h) (Or.inl ⟨by rfl, ?hy⟩) (by assumption) ?_
            case hy =>
              intro w hSw
              obtain ⟨⟨c0, c1, c2, c3, c4, c5, c6, c7⟩, d0, d1, d2, d3, d4, d5, d6, d7⟩ := hSw
              go_simp
              all_goals with_reducible rfl
            try simp only [Act.put, List.setIfInBounds_toArray, List.set_cons_zero, List.set_cons_succ]
            refine wpAnyH_take (i := 1) (oi := ⟨_, _, _, _, _, _⟩) (v := ?_) rfl (by as_aux_lemma => kernel_rfl) (by as_aux_lemma => kernel_rfl) (by as_aux_lemma => kernel_rfl) (fun _ _ _ h => h) (Or.inl ⟨by rfl, ?hy⟩) (by assumption) ?_
            case hy =>
              intro w hSw
              obtain ⟨⟨c0, c1, c2, c3, c4, c5, c6, c7⟩, d0, d1, d2, d3, d4, d5, d6, d7⟩ := hSw
              go_simp
              all_goals with_reducible rfl
            try simp only [Act.put, List.setIfInBounds_toArray, List.set_cons_zero, List.set_cons_succ]
            refine wpAnyH_take (i := 2) (oi := ⟨_, _, _, _, _, _⟩) (v := ?_) rfl (by as_aux_lemma => kernel_rfl) (by as_aux_lemma => kernel_rfl) (by as_aux_lemma => kernel_rfl) (fun _ _ _ h => h) (Or.inl ⟨by rfl, ?hy⟩) (by assumption) ?_
            case hy =>
              intro w hSw
              obtain ⟨⟨c0, c1, c2, c3, c4, c5, c6, c7⟩, d0, d1, d2, d3, d4, d5, d6, d7⟩ := hSw
              go_simp
              all_goals with_reducible rfl
            try simp only [Act.put, List.setIfInBounds_toArray, List.set_cons_zero, List.set_cons_succ]
            refine wpAnyH_take (i := 3) (oi := ⟨_, _, _, _, _, _⟩) (v := ?_) rfl (by as_aux_lemma => kernel_rfl) (by as_aux_lemma => kernel_rfl) (by as_aux_lemma => kernel_rfl) (fun _ _ _ h => h) (Or.inl ⟨by rfl, ?hy⟩) (by assumption) ?_
            case hy =>
              intro w hSw
              obtain ⟨⟨c0, c1, c2, c3, c4, c5, c6, c7⟩, d0, d1, d2, d3, d4, d5, d6, d7⟩ := hSw
              go_simp
              all_goals with_reducible rfl
            try simp only [Act.put, List.setIfInBounds_toArray, List.set_cons_zero, List.set_cons_succ]
            refine wpAnyH_take (i := 4) (oi := ⟨_, _, _, _, _, _⟩) (v := ?_) rfl (by as_aux_lemma => kernel_rfl) (by as_aux_lemma => kernel_rfl) (by as_aux_lemma => kernel_rfl) (fun _ _ _ h => h) (Or.inl ⟨by rfl, ?hy⟩) (by assumption) ?_
            case hy =>
              intro w hSw
              obtain ⟨⟨c0, c1, c2, c3, c4, c5, c6, c7⟩, d0, d1, d2, d3, d4, d5, d6, d7⟩ := hSw
              go_simp
              all_goals with_reducible rfl
            try simp only [Act.put, List.setIfInBounds_toArray, List.set_cons_zero, List.set_cons_succ]
            refine wpAnyH_take (i := 6) (oi := ⟨_, _, _, _, _, _⟩) (v := ?_) rfl (by as_aux_lemma => kernel_rfl) (by as_aux_lemma => kernel_rfl) (by as_aux_lemma => kernel_rfl) (fun _ _ _ h => h) (Or.inl ⟨by rfl, ?hy⟩) (by assumption) ?_
            case hy =>
              intro w hSw
              obtain ⟨⟨c0, c1, c2, c3, c4, c5, c6, c7⟩, d0, d1, d2, d3, d4, d5, d6, d7⟩ := hSw
              go_simp
              all_goals with_reducible rfl
            try simp only [Act.put, List.setIfInBounds_toArray, List.set_cons_zero, List.set_cons_succ]
            refine wpAnyH_take (i := 7) (oi := ⟨_, _, _, _, _, _⟩) (v := ?_) rfl (by as_aux_lemma => kernel_rfl) (by as_aux_lemma => kernel_rfl) (by as_aux_lemma => kernel_rfl) (fun _ _ _ h => h) (Or.inl ⟨by rfl, ?hy⟩) (by assumption) ?_
            case hy =>
              intro w hSw
              obtain ⟨⟨c0, c1, c2, c3, c4, c5, c6, c7⟩, d0, d1, d2, d3, d4, d5, d6, d7⟩ := hSw
              go_simp
              all_goals with_reducible rfl
            try simp only [Act.put, List.setIfInBounds_toArray, List.set_cons_zero, List.set_cons_succ]
            refine wpAnyH_take (i := 8) (oi := ⟨_, _, _, _, _, _⟩) (v := ?_) rfl (by as_aux_lemma => kernel_rfl) (by as_aux_lemma => kernel_rfl) (by as_aux_lemma => kernel_rfl) (fun _ _ _ h => h) (Or.inl ⟨by rfl, ?hy⟩) (by assumption) ?_
            case hy =>
              intro w hSw
              obtain ⟨⟨c0, c1, c2, c3, c4, c5, c6, c7⟩, d0, d1, d2, d3, d4, d5, d6, d7⟩ := hSw
              go_simp
              all_goals with_reducible rfl
            try simp only [Act.put, List.setIfInBounds_toArray, List.set_cons_zero, List.set_cons_succ]
            refine wpAnyH_take (i := 9) (oi := ⟨_, _, _, _, _, _⟩) (v := ?_) rfl (by as_aux_lemma => kernel_rfl) (by as_aux_lemma => kernel_rfl) (by as_aux_lemma => kernel_rfl) (fun _ _ _ h => h) (Or.inl ⟨by rfl, ?hy⟩) (by assumption) ?_
            case hy =>
              intro w hSw
              obtain ⟨⟨c0, c1, c2, c3, c4, c5, c6, c7⟩, d0, d1, d2, d3, d4, d5, d6, d7⟩ := hSw
              go_simp
              all_goals with_reducible rfl
            try simp only [Act.put, List.setIfInBounds_toArray, List.set_cons_zero, List.set_cons_succ]
            refine wpAnyH_take (i := 10) (oi := ⟨_, _, _, _, _, _⟩) (v := ?_) rfl (by as_aux_lemma => kernel_rfl) (by as_aux_lemma => kernel_rfl) (by as_aux_lemma => kernel_rfl) (fun _ _ _ h => h) (Or.inl ⟨by rfl, ?hy⟩) (by assumption) ?_
            case hy =>
              intro w hSw
              obtain ⟨⟨c0, c1, c2, c3, c4, c5, c6, c7⟩, d0, d1, d2, d3, d4, d5, d6, d7⟩ := hSw
              go_simp
              all_goals with_reducible rfl
            try simp only [Act.put, List.setIfInBounds_toArray, List.set_cons_zero, List.set_cons_succ]
            refine wpAnyH_ready (rs := [5]) (by as_aux_lemma => kernel_rfl) (by simp) ?_
            refine AllReadyH.cons (o := ⟨_, _, _, _, _, _⟩) rfl (fun K hK => ?_) AllReadyH.nil
            go_simp
            go_at_call 15
            with_reducible refine (hca.out _ hBd.out).mono ?_
            rintro e w11 ⟨rfl, hb11⟩
            have v11 := hqd.below hld hb11
            have l11 := Nat.lt_of_lt_of_le hld hb11.size
            have g11 := hid (hBd.out.trans (hb11.mono hBd.out.size))
            have y11 := hxd.below hgl hb11
            have z11 := Nat.lt_of_lt_of_le hgl hb11.size
            clear hb11
            refine hK.out _ _ ?_ (fun hHeld2 => ?_)
            · exact ⟨v11, y11⟩
            clear hK K hHeld
            have hHeld := hHeld2
            clear hHeld2
            try simp only [Act.put, List.setIfInBounds_toArray, List.set_cons_zero, List.set_cons_succ]
            refine wpAnyH_ready (rs := [11]) (by as_aux_lemma => kernel_rfl) (by simp) ?_
            refine AllReadyH.cons (o := ⟨_, _, _, _, _, _⟩) rfl (fun K hK => ?_) AllReadyH.nil
            go_simp
            go_at_call 16
            with_reducible refine (hcb.out _ g11.out).mono ?_
            rintro e w12 ⟨rfl, hb12⟩
            have v12 := v11.below l11 hb12
            have l12 := Nat.lt_of_lt_of_le l11 hb12.size
            have g12 := hid (g11.out.trans (hb12.mono g11.out.size))
            have y12 := y11.below z11 hb12
            clear hb12
            refine hK.out _ _ ?_ (fun hHeld2 => ?_)
            · exact ⟨v12, y12⟩
            clear hK K hHeld
            have hHeld := hHeld2
            clear hHeld2
            try simp only [Act.put, List.setIfInBounds_toArray, List.set_cons_zero, List.set_cons_succ]
            refine wpAnyH_take (i := 12) (oi := ⟨_, _, _, _, _, _⟩) (v := ?_) rfl (by as_aux_lemma => kernel_rfl) (by as_aux_lemma => kernel_rfl) (by as_aux_lemma => kernel_rfl) (fun _ _ _ h => h) (Or.inl ⟨by rfl, ?hy⟩) (by assumption) ?_
            case hy =>
              intro w hSw
              obtain ⟨⟨c0, c1, c2, c3, c4, c5, c6, c7⟩, d0, d1, d2, d3, d4, d5, d6, d7⟩ := hSw
              go_simp
              all_goals with_reducible rfl
            try simp only [Act.put, List.setIfInBounds_toArray, List.set_cons_zero, List.set_cons_succ]
            refine wpAnyH_done (by as_aux_lemma => kernel_rfl) ?_ _
            have hq12 := hid v12
            clear v11 v12 y11 y12 hqd hxd hca hcb
            go_wp2_with fail
            exact ⟨⟨k + 1, by go_num, by omega, hq12, l12, g12⟩, by simp [intOf]; omega⟩
          · have hka : k = a.length := by omega
            subst hka
            have q1 : decide ((a.length : Int) < (a.length : Int)) = false := decide_eq_false (by omega)
            have hp1 := hid (pairs_any a b ha.out hb.out hKa.out hKb.out _ _ _ _ wr (ht.out.below hB.out (Nat.le_refl _)) (hRa.out.below goodReq hB.out) (hRb.out.below goodReq hB.out))
            have hPl : (pairsF a b a.length).length ≤ 1048576 := Nat.le_trans (pairs_len a b a.length) hla
            have hOl : (onlyF a b a.length).length ≤ 1048576 := Nat.le_trans (only_len a b a.length) hla
            have hOb := hid (only_ok (b := b) ha.out)
            obtain ⟨P, hP⟩ : ∃ P, P = pairsF a b a.length := ⟨_, rfl⟩
            obtain ⟨O, hO⟩ : ∃ O, O = onlyF a b a.length := ⟨_, rfl⟩
            rw [← hP] at hp1 hPl
            rw [← hO] at hOl hOb
            replace hP := hid hP
            replace hO := hid hO
            clear hq hl
            go_wp2_with fail
            with_reducible refine hp1.out.mono ?_
            rintro e w7 ⟨v7, rfl, hv7, hbb⟩
            have hB7 := hid (hB.out.trans (hbb.mono hB.out.size))
            have hs7 := hid (OwnR.sl goodPair hv7)
            obtain ⟨a7, k7, rfl, -⟩ := hs7.out.slice
            have hp2 := hid (rpairs_any a b ha.out hb.out _ _ _ _ w7 (hRa.out.below goodReq hB7.out) (hRb.out.below goodReq hB7.out))
            rw [← hP.out] at hp2
            clear hv7 hbb hp1
            go_wp2_with fail
            with_reducible refine hp2.out.mono ?_
            rintro e w8 ⟨v8, rfl, hv8, hbb⟩
            have hB8 := hid (hB7.out.trans (hbb.mono hB7.out.size))
            have hs8 := hid (OwnR.sl goodPair hv8)
            obtain ⟨a8, k8, rfl, -⟩ := hs8.out.slice
            have hp3 := hid (lpairs_any P hPl _ _ _ _ w8 (hs7.out.below goodPair hbb) hs8.out)
            clear hv8 hbb hp2
            go_wp2_with fail
            with_reducible refine hp3.out.mono ?_
            rintro e w9 ⟨rfl, hbb⟩
            have hB9 := hid (hB8.out.trans (hbb.mono hB8.out.size))
            have ho1 := hid (only_any a b ha.out hb.out hKa.out hKb.out _ _ _ _ w9 (ht.out.below hB9.out (Nat.le_refl _)) (hRa.out.below goodReq hB9.out) (hRb.out.below goodReq hB9.out))
            rw [← hO.out] at ho1
            clear hbb hp3
            go_wp2_with fail
            with_reducible refine ho1.out.mono ?_
            rintro e w10 ⟨v10, rfl, hv10, hbb⟩
            have hB10 := hid (hB9.out.trans (hbb.mono hB9.out.size))
            have hs10 := hid (OwnR.sl goodReq hv10)
            obtain ⟨a10, k10, rfl, -⟩ := hs10.out.slice
            have ho2 := hid (ronly_any a b ha.out hb.out _ _ _ _ w10 (hRa.out.below goodReq hB10.out) (hRb.out.below goodReq hB10.out))
            rw [← hO.out] at ho2
            clear hv10 hbb ho1
            go_wp2_with fail
            with_reducible refine ho2.out.mono ?_
            rintro e w11 ⟨v11, rfl, hv11, hbb⟩
            have hB11 := hid (hB10.out.trans (hbb.mono hB10.out.size))
            have hs11 := hid (OwnR.sl goodReq hv11)
            obtain ⟨a11, k11, rfl, -⟩ := hs11.out.slice
            have ho3 := reqs_any O O _ _ _ _ w11 hOb.out hOb.out (hs10.out.below goodReq hbb) hs11.out
            rw [show dec (O = O) = true from dec_true rfl] at ho3
            replace ho3 := hid ho3
            clear hv11 hbb ho2
            go_wp2_with fail
            with_reducible refine ho3.out.mono ?_
            rintro e w12 ⟨rfl, hbb⟩
            clear ho3
            go_wp2_with fail
            go_ret
            exact ⟨rfl, hB11.out.trans (hbb.mono hB11.out.size)⟩
end Go.Proofs.YtnbhpicmflagcaaDoor
