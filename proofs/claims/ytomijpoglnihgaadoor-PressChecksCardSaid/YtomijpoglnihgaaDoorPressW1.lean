/- press.Unpack. -/
import Derived.Test.YtomijpoglnihgaaDoorPressW0
import Derived.Test.YtomijpoglnihgaaDoorPressN
set_option linter.unusedVariables false
namespace Go.Proofs.YtomijpoglnihgaaDoor
open Go.RowKit
open Go.Lib (hid byteCells)
theorem stTake_len2 (n : Nat) (st : St) : (stTake n st).1.length ≤ n ∧ ((stTake n st).1 = [] → (stTake n st).2.2 = true ∨ n = 0) := by
  by_cases h : st.2 = true ∨ (n : Int) < 0 ∨ (st.1.length : Int) < n
  · rw [take_bad _ _ h]; exact ⟨Nat.zero_le _, fun _ => Or.inl rfl⟩
  · rw [take_ok _ _ h]
    have hl : n ≤ st.1.length := by
      have := fun h2 => h (Or.inr (Or.inr h2))
      omega
    simp only [Int.toNat_natCast]
    refine ⟨by rw [List.length_take]; omega, fun e => Or.inr ?_⟩
    have := congrArg List.length e
    rw [List.length_take] at this
    simp at this
    rcases this with h | h
    · exact h
    · rw [h] at hl; simpa using hl
/-- a Reader that has failed has no input left -/
def OkSt (st : St) : Prop := st.2 = true → st.1 = []
theorem stNum_okst {st : St} (h : OkSt st) : OkSt (stNum st).2 := by
  unfold stNum
  cases hd : dnum 9 true st.1 with
  | none => exact fun _ => rfl
  | some p =>
    obtain ⟨n, r⟩ := p
    intro h2
    rw [h h2, dnum_nil] at hd; cases hd
theorem stNum_dead {st : St} (h : OkSt st) (h2 : st.2 = true) : (stNum st).1 = 0 := by
  rw [stNum_none st (by rw [h h2, dnum_nil])]
theorem stTake_okst (n : Int) {st : St} (h : OkSt st) : OkSt (stTake n st).2 := by
  by_cases h2 : st.2 = true ∨ n < 0 ∨ (st.1.length : Int) < n
  · rw [take_bad _ _ h2]; exact fun _ => rfl
  · rw [take_ok _ _ h2]; exact fun h3 => absurd (Or.inl h3) h2
def failM (w : World) (b : Nat) : Nat := match w.cell? ⟨b, 1, none⟩ with | some (.bool true) => 0 | _ => 1
theorem Rd.failM {T : TypeId} {b : Nat} {st : St} {w : World} (h : Rd T b st w) : failM w b = if st.2 then 0 else 1 := by
  unfold Go.Proofs.YtomijpoglnihgaaDoor.failM
  rw [h.c1]
  cases st.2 <;> rfl
def vLen : Value → Nat | .slice _ n _ => n | _ => 0
abbrev BRow (B : Nat) (w : World) (l : List UInt8) (v : Value) : Prop := w.ownsRow B 5 1 v l.length (byteCells l)
theorem brow_fr {B b : Nat} {w w' : World} {l : List UInt8} {v : Value} (h : BRow B w l v) (hf : Fr (one b) w w') (hb : b < B) : BRow B w' l v := by
  obtain ⟨h1, h2⟩ := h
  refine ⟨h1, ?_⟩
  rcases h2 with h2 | ⟨g, cap, cur, rfl, hB, hg, rest⟩
  · exact Or.inl h2
  · exact Or.inr ⟨g, cap, cur, rfl, hB, hf.keep hg (fun e => by unfold one at e; omega), rest⟩
theorem rd_grown {T : TypeId} {b B : Nat} {st : St} {w w' : World} {l : List UInt8} {v : Value} (h : Rd T b st w) (hr : BRow B w l v) (hg : w.grownBy w' v.ownBlock) (hb : b < B) : Rd T b st w' :=
  (hg.block b (lt_of_heap h) (fun e => by have := (hr.lt b e.symm).1; omega)).trans h
theorem byteInfo : (Tryd.prog.info? 5).map (fun i => (i.zero, i.size, i.bytes)) = some (some (.int .u8 0), 1, 1) := by kernel_rfl
set_option maxHeartbeats 8000000 in
set_option maxRecDepth 100000 in
theorem unpack_any (s : List UInt8) (hs : s.length ≤ 100000000) (w : World) :
    Calls Tryd.prog 6 #[sv s] w fun e w' => e = .returned (.tuple #[sv (unpF s).1, .bool (unpF s).2]) ∧ Below w.heap.size w w' := by
  obtain ⟨i0, hi, hz0, hz1, hz2⟩ := info_parts byteInfo
  have hlt0 := stNum_lt (s, false)
  have hok0 := stNum_okst (st := (s, false)) (fun h => by cases h)
  generalize hres : unpF s = res
  unfold unpF at hres
  generalize hN : (stNum (s, false)).1 = N at *
  generalize hst : (stNum (s, false)).2 = st0 at *
  replace hres := hid hres
  go_enter Tryd.func6, Tryd.ntmps6
  go_wp2_with fail
  refine (open_any s w).mono ?_
  rintro e w1 ⟨rfl, hR1, hB1, hs1⟩
  have hcall := hid (readNum w.heap.size (s, false) w1 hR1)
  rw [hN, hst] at hcall
  go_wp2_with fail
  refine hcall.out.mono ?_
  rintro e w2 ⟨rfl, hR2, hf2⟩
  have hs2 := hf2.size
  have hB2 := hid (hB1.trans (hf2.to_below (by omega) (fun k hk e => by unfold one at e; omega)))
  replace hR2 := hid hR2
  clear hcall hR1 hf2 hB1
  by_cases hbig : 16777216 < N
  · have hy := hres.out
    rw [if_pos hbig] at hy
    replace hy := hid hy
    have hq : (16777216 : Int) < (N : Int) := by omega
    go_wp2_with fail
    go_ret2
    exact ⟨by rw [← hy.out]; rfl, hB2.out⟩
  · have hy := hres.out
    rw [if_neg hbig] at hy
    replace hy := hid hy
    have hq : (N : Int) ≤ 16777216 := by omega
    clear hres
    go_wp2_with fail
    go_loopw [6] (fun v wr => ∃ (out : List UInt8) (st : St) (f : Nat) (ao : Option Addr) (cp : Nat), v = .slice ao out.length cp ∧ Hid (BRow (w.heap.size + 1) wr out (.slice ao out.length cp)) ∧ Hid (Rd 55 w.heap.size st wr) ∧ Hid (Below w.heap.size w wr) ∧ w.heap.size + 1 ≤ wr.heap.size ∧ Hid (unF N f out st = unF N (2 * N + 2) [] st0) ∧ 2 * (N - out.length) + (if st.2 then 0 else 1) < f ∧ out.length ≤ N ∧ st.1.length ≤ s.length ∧ Hid (OkSt st)) (fun v wr => 2 * (N - vLen v) + failM wr w.heap.size)
    case atStart => exact ⟨[], st0, 2 * N + 2, none, 0, rfl, hid (World.ownsRow_nil _ _ _ _), hR2, hB2, by omega, hid rfl, by split <;> simp, Nat.zero_le _, hlt0.2, hid hok0⟩
    case round =>
      clear hR2 hB2 hs2
      obtain ⟨out, st, f, ao, cp, rfl, hO, hR, hB, hsz, hun, hf, hoN, hsl, hok⟩ := hrel
      obtain ⟨f, rfl⟩ : ∃ g, f = g + 1 := ⟨f - 1, by omega⟩
      have hfm := hR.out.failM
      by_cases hlt : out.length < N
      · have hlt2 := stNum_lt st
        have hcall := hid (readNum w.heap.size st wr hR.out)
        have hu := hun.out
        rw [unF, if_neg (by omega)] at hu
        have hok1 := stNum_okst hok.out
        have hdead := fun h => stNum_dead hok.out h
        generalize hT : (stNum st).1 = t at *
        generalize hS1 : (stNum st).2 = st1 at *
        replace hu := hid hu
        replace hok1 := hid hok1
        replace hdead := hid hdead
        go_wp2_with fail
        refine hcall.out.mono ?_
        rintro e w2 ⟨rfl, hR2, hf2⟩
        have hs2 := hf2.size
        have hO2 := hid (brow_fr hO.out hf2 (Nat.lt_succ_self _))
        have hB2 := hid (hB.out.trans (hf2.to_below (by omega) (fun k hk e => by unfold one at e; omega)))
        replace hR2 := hid hR2
        clear hcall hf2 hO hR hB
        by_cases hk : t / 2 < 1 ∨ N - out.length < t / 2
        · have hu2 := hu.out
          rw [if_pos hk] at hu2
          have hy2 := hy.out
          rw [← hu2] at hy2
          simp only at hy2
          replace hy2 := hid hy2
          by_cases hk1 : t / 2 < 1
          · have q1 : decide ((t : Int) / 2 < 1) = true := decide_eq_true (by omega)
            clear hk hk1
            go_wp2_with fail
            go_ret2
            exact ⟨by rw [← hy2.out]; rfl, hB2.out⟩
          · have q1 : decide ((t : Int) / 2 < 1) = false := decide_eq_false (by omega)
            have q2 : decide ((N : Int) - (out.length : Int) < (t : Int) / 2) = true := decide_eq_true (by omega)
            clear hk hk1
            go_wp2_with fail
            go_ret2
            exact ⟨by rw [← hy2.out]; rfl, hB2.out⟩
        · have q1 : decide ((t : Int) / 2 < 1) = false := decide_eq_false (by omega)
          have q2 : decide ((N : Int) - (out.length : Int) < (t : Int) / 2) = false := decide_eq_false (by omega)
          have hu2 := hu.out
          rw [if_neg hk] at hu2
          replace hk : 1 ≤ t / 2 ∧ t / 2 ≤ N - out.length := by omega
          have hst : st.2 = false := by
            cases h9 : st.2 with
            | false => rfl
            | true => have := hdead.out h9; omega
          rw [hst] at hf hfm
          simp only [Bool.false_eq_true, if_false] at hf hfm
          have hcast : ((t / 2 : Nat) : Int) = (t : Int) / 2 := by omega
          by_cases ht : t % 2 = 0
          · rw [if_pos ht] at hu2
            have q3 : ((t : Int) % 2 == 0) = true := by simp; omega
            have htl := stTake_len2 (t / 2) st1
            have hrl := stTake_len (t / 2 : Nat) st1
            have hcall := take_any w.heap.size st1 ((t / 2 : Nat) : Int) w2 hR2.out (by omega)
            generalize hX : stTake ((t / 2 : Nat) : Int) st1 = x at *
            obtain ⟨xl, xs⟩ := x
            simp only at hu2 htl hrl hcall
            rw [hcast] at hcall
            replace hcall := hid hcall
            replace hu2 := hid hu2
            have hxf : xl = [] → xs.2 = true := fun e => (htl.2 e).resolve_right (by omega)
            replace hxf := hid hxf
            have hxok : OkSt xs := by
              have := stTake_okst ((t / 2 : Nat) : Int) hok1.out
              rw [hX] at this; exact this
            replace hxok := hid hxok
            clear hX ht hu
            go_wp2_with fail
            refine hcall.out.mono ?_
            rintro e w3 ⟨rfl, hR3, hf3⟩
            have hs3 := hf3.size
            have hO3 := brow_fr hO2.out hf3 (Nat.lt_succ_self _)
            have hB3 := hB2.out.trans (hf3.to_below (by omega) (fun k hk e => by unfold one at e; omega))
            replace hR3 := hid hR3
            replace hB3 := hid hB3
            clear hcall hf3 hO2 hR2 hB2
            go_wp2_with (at_builtin; refine Lib.wpList_append_own_string _ rfl _ _ 36 9 rfl (w.heap.size + 1) 5 i0 Tryd.underlying36 Tryd.underlying9 hi hz0 hz1 hz2 _ _ _ rfl hO3 ⟨xl.toArray⟩ rfl ?c3 ?c4 ?c5 ?_)
            case c3 => exact (show out.length + xl.length ≤ maxLen by unfold maxLen; omega)
            case c4 => exact (show out.length + xl.length ≤ 140737488355328 by omega)
            case c5 => omega
            intro v' w4 hown' hgrow hnil
            have hO4 : BRow (w.heap.size + 1) w4 (out ++ xl) v' := by
              show w4.ownsRow _ _ _ _ (out ++ xl).length (byteCells (out ++ xl))
              rw [List.length_append, Lib.byteCells_append]; exact hown'
            have hR4 := hid (rd_grown hR3.out hO3 hgrow (Nat.lt_succ_self _))
            have hB4 := hid (hB3.out.grown hgrow (by omega) (fun k hk => by have := (hO3.lt k hk).1; omega))
            obtain ⟨a4, c4, rfl, -, -⟩ := owns_form hO4
            replace hO4 := hid hO4
            have hs4 := hgrow.size
            have hfm4 := hR4.out.failM
            clear hown' hgrow hnil hO3 hR3 hB3
            go_wp2_with fail
            have hdec : 2 * (N - (out ++ xl).length) + (if xs.2 then 0 else 1) < 2 * (N - out.length) + 1 := by
              simp only [List.length_append]
              rcases hxl : xl with _ | ⟨c, y⟩
              · rw [hxf.out hxl]; simp
              · simp only [List.length_cons]; split <;> omega
            refine ⟨⟨out ++ xl, xs, f, a4, c4, rfl, hO4, hR4, hB4, by omega, hu2, by omega, by simp; omega, by omega, hxok⟩, ?_⟩
            rw [hfm4, hfm]
            exact hdec
          · rw [if_neg ht] at hu2
            have q3 : ((t : Int) % 2 == 0) = false := by simp; omega
            have hlt3 := stNum_lt st1
            have hcall := hid (readNum w.heap.size st1 w2 hR2.out)
            have hok2 := stNum_okst hok1.out
            generalize hD : (stNum st1).1 = d at *
            generalize hS2 : (stNum st1).2 = st2 at *
            replace hok2 := hid hok2
            replace hu2 := hid hu2
            clear ht hu
            go_wp2_with fail
            refine hcall.out.mono ?_
            rintro e w3 ⟨rfl, hR3, hf3⟩
            have hs3 := hf3.size
            have hO3 := brow_fr hO2.out hf3 (Nat.lt_succ_self _)
            have hB3 := hB2.out.trans (hf3.to_below (by omega) (fun k hk e => by unfold one at e; omega))
            replace hO3 := hid hO3
            replace hR3 := hid hR3
            replace hB3 := hid hB3
            clear hcall hf3 hO2 hR2 hB2
            by_cases hd : d < 1 ∨ out.length < d
            · have hu3 := hu2.out
              rw [if_pos hd] at hu3
              have hy2 := hy.out
              rw [← hu3] at hy2
              simp only at hy2
              replace hy2 := hid hy2
              by_cases hd1 : d < 1
              · have q4 : decide ((d : Int) < 1) = true := decide_eq_true (by omega)
                have q4' : decide (d < 1) = true := decide_eq_true (by omega)
                clear hd hd1
                go_wp2_with fail
                go_ret2
                exact ⟨by rw [← hy2.out]; rfl, hB3.out⟩
              · have q4 : decide ((d : Int) < 1) = false := decide_eq_false (by omega)
                have q5 : decide ((out.length : Int) < (d : Int)) = true := decide_eq_true (by omega)
                have q5' : decide (out.length < d) = true := decide_eq_true (by omega)
                clear hd hd1
                go_wp2_with fail
                go_ret2
                exact ⟨by rw [← hy2.out]; rfl, hB3.out⟩
            · have q4 : decide ((d : Int) < 1) = false := decide_eq_false (by omega)
              have q5 : decide ((out.length : Int) < (d : Int)) = false := decide_eq_false (by omega)
              have q5' : decide (out.length < d) = false := decide_eq_false (by omega)
              have hu3 := hu2.out
              rw [if_neg hd] at hu3
              replace hd : 1 ≤ d ∧ d ≤ out.length := by omega
              replace hu3 := hid hu3
              obtain ⟨k, hk2⟩ : ∃ k : Nat, k = t / 2 := ⟨_, rfl⟩
              have hkI : (t : Int) / 2 = (k : Int) := by omega
              rw [← hk2] at hu3 hk
              replace hkI := hid hkI
              clear hu2 hcast
              go_wp2_with fail
              go_loopw [6, 53] (fun v i wr => ∃ (j : Nat) (a : Option Addr) (c : Nat), v = .slice a (copyN out d j).length c ∧ i = .int .i64 j ∧ j ≤ k ∧ Hid (BRow (w.heap.size + 1) wr (copyN out d j) (.slice a (copyN out d j).length c)) ∧ Hid (Rd 55 w.heap.size st2 wr) ∧ Hid (Below w.heap.size w wr) ∧ w.heap.size + 1 ≤ wr.heap.size) (fun _ i _ => k - (intOf i).toNat)
              case atStart => exact ⟨0, ao, cp, rfl, rfl, Nat.zero_le _, hO3, hR3, hB3, by omega⟩
              case round =>
                clear hO3 hR3 hB3
                obtain ⟨j, a, c, rfl, rfl, hj, hO, hR, hB, hsz⟩ := hrel
                have hcl := copyN_len out d j
                by_cases hlt2 : j < k
                · obtain ⟨q, hq⟩ : ∃ q : Nat, q = (copyN out d j).length - d := ⟨_, rfl⟩
                  have hqL : q < (copyN out d j).length := by omega
                  obtain ⟨c0, hc0⟩ : ∃ c0, (copyN out d j)[q]? = some c0 := ⟨_, List.getElem?_eq_getElem hqL⟩
                  have hnx : copyN out d (j + 1) = copyN out d j ++ [c0] := by
                    rw [copyN, ← hq, List.getD_eq_getElem?_getD, hc0]; rfl
                  obtain ⟨g, hga⟩ : ∃ g, a = some ⟨g, 0, none⟩ := by
                    rcases hO.out.2 with ⟨_, h0⟩ | ⟨g, cap, cur, he, _⟩
                    · omega
                    · simp only [Value.slice.injEq] at he; exact ⟨g, he.1⟩
                  subst hga
                  have hcell : wr.cell? ⟨g, q, none⟩ = some (.int .u8 c0.toNat) := by
                    rw [hO.out.cellAt q (by omega)]
                    show (byteCells _)[q]? = _
                    unfold Lib.byteCells
                    rw [List.getElem?_map, hc0]; rfl
                  have hidx := fun kd W => row_idx1 (P := Tryd.prog) (t := 36) (by kernel_rfl) (fun _ => by kernel_rfl) (rfl : (some ⟨g, 0, none⟩ : Option Addr) = some ⟨g, 0, none⟩) (copyN out d j).length c q hqL kd W
                  simp only [Nat.zero_add] at hidx
                  have hqI : ((copyN out d j).length : Int) - (d : Int) = (q : Int) := by omega
                  have hown := hO.out.alloc (.cells #[.int .u8 c0.toNat] 5)
                  replace hnx := hid hnx
                  have hOb := hid hO.out
                  have hLb : (copyN out d j).length ≤ 16777216 := by omega
                  generalize hCC : copyN out d j = C at *
                  replace hCC := hid hCC
                  generalize hLL : C.length = L at *
                  replace hLL := hid hLL
                  have hcl1 : L ≤ out.length + j := Nat.le_of_eq hcl
                  have hcl2 : out.length + j ≤ L := Nat.le_of_eq hcl.symm
                  have qj : decide ((j : Int) < (t : Int) / 2) = true := decide_eq_true (by rw [hkI.out]; omega)
                  clear hc0 hq hcl
                  go_wp2_with (at_builtin; refine wpList_append_own _ rfl _ _ 36 rfl (w.heap.size + 1) 5 i0 (.int .u8 0) 1 1 Tryd.underlying36 hi hz0 hz1 hz2 rfl (by decide) _ _ _ rfl hown ⟨wr.heap.size, 0, none⟩ 1 1 [.int .u8 c0.toNat] rfl rfl (new1 _ _ _) (one1 rfl) (by unfold maxLen; omega) (by omega) (by simp; omega) ?_; intro v' w3 hown' hgrow hnil3)
                  have hlen : (copyN out d (j + 1)).length = L + 1 := by rw [hnx.out, List.length_append, hLL.out]; rfl
                  have hO3 : BRow (w.heap.size + 1) w3 (copyN out d (j + 1)) v' := by
                    show w3.ownsRow _ _ _ _ (copyN out d (j + 1)).length (byteCells (copyN out d (j + 1)))
                    rw [hlen, hnx.out, Lib.byteCells_append]
                    exact hown'
                  have hbA : Below wr.heap.size wr (wr.alloc (.cells #[.int .u8 c0.toNat] 5)) := (Below.refl _ _).alloc (Nat.le_refl _) _
                  have hR3 : Rd 55 w.heap.size st2 w3 := (hgrow.block w.heap.size (by have := hbA.size; omega) (fun e => by have := (hO.out.lt _ e.symm).1; omega)).trans ((hbA.block w.heap.size (by omega)).trans hR.out)
                  have hB3 : Below w.heap.size w w3 := (hB.out.trans (hbA.mono (by omega))).grown hgrow (by have := hbA.size; omega) (fun k hk => by have := (hO.out.lt k hk).1; omega)
                  obtain ⟨a3, c3, rfl, -, -⟩ := owns_form hO3
                  exact ⟨⟨j + 1, a3, c3, rfl, by go_num, by omega, hid hO3, hid hR3, hid hB3, by have := hbA.size; have := hgrow.size; omega⟩, by simp [intOf]; omega⟩
                · obtain rfl : j = k := by omega
                  have qj : decide ((j : Int) < (t : Int) / 2) = false := decide_eq_false (by rw [hkI.out]; omega)
                  go_wp2_with fail
                  have hfm3 := hR.out.failM
                  have hdec : 2 * (N - (copyN out d j).length) + (if st2.2 then 0 else 1) < 2 * (N - out.length) + 1 := by split <;> omega
                  refine ⟨⟨copyN out d j, st2, f, a, c, rfl, hO, hR, hB, hsz, hu3, by omega, by omega, by omega, hok2⟩, ?_⟩
                  rw [hfm3, hfm]
                  exact hdec
      · have hu := hun.out
        rw [unF, if_pos (by omega)] at hu
        have hy2 := hy.out
        rw [← hu] at hy2
        simp only at hy2
        replace hy2 := hid hy2
        have hcall := hid (done_any w.heap.size st wr hR.out)
        have hnN : ¬ out.length < N := hlt
        go_wp2_with fail
        refine hcall.out.mono ?_
        rintro e w2 ⟨rfl, hR2, hf2⟩
        have hs2 := hf2.size
        have hO2 := hid (brow_fr hO.out hf2 (Nat.lt_succ_self _))
        have hB2 := hid (hB.out.trans (hf2.to_below (by omega) (fun k hk e => by unfold one at e; omega)))
        clear hcall hf2 hO hR hB
        by_cases hdn : st.2 = false ∧ st.1 = []
        · have hy3 := hy2.out
          rw [if_pos hdn] at hy3
          have qd : doneB st = true := by unfold doneB; rw [hdn.1, hdn.2]; rfl
          have hcv := conv_own (P := Tryd.prog) (src := 36) (dst := 9) (e := 5) (by kernel_rfl) (by kernel_rfl) (by kernel_rfl) hO2.out
          rw [qd]
          replace hy3 := hid hy3
          clear hdn qd
          go_wp2_with fail
          go_ret2
          exact ⟨by rw [← hy3.out]; rfl, hB2.out⟩
        · have hy3 := hy2.out
          rw [if_neg hdn] at hy3
          have qd : doneB st = false := by
            unfold doneB
            cases h1 : st.2 with
            | true => rfl
            | false => cases h2 : st.1 with
              | nil => exact absurd ⟨h1, h2⟩ hdn
              | cons c y => rfl
          rw [qd]
          replace hy3 := hid hy3
          clear hdn qd
          go_wp2_with fail
          go_ret2
          exact ⟨by rw [← hy3.out]; rfl, hB2.out⟩
end Go.Proofs.YtomijpoglnihgaaDoor
