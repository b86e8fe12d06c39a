/- net.Fold, net.Apply: commands applied to a copy of a list of effects. -/
import Derived.Test.YthagdeadmoidnaaDoorNetS
set_option linter.unusedVariables false
namespace Go.Proofs.YthagdeadmoidnaaDoor
open Go.RowKit
open Go.Lib (hid)
def foldF : List Out → List Cmd → Int × List Out
  | l, [] => (0, l)
  | l, c :: r => if (stepF l c).1 = 0 then foldF (stepF l c).2 r else ((stepF l c).1, [])
theorem foldF_append : ∀ (l : List Out) (a b : List Cmd), foldF l (a ++ b) = if (foldF l a).1 = 0 then foldF (foldF l a).2 b else foldF l a
  | l, [], b => by simp [foldF]
  | l, c :: r, b => by
    by_cases h : (stepF l c).1 = 0
    · have e1 : foldF l (c :: r) = foldF (stepF l c).2 r := by simp [foldF, h]
      have e2 : foldF l (c :: (r ++ b)) = foldF (stepF l c).2 (r ++ b) := by simp [foldF, h]
      rw [List.cons_append, e1, e2]; exact foldF_append _ r b
    · have e1 : foldF l (c :: r) = ((stepF l c).1, []) := by simp [foldF, h]
      have e2 : foldF l (c :: (r ++ b)) = ((stepF l c).1, []) := by simp [foldF, h]
      rw [List.cons_append, e1, e2, if_neg h]
theorem foldF_one (l : List Out) (c : Cmd) : foldF l [c] = if (stepF l c).1 = 0 then (0, (stepF l c).2) else ((stepF l c).1, []) := by simp [foldF]
def OutsB (l : List Out) : Prop := ∀ o ∈ l, ValsB o.args
theorem stepF_len (l : List Out) (c : Cmd) : (stepF l c).2.length ≤ l.length + 1 := by
  unfold stepF
  repeat' split
  all_goals simp
  all_goals (have := List.length_eraseIdx_le l (findO l c.of).toNat; omega)
theorem stepF_bad {l : List Out} {c : Cmd} (h : (stepF l c).1 ≠ 0) : (stepF l c).2 = [] := by
  unfold stepF at h ⊢
  repeat' split
  all_goals simp_all
theorem stepF_pair {l : List Out} {c : Cmd} (h : (stepF l c).1 ≠ 0) : stepF l c = ((stepF l c).1, []) := by rw [← stepF_bad h]
theorem stepF_ok {l : List Out} {c : Cmd} (hl : OutsB l) (hc : ValsB c.args) : OutsB (stepF l c).2 := by
  have hnil : OutsB [] := fun o h => by simp at h
  have hnew : ValsB (outOf c).args := hc
  unfold stepF
  split
  · split
    · exact hnil
    · exact fun o h => hl o (List.mem_of_mem_eraseIdx h)
  · split
    · split
      · exact hnil
      · split
        · exact hnil
        · intro o h
          obtain ⟨i, hi⟩ := List.mem_iff_getElem?.1 h
          rw [List.getElem?_modify] at hi
          rcases hx : l[i]? with _ | y
          · rw [hx] at hi; simp at hi
          · rw [hx] at hi
            simp only [Option.map_eq_map, Option.map_some, Option.some.injEq] at hi
            have hy := hl y (List.mem_of_getElem? hx)
            rw [← hi]
            split
            · exact hy
            · exact hy
    · split
      · split
        · exact hnil
        · split
          · exact hnil
          · split
            · exact hnil
            · intro o h
              rcases List.mem_or_eq_of_mem_set h with h | h
              · exact hl o h
              · rw [h]; exact hnew
      · split
        · split
          · exact hnil
          · split
            · exact hnil
            · intro o h
              rcases List.mem_append.1 h with h | h
              · exact hl o h
              · rw [List.mem_singleton.1 h]; exact hnew
        · exact hnil
theorem foldF_len : ∀ (l : List Out) (cs : List Cmd), (foldF l cs).2.length ≤ l.length + cs.length
  | l, [] => by simp [foldF]
  | l, c :: r => by
    simp only [foldF]
    split
    · have h1 := foldF_len (stepF l c).2 r
      have h2 := stepF_len l c
      simp only [List.length_cons]; omega
    · simp
theorem foldF_ok : ∀ (l : List Out) (cs : List Cmd), OutsB l → (∀ c ∈ cs, ValsB c.args) → OutsB (foldF l cs).2
  | l, [], h, _ => h
  | l, c :: r, h, hc => by
    simp only [foldF]
    split
    · exact foldF_ok _ r (stepF_ok h (hc c (by simp))) (fun x hx => hc x (by simp [hx]))
    · exact fun o h => by simp at h
theorem foldF_step {l lk : List Out} {cs : List Cmd} {k : Nat} {c : Cmd} (h : foldF l (cs.take k) = (0, lk)) (hc : cs[k]? = some c) : foldF l (cs.take (k + 1)) = if (stepF lk c).1 = 0 then (0, (stepF lk c).2) else ((stepF lk c).1, []) := by
  rw [List.take_add_one, hc, Option.toList_some, foldF_append, h, if_pos rfl, foldF_one]
theorem foldF_fail {l lk : List Out} {cs : List Cmd} {k : Nat} {c : Cmd} (h : foldF l (cs.take k) = (0, lk)) (hc : cs[k]? = some c) (he : (stepF lk c).1 ≠ 0) : foldF l cs = ((stepF lk c).1, []) := by
  have h1 := foldF_step h hc
  rw [if_neg he] at h1
  have h2 := foldF_append l (cs.take (k + 1)) (cs.drop (k + 1))
  rw [List.take_append_drop, h1, if_neg he] at h2
  exact h2
set_option maxHeartbeats 4000000 in
set_option maxRecDepth 100000 in
theorem fold_any (l : List Out) (cs : List Cmd) (hlen : l.length + cs.length ≤ 1048576) (hlo : OutsB l) (hcs : ∀ c ∈ cs, ValsB c.args) (S T : Foot) (v vc : Value) (w : World) (hr : SlR 5 OutR S w l v) (hrc : SlR 6 CmdR T w cs vc) :
    Calls Tryd.prog 46 #[v, vc] w fun e w' => ∃ v', e = .returned (.tuple #[v', iv (foldF l cs).1]) ∧ OwnR 40 5 OutR (from_ w.heap.size) w' (foldF l cs).2 v' ∧ Below w.heap.size w w' := by
  have hclone := hid (cloneOuts_any l (by omega) hlo S v w hr)
  have hrc2 := hid (hrc.mono goodCmd (T := fun k => T k ∧ k < w.heap.size) (fun k hk h => ⟨h, hk⟩))
  obtain ⟨ac, cc, rfl, -⟩ := hrc.slice
  generalize hres : foldF l cs = res
  replace hres := hid hres
  replace hcs := hid hcs
  replace hlo := hid hlo
  clear hr hrc
  go_enter Tryd.func46, Tryd.ntmps46
  go_wp2_with fail
  refine hclone.out.mono ?_
  rintro e w1 ⟨v1, rfl, hO, hb1⟩
  obtain ⟨a1, c1, rfl, -, -⟩ := hO.slice
  replace hO := hid hO
  go_wp2
  go_loopw [6, 14] (fun r i wr => ∃ (k : Nat) (lk : List Out) (a : Option Addr) (c : Nat), r = .slice a lk.length c ∧ i = .int .i64 k ∧ k ≤ cs.length ∧ Hid (foldF l (cs.take k) = (0, lk)) ∧ Hid (OwnR 40 5 OutR (from_ w.heap.size) wr lk (.slice a lk.length c)) ∧ Below w.heap.size w wr) (fun _ i _ => cs.length - (intOf i).toNat)
  case atStart => exact ⟨0, l, a1, c1, rfl, rfl, Nat.zero_le _, hid rfl, hO, hb1⟩
  case round =>
    clear hO hb1 hclone
    obtain ⟨k, lk, a, c, rfl, rfl, hk, hf, hO, hB⟩ := hrel
    by_cases hlt : k < cs.length
    · obtain ⟨x, hx⟩ : ∃ x, cs[k]? = some x := ⟨_, List.getElem?_eq_getElem hlt⟩
      have hxB := hcs.out x (List.mem_of_getElem? hx)
      have hll : lk.length ≤ 1048576 := by
        have := foldF_len l (cs.take k)
        rw [hf.out, List.length_take] at this
        simp only at this; omega
      have hT := hrc2.out.fr goodCmd (Fr.of_below hB (fun k => w.heap.size ≤ k)) (fun q h h2 => by omega)
      obtain ⟨g, o, ds, hidx, hS, hg, hc, hR⟩ := hT.at (P := Tryd.prog) (t := 45) (by kernel_rfl) (fun _ => by kernel_rfl) hx
      have hR0 := hR
      obtain ⟨a2, k2, rfl, -⟩ := id hR
      have c0 := hc 0 _ rfl
      have c1 := hc 1 _ rfl
      have c2 := hc 2 _ rfl
      have c3 := hc 3 _ rfl
      have c4 := hc 4 _ rfl
      have c5 := hc 5 _ rfl
      rw [Nat.add_zero] at c0
      have hb2 : Below wr.heap.size wr (wr.alloc (.cells (cmdCs x (.slice a2 x.args.length k2)).toArray 36)) := (Below.refl _ wr).alloc (Nat.le_refl _) _
      have hsz := hB.size
      have hcall := hid (step_any x lk hll hxB (from_ w.heap.size) _ _ _ (hO.out.below goodOut hb2) _ (goodCmd.below hR0 hb2) (fun q h h2 => by have h9 : w.heap.size ≤ q := h2; have := h.2; omega) (fun q hq => by simp at hq; show w.heap.size ≤ q; omega))
      have hB2 := hid (hB.trans (hb2.mono hsz))
      clear hR0 hR hc hT hO hB hb2
      replace hx := hid hx
      go_wp2_with fail
      refine hcall.out.mono ?_
      rintro e w3 ⟨v3, rfl, hO3, hf3⟩
      have hB3 := hB2.out.trans (hf3.to_below hB2.out.size (fun q hq h => by have h9 : w.heap.size ≤ q := h; omega))
      obtain ⟨a3, k3, rfl, -, -⟩ := hO3.slice
      clear c0 c1 c2 c3 c4 c5 hcall hidx hf3
      by_cases he : (stepF lk x).1 = 0
      · have hnx := foldF_step hf.out hx.out
        rw [if_pos he] at hnx
        replace hnx := hid hnx
        replace hO3 := hid hO3
        rw [he]
        clear he
        go_wp2
        exact ⟨⟨k + 1, _, a3, k3, rfl, by go_num, by omega, hnx, hO3, hB3⟩, by simp [intOf]; omega⟩
      · have hfin := foldF_fail hf.out hx.out he
        rw [hres.out] at hfin
        replace hfin := hid hfin
        have hne : ((stepF lk x).1 == 0) = false := by simpa using he
        generalize hE : (stepF lk x).1 = E at *
        clear hE hO3
        go_wp2
        go_ret2
        exact ⟨_, by rw [hfin.out]; rfl, by rw [hfin.out]; exact OwnR.nil _ _ _ _ _, hB3⟩
    · have hkl : k = cs.length := by omega
      subst hkl
      have hfin := hf.out
      rw [List.take_of_length_le (Nat.le_refl _), hres.out] at hfin
      replace hfin := hid hfin
      go_wp2
      go_ret2
      exact ⟨_, by rw [hfin.out]; rfl, by rw [hfin.out]; exact hO.out, hB⟩
end Go.Proofs.YthagdeadmoidnaaDoor
