/- The reference's Fold and World. -/
import Derived.Test.YthagdeadmoidnaaRefB
import Derived.Test.YthagdeadmoidnaaWorldL1
set_option linter.unusedVariables false
namespace Go.Proofs.Ythagdeadmoidnaa
open Go.RowKit
open Go.Lib (hid)
theorem apply44_any (c : Cmd) (l : List Out) (hl : l.length ≤ 1048575) (S : Foot) (v : Value) (w : World) (hr : SlR 5 OutR S w l v) (cs : List Value) (hcr : CmdR S w c cs) (hS : ∀ k, w.heap.size ≤ k → S k) :
    Calls Try.prog APPLY #[v, .agg cs.toArray] w (AppP S w (stepF l c)) := by
  obtain ⟨key, kd, of, new, name, args⟩ := c
  by_cases h1 : kd = 1
  · subst h1; exact apply_do key of new name args l hl S v w hr cs hcr hS
  · by_cases h2 : kd = 2
    · subst h2; exact apply_undo key of new name args l hl S v w hr cs hcr hS
    · by_cases h3 : kd = 3
      · subst h3; exact apply_part key of new name args l hl S v w hr cs hcr hS
      · by_cases h4 : kd = 4
        · subst h4; exact apply_amend key of new name args l hl S v w hr cs hcr hS
        · exact apply_other key of new name args kd l hl S v w hr cs hcr hS (by omega)
set_option maxHeartbeats 4000000 in
set_option maxRecDepth 100000 in
theorem fold44_any (l : List Out) (cs : List Cmd) (hlen : l.length + cs.length ≤ 1000000) (S : Foot) (v vc : Value) (w : World) (hr : SlR 5 OutR S w l v) (hrc : SlR 6 CmdR S w cs vc) (hS : ∀ k, w.heap.size ≤ k → S k) :
    Calls Try.prog 32 #[v, vc] w (AppP S w (foldF l cs)) := by
  obtain ⟨a1, c1, rfl, -⟩ := hr.slice
  obtain ⟨ac, cc, rfl, -⟩ := hrc.slice
  generalize hres : foldF l cs = res
  replace hres := hid hres
  replace hr := hid hr
  replace hrc := hid hrc
  replace hS := hid hS
  go_enter Try.func32, Try.ntmps32
  go_wp2
  go_loopw [0, 6] (fun r i wr => ∃ (k : Nat) (lk : List Out) (a : Option Addr) (c : Nat), r = .slice a lk.length c ∧ i = .int .i64 k ∧ k ≤ cs.length ∧ Hid (foldF l (cs.take k) = (0, lk)) ∧ Hid (SlR 5 OutR S wr lk (.slice a lk.length c)) ∧ Below w.heap.size w wr) (fun _ i _ => cs.length - (intOf i).toNat)
  case atStart => exact ⟨0, l, a1, c1, rfl, rfl, Nat.zero_le _, hid rfl, hr, Below.refl _ _⟩
  case round =>
    clear hr
    obtain ⟨k, lk, a, c, rfl, rfl, hk, hf, hO, hB⟩ := hrel
    by_cases hlt : k < cs.length
    · obtain ⟨x, hx⟩ : ∃ x, cs[k]? = some x := ⟨_, List.getElem?_eq_getElem hlt⟩
      have hll : lk.length ≤ 1000000 := by
        have := foldF_len l (cs.take k)
        rw [hf.out, List.length_take] at this
        simp only at this; omega
      obtain ⟨g, o, ds, hidx, hSg, hg, hc, hR⟩ := (hrc.out.below goodCmd hB).at (P := Try.prog) (t := 36) (by kernel_rfl) (fun _ => by kernel_rfl) hx
      obtain ⟨a2, k2, rfl, -⟩ := id hR
      have c0 := hc 0 _ rfl
      have c1 := hc 1 _ rfl
      have c2 := hc 2 _ rfl
      have c3 := hc 3 _ rfl
      have c4 := hc 4 _ rfl
      have c5 := hc 5 _ rfl
      rw [Nat.add_zero] at c0
      have hsz := hB.size
      have hcall := hid (apply44_any x lk (by omega) S _ wr hO.out _ hR (fun q hq => hS.out q (by omega)))
      clear hR hc hO
      replace hx := hid hx
      go_wp2_with fail
      refine hcall.out.mono ?_
      rintro e w3 ⟨v3, rfl, hO3, hb3⟩
      have hB3 := hB.trans (hb3.mono hsz)
      obtain ⟨a3, k3, rfl, -⟩ := hO3.slice
      clear c0 c1 c2 c3 c4 c5 hcall hidx hb3
      by_cases he : (stepF lk x).1 = 0
      · have hnx := foldF_step hf.out hx.out
        rw [if_pos he] at hnx
        replace hnx := hid hnx
        replace hO3 := hid hO3
        rw [he]
        clear he
        go_wp2
        exact ⟨⟨k + 1, _, a3, k3, rfl, by go_num, by omega, hnx, hO3, hB3⟩, by simp [intOf]; omega⟩
      · have hfin := foldF_fail hf.out hx.out he
        rw [hres.out] at hfin
        replace hfin := hid hfin
        have hne : ((stepF lk x).1 == 0) = false := by simpa using he
        generalize hE : (stepF lk x).1 = E at *
        clear hE hO3
        go_wp2
        go_ret2
        exact ⟨_, by rw [hfin.out]; rfl, by rw [hfin.out]; exact SlR.nil _ _ _ _ _, hB3⟩
    · have hkl : k = cs.length := by omega
      subst hkl
      have hfin := hf.out
      rw [List.take_of_length_le (Nat.le_refl _), hres.out] at hfin
      replace hfin := hid hfin
      go_wp2
      go_ret2
      exact ⟨_, by rw [hfin.out]; rfl, by rw [hfin.out]; exact hO.out, hB⟩
/-- block b is the reference's World: the applied commands, in a row of F; what they hold lies in T -/
def RWV (F T : Foot) (b : Nat) (log : List Cmd) (w : World) : Prop :=
  ∃ v xs, w.heap[b]? = some (.cells #[v] 39 (0, 0)) ∧ F b ∧ w.ownsRow 0 32 6 v log.length xs ∧ (∀ k, v.ownBlock = some k → F k ∧ k ≠ b) ∧
    ∀ i c, log[i]? = some c → ∃ cs, (∀ j u, cs[j]? = some u → xs[i * 6 + j]? = some u) ∧ CmdR T w c cs
theorem RWV.open {F T : Foot} {b : Nat} {log : List Cmd} {w : World} (h : RWV F T b log w) (hTF : ∀ k, T k → ¬ F k) : ∃ v, w.heap[b]? = some (.cells #[v] 39 (0, 0)) ∧ SlR 6 CmdR (fun k => F k ∨ T k) w log v := by
  obtain ⟨v, xs, h1, h2, h3, h4, h5⟩ := h
  refine ⟨v, h1, OwnR.sl (E := 32) goodCmd ⟨xs, h3, fun k hk => Or.inl (h4 k hk).1, fun i c hc => ?_⟩⟩
  obtain ⟨cs, h6, h7⟩ := h5 i c hc
  exact ⟨cs, h6, goodCmd.mono h7 fun k _ hk => ⟨Or.inr hk, fun e => hTF k hk (h4 k e).1⟩⟩
theorem RWV.move {F T F' T' : Foot} {b : Nat} {log : List Cmd} {w w' : World} (h : RWV F T b log w) (hF : ∀ k, k < w.heap.size → F k → F' k ∧ w'.heap[k]? = w.heap[k]?) (hT : ∀ k, k < w.heap.size → T k → T' k ∧ w'.heap[k]? = w.heap[k]?) : RWV F' T' b log w' := by
  obtain ⟨v, xs, h1, h2, h3, h4, h5⟩ := h
  refine ⟨v, xs, (hF b (lt_of_some h1) h2).2.trans h1, (hF b (lt_of_some h1) h2).1, owns_move h3 (fun k hk => (hF k (h3.lt k hk).2 (h4 k hk).1).2) (fun _ _ => Nat.zero_le _), fun k hk => ⟨(hF k (h3.lt k hk).2 (h4 k hk).1).1, (h4 k hk).2⟩, fun i c hc => ?_⟩
  obtain ⟨cs, h6, h7⟩ := h5 i c hc
  exact ⟨cs, h6, goodCmd.move h7 hT⟩
theorem RWV.below {F T : Foot} {b : Nat} {log : List Cmd} {w w' : World} (h : RWV F T b log w) (hb : Below w.heap.size w w') : RWV F T b log w' := h.move (fun k hk hf => ⟨hf, hb.block k hk⟩) (fun k hk hf => ⟨hf, hb.block k hk⟩)
set_option maxRecDepth 100000 in
theorem rnew_any (T : Foot) (w : World) : Calls Try.prog 10 #[] w fun e w' => e = .returned (pt w.heap.size) ∧ RWV (from_ w.heap.size) T w.heap.size [] w' ∧ Below w.heap.size w w' := by
  have hq := heap_alloc_new' w (.cells #[.slice none 0 0] 39)
  have hfin : RWV (from_ w.heap.size) T w.heap.size [] (w.alloc (.cells #[.slice none 0 0] 39)) :=
    ⟨_, [], hq, Nat.le_refl _, World.ownsRow_nil _ _ _ _, fun k h => by simp [Value.ownBlock] at h, fun i c h => by simp at h⟩
  replace hfin := hid hfin
  clear hq
  go_enter Try.func10, Try.ntmps10
  go_wp2
  go_ret
  exact ⟨rfl, hfin.out, (Below.refl _ w).alloc (Nat.le_refl _) _⟩
set_option maxHeartbeats 2000000 in
set_option maxRecDepth 100000 in
theorem rknown_any (log : List Cmd) (key : List UInt8) (hl : log.length ≤ 1048576) (F T : Foot) (hTF : ∀ k, T k → ¬ F k) (b : Nat) (w : World) (h : RWV F T b log w) :
    Calls Try.prog 28 #[pt b, sv key] w fun e w' => e = .returned (.bool (isKnown log key)) ∧ Below w.heap.size w w' := by
  obtain ⟨v, hb, hs⟩ := h.open hTF
  obtain ⟨a, c, rfl, -⟩ := hs.slice
  have b0 : w.cell? ⟨b, 0, none⟩ = some (.slice a log.length c) := (cell_of hb).trans rfl
  have hbl := lt_of_some hb
  replace hs := hid hs
  generalize hres : isKnown log key = r
  replace hres := hid hres
  clear h hb
  go_enter Try.func28, Try.ntmps28
  go_wp2
  go_loopw [5] (fun i wr => ∃ k : Nat, i = .int .i64 k ∧ k ≤ log.length ∧ Hid (∀ j c, j < k → log[j]? = some c → c.key ≠ key) ∧ Below w.heap.size w wr ∧ wr.cell? ⟨b, 0, none⟩ = some (.slice a log.length c)) (fun i _ => log.length - (intOf i).toNat)
  case atStart => exact ⟨0, rfl, Nat.zero_le _, hid (fun i y h => absurd h (by omega)), Below.refl _ _, b0⟩
  case round =>
    clear b0
    obtain ⟨k, rfl, hk, hn, hB, b0⟩ := hrel
    by_cases hlt : k < log.length
    · obtain ⟨x, hx⟩ : ∃ x, log[k]? = some x := ⟨_, List.getElem?_eq_getElem hlt⟩
      obtain ⟨g, o, cs, hidx, hS, hg, hc, hR⟩ := (hs.out.below goodCmd hB).at (P := Try.prog) (t := 36) (by kernel_rfl) (fun _ => by kernel_rfl) hx
      obtain ⟨a1, k1, rfl, -⟩ := id hR
      have c0 := hc 0 _ rfl
      rw [Nat.add_zero] at c0
      clear hR hc
      by_cases hkey : x.key = key
      · have hfin : isKnown log key = true := isKnown_iff.2 ⟨x, List.mem_of_getElem? hx, hkey⟩
        rw [hres.out] at hfin
        replace hfin := hid hfin
        have hkb : (x.key == key) = true := by simpa using hkey
        clear hkey hx
        go_wp2
        go_ret
        exact ⟨by rw [hfin.out]; rfl, hB⟩
      · have hn2 := hid (show ∀ i y, i < k + 1 → log[i]? = some y → y.key ≠ key from fun i y hi hy => by
          by_cases e : i = k
          · subst e; rw [hx] at hy; injection hy with hy; rw [← hy]; exact hkey
          · exact hn.out i y (by omega) hy)
        have hkb : (x.key == key) = false := by simpa using hkey
        clear hkey hx
        go_wp2
        exact ⟨⟨k + 1, by go_num, by omega, hn2, hB, b0⟩, by simp [intOf]; omega⟩
    · have hkl : k = log.length := by omega
      subst hkl
      have hfin := isKnown_no hn.out
      rw [hres.out] at hfin
      replace hfin := hid hfin
      go_wp2
      go_ret
      exact ⟨by rw [hfin.out]; rfl, hB⟩
set_option maxHeartbeats 2000000 in
set_option maxRecDepth 100000 in
theorem rnet_any (log : List Cmd) (hl : log.length ≤ 1000000) (F T : Foot) (hTF : ∀ k, T k → ¬ F k) (b : Nat) (w : World) (h : RWV F T b log w) :
    Calls Try.prog 18 #[pt b] w fun e w' => ∃ v', e = .returned v' ∧ SlR 5 OutR (fun _ => True) w' (foldF [] log).2 v' ∧ Below w.heap.size w w' := by
  obtain ⟨v, hb, hs⟩ := h.open hTF
  have hcall := hid (fold44_any [] log (by simpa using hl) (fun _ => True) (.slice none 0 0) v w (SlR.nil _ _ _ _ _) (hs.mono goodCmd (fun _ _ _ => trivial)) (fun _ _ => trivial))
  obtain ⟨a, c, rfl, -⟩ := hs.slice
  have b0 : w.cell? ⟨b, 0, none⟩ = some (.slice a log.length c) := (cell_of hb).trans rfl
  generalize foldF [] log = res at *
  clear h hb hs
  go_enter Try.func18, Try.ntmps18
  go_wp2_with fail
  refine hcall.out.mono ?_
  rintro e w3 ⟨v', rfl, hO, hb3⟩
  replace hO := hid hO
  clear hcall b0
  go_wp2_with fail
  go_ret
  exact ⟨_, rfl, hO.out, hb3⟩
end Go.Proofs.Ythagdeadmoidnaa
