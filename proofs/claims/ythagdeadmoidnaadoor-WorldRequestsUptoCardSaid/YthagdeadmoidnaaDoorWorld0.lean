/- net.Apply; the outside world: what it is, in plain data and in memory; New, Net, Log. -/
import Derived.Test.YthagdeadmoidnaaDoorNetFold
import Derived.Test.YthagdeadmoidnaaDoorMapV
set_option linter.unusedVariables false
namespace Go.Proofs.YthagdeadmoidnaaDoor
open Go.RowKit
open Go.Lib (hid)
theorem fold_single (l : List Out) (c : Cmd) : foldF l [c] = stepF l c := by
  rw [foldF_one]
  by_cases h : (stepF l c).1 = 0
  · rw [if_pos h]; exact Prod.ext h.symm rfl
  · rw [if_neg h]; exact (stepF_pair h).symm
theorem SlR.single {α : Type} {sz : Nat} {R : Rel α} {S : Foot} {w : World} {x : α} {cs : List Value} {b : Nat} {t : TypeId} {f : Nat × Nat} (h : w.heap[b]? = some (.cells cs.toArray t f)) (hS : S b) (hR : R S w x cs) : SlR sz R S w [x] (.slice (some ⟨b, 0, none⟩) 1 1) := by
  refine ⟨some ⟨b, 0, none⟩, 1, b, 0, fun _ => cs, rfl, Nat.le_refl _, fun _ => ⟨rfl, hS, lt_of_some h⟩, fun i hi j u hu => ?_, fun i y hy => ?_⟩
  · have : i = 0 := by simp at hi; exact hi
    subst this
    simp only [Nat.zero_mul, Nat.zero_add, Nat.add_zero]; rw [cell_of h]
    simpa using hu
  · have : i = 0 := by have := (List.getElem?_eq_some_iff.1 hy).1; simp at this; exact this
    subst this
    simp at hy; subst hy; exact hR
set_option maxHeartbeats 2000000 in
set_option maxRecDepth 100000 in
theorem apply_any (l : List Out) (c : Cmd) (hlen : l.length ≤ 1048575) (hlo : OutsB l) (hc : ValsB c.args) (S T : Foot) (v : Value) (cs : List Value) (w : World) (hr : SlR 5 OutR S w l v) (hrc : CmdR T w c cs) :
    Calls Tryd.prog 33 #[v, .agg cs.toArray] w fun e w' => ∃ v', e = .returned (.tuple #[v', iv (stepF l c).1]) ∧ OwnR 40 5 OutR (from_ w.heap.size) w' (stepF l c).2 v' ∧ Below w.heap.size w w' := by
  obtain ⟨a1, k1, rfl, -⟩ := id hrc
  have hb : Below w.heap.size w ((w.alloc (.cells (cmdCs c (.slice a1 c.args.length k1)).toArray 36)).alloc (.cells (cmdCs c (.slice a1 c.args.length k1)).toArray 36)) := ((Below.refl _ w).alloc (Nat.le_refl _) _).alloc (by simp) _
  have hq := heap_alloc_new' (w.alloc (.cells (cmdCs c (.slice a1 c.args.length k1)).toArray 36)) (.cells (cmdCs c (.slice a1 c.args.length k1)).toArray 36)
  rw [show (w.alloc (.cells (cmdCs c (.slice a1 c.args.length k1)).toArray 36)).heap.size = w.heap.size + 1 by simp] at hq
  have hsl : SlR 6 CmdR (fun k => T k ∨ k = w.heap.size + 1) _ [c] (.slice (some ⟨w.heap.size + 1, 0, none⟩) 1 1) := SlR.single hq (Or.inr rfl) (goodCmd.mono (goodCmd.below hrc hb) (fun _ _ h => Or.inl h))
  have hcall := hid (fold_any l [c] (by simp; omega) hlo (fun x hx => by rw [List.mem_singleton.1 hx]; exact hc) S _ v _ _ (hr.below goodOut hb) hsl)
  rw [fold_single] at hcall
  obtain ⟨a, k, rfl, -⟩ := hr.slice
  replace hb := hid hb
  clear hq hsl hrc hr
  go_enter Tryd.func33, Tryd.ntmps33
  go_wp2_with fail
  refine hcall.out.mono ?_
  rintro e w3 ⟨v', rfl, hO, hb3⟩
  have hfin := hid (hO.mono goodOut (T := from_ w.heap.size) (fun q _ hq => by have h9 : _ ≤ q := hq; simp at h9; show w.heap.size ≤ q; omega))
  clear hO
  go_wp2
  go_ret2
  exact ⟨_, rfl, hfin.out, hb.out.trans (hb3.mono hb.out.size)⟩
/-- the outside world: the applied commands, the effects in force -/
structure WS where
  log : List Cmd
  force : List Out
open Classical in
/-- which keys are known -/
noncomputable def knownF (log : List Cmd) : Lit → Option Value
  | .string s => if ∃ c ∈ log, c.key = s then some (.bool true) else none
  | _ => none
theorem knownF_yes {log : List Cmd} {s : List UInt8} (h : ∃ c ∈ log, c.key = s) : knownF log (.string s) = some (.bool true) := if_pos h
theorem knownF_no {log : List Cmd} {s : List UInt8} (h : ¬ ∃ c ∈ log, c.key = s) : knownF log (.string s) = none := if_neg h
theorem knownF_push (log : List Cmd) (c : Cmd) (kl : Lit) (hk : WideAt.IsKeyLit kl) : knownF (log ++ [c]) kl = putF (knownF log) (.string c.key) (.bool true) kl := by
  unfold putF
  by_cases e : kl = .string c.key
  · subst e
    rw [if_pos rfl]; exact knownF_yes ⟨c, by simp, rfl⟩
  · rw [if_neg e]
    cases kl with
    | string s =>
      have hs : s ≠ c.key := fun h => e (by rw [h])
      by_cases h : ∃ x ∈ log, x.key = s
      · rw [knownF_yes h]
        obtain ⟨x, hx, hxs⟩ := h
        exact knownF_yes ⟨x, by simp [hx], hxs⟩
      · rw [knownF_no h]
        refine knownF_no fun ⟨x, hx, hxs⟩ => ?_
        rcases List.mem_append.1 hx with hx | hx
        · exact h ⟨x, hx, hxs⟩
        · rw [List.mem_singleton.1 hx] at hxs; exact hs hxs.symm
    | _ => rfl
def CmdB (c : Cmd) : Prop := ValsB c.args ∧ c.key.length ≤ 1048576
structure WOk (x : WS) : Prop where
  log : x.log.length ≤ 100000 ∧ ∀ c ∈ x.log, CmdB c
  force : x.force.length ≤ 100000 ∧ OutsB x.force
/-- block b is the World x, in memory of F alone -/
def WV (F : Foot) (b : Nat) (x : WS) (w : World) : Prop :=
  WOk x ∧ ∃ (vl vf : Value) (mb : Nat) (L G : Foot), w.heap[b]? = some (.cells #[vl, .map (some mb), vf] 49 (0, 0)) ∧ F b ∧ F mb ∧ (∀ k, L k → F k ∧ k ≠ b ∧ k ≠ mb ∧ ¬ G k) ∧ (∀ k, G k → F k ∧ k ≠ b ∧ k ≠ mb) ∧
    OwnR 36 6 CmdR L w x.log vl ∧ OwnR 40 5 OutR G w x.force vf ∧ MapV Tryd.prog 9 mb x.log.length (knownF x.log) w
theorem WV.fr {F : Foot} {b : Nat} {x : WS} {w w' : World} (h : WV F b x w) {S : Foot} (hf : Fr S w w') (hs : ∀ k, F k → ¬ S k) : WV F b x w' := by
  obtain ⟨ho, vl, vf, mb, L, G, h1, h2, h3, h4, h5, h6, h7, h8⟩ := h
  exact ⟨ho, vl, vf, mb, L, G, hf.keep h1 (hs b h2), h2, h3, h4, h5, h6.fr goodCmd hf (fun k hk => hs k (h4 k hk).1), h7.fr goodOut hf (fun k hk => hs k (h5 k hk).1), h8.fr hf (hs mb h3)⟩
theorem WV.below {F : Foot} {b : Nat} {x : WS} {w w' : World} (h : WV F b x w) (hb : Below w.heap.size w w') : WV F b x w' := h.fr (Fr.of_below hb (fun _ => False)) (fun _ _ h => h)
theorem WV.lt {F : Foot} {b : Nat} {x : WS} {w : World} (h : WV F b x w) : b < w.heap.size ∧ F b := by
  obtain ⟨ho, vl, vf, mb, L, G, h1, h2, h3, h4, h5, h6, h7, h8⟩ := h
  exact ⟨lt_of_some h1, h2⟩
theorem WV.mono {F T : Foot} {b : Nat} {x : WS} {w : World} (h : WV F b x w) (hs : ∀ k, k < w.heap.size → F k → T k) : WV T b x w := by
  obtain ⟨ho, vl, vf, mb, L, G, h1, h2, h3, h4, h5, h6, h7, h8⟩ := h
  exact ⟨ho, vl, vf, mb, fun k => L k ∧ k < w.heap.size, fun k => G k ∧ k < w.heap.size, h1, hs b (lt_of_some h1) h2, hs mb h8.lt h3, fun k hk => ⟨hs k hk.2 (h4 k hk.1).1, (h4 k hk.1).2.1, (h4 k hk.1).2.2.1, fun h => (h4 k hk.1).2.2.2 h.1⟩, fun k hk => ⟨hs k hk.2 (h5 k hk.1).1, (h5 k hk.1).2.1, (h5 k hk.1).2.2⟩,
    h6.mono goodCmd (fun k hk h => ⟨h, hk⟩), h7.mono goodOut (fun k hk h => ⟨h, hk⟩), h8⟩
def wNew : WS := ⟨[], []⟩
set_option maxRecDepth 100000 in
theorem wnew_any (w : World) : Calls Tryd.prog 5 #[] w fun e w' => e = .returned (pt (w.heap.size + 1)) ∧ WV (from_ w.heap.size) (w.heap.size + 1) wNew w' ∧ Below w.heap.size w w' := by
  have hmm := @run_makeMap Tryd.prog
  have hmv : MapV Tryd.prog 9 w.heap.size 0 (fun _ => none) (w.alloc (.map #[] 0)) := MapV.made w
  have hq := heap_alloc_new' (w.alloc (.map #[] 0)) (.cells #[.slice none 0 0, .map (some w.heap.size), .slice none 0 0] 49)
  rw [show (w.alloc (.map #[] 0)).heap.size = w.heap.size + 1 by simp] at hq
  have hfin : WV (from_ w.heap.size) (w.heap.size + 1) wNew ((w.alloc (.map #[] 0)).alloc (.cells #[.slice none 0 0, .map (some w.heap.size), .slice none 0 0] 49)) :=
    ⟨⟨⟨by simp [wNew], fun c h => by simp [wNew] at h⟩, ⟨by simp [wNew], fun c h => by simp [wNew] at h⟩⟩, _, _, w.heap.size, fun _ => False, fun _ => False, hq, by show w.heap.size ≤ _; omega, Nat.le_refl _, fun k h => h.elim, fun k h => h.elim, OwnR.nil _ _ _ _ _, OwnR.nil _ _ _ _ _,
     (hmv.alloc _).congr (fun kl hk => by cases kl <;> first | rfl | exact knownF_no (fun ⟨c, h, _⟩ => by simp [wNew] at h))⟩
  replace hfin := hid hfin
  clear hmv hq
  go_enter Tryd.func5, Tryd.ntmps5
  go_wp2
  go_ret
  exact ⟨rfl, hfin.out, ((Below.refl _ w).alloc (Nat.le_refl _) _).alloc (by simp) _⟩
set_option maxRecDepth 100000 in
theorem wnet_any (F : Foot) (b : Nat) (x : WS) (w : World) (h : WV F b x w) : Calls Tryd.prog 11 #[pt b] w fun e w' => ∃ v', e = .returned v' ∧ OwnR 40 5 OutR (from_ w.heap.size) w' x.force v' ∧ Below w.heap.size w w' := by
  obtain ⟨ho, vl, vf, mb, L, G, h1, h2, h3, h4, h5, h6, h7, h8⟩ := h
  have hcall := hid (cloneOuts_any x.force (by have := ho.force.1; omega) ho.force.2 G vf w (h7.sl goodOut))
  have c2 : w.cell? ⟨b, 2, none⟩ = some vf := (cell_of h1).trans rfl
  obtain ⟨a, k, rfl, -, -⟩ := h7.slice
  clear h1 h2 h3 h4 h5 h6 h7 h8
  go_enter Tryd.func11, Tryd.ntmps11
  go_wp2_with fail
  refine hcall.out.mono ?_
  rintro e w3 ⟨v', rfl, hO, hb3⟩
  replace hO := hid hO
  go_wp2
  go_ret
  exact ⟨_, rfl, hO.out, hb3⟩
set_option maxRecDepth 100000 in
theorem wlog_any (F : Foot) (b : Nat) (x : WS) (w : World) (h : WV F b x w) : Calls Tryd.prog 14 #[pt b] w fun e w' => ∃ v', e = .returned v' ∧ OwnR 36 6 CmdR (from_ w.heap.size) w' x.log v' ∧ Below w.heap.size w w' := by
  obtain ⟨ho, vl, vf, mb, L, G, h1, h2, h3, h4, h5, h6, h7, h8⟩ := h
  have hcall := hid (cloneCmds_any x.log (by have := ho.log.1; omega) (fun c hc => (ho.log.2 c hc).1) L vl w (h6.sl goodCmd))
  have c0 : w.cell? ⟨b, 0, none⟩ = some vl := (cell_of h1).trans rfl
  obtain ⟨a, k, rfl, -, -⟩ := h6.slice
  clear h1 h2 h3 h4 h5 h6 h7 h8
  go_enter Tryd.func14, Tryd.ntmps14
  go_wp2_with fail
  refine hcall.out.mono ?_
  rintro e w3 ⟨v', rfl, hO, hb3⟩
  replace hO := hid hO
  go_wp2
  go_ret
  exact ⟨_, rfl, hO.out, hb3⟩
end Go.Proofs.YthagdeadmoidnaaDoor
