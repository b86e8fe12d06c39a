/- The outside world: take, Send. -/
import Derived.Test.YthagdeadmoidnaaDoorWorld0
import Derived.Deep.QuietTactic
import Derived.BigQuiet
import Derived.Deep.RegionHeld3
import Derived.WalkSpells
set_option linter.unusedVariables false
namespace Go.Proofs.YthagdeadmoidnaaDoor
open Go.RowKit
open Go.Lib (hid)
theorem keyLitS (s : List UInt8) (h : s.length ≤ 1048576) : keyOf Tryd.prog 9 (sv s) = some (.string s) := by
  have := WideMaps.keyOf_string_mk (P := Tryd.prog) (k := 9) Tryd.underlying9 (s := ⟨s.toArray⟩) (by rw [ByteArray.size_mk', List.size_toArray]; unfold maxLen; omega)
  simpa using this
theorem known_look {mb N : Nat} {log : List Cmd} {w : World} (h : MapV Tryd.prog 9 mb N (knownF log) w) (key : List UInt8) (hk : key.length ≤ 1048576) (r : Bool) (hr : r = true ↔ ∃ c ∈ log, c.key = key) :
    ∀ n, (Instr.lookup 47 (.map (some mb)) (sv key) false).run Tryd.prog (w.drewN n) = .ok (.bool r) (w.drewN n) := fun n => by
  have := (h.drewN n).look (Maps.string_keyed Tryd.underlying9) (t := 47) (e := 4) Tryd.underlying47 (z := .bool false) (by kernel_rfl) (keyLitS key hk) trivial
  rw [this]
  cases r with
  | true => rw [knownF_yes (hr.1 rfl)]; rfl
  | false => rw [knownF_no (fun h => by have := hr.2 h; cases this)]; rfl
theorem WV.drewN {F : Foot} {b : Nat} {x : WS} {w : World} (h : WV F b x w) (n : Nat) : WV F b x (w.drewN n) := h.below (below_drewM (Below.refl _ _) n)
def isKnown (log : List Cmd) (key : List UInt8) : Bool := log.any (fun c => decide (c.key = key))
theorem isKnown_iff {log : List Cmd} {key : List UInt8} : isKnown log key = true ↔ ∃ c ∈ log, c.key = key := by simp [isKnown]
def takeF (x : WS) (c : Cmd) : Int × WS := if isKnown x.log c.key then (1, x) else if c.key = [] then (0, x) else if (stepF x.force c).1 ≠ 0 then (0, x) else (1, ⟨x.log ++ [c], (stepF x.force c).2⟩)
def WP (F : Foot) (b : Nat) (w : World) (r : Int × WS) (e : Ending) (w' : World) : Prop := e = .returned (iv r.1) ∧ WV F b r.2 w' ∧ Fr F w w'
set_option maxHeartbeats 2000000 in
set_option maxRecDepth 100000 in
theorem take_known (F T : Foot) (b : Nat) (x : WS) (c : Cmd) (hc : CmdB c) (cs : List Value) (w : World) (h : WV F b x w) (hrc : CmdR T w c cs) (hk : isKnown x.log c.key = true) :
    Calls Tryd.prog 19 #[pt b, .agg cs.toArray] w (WP F b w (takeF x c)) := by
  have hr : takeF x c = (1, x) := by unfold takeF; rw [hk]; rfl
  rw [hr]
  have hh := hid h
  obtain ⟨a1, k1, rfl, -⟩ := id hrc
  obtain ⟨ho, vl, vf, mb, L, G, h1, h2, h3, h4, h5, h6, h7, h8⟩ := h
  have c1 : w.cell? ⟨b, 1, none⟩ = some (.map (some mb)) := (cell_of h1).trans rfl
  have hlt := lt_of_some h1
  have hlk := known_look (h8.alloc (.cells (cmdCs c (.slice a1 c.args.length k1)).toArray 36)) c.key hc.2 true ⟨fun _ => isKnown_iff.1 hk, fun _ => rfl⟩
  have hb := (Below.refl _ w).alloc (Nat.le_refl _) (.cells (cmdCs c (.slice a1 c.args.length k1)).toArray 36)
  clear h1 h2 h3 h4 h5 h6 h7 h8 hrc hk hr
  go_enter Tryd.func19, Tryd.ntmps19
  go_wp2_with fail
  go_quiet (fail)
  go_wp2
  go_ret
  exact ⟨rfl, (hh.out.below hb).drewN _, (Fr.of_below hb F).drewN _⟩
set_option maxHeartbeats 4000000 in
set_option maxRecDepth 100000 in
theorem take_bad (F T : Foot) (b : Nat) (x : WS) (c : Cmd) (hc : CmdB c) (cs : List Value) (w : World) (h : WV F b x w) (hrc : CmdR T w c cs) (hk : isKnown x.log c.key = false) (hbad : c.key = [] ∨ (stepF x.force c).1 ≠ 0) :
    Calls Tryd.prog 19 #[pt b, .agg cs.toArray] w (WP F b w (takeF x c)) := by
  have hr : takeF x c = (0, x) := by
    unfold takeF
    rw [hk, if_neg (by simp)]
    split
    · rfl
    · rename_i h0
      rw [if_pos (hbad.resolve_left h0)]
  rw [hr]
  have hh := hid h
  obtain ⟨a1, k1, rfl, -⟩ := id hrc
  obtain ⟨ho, vl, vf, mb, L, G, h1, h2, h3, h4, h5, h6, h7, h8⟩ := h
  have c1 : w.cell? ⟨b, 1, none⟩ = some (.map (some mb)) := (cell_of h1).trans rfl
  have c2 : w.cell? ⟨b, 2, none⟩ = some vf := (cell_of h1).trans rfl
  have hlt := lt_of_some h1
  have hlk := known_look (h8.alloc (.cells (cmdCs c (.slice a1 c.args.length k1)).toArray 36)) c.key hc.2 false ⟨fun h => (by cases h), fun h => (by rw [isKnown_iff.2 h] at hk; cases hk)⟩
  have hb := (Below.refl _ w).alloc (Nat.le_refl _) (.cells (cmdCs c (.slice a1 c.args.length k1)).toArray 36)
  have hap := hid (fun W (hW : Below w.heap.size w W) => apply_any x.force c (by have := ho.force.1; omega) ho.force.2 hc.1 G T vf _ W ((h7.sl goodOut).below goodOut hW) (goodCmd.below hrc hW))
  obtain ⟨fa, fk, rfl, -, -⟩ := h7.slice
  clear h1 h2 h3 h4 h5 h6 h7 h8 hrc hk hr ho
  obtain ⟨key, kd, of, new, name, args⟩ := c
  rcases key with _ | ⟨kc, kr⟩
  · clear hap hbad
    go_enter Tryd.func19, Tryd.ntmps19
    go_wp2_with fail
    go_quiet (fail)
    go_wp2
    go_ret
    exact ⟨rfl, (hh.out.below hb).drewN _, (Fr.of_below hb F).drewN _⟩
  · have hne : (stepF x.force ⟨kc :: kr, kd, of, new, name, args⟩).1 ≠ 0 := hbad.resolve_left (by simp)
    have hne2 : ((stepF x.force ⟨kc :: kr, kd, of, new, name, args⟩).1 == 0) = false := by simpa using hne
    replace hne := hid hne
    clear hbad
    go_enter Tryd.func19, Tryd.ntmps19
    go_wp2_with fail
    go_quiet (fail)
    go_wp2_with fail
    have hbx : ((w.alloc (.cells #[sv (kc :: kr), iv kd, sv of, sv new, sv name, .slice a1 args.length k1] 36)).drewN nq).heap[w.heap.size]? = some (.cells #[sv (kc :: kr), iv kd, sv of, sv new, sv name, .slice a1 args.length k1] 36) := heap_alloc_new' w _
    have hB0 := below_drewM hb nq
    have c2 := (hB0.cell (p := ⟨b, 2, none⟩) hlt).trans c2
    clear c1 hlk hb
    have hbW := Nat.lt_of_lt_of_le hlt hB0.size
    generalize (w.alloc (.cells #[sv (kc :: kr), iv kd, sv of, sv new, sv name, .slice a1 args.length k1] 36)).drewN nq = W at *
    have hsW : w.heap.size < W.heap.size := lt_of_some hbx
    have e0 : W.cell? ⟨w.heap.size, 0, none⟩ = some (sv (kc :: kr)) := (cell_of hbx).trans rfl
    have e1 : W.cell? ⟨w.heap.size, 1, none⟩ = some (iv kd) := (cell_of hbx).trans rfl
    have e2 : W.cell? ⟨w.heap.size, 2, none⟩ = some (sv of) := (cell_of hbx).trans rfl
    have e3 : W.cell? ⟨w.heap.size, 3, none⟩ = some (sv new) := (cell_of hbx).trans rfl
    have e4 : W.cell? ⟨w.heap.size, 4, none⟩ = some (sv name) := (cell_of hbx).trans rfl
    have e5 : W.cell? ⟨w.heap.size, 5, none⟩ = some (.slice a1 args.length k1) := (cell_of hbx).trans rfl
    have hcall := hid (hap.out W.drew hB0.drew)
    replace hB0 := hid hB0
    replace hbx := hid hbx
    clear hap
    go_region_held3 (fun w' => w'.cell? ⟨b, 2, none⟩ = some (.slice fa x.force.length fk) ∧ w'.cell? ⟨w.heap.size, 0, none⟩ = some (sv (kc :: kr)) ∧ w'.cell? ⟨w.heap.size, 1, none⟩ = some (iv kd) ∧ w'.cell? ⟨w.heap.size, 2, none⟩ = some (sv of) ∧ w'.cell? ⟨w.heap.size, 3, none⟩ = some (sv new) ∧ w'.cell? ⟨w.heap.size, 4, none⟩ = some (sv name) ∧ w'.cell? ⟨w.heap.size, 5, none⟩ = some (.slice a1 args.length k1)) (first | with_reducible exact q0 | go_keep) ((go_at_call 33; refine hcall.out.mono ?_; rintro e w3 ⟨v', rfl, hO, hb3⟩; have q0 : _ ∧ _ ∧ _ ∧ _ ∧ _ ∧ _ ∧ _ := ⟨(hb3.cell (p := ⟨b, 2, none⟩) hbW).trans c2, (hb3.cell (p := ⟨w.heap.size, 0, none⟩) hsW).trans e0, (hb3.cell (p := ⟨w.heap.size, 1, none⟩) hsW).trans e1, (hb3.cell (p := ⟨w.heap.size, 2, none⟩) hsW).trans e2, (hb3.cell (p := ⟨w.heap.size, 3, none⟩) hsW).trans e3, (hb3.cell (p := ⟨w.heap.size, 4, none⟩) hsW).trans e4, (hb3.cell (p := ⟨w.heap.size, 5, none⟩) hsW).trans e5⟩))
    have hfin := hid ((hh.out.below hB0.out).below (((Below.refl _ W).drew).trans hb3))
    have hfr := hid (Fr.of_below (hB0.out.trans ((((Below.refl _ W).drew).trans hb3).mono hB0.out.size)) F)
    obtain ⟨va, vc, rfl, -, -⟩ := hO.slice
    clear hO hb3 hcall q0 c2 e0 e1 e2 e3 e4 e5
    generalize (stepF x.force ⟨kc :: kr, kd, of, new, name, args⟩).1 = E at *
    go_wp2
    go_ret
    exact ⟨rfl, hfin.out, hfr.out⟩
theorem take_shut {F L G : Foot} {b mb : Nat} {x : WS} {c : Cmd} {fc : List Out} {w w3 w4 w5 w6 : World} {N : Nat} {O : Obj} {vl v6 vf' vf0 : Value} (hok : WOk ⟨x.log ++ [c], fc⟩) (h2 : F b) (h3 : F mb) (hlt : b < w.heap.size) (hlm : mb < w.heap.size) (hbm : b ≠ mb)
    (h4 : ∀ k, L k → F k ∧ k ≠ b ∧ k ≠ mb ∧ ¬ G k) (hF : ∀ k, w.heap.size ≤ k → F k) (hB3 : Below w.heap.size w w3) (hN : w.heap.size < N) (hN3 : N ≤ w3.heap.size) (hg4 : w3.drew.grownBy w4 (some mb)) (hmv4 : MapV Tryd.prog 9 mb (x.log.length + 1) (putF (knownF x.log) (.string c.key) (.bool true)) w4)
    (hb5 : Below w4.drew.heap.size w4.drew w5) (hf6 : Fr (fun k => (L k ∧ k < w.heap.size) ∨ w3.heap.size ≤ k) (w5.alloc O) w6) (hO6 : OwnR 36 6 CmdR (fun k => (L k ∧ k < w.heap.size) ∨ w3.heap.size ≤ k) w6 (x.log ++ [c]) v6) (hO : OwnR 40 5 OutR (from_ N) w3 fc vf')
    (hbw6 : w6.heap[b]? = some (.cells #[vl, .map (some mb), vf0] 49 (0, 0))) : WV F b ⟨x.log ++ [c], fc⟩ ((w6.setCell ⟨b, 0, none⟩ v6).setCell ⟨b, 2, none⟩ vf') ∧ Fr F w ((w6.setCell ⟨b, 0, none⟩ v6).setCell ⟨b, 2, none⟩ vf') := by
  have hs3 := hB3.size
  have hs4 : w3.heap.size ≤ w4.heap.size := hg4.size
  have hs5 : w4.heap.size ≤ w5.heap.size := hb5.size
  have hs6 : w5.heap.size + 1 ≤ w6.heap.size := by have := hf6.size; simpa using this
  have f34 : Fr (fun q => q = mb) w3 w4 := ⟨hg4.os, hg4.tape, hg4.output, hg4.size, fun q hq h => hg4.block q hq (fun e => h (by injection e))⟩
  have f45 : Fr (fun q => q = mb) w4 w5 := (Fr.refl _ w4).drew.trans (Fr.of_below hb5 _)
  have f46 : Fr (fun q => q = mb) w4 (w5.alloc O) := f45.alloc _
  have f36 : Fr (fun q => q = mb) w3 (w5.alloc O) := f34.trans f46
  have fb : Fr (fun q => q = b) w6 ((w6.setCell ⟨b, 0, none⟩ v6).setCell ⟨b, 2, none⟩ vf') := Fr.setCell (S := fun q => q = b) (Fr.setCell (S := fun q => q = b) (p := ⟨b, 0, none⟩) (Fr.refl _ w6) (Or.inl rfl) _) (p := ⟨b, 2, none⟩) (Or.inl rfl) _
  have hFr : Fr F w ((w6.setCell ⟨b, 0, none⟩ v6).setCell ⟨b, 2, none⟩ vf') := by
    refine (((Fr.of_below hB3 F).trans (f36.mono (fun k _ h => by rw [h]; exact h3))).trans' hf6 (fun _ h => h) (fun k hk h => ?_)).trans (fb.mono (fun k _ h => by rw [h]; exact h2))
    rcases h with h | h
    · exact (h4 k h.1).1
    · omega
  have hFr' : Fr F w ((w6.setCell ⟨b, 0, none⟩ v6).setCell ⟨b, 2, none⟩ vf') := hFr
  have hG : OwnR 40 5 OutR (fun k => w.heap.size < k ∧ k < w3.heap.size) ((w6.setCell ⟨b, 0, none⟩ v6).setCell ⟨b, 2, none⟩ vf') fc vf' := by
    have o1 := hO.mono goodOut (T := fun k => w.heap.size < k ∧ k < w3.heap.size) (fun k hk h => ⟨by have : N ≤ k := h; omega, hk⟩)
    have o2 := o1.fr goodOut f36 (fun k h e => by omega)
    have o3 := o2.fr goodOut hf6 (fun k h e => by rcases e with e | e; omega; omega)
    exact o3.fr goodOut fb (fun k h e => by omega)
  have hL := hO6.fr goodCmd fb (fun k h e => by
    rcases h with h | h
    · exact (h4 k h.1).2.1 e
    · omega)
  have hM : MapV Tryd.prog 9 mb (x.log ++ [c]).length (knownF (x.log ++ [c])) ((w6.setCell ⟨b, 0, none⟩ v6).setCell ⟨b, 2, none⟩ vf') := by
    have m1 := hmv4.same (w' := w5) (((Below.refl w4.heap.size w4).drew.trans hb5).block mb (show mb < w4.heap.size by omega))
    have m2 := (m1.alloc O).fr hf6 (fun h => by rcases h with h | h; exact (h4 mb h.1).2.2.1 rfl; omega)
    have m3 := m2.fr fb (fun h => hbm h.symm)
    rw [List.length_append, List.length_singleton]
    exact m3.congr (fun kl hk => knownF_push x.log c kl hk)
  refine ⟨⟨hok, v6, vf', mb, _, _, ?_, h2, h3, fun k h => ?_, fun k h => ⟨hF k (by omega), by omega, by omega⟩, hL, hG, hM⟩, hFr⟩
  · have q1 := heap_setCell_same (i := 0) hbw6 v6
    have q2 := heap_setCell_same (i := 2) q1 vf'
    exact q2
  · rcases h with h | h
    · exact ⟨(h4 k h.1).1, (h4 k h.1).2.1, (h4 k h.1).2.2.1, fun h5 => by omega⟩
    · exact ⟨hF k (by omega), by omega, by omega, fun h5 => by omega⟩
set_option maxHeartbeats 8000000 in
set_option maxRecDepth 100000 in
theorem take_good (F T : Foot) (b : Nat) (x : WS) (c : Cmd) (hc : CmdB c) (cs : List Value) (w : World) (h : WV F b x w) (hrc : CmdR T w c cs) (hT : ∀ k, T k → ¬ F k) (hF : ∀ k, w.heap.size ≤ k → F k) (hk : isKnown x.log c.key = false) (hne : c.key ≠ []) (hst : (stepF x.force c).1 = 0) (hok : WOk ⟨x.log ++ [c], (stepF x.force c).2⟩) :
    Calls Tryd.prog 19 #[pt b, .agg cs.toArray] w (WP F b w (takeF x c)) := by
  have hr : takeF x c = (1, ⟨x.log ++ [c], (stepF x.force c).2⟩) := by
    unfold takeF
    rw [hk, if_neg (by simp), if_neg hne, if_neg (by rw [hst]; simp)]
  rw [hr]
  obtain ⟨a1, k1, rfl, -⟩ := id hrc
  obtain ⟨ho, vl, vf, mb, L, G, h1, h2, h3, h4, h5, h6, h7, h8⟩ := h
  have c1 : w.cell? ⟨b, 1, none⟩ = some (.map (some mb)) := (cell_of h1).trans rfl
  have hlt := lt_of_some h1
  have hlm := h8.lt
  have hlk := known_look (h8.alloc (.cells (cmdCs c (.slice a1 c.args.length k1)).toArray 36)) c.key hc.2 false ⟨fun h => (by cases h), fun h => (by rw [isKnown_iff.2 h] at hk; cases hk)⟩
  have hb := (Below.refl _ w).alloc (Nat.le_refl _) (.cells (cmdCs c (.slice a1 c.args.length k1)).toArray 36)
  have hap := hid (fun W (hW : Below w.heap.size w W) => apply_any x.force c (by have := ho.force.1; omega) ho.force.2 hc.1 G T vf _ W ((h7.sl goodOut).below goodOut hW) (goodCmd.below hrc hW))
  obtain ⟨fa, fk, rfl, -, -⟩ := h7.slice
  obtain ⟨la, lk, rfl, -, -⟩ := h6.slice
  have h6' := hid (h6.mono goodCmd (T := fun k => L k ∧ k < w.heap.size) (fun k hk h => ⟨h, hk⟩))
  replace h1 := hid h1
  replace h8 := hid h8
  replace h4 := hid h4
  replace hT := hid hT
  replace hF := hid hF
  replace hrc := hid hrc
  replace hok := hid hok
  clear h5 h6 h7 hk hr
  obtain ⟨key, kd, of, new, name, args⟩ := c
  rcases key with _ | ⟨kc, kr⟩
  · exact absurd rfl hne
  · clear hne
    have hnil := fun W => run_eql_map_nil (P := Tryd.prog) (w := W) 47 9 4 (some mb) Tryd.underlying47
    go_enter Tryd.func19, Tryd.ntmps19
    go_wp2_with fail
    go_quiet (fail)
    go_wp2_with fail
    have hbx : ((w.alloc (.cells #[sv (kc :: kr), iv kd, sv of, sv new, sv name, .slice a1 args.length k1] 36)).drewN nq).heap[w.heap.size]? = some (.cells #[sv (kc :: kr), iv kd, sv of, sv new, sv name, .slice a1 args.length k1] 36) := heap_alloc_new' w _
    have hB0 := below_drewM hb nq
    have hbw := below_keep hB0 h1.out hlt
    clear c1 hlk hb
    have hbW := Nat.lt_of_lt_of_le hlt hB0.size
    generalize (w.alloc (.cells #[sv (kc :: kr), iv kd, sv of, sv new, sv name, .slice a1 args.length k1] 36)).drewN nq = W at *
    have hsW : w.heap.size < W.heap.size := lt_of_some hbx
    have c2 : W.cell? ⟨b, 2, none⟩ = some (.slice fa x.force.length fk) := (cell_of hbw).trans rfl
    have e0 : W.cell? ⟨w.heap.size, 0, none⟩ = some (sv (kc :: kr)) := (cell_of hbx).trans rfl
    have e1 : W.cell? ⟨w.heap.size, 1, none⟩ = some (iv kd) := (cell_of hbx).trans rfl
    have e2 : W.cell? ⟨w.heap.size, 2, none⟩ = some (sv of) := (cell_of hbx).trans rfl
    have e3 : W.cell? ⟨w.heap.size, 3, none⟩ = some (sv new) := (cell_of hbx).trans rfl
    have e4 : W.cell? ⟨w.heap.size, 4, none⟩ = some (sv name) := (cell_of hbx).trans rfl
    have e5 : W.cell? ⟨w.heap.size, 5, none⟩ = some (.slice a1 args.length k1) := (cell_of hbx).trans rfl
    have hcall := hid (hap.out W.drew hB0.drew)
    replace hB0 := hid hB0
    replace hbx := hid hbx
    replace hbw := hid hbw
    clear hap
    go_region_held3 (fun w' => w'.cell? ⟨b, 2, none⟩ = some (.slice fa x.force.length fk) ∧ w'.cell? ⟨w.heap.size, 0, none⟩ = some (sv (kc :: kr)) ∧ w'.cell? ⟨w.heap.size, 1, none⟩ = some (iv kd) ∧ w'.cell? ⟨w.heap.size, 2, none⟩ = some (sv of) ∧ w'.cell? ⟨w.heap.size, 3, none⟩ = some (sv new) ∧ w'.cell? ⟨w.heap.size, 4, none⟩ = some (sv name) ∧ w'.cell? ⟨w.heap.size, 5, none⟩ = some (.slice a1 args.length k1)) (first | with_reducible exact q0 | go_keep) ((go_at_call 33; refine hcall.out.mono ?_; rintro e w3 ⟨v', rfl, hO, hb3⟩; have q0 : _ ∧ _ ∧ _ ∧ _ ∧ _ ∧ _ ∧ _ := ⟨(hb3.cell (p := ⟨b, 2, none⟩) hbW).trans c2, (hb3.cell (p := ⟨w.heap.size, 0, none⟩) hsW).trans e0, (hb3.cell (p := ⟨w.heap.size, 1, none⟩) hsW).trans e1, (hb3.cell (p := ⟨w.heap.size, 2, none⟩) hsW).trans e2, (hb3.cell (p := ⟨w.heap.size, 3, none⟩) hsW).trans e3, (hb3.cell (p := ⟨w.heap.size, 4, none⟩) hsW).trans e4, (hb3.cell (p := ⟨w.heap.size, 5, none⟩) hsW).trans e5⟩))
    have hbW3 : Below W.heap.size W w3 := ((Below.refl _ W).drew).trans hb3
    have hbx3 := below_keep hbW3 hbx.out hsW
    have hbw3 := below_keep hbW3 hbw.out hbW
    have hs3 : W.heap.size ≤ w3.heap.size := hbW3.size
    obtain ⟨va, vc, rfl, -, -⟩ := hO.slice
    have hB3 := hB0.out.trans (hbW3.mono hB0.out.size)
    have hmv3 := h8.out.below hB3 hlm
    obtain ⟨w4, hput, hmv4, hg4⟩ := hmv3.drew.put (Maps.string_keyed Tryd.underlying9) (t := 47) Tryd.underlying47 (by have := ho.log.1; unfold maxLen; omega) (keyLitS (kc :: kr) hc.2) trivial (.bool true)
    have hnb : (some b : Option Nat) ≠ some mb := by
      intro e; injection e with e
      obtain ⟨es, ck, hm⟩ := h8.out.obj
      rw [← e, h1.out] at hm; cases hm
    have hnx : (some w.heap.size : Option Nat) ≠ some mb := by intro e; injection e with e; omega
    have hbx4 := (hg4.block w.heap.size (lt_of_some hbx3) hnx).trans hbx3
    have hbw4 := (hg4.block b (lt_of_some hbw3) hnb).trans hbw3
    have f1 : w3.cell? ⟨b, 1, none⟩ = some (.map (some mb)) := (cell_of hbw3).trans rfl
    have f2 : w3.cell? ⟨w.heap.size, 0, none⟩ = some (sv (kc :: kr)) := (cell_of hbx3).trans rfl
    replace hst := hid hst
    replace hO := hid hO
    replace hB3 := hid hB3
    replace hmv4 := hid hmv4
    replace hg4 := hid hg4
    replace hbx4 := hid hbx4
    replace hbw4 := hid hbw4
    clear hb3 hbW3 hbx3 hbw3 hmv3 hcall q0 c2 e0 e1 e2 e3 e4 e5 hB0 hbx hbw
    go_wp2_with fail
    go_region
    go_wp2_with fail
    have hs4 : w3.heap.size ≤ w4.heap.size := hg4.out.size
    have hrc4 : CmdR T w4.drew ⟨kc :: kr, kd, of, new, name, args⟩ _ := goodCmd.fr (goodCmd.below hrc.out hB3.out) (show Fr (fun q => q = mb) w3 w4.drew from Fr.drew ⟨hg4.out.os, hg4.out.tape, hg4.out.output, hg4.out.size, fun q hq h => hg4.out.block q hq (fun e => h (by injection e))⟩) (fun q h h2 => hT.out q h (by rw [h2]; exact h3))
    have hcall := hid (cloneCmd_any ⟨kc :: kr, kd, of, new, name, args⟩ hc.1 T _ w4.drew hrc4)
    have g0 : w4.cell? ⟨b, 0, none⟩ = some (.slice la x.log.length lk) := (cell_of hbw4.out).trans rfl
    have e0 : w4.cell? ⟨w.heap.size, 0, none⟩ = some (sv (kc :: kr)) := (cell_of hbx4.out).trans rfl
    have e1 : w4.cell? ⟨w.heap.size, 1, none⟩ = some (iv kd) := (cell_of hbx4.out).trans rfl
    have e2 : w4.cell? ⟨w.heap.size, 2, none⟩ = some (sv of) := (cell_of hbx4.out).trans rfl
    have e3 : w4.cell? ⟨w.heap.size, 3, none⟩ = some (sv new) := (cell_of hbx4.out).trans rfl
    have e4 : w4.cell? ⟨w.heap.size, 4, none⟩ = some (sv name) := (cell_of hbx4.out).trans rfl
    have e5 : w4.cell? ⟨w.heap.size, 5, none⟩ = some (.slice a1 args.length k1) := (cell_of hbx4.out).trans rfl
    have hL4 : OwnR 36 6 CmdR (fun k => L k ∧ k < w.heap.size) w4 x.log (.slice la x.log.length lk) := (h6'.out.below goodCmd hB3.out).fr goodCmd (show Fr (fun q => q = mb) w3 w4 from ⟨hg4.out.os, hg4.out.tape, hg4.out.output, hg4.out.size, fun q hq h => hg4.out.block q hq (fun e => h (by injection e))⟩) (fun q h h2 => (h4.out q h.1).2.2.1 h2)
    replace hL4 := hid hL4
    have hbW4 : b < w4.heap.size := lt_of_some hbw4.out
    have hxW4 : w.heap.size < w4.heap.size := lt_of_some hbx4.out
    obtain ⟨i0, hi, hz0, hz1, hz2⟩ := info_parts infoCmd
    have hi' := hid hi
    have hz0' := hid hz0
    have hz1' := hid hz1
    have hz2' := hid hz2
    have hll := ho.log.1
    have hne6 : ¬ b = w.heap.size := by omega
    have hne7 : ¬ w.heap.size = b := by omega
    have hlm0 := hlm
    have hbm : b ≠ mb := fun e => hnb (by rw [e])
    clear hi hz0 hz1 hz2 hrc4 hput hnb hnx f1 f2
    go_region_law (first | (refine step_append_shut (by rfl) (.tmp 47) (.tmp 50) (by rfl) (by rfl) (by rfl) hap6 ?_) | (go_simp; go_at_call 34; refine hcall.out.mono ?_; rintro e w5 ⟨cs5, rfl, hR5, hb5⟩; obtain ⟨a5, k5, rfl, -⟩ := id hR5; have y0 := (hb5.cell (p := ⟨b, 0, none⟩) hbW4).trans g0; obtain ⟨y1, y2, y3, y4, y5, y6⟩ : _ ∧ _ ∧ _ ∧ _ ∧ _ ∧ _ := ⟨(hb5.cell (p := ⟨w.heap.size, 0, none⟩) hxW4).trans e0, (hb5.cell (p := ⟨w.heap.size, 1, none⟩) hxW4).trans e1, (hb5.cell (p := ⟨w.heap.size, 2, none⟩) hxW4).trans e2, (hb5.cell (p := ⟨w.heap.size, 3, none⟩) hxW4).trans e3, (hb5.cell (p := ⟨w.heap.size, 4, none⟩) hxW4).trans e4, (hb5.cell (p := ⟨w.heap.size, 5, none⟩) hxW4).trans e5⟩; have hs5 : w4.heap.size ≤ w5.heap.size := hb5.size; have hbW5 : b < w5.heap.size := Nat.lt_of_lt_of_le hbW4 hs5; have hq6 := heap_alloc_new' w5 (.cells #[sv (kc :: kr), iv kd, sv of, sv new, sv name, .slice a5 args.length k5] 36); have hb6 : Below w5.heap.size w5 (w5.alloc (.cells #[sv (kc :: kr), iv kd, sv of, sv new, sv name, .slice a5 args.length k5] 36)) := (Below.refl _ _).alloc (Nat.le_refl _) _; have hO5 : OwnR 36 6 CmdR (fun k => (L k ∧ k < w.heap.size) ∨ w3.heap.size ≤ k) (w5.alloc (.cells #[sv (kc :: kr), iv kd, sv of, sv new, sv name, .slice a5 args.length k5] 36)) x.log (.slice la x.log.length lk) := ((((hL4.out.mono goodCmd (T := fun k => (L k ∧ k < w.heap.size) ∨ w3.heap.size ≤ k) (fun _ _ h => Or.inl h)).drew goodCmd).below goodCmd hb5).below goodCmd hb6); have hlow : ∀ k, (Value.slice la x.log.length lk).ownBlock = some k → k < w.heap.size := fun k hk => h6'.out.lt hk; obtain ⟨v6, w6, hap6, hO6, hf6⟩ := OwnR.append1 (t := 45) (ty := 45) (x := (⟨kc :: kr, kd, of, new, name, args⟩ : Cmd)) goodCmd (by kernel_rfl) hi'.out hz0'.out hz1'.out hz2'.out rfl (by decide) hO5 (row_of_block (cs := cmdCs ⟨kc :: kr, kd, of, new, name, args⟩ (.slice a5 args.length k5)) hq6 rfl) (goodCmd.mono (goodCmd.below hR5 hb6) (fun q _ hq => ⟨Or.inr (by have h9 : w4.drew.heap.size ≤ q := hq; have h8 : w4.heap.size ≤ q := h9; omega), fun e => by have h9 : w4.drew.heap.size ≤ q := hq; have h8 : w4.heap.size ≤ q := h9; have := hlow q e; omega⟩)) (by unfold maxLen; omega) (by omega) (fun q hq => Or.inr (by simp at hq; omega)); obtain ⟨a6, k6, rfl, -, -⟩ := hO6.slice; have hbx6 := hf6.keep (heap_alloc_lt (o' := .cells #[sv (kc :: kr), iv kd, sv of, sv new, sv name, .slice a5 args.length k5] 36) (below_keep hb5 hbx4.out hxW4)) (fun h => by rcases h with h | h; exact absurd h.2 (Nat.lt_irrefl _); exact absurd h (by omega)); have hbw6 := hf6.keep (heap_alloc_lt (o' := .cells #[sv (kc :: kr), iv kd, sv of, sv new, sv name, .slice a5 args.length k5] 36) (below_keep hb5 hbw4.out hbW4)) (fun h => by rcases h with h | h; exact (h4.out b h.1).2.1 rfl; exact absurd h (by omega)); have z1 : w6.cell? ⟨b, 0, none⟩ = some (.slice la x.log.length lk) := (cell_of (i := 0) hbw6).trans rfl; obtain ⟨x1, x2, x3, x4, x5, x6⟩ : _ ∧ _ ∧ _ ∧ _ ∧ _ ∧ _ := ⟨(cell_of (i := 0) hbx6).trans rfl, (cell_of (i := 1) hbx6).trans rfl, (cell_of (i := 2) hbx6).trans rfl, (cell_of (i := 3) hbx6).trans rfl, (cell_of (i := 4) hbx6).trans rfl, (cell_of (i := 5) hbx6).trans rfl⟩; have z0 : w6.frozen? ⟨b, 0, none⟩ = false := free_of hbw6))
    all_goals
      have hshut := take_shut hok.out h2 h3 hlt hlm0 hbm h4.out hF.out hB3.out hsW hs3 hg4.out hmv4.out hb5 hf6 hO6 hO.out hbw6
      have hsz9 : (x.log ++ [(⟨kc :: kr, kd, of, new, name, args⟩ : Cmd)]).length = x.log.length + 1 := by simp
      rw [hsz9] at hshut
      have hbw7 := heap_setCell_same (i := 0) hbw6 (.slice a6 (x.log.length + 1) k6)
      have t2 : (w6.setCell ⟨b, 0, none⟩ (.slice a6 (x.log.length + 1) k6)).cell? ⟨b, 2, none⟩ = some (.slice fa x.force.length fk) := (cell_of hbw7).trans rfl
      have t3 : (w6.setCell ⟨b, 0, none⟩ (.slice a6 (x.log.length + 1) k6)).frozen? ⟨b, 2, none⟩ = false := free_of hbw7
      generalize w6.setCell ⟨b, 0, none⟩ (.slice a6 (x.log.length + 1) k6) = w7 at *
      replace hshut := hid hshut
      clear hbw6 hbw7 hbx6 hf6 hO6 hap6 hb5 hb6 hq6 hO5 hR5 hcall x1 x2 x3 x4 x5 x6 y1 y2 y3 y4 y5 y6 z0 z1 y0 g0 e0 e1 e2 e3 e4 e5
      go_wp2
      go_ret
      exact ⟨rfl, hshut.out.1, hshut.out.2⟩
/-- one delivery more leaves a machine's bounds -/
theorem WOk.take {x : WS} {c : Cmd} (h : WOk x) (hc : CmdB c) (hl : x.log.length + 1 ≤ 100000) (hf : x.force.length + 1 ≤ 100000) : WOk ⟨x.log ++ [c], (stepF x.force c).2⟩ :=
  ⟨⟨by simp; omega, fun d hd => by
    rcases List.mem_append.1 hd with hd | hd
    · exact h.log.2 d hd
    · rw [List.mem_singleton.1 hd]; exact hc⟩, ⟨Nat.le_trans (stepF_len _ _) hf, stepF_ok h.force.2 hc.1⟩⟩
theorem take_any (F T : Foot) (b : Nat) (x : WS) (c : Cmd) (hc : CmdB c) (cs : List Value) (w : World) (h : WV F b x w) (hrc : CmdR T w c cs) (hT : ∀ k, T k → ¬ F k) (hF : ∀ k, w.heap.size ≤ k → F k) (hl : x.log.length + 1 ≤ 100000) (hf : x.force.length + 1 ≤ 100000) :
    Calls Tryd.prog 19 #[pt b, .agg cs.toArray] w (WP F b w (takeF x c)) := by
  cases hk : isKnown x.log c.key with
  | true => exact take_known F T b x c hc cs w h hrc hk
  | false =>
    by_cases hbad : c.key = [] ∨ (stepF x.force c).1 ≠ 0
    · exact take_bad F T b x c hc cs w h hrc hk hbad
    · exact take_good F T b x c hc cs w h hrc hT hF hk (fun e => hbad (Or.inl e)) (by
        by_cases e : (stepF x.force c).1 = 0
        · exact e
        · exact absurd (Or.inr e) hbad) (h.1.take hc hl hf)
def sendF (x : WS) (c : Cmd) (how : Int) : Int × WS := if how = 3 then (-1, x) else if how = 1 then (if isKnown x.log c.key then 1 else 0, x) else if how = 2 then (-1, (takeF x c).2) else takeF x c
set_option maxHeartbeats 4000000 in
set_option maxRecDepth 100000 in
theorem send_any (F T : Foot) (b : Nat) (x : WS) (c : Cmd) (how : Int) (hc : CmdB c) (cs : List Value) (w : World) (h : WV F b x w) (hrc : CmdR T w c cs) (hT : ∀ k, T k → ¬ F k) (hF : ∀ k, w.heap.size ≤ k → F k) (hl : x.log.length + 1 ≤ 100000) (hf : x.force.length + 1 ≤ 100000) :
    Calls Tryd.prog 10 #[pt b, .agg cs.toArray, iv how] w (WP F b w (sendF x c how)) := by
  obtain ⟨a1, k1, rfl, -⟩ := id hrc
  have hb := (Below.refl _ w).alloc (Nat.le_refl _) (.cells (cmdCs c (.slice a1 c.args.length k1)).toArray 36)
  have hf1 := Fr.of_below hb F
  have hw1 := hid (h.below hb)
  have hbx := heap_alloc_new' w (.cells (cmdCs c (.slice a1 c.args.length k1)).toArray 36)
  generalize hr : sendF x c how = r
  by_cases h3 : how = 3
  · subst h3
    have hr2 : sendF x c 3 = (-1, x) := by simp [sendF]
    rw [hr2] at hr
    subst hr
    clear hr2 hbx hrc h
    go_enter Tryd.func10, Tryd.ntmps10
    go_wp2
    go_ret
    exact ⟨rfl, hw1.out, hf1⟩
  · by_cases h1 : how = 1
    · subst h1
      have hr2 : sendF x c 1 = (if isKnown x.log c.key then 1 else 0, x) := by simp [sendF]
      rw [hr2] at hr
      obtain ⟨ho, vl, vf, mb, L, G, q1, q2, q3, q4, q5, q6, q7, q8⟩ := h
      have c1 : w.cell? ⟨b, 1, none⟩ = some (.map (some mb)) := (cell_of q1).trans rfl
      have hlt := lt_of_some q1
      have hlk := known_look (q8.alloc (.cells (cmdCs c (.slice a1 c.args.length k1)).toArray 36)) c.key hc.2 (isKnown x.log c.key) isKnown_iff
      replace hf1 := hid hf1
      clear q1 q2 q3 q4 q5 q6 q7 q8 hrc hr2 h3 hb hbx
      cases hk : isKnown x.log c.key with
      | true =>
        rw [hk] at hlk hr
        subst hr
        clear hk
        go_enter Tryd.func10, Tryd.ntmps10
        go_wp2_with fail
        go_quiet (fail)
        go_wp2
        go_ret
        exact ⟨rfl, hw1.out.drewN _, hf1.out.drewN _⟩
      | false =>
        rw [hk] at hlk hr
        subst hr
        clear hk
        go_enter Tryd.func10, Tryd.ntmps10
        go_wp2_with fail
        go_quiet (fail)
        go_wp2
        go_ret
        exact ⟨rfl, hw1.out.drewN _, hf1.out.drewN _⟩
    · have hcall := hid (take_any F T b x c hc _ _ (h.below hb) (goodCmd.below hrc hb) hT (fun k hk => hF k (by simp at hk; omega)) hl hf)
      have q3 : (how == 3) = false := by simpa using h3
      have q1 : (how == 1) = false := by simpa using h1
      by_cases h2 : how = 2
      · subst h2
        have hr2 : sendF x c 2 = (-1, (takeF x c).2) := by simp [sendF]
        rw [hr2] at hr
        subst hr
        clear hr2 hbx hrc h h1 h3
        go_enter Tryd.func10, Tryd.ntmps10
        go_wp2_with fail
        refine hcall.out.mono ?_
        rintro e w3 ⟨rfl, h9, f9⟩
        replace h9 := hid h9
        go_wp2
        go_ret
        exact ⟨rfl, h9.out, hf1.trans f9⟩
      · have q2 : (how == 2) = false := by simpa using h2
        have hr2 : sendF x c how = takeF x c := by simp [sendF, h1, h2, h3]
        rw [hr2] at hr
        subst hr
        clear hr2 hbx hrc h h1 h2 h3
        go_enter Tryd.func10, Tryd.ntmps10
        go_wp2_with fail
        refine hcall.out.mono ?_
        rintro e w3 ⟨rfl, h9, f9⟩
        replace h9 := hid h9
        go_wp2
        go_ret
        exact ⟨rfl, h9.out, hf1.trans f9⟩
end Go.Proofs.YthagdeadmoidnaaDoor
