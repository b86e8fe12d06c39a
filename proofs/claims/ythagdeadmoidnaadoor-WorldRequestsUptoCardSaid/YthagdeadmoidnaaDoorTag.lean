/- Whose a block is: several Worlds and rows in one memory, by tags. -/
import Derived.Test.YthagdeadmoidnaaDoorWLawA
set_option linter.unusedVariables false
namespace Go.Proofs.YthagdeadmoidnaaDoor
open Go.RowKit
open Go.Lib (hid)
abbrev Own := Nat → Nat
def Tg (o : Own) (i : Nat) : Foot := fun k => o k = i
def upd (o : Own) (n i : Nat) : Own := fun k => if k < n then o k else i
theorem upd_lt {o : Own} {n i k : Nat} (h : k < n) : upd o n i k = o k := if_pos h
theorem upd_ge {o : Own} {n i k : Nat} (h : n ≤ k) : upd o n i k = i := if_neg (by omega)
/-- from w to w' only blocks of j changed, and old blocks keep their tags -/
structure Mv (o : Own) (w : World) (o' : Own) (w' : World) (j : Nat) : Prop where
  fr : Fr (Tg o j) w w'
  own : ∀ k, k < w.heap.size → o' k = o k
theorem Mv.new {w w' : World} (hb : Below w.heap.size w w') (o : Own) (i : Nat) : Mv o w (upd o w.heap.size i) w' 99 := ⟨Fr.of_below hb _, fun k hk => upd_lt hk⟩
theorem Mv.pure {w w' : World} (hb : Below w.heap.size w w') (o : Own) : Mv o w o w' 99 := ⟨Fr.of_below hb _, fun k hk => rfl⟩
section
variable {o o' : Own} {w w' : World} {i j : Nat}
theorem WV.mv {b : Nat} {x : WS} (h : WV (Tg o i) b x w) (m : Mv o w o' w' j) (hij : i ≠ j) : WV (Tg o' i) b x w' :=
  ((h.mono (T := fun k => o k = i ∧ k < w.heap.size) (fun k hk h => ⟨h, hk⟩)).fr m.fr (fun k hk h2 => hij (hk.1.symm.trans h2))).mono (fun k _ hk => (m.own k hk.2).trans hk.1)
theorem Good.mv {α : Type} {sz : Nat} {R : Rel α} (hR : Good sz R) {x : α} {cs : List Value} (h : R (Tg o i) w x cs) (m : Mv o w o' w' j) (hij : i ≠ j) : R (Tg o' i) w' x cs :=
  hR.move h fun k hk hs => ⟨(m.own k hk).trans hs, m.fr.block k hk (fun h2 => hij (Eq.trans (Eq.symm hs) h2))⟩
theorem SlR.mv {α : Type} {sz : Nat} {R : Rel α} (hR : Good sz R) {l : List α} {v : Value} (h : SlR sz R (Tg o i) w l v) (m : Mv o w o' w' j) (hij : i ≠ j) : SlR sz R (Tg o' i) w' l v :=
  h.move hR fun k hk hs => ⟨(m.own k hk).trans hs, m.fr.block k hk (fun h2 => hij (Eq.trans (Eq.symm hs) h2))⟩
/-- the call's memory: what was there is as it was, and has the tag 0 -/
structure StW (w0 : World) (o : Own) (w : World) : Prop where
  below : Below w0.heap.size w0 w
  own : ∀ k, k < w0.heap.size → o k = 0
theorem StW.start (w : World) : StW w (fun _ => 0) w := ⟨Below.refl _ _, fun _ _ => rfl⟩
theorem StW.mv {w0 : World} (h : StW w0 o w) (m : Mv o w o' w' j) (hj : 0 ≠ j) : StW w0 o' w' :=
  ⟨h.below.trans (m.fr.to_below h.below.size (fun k hk h2 => hj ((h.own k hk).symm.trans h2))), fun k hk => (m.own k (Nat.lt_of_lt_of_le hk h.below.size)).trans (h.own k hk)⟩
end
theorem wnew_t (o : Own) (i : Nat) (w : World) : Calls Tryd.prog 5 #[] w fun e w' => ∃ o' b, e = .returned (pt b) ∧ Mv o w o' w' 99 ∧ WV (Tg o' i) b wNew w' := by
  refine (wnew_any w).mono ?_
  rintro e w' ⟨rfl, h, hb⟩
  exact ⟨_, _, rfl, Mv.new hb o i, h.mono (fun k _ hk => upd_ge hk)⟩
theorem wcopy_t (o : Own) (i j : Nat) (b : Nat) (x : WS) (w : World) (h : WV (Tg o j) b x w) : Calls Tryd.prog 13 #[pt b] w fun e w' => ∃ o' b', e = .returned (pt b') ∧ Mv o w o' w' 99 ∧ WV (Tg o' i) b' x w' := by
  refine (wcopy_any _ b x w h).mono ?_
  rintro e w' ⟨b', rfl, h, hb⟩
  exact ⟨_, _, rfl, Mv.new hb o i, h.mono (fun k _ hk => upd_ge hk)⟩
theorem wlog_t (o : Own) (i j : Nat) (b : Nat) (x : WS) (w : World) (h : WV (Tg o j) b x w) : Calls Tryd.prog 14 #[pt b] w fun e w' => ∃ o' v, e = .returned v ∧ Mv o w o' w' 99 ∧ SlR 6 CmdR (Tg o' i) w' x.log v := by
  refine (wlog_any _ b x w h).mono ?_
  rintro e w' ⟨v', rfl, h, hb⟩
  exact ⟨_, _, rfl, Mv.new hb o i, (h.sl goodCmd).mono goodCmd (fun k _ hk => upd_ge hk)⟩
theorem wnet_t (o : Own) (i j : Nat) (b : Nat) (x : WS) (w : World) (h : WV (Tg o j) b x w) : Calls Tryd.prog 11 #[pt b] w fun e w' => ∃ o' v, e = .returned v ∧ Mv o w o' w' 99 ∧ SlR 5 OutR (Tg o' i) w' x.force v := by
  refine (wnet_any _ b x w h).mono ?_
  rintro e w' ⟨v', rfl, h, hb⟩
  exact ⟨_, _, rfl, Mv.new hb o i, (h.sl goodOut).mono goodOut (fun k _ hk => upd_ge hk)⟩
theorem pay_t (o : Own) (i : Nat) (key : List UInt8) (n : Int) (w : World) : Calls Tryd.prog 12 #[sv key, iv n] w fun e w' => ∃ o' cs, e = .returned (.agg cs.toArray) ∧ Mv o w o' w' 99 ∧ CmdR (Tg o' i) w' (payC key n) cs := by
  refine (pay_any key n w).mono ?_
  rintro e w' ⟨cs, rfl, h, hb⟩
  exact ⟨_, _, rfl, Mv.new hb o i, goodCmd.mono h (fun k _ hk => upd_ge hk)⟩
theorem send_t (o : Own) (i t : Nat) (hit : i ≠ t) (b : Nat) (x : WS) (c : Cmd) (how : Int) (hc : CmdB c) (cs : List Value) (w : World) (h : WV (Tg o i) b x w) (hrc : CmdR (Tg o t) w c cs) (hl : x.log.length + 1 ≤ 100000) (hf : x.force.length + 1 ≤ 100000) :
    Calls Tryd.prog 10 #[pt b, .agg cs.toArray, iv how] w fun e w' => ∃ o', e = .returned (iv (sendF x c how).1) ∧ Mv o w o' w' i ∧ WV (Tg o' i) b (sendF x c how).2 w' := by
  refine (send_any (fun k => (o k = i ∧ k < w.heap.size) ∨ w.heap.size ≤ k) (fun k => o k = t ∧ k < w.heap.size) b x c how hc cs w (h.mono (fun k hk h => Or.inl ⟨h, hk⟩)) (goodCmd.mono hrc (fun k hk h => ⟨h, hk⟩)) (fun k hk h => ?_) (fun k hk => Or.inr hk) hl hf).mono ?_
  · rcases h with h | h
    · exact hit (h.1.symm.trans hk.1)
    · omega
  · rintro e w' ⟨rfl, h2, hfr⟩
    refine ⟨upd o w.heap.size i, rfl, ⟨⟨hfr.os, hfr.tape, hfr.output, hfr.size, fun k hk hn => hfr.block k hk (fun h => ?_)⟩, fun k hk => upd_lt hk⟩, h2.mono (fun k hk h => ?_)⟩
    · rcases h with h | h
      · exact hn h.1
      · omega
    · rcases h with h | h
      · exact (upd_lt h.2).trans h.1
      · exact upd_ge h
end Go.Proofs.YthagdeadmoidnaaDoor
