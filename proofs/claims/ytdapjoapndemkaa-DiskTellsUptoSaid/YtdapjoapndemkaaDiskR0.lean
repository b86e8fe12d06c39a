/- Chapter 05 (disk): the reference's Disk as plain data; it and the program's Disk go side by side. -/
import Derived.Test.YtdapjoapndemkaaDiskM
set_option linter.unusedVariables false
namespace Go.Proofs.Ytdapjoapndemkaa
structure RS where
  ls : Nat → List UInt8
  rs : Nat → List UInt8
  lost : Nat
  down : Bool
  armed : Nat
  keep : List Int
def rNew : RS := ⟨fun _ => [], fun _ => [], 0, false, 0, []⟩
def rSize (f : Int) (x : RS) : Nat := if vF f then (x.ls f.toNat).length + (x.rs f.toNat).length else 0
def keepN (l : List Int) (r : List UInt8) (f : Nat) : Nat := min (l.getD f 0).toNat r.length
def rFall (l : List Int) (x : RS) : RS := { x with down := true, armed := 0, ls := fun f => x.ls f ++ (x.rs f).take (keepN l (x.rs f) f), rs := fun _ => [] }
def rCrash (l : List Int) (x : RS) : RS := if x.down then x else rFall l x
def rFits (f : Int) (s : List UInt8) (x : RS) : Bool := vF f && decide (rSize f x + s.length ≤ 16777216)
def rGrow (f : Nat) (s : List UInt8) (x : RS) : RS := { x with rs := upd x.rs f (x.rs f ++ s) }
def rBump (f : Int) (s : List UInt8) (x : RS) : RS := if rFits f s x then rGrow f.toNat s x else x
def rLess (x : RS) : RS := { x with armed := x.armed - 1 }
def rComes (f : Int) (s : List UInt8) (x : RS) : RS := if x.down then x else if x.armed = 0 then x else if x.armed = 1 then rCrash x.keep (rBump f s (rLess x)) else rLess x
def rMay (f : Int) (x : RS) : Int := if x.down then 12 else if vF f then 0 else 1
def rApp1 (f : Int) (s : List UInt8) (x : RS) : Int := if rMay f (rComes f s x) ≠ 0 then rMay f (rComes f s x) else if 16777216 < rSize f (rComes f s x) + s.length then 15 else 0
def rApp2 (f : Int) (s : List UInt8) (x : RS) : RS := if rApp1 f s x = 0 then rGrow f.toNat s (rComes f s x) else rComes f s x
def rSet (f : Nat) (l r : List UInt8) (x : RS) : RS := { x with ls := upd x.ls f l, rs := upd x.rs f r }
def rFlush1 (f : Int) (x : RS) : Int := if rMay f (rComes 0 [] x) ≠ 0 then rMay f (rComes 0 [] x) else if 0 < (rComes 0 [] x).lost then 13 else 0
def rFlush2 (f : Int) (x : RS) : RS := if rMay f (rComes 0 [] x) ≠ 0 then rComes 0 [] x else if 0 < (rComes 0 [] x).lost then { rComes 0 [] x with lost := (rComes 0 [] x).lost - 1 } else rSet f.toNat ((rComes 0 [] x).ls f.toNat ++ (rComes 0 [] x).rs f.toNat) [] (rComes 0 [] x)
def rCut1 (f n : Int) (x : RS) : Int := if rMay f (rComes 0 [] x) ≠ 0 then rMay f (rComes 0 [] x) else if n < 0 ∨ (rSize f (rComes 0 [] x) : Int) < n then 1 else 0
def cutL (n : Nat) (l : List UInt8) : List UInt8 := if n ≤ l.length then l.take n else l
def cutR (n : Nat) (l r : List UInt8) : List UInt8 := if n ≤ l.length then [] else r.take (n - l.length)
def rCut2 (f n : Int) (x : RS) : RS := if rCut1 f n x = 0 then rSet f.toNat (cutL n.toNat ((rComes 0 [] x).ls f.toNat)) (cutR n.toNat ((rComes 0 [] x).ls f.toNat) ((rComes 0 [] x).rs f.toNat)) (rComes 0 [] x) else rComes 0 [] x
def rTurn1 (f g : Int) (x : RS) : Int := if rMay f (rComes 0 [] x) ≠ 0 then rMay f (rComes 0 [] x) else if rMay g (rComes 0 [] x) ≠ 0 then rMay g (rComes 0 [] x) else if f = g then 1 else if (rComes 0 [] x).rs g.toNat ≠ [] then 16 else 0
def rTurn2 (f g : Int) (x : RS) : RS := if rTurn1 f g x = 0 then rSet g.toNat [] [] (rSet f.toNat ((rComes 0 [] x).ls g.toNat) ((rComes 0 [] x).rs g.toNat) (rComes 0 [] x)) else rComes 0 [] x
def rRead2 (f : Int) (x : RS) : List UInt8 := if rMay f x = 0 then x.ls f.toNat ++ x.rs f.toNat else []
def rLose (n : Int) (x : RS) : RS := { x with lost := n.toNat }
def rArm (n : Int) (l : List Int) (x : RS) : RS := { x with armed := n.toNat, keep := l }
def rStart (x : RS) : RS := { x with down := false }

structure ROk (x : RS) : Prop where
  len : ∀ f, f < 8 → (x.ls f).length + (x.rs f).length ≤ 16777216
  lost : x.lost ≤ 9223372036854775807
  armed : x.armed ≤ 9223372036854775807
  keep : x.keep.length ≤ 1048576 ∧ ∀ v ∈ x.keep, v ≤ 9223372036854775807

/-- the two machines go side by side -/
structure Sim (d : DS) (x : RS) : Prop where
  data : ∀ f, f < 8 → d.data f = x.ls f ++ x.rs f
  dur : ∀ f, f < 8 → d.dur f = (x.ls f).length
  lost : d.lost = x.lost
  down : d.down = x.down
  armed : d.armed = x.armed
  keep : ∀ f, f < 8 → d.keep f = (x.keep.getD f 0).toNat

theorem Sim.new : Sim dNew rNew := ⟨fun _ _ => rfl, fun _ _ => rfl, rfl, rfl, rfl, fun _ _ => by simp [dNew, rNew]⟩
theorem vF_lt {f : Int} (h : vF f = true) : f.toNat < 8 := by rw [vF_iff] at h; omega
theorem Sim.size {d : DS} {x : RS} (h : Sim d x) (f : Int) : size1 f d = rSize f x := by
  unfold size1 rSize
  split
  · rename_i hv; rw [h.data _ (vF_lt hv)]; simp
  · rfl
theorem Sim.fall {d : DS} {x : RS} (h : Sim d x) (k : Nat → Nat) (l : List Int) (hk : ∀ f, f < 8 → k f = (l.getD f 0).toNat) : Sim (dFall k d) (rFall l x) := by
  have e : ∀ f, f < 8 → fallF k d f = x.ls f ++ (x.rs f).take (keepN l (x.rs f) f) := fun f hf => by
    unfold fallF keepN
    rw [h.data f hf, h.dur f hf, hk f hf, List.length_append, Nat.add_sub_cancel_left, List.take_append]
    have : (x.ls f).length + min (l.getD f 0).toNat (x.rs f).length - (x.ls f).length = min (l.getD f 0).toNat (x.rs f).length := by omega
    rw [this, List.take_of_length_le (by omega)]
  refine ⟨fun f hf => ?_, fun f hf => ?_, h.lost, rfl, rfl, h.keep⟩
  · show fallF k d f = (x.ls f ++ (x.rs f).take _) ++ []
    rw [List.append_nil]; exact e f hf
  · show (fallF k d f).length = (x.ls f ++ (x.rs f).take _).length
    rw [e f hf]
theorem Sim.crash {d : DS} {x : RS} (h : Sim d x) (l : List Int) : Sim (dCrash l d) (rCrash l x) := by
  unfold dCrash rCrash
  rw [h.down]
  split
  · exact h
  · exact h.fall _ _ (fun f _ => rfl)
theorem Sim.grow {d : DS} {x : RS} (h : Sim d x) (f : Nat) (s : List UInt8) : Sim { d with data := upd d.data f (d.data f ++ s) } (rGrow f s x) := by
  refine ⟨fun g hg => ?_, h.dur, h.lost, h.down, h.armed, h.keep⟩
  show upd d.data f (d.data f ++ s) g = x.ls g ++ upd x.rs f (x.rs f ++ s) g
  unfold upd
  split
  · rename_i e; subst e; rw [h.data _ hg, List.append_assoc]
  · exact h.data g hg
theorem fits_ext {d : DS} {x : RS} (h : Sim d x) (f : Int) (s : List UInt8) : rFits f s x = decide (ext1 f s d = 0) := by
  unfold rFits ext1 rSize
  cases hv : vF f with
  | false => simp
  | true =>
    rw [h.data _ (vF_lt hv)]
    simp only [if_true, Bool.true_and, List.length_append]
    by_cases hb : (x.ls f.toNat).length + (x.rs f.toNat).length + s.length ≤ 16777216
    · rw [if_neg (by omega)]; simpa using hb
    · rw [if_pos (by omega)]; simpa using hb
theorem Sim.bump {d : DS} {x : RS} (h : Sim d x) (f : Int) (s : List UInt8) : Sim (ext2 f s d) (rBump f s x) := by
  unfold ext2 rBump
  rw [fits_ext h]
  by_cases he : ext1 f s d = 0
  · rw [if_pos he, if_pos (by simpa using he)]; exact h.grow _ _
  · rw [if_neg he, if_neg (by simpa using he)]; exact h
theorem Sim.less {d : DS} {x : RS} (h : Sim d x) : Sim (due2 d) (rLess x) := ⟨h.data, h.dur, h.lost, h.down, by show d.armed - 1 = x.armed - 1; rw [h.armed], h.keep⟩
theorem rBump_keep (f : Int) (s : List UInt8) (x : RS) : (rBump f s x).keep = x.keep ∧ (rBump f s x).down = x.down := by unfold rBump; split <;> exact ⟨rfl, rfl⟩
theorem due0 {d : DS} (h : d.armed = 0) : due2 d = d := by unfold due2; rw [h]; cases d; simp_all
/-- a call behind its count: the program's machine (its Append's bytes laid) and the reference's -/
theorem Sim.comes {d : DS} {x : RS} (h : Sim d x) (f : Int) (s : List UInt8) :
    (d.down = true ∧ rComes f s x = x) ∨
    (d.down = false ∧ due1 d = true ∧ (rComes f s x).down = true ∧ Sim (dFall d.keep (ext2 f s (due2 d))) (rComes f s x)) ∨
    (d.down = false ∧ due1 d = false ∧ (rComes f s x).down = false ∧ Sim (due2 d) (rComes f s x)) := by
  unfold rComes due1
  rw [← h.down, ← h.armed]
  cases hd : d.down with
  | true => simp
  | false =>
    right
    by_cases h0 : d.armed = 0
    · right
      rw [if_neg (by simp), if_pos h0, due0 h0]
      exact ⟨rfl, by simp [h0], by rw [← h.down, hd], h⟩
    · by_cases h1 : d.armed = 1
      · left
        rw [if_neg (by simp), if_neg h0, if_pos h1]
        have hb := (h.less.bump f s)
        have hkd := rBump_keep f s (rLess x)
        have hdn : (rBump f s (rLess x)).down = false := by rw [hkd.2]; show x.down = false; rw [← h.down, hd]
        unfold rCrash
        rw [hdn, if_neg (by simp)]
        refine ⟨rfl, by simp [h1], rfl, ?_⟩
        exact hb.fall d.keep x.keep h.keep
      · right
        rw [if_neg (by simp), if_neg h0, if_neg h1]
        exact ⟨rfl, by simp [h1], by show x.down = false; rw [← h.down, hd], h.less⟩
theorem Sim.app {d : DS} {x : RS} (h : Sim d x) (f : Int) (s : List UInt8) : app1 f s d = rApp1 f s x ∧ Sim (app2 f s d) (rApp2 f s x) := by
  rcases h.comes f s with ⟨hd, e⟩ | ⟨hd, hu, hx, hs⟩ | ⟨hd, hu, hx, hs⟩
  · have hm : rMay f x = 12 := by unfold rMay; rw [← h.down, hd]; rfl
    have h1 : rApp1 f s x = 12 := by unfold rApp1; rw [e, hm]; rfl
    unfold rApp2 app1 app2
    rw [h1, e, hd]
    exact ⟨rfl, h⟩
  · have hm : rMay f (rComes f s x) = 12 := by unfold rMay; rw [hx]; rfl
    have h1 : rApp1 f s x = 12 := by unfold rApp1; rw [hm]; rfl
    unfold rApp2 app1 app2
    rw [h1, hd, hu]
    exact ⟨rfl, hs⟩
  · have hf := fits_ext hs f s
    have hm : rMay f (rComes f s x) = if vF f then 0 else 1 := by unfold rMay; rw [hx]; rfl
    have h1 : rApp1 f s x = ext1 f s (due2 d) := by
      unfold rApp1 ext1
      rw [hm]
      cases hv : vF f with
      | false => simp
      | true =>
        have hl := congrArg List.length (hs.data _ (vF_lt hv))
        rw [List.length_append] at hl
        simp only [if_true]
        unfold rSize
        rw [hv]
        simp only [if_true, ne_eq, not_true_eq_false, if_false]
        by_cases hb : (16777216 : Int) - ((due2 d).data f.toNat).length < s.length
        · rw [if_pos hb, if_pos (by omega)]
        · rw [if_neg hb, if_neg (by omega)]
    have hb := hs.bump f s
    unfold rBump at hb
    rw [hf] at hb
    unfold rApp2 app1 app2
    rw [h1, hd, hu]
    refine ⟨rfl, ?_⟩
    simp only [Bool.false_eq_true, if_false]
    simpa using hb
theorem Sim.start {d : DS} {x : RS} (h : Sim d x) : (start1 d = 12 ∧ (rComes 0 [] x).down = true ∨ start1 d = 0 ∧ (rComes 0 [] x).down = false) ∧ Sim (start2 d) (rComes 0 [] x) := by
  unfold start1 start2
  rcases h.comes 0 [] with ⟨hd, e⟩ | ⟨hd, hu, hx, hs⟩ | ⟨hd, hu, hx, hs⟩
  · rw [hd, e]; exact ⟨Or.inl ⟨rfl, by rw [← h.down, hd]⟩, h⟩
  · rw [hd, hu]
    refine ⟨Or.inl ⟨rfl, hx⟩, ?_⟩
    have : ext2 0 [] (due2 d) = due2 d := by
      unfold ext2
      split
      · show { due2 d with data := upd (due2 d).data 0 ((due2 d).data 0 ++ []) } = due2 d
        have e : upd (due2 d).data 0 ((due2 d).data 0 ++ []) = (due2 d).data := by
          funext i; unfold upd; split
          · rename_i e; subst e; simp
          · rfl
        rw [e]
      · rfl
    rw [this] at hs
    exact hs
  · rw [hd, hu]; exact ⟨Or.inr ⟨rfl, hx⟩, hs⟩
theorem rMay_up {f : Int} {x : RS} (h : x.down = false) : rMay f x = if vF f then 0 else 1 := by unfold rMay; rw [h]; rfl
theorem rMay_down {f : Int} {x : RS} (h : x.down = true) : rMay f x = 12 := by unfold rMay; rw [h]; rfl
theorem rMay_zero {f : Int} {x : RS} (h : rMay f x = 0) : x.down = false ∧ vF f = true := by
  unfold rMay at h
  cases hd : x.down with
  | true => rw [hd] at h; simp at h
  | false => rw [hd] at h; cases hv : vF f with
    | true => exact ⟨rfl, rfl⟩
    | false => rw [hv] at h; simp at h
theorem Sim.set {d : DS} {x : RS} (h : Sim d x) (f : Nat) (l r : List UInt8) {dt : List UInt8} (hdt : dt = l ++ r) : Sim { d with data := upd d.data f dt, dur := upd d.dur f l.length } (rSet f l r x) := by
  refine ⟨fun g hg => ?_, fun g hg => ?_, h.lost, h.down, h.armed, h.keep⟩
  · show upd d.data f dt g = upd x.ls f l g ++ upd x.rs f r g
    unfold upd
    split
    · exact hdt
    · exact h.data g hg
  · show upd d.dur f l.length g = (upd x.ls f l g).length
    unfold upd
    split
    · rfl
    · exact h.dur g hg
theorem Sim.flush {d : DS} {x : RS} (h : Sim d x) (f : Int) : flush1 f d = rFlush1 f x ∧ Sim (flush2 f d) (rFlush2 f x) := by
  obtain ⟨hs, h2⟩ := h.start
  unfold flush1 flush2 rFlush1 rFlush2
  rcases hs with ⟨h1, hx⟩ | ⟨h1, hx⟩
  · rw [h1, rMay_down hx]; exact ⟨rfl, h2⟩
  · rw [h1, rMay_up hx]
    obtain ⟨_, _, e2⟩ := start1_zero h1
    have hl : d.lost = (rComes 0 [] x).lost := by have := h2.lost; rw [e2] at this; exact this
    cases hv : vF f with
    | false => exact ⟨rfl, h2⟩
    | true =>
      rw [← hl]
      by_cases h0 : 0 < d.lost
      · simp only [if_true, if_pos h0, ne_eq, not_true_eq_false, if_false]
        exact ⟨trivial, ⟨h2.data, h2.dur, by show d.lost - 1 = d.lost - 1; rfl, h2.down, h2.armed, h2.keep⟩⟩
      · simp only [if_true, if_neg h0, ne_eq, not_true_eq_false, if_false]
        refine ⟨trivial, ?_⟩
        have hdd : d.data f.toNat = (start2 d).data f.toNat := by rw [e2]; rfl
        have hdu : d.dur = (start2 d).dur := by rw [e2]; rfl
        have hda := h2.data _ (vF_lt hv)
        have := h2.set f.toNat ((rComes 0 [] x).ls f.toNat ++ (rComes 0 [] x).rs f.toNat) [] (dt := (start2 d).data f.toNat) (by rw [List.append_nil]; exact hda)
        have e3 : upd (start2 d).data f.toNat ((start2 d).data f.toNat) = (start2 d).data := by
          funext i; unfold upd; split
          · rename_i e; subst e; rfl
          · rfl
        rw [e3, ← hda] at this
        rw [hdd, hdu, ← hda]
        exact this
theorem Sim.cut {d : DS} {x : RS} (h : Sim d x) (f n : Int) : cut1 f n d = rCut1 f n x ∧ Sim (cut2 f n d) (rCut2 f n x) := by
  obtain ⟨hs, h2⟩ := h.start
  rcases hs with ⟨h1, hx⟩ | ⟨h1, hx⟩
  · have a1 : cut1 f n d = 12 := by unfold cut1; rw [h1]; rfl
    have a2 : rCut1 f n x = 12 := by unfold rCut1; rw [rMay_down hx]; rfl
    unfold cut2 rCut2
    rw [a1, a2]; exact ⟨rfl, h2⟩
  · obtain ⟨_, _, e2⟩ := start1_zero h1
    cases hv : vF f with
    | false =>
      have a1 : cut1 f n d = 1 := by unfold cut1; rw [h1, hv]; rfl
      have a2 : rCut1 f n x = 1 := by unfold rCut1; rw [rMay_up hx, hv]; rfl
      unfold cut2 rCut2
      rw [a1, a2]; exact ⟨rfl, h2⟩
    | true =>
      have hdd : d.data f.toNat = (start2 d).data f.toNat := by rw [e2]; rfl
      have hda := h2.data _ (vF_lt hv)
      have hdu := h2.dur _ (vF_lt hv)
      have hl := congrArg List.length hda
      rw [List.length_append] at hl
      have a0 : cut1 f n d = rCut1 f n x := by
        unfold cut1 rCut1 rSize
        rw [h1, rMay_up hx, hv, hdd, hl]
        simp
      refine ⟨a0, ?_⟩
      unfold cut2 rCut2
      rw [a0]
      by_cases hz : rCut1 f n x = 0
      · rw [if_pos hz, if_pos hz]
        have hn : 0 ≤ n ∧ n ≤ ((start2 d).data f.toNat).length := by
          unfold rCut1 rSize at hz
          rw [rMay_up hx, hv] at hz
          simp only [if_true, ne_eq, not_true_eq_false, if_false] at hz
          split at hz
          · cases hz
          · omega
        have hdur : d.dur f.toNat = ((rComes 0 [] x).ls f.toNat).length := by rw [← hdu, e2]; rfl
        have hdur2 : d.dur = (start2 d).dur := by rw [e2]; rfl
        have hdata2 : d.data = (start2 d).data := by rw [e2]; rfl
        have hw : (d.data f.toNat).take n.toNat = cutL n.toNat ((rComes 0 [] x).ls f.toNat) ++ cutR n.toNat ((rComes 0 [] x).ls f.toNat) ((rComes 0 [] x).rs f.toNat) := by
          rw [hdd, hda, List.take_append]
          unfold cutL cutR
          split
          · rename_i hle
            rw [Nat.sub_eq_zero_of_le hle, List.take_zero]
          · rename_i hle
            rw [List.take_of_length_le (by omega)]
        have := h2.set f.toNat (cutL n.toNat ((rComes 0 [] x).ls f.toNat)) (cutR n.toNat ((rComes 0 [] x).ls f.toNat) ((rComes 0 [] x).rs f.toNat)) hw
        have hlen : (cutL n.toNat ((rComes 0 [] x).ls f.toNat)).length = min (d.dur f.toNat) n.toNat := by
          rw [hdur]; unfold cutL
          split
          · rw [List.length_take]; omega
          · omega
        rw [hlen, ← hdur2, ← hdata2] at this
        exact this
      · rw [if_neg hz, if_neg hz]; exact h2
theorem Sim.turn {d : DS} {x : RS} (h : Sim d x) (f g : Int) : turn1 f g d = rTurn1 f g x ∧ Sim (turn2 f g d) (rTurn2 f g x) := by
  obtain ⟨hs, h2⟩ := h.start
  rcases hs with ⟨h1, hx⟩ | ⟨h1, hx⟩
  · have a1 : turn1 f g d = 12 := by unfold turn1; rw [h1]; rfl
    have a2 : rTurn1 f g x = 12 := by unfold rTurn1; rw [rMay_down hx]; rfl
    unfold turn2 rTurn2
    rw [a1, a2]; exact ⟨rfl, h2⟩
  · obtain ⟨_, _, e2⟩ := start1_zero h1
    have hdata2 : d.data = (start2 d).data := by rw [e2]; rfl
    have hdur2 : d.dur = (start2 d).dur := by rw [e2]; rfl
    have a0 : turn1 f g d = rTurn1 f g x := by
      unfold turn1 rTurn1
      rw [h1, rMay_up hx, rMay_up hx]
      cases hv : vF f with
      | false => simp
      | true =>
        cases hw : vF g with
        | false => simp
        | true =>
          by_cases hfg : f = g
          · simp [hfg]
          · have hda := h2.data _ (vF_lt hw)
            have hdu := h2.dur _ (vF_lt hw)
            rw [hdata2, hdur2, hda, hdu]
            cases hr : (rComes 0 [] x).rs g.toNat with
            | nil => simp [hfg]
            | cons a r => simp [hfg]
    refine ⟨a0, ?_⟩
    unfold turn2 rTurn2
    rw [a0]
    by_cases hz : rTurn1 f g x = 0
    · rw [if_pos hz, if_pos hz]
      have hz' : turn1 f g d = 0 := a0.trans hz
      obtain ⟨_, hv, hw, hne, _⟩ := turn1_zero hz'
      have hda := h2.data _ (vF_lt hw)
      have hdu := h2.dur _ (vF_lt hw)
      have := (h2.set f.toNat ((rComes 0 [] x).ls g.toNat) ((rComes 0 [] x).rs g.toNat) hda).set g.toNat [] [] (dt := []) rfl
      rw [← hdu] at this
      rw [hdata2, hdur2]
      exact this
    · rw [if_neg hz, if_neg hz]; exact h2
theorem Sim.read {d : DS} {x : RS} (h : Sim d x) (f : Int) : read1 f d = rMay f x ∧ read2 f d = rRead2 f x := by
  have a0 : read1 f d = rMay f x := by unfold read1 rMay; rw [h.down]
  refine ⟨a0, ?_⟩
  unfold read2 rRead2
  rw [a0]
  split
  · rename_i hz; exact h.data _ (vF_lt (rMay_zero hz).2)
  · rfl
theorem Sim.lose {d : DS} {x : RS} (h : Sim d x) (n : Int) : Sim (dLose n d) (rLose n x) := ⟨h.data, h.dur, rfl, h.down, h.armed, h.keep⟩
theorem Sim.arm {d : DS} {x : RS} (h : Sim d x) (n : Int) (l : List Int) : Sim (dArm n l d) (rArm n l x) := ⟨h.data, h.dur, h.lost, h.down, rfl, fun _ _ => rfl⟩
theorem Sim.up {d : DS} {x : RS} (h : Sim d x) : Sim (dStart d) (rStart x) := ⟨h.data, h.dur, h.lost, rfl, h.armed, h.keep⟩
end Go.Proofs.Ytdapjoapndemkaa
