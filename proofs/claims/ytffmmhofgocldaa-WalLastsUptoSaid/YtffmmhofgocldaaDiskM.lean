/- Chapter 05 (disk): what a Disk is, as plain data; its operations as functions. -/
import Derived.Below
set_option linter.unusedVariables false
namespace Go.Proofs.Ytffmmhofgocldaa
def upd {α : Type} (g : Nat → α) (f : Nat) (x : α) : Nat → α := fun i => if i = f then x else g i
theorem upd_same {α : Type} (g : Nat → α) (f : Nat) (x : α) : upd g f x f = x := if_pos rfl
theorem upd_other {α : Type} (g : Nat → α) (f : Nat) (x : α) (i : Nat) (h : i ≠ f) : upd g f x i = g i := if_neg h
structure DS where
  data : Nat → List UInt8
  dur : Nat → Nat
  down : Bool
  lost : Nat
  armed : Nat
  keep : Nat → Nat
def dNew : DS := ⟨fun _ => [], fun _ => 0, false, 0, 0, fun _ => 0⟩
/-- what holds of every disk -/
structure Ok (d : DS) : Prop where
  dur : ∀ f, f < 8 → d.dur f ≤ (d.data f).length
  len : ∀ f, f < 8 → (d.data f).length ≤ 16777216
  lost : d.lost ≤ 9223372036854775807
  armed : d.armed ≤ 9223372036854775807
  keep : ∀ f, f < 8 → d.keep f ≤ 9223372036854775807
def vF (f : Int) : Bool := decide (0 ≤ f) && decide (f < 8)
theorem vF_iff (f : Int) : vF f = true ↔ 0 ≤ f ∧ f < 8 := by simp [vF]
theorem vF_not (f : Int) : vF f = false ↔ f < 0 ∨ 8 ≤ f := by rw [← Bool.not_eq_true, vF_iff]; omega
/-- what a crash leaves of file f -/
def fallF (keep : Nat → Nat) (d : DS) (f : Nat) : List UInt8 := (d.data f).take (d.dur f + min (keep f) ((d.data f).length - d.dur f))
def dFall (keep : Nat → Nat) (d : DS) : DS := { d with data := fallF keep d, dur := fun f => (fallF keep d f).length, down := true, armed := 0 }
def due1 (d : DS) : Bool := decide (d.armed = 1)
def due2 (d : DS) : DS := { d with armed := d.armed - 1 }
def ext1 (f : Int) (s : List UInt8) (d : DS) : Int := if vF f then (if 16777216 - ((d.data f.toNat).length : Int) < s.length then 15 else 0) else 1
def ext2 (f : Int) (s : List UInt8) (d : DS) : DS := if ext1 f s d = 0 then { d with data := upd d.data f.toNat (d.data f.toNat ++ s) } else d
def app1 (f : Int) (s : List UInt8) (d : DS) : Int := if d.down then 12 else if due1 d then 12 else ext1 f s d
def app2 (f : Int) (s : List UInt8) (d : DS) : DS := if d.down then d else if due1 d then dFall d.keep (ext2 f s (due2 d)) else ext2 f s (due2 d)
def start1 (d : DS) : Int := if d.down then 12 else if due1 d then 12 else 0
def start2 (d : DS) : DS := if d.down then d else if due1 d then dFall d.keep (due2 d) else due2 d
def flush1 (f : Int) (d : DS) : Int := if start1 d ≠ 0 then start1 d else if vF f then (if 0 < d.lost then 13 else 0) else 1
def flush2 (f : Int) (d : DS) : DS := if start1 d ≠ 0 then start2 d else if vF f then (if 0 < d.lost then { start2 d with lost := d.lost - 1 } else { start2 d with dur := upd d.dur f.toNat (d.data f.toNat).length }) else start2 d
def cut1 (f n : Int) (d : DS) : Int := if start1 d ≠ 0 then start1 d else if vF f then (if n < 0 ∨ ((d.data f.toNat).length : Int) < n then 1 else 0) else 1
def cut2 (f n : Int) (d : DS) : DS := if cut1 f n d = 0 then { start2 d with data := upd d.data f.toNat ((d.data f.toNat).take n.toNat), dur := upd d.dur f.toNat (min (d.dur f.toNat) n.toNat) } else start2 d
def turn1 (f g : Int) (d : DS) : Int := if start1 d ≠ 0 then start1 d else if vF f && vF g && !decide (f = g) then (if d.dur g.toNat < (d.data g.toNat).length then 16 else 0) else 1
def turn2 (f g : Int) (d : DS) : DS := if turn1 f g d = 0 then { start2 d with data := upd (upd d.data f.toNat (d.data g.toNat)) g.toNat [], dur := upd (upd d.dur f.toNat (d.dur g.toNat)) g.toNat 0 } else start2 d
def read1 (f : Int) (d : DS) : Int := if d.down then 12 else if vF f then 0 else 1
def read2 (f : Int) (d : DS) : List UInt8 := if read1 f d = 0 then d.data f.toNat else []
def size1 (f : Int) (d : DS) : Nat := if vF f then (d.data f.toNat).length else 0
def dLose (n : Int) (d : DS) : DS := { d with lost := n.toNat }
/-- what 'kept' makes of a slice of integers -/
def keptF (l : List Int) : Nat → Nat := fun f => (l.getD f 0).toNat
def dArm (n : Int) (l : List Int) (d : DS) : DS := { d with armed := n.toNat, keep := keptF l }
def dCrash (l : List Int) (d : DS) : DS := if d.down then d else dFall (keptF l) d
def dStart (d : DS) : DS := { d with down := false }

theorem fallF_len (keep : Nat → Nat) (d : DS) (f : Nat) : (fallF keep d f).length = min (d.dur f + min (keep f) ((d.data f).length - d.dur f)) (d.data f).length := by simp [fallF]
theorem Ok.fall {d : DS} (h : Ok d) (keep : Nat → Nat) : Ok (dFall keep d) :=
  ⟨fun f hf => Nat.le_refl _, fun f hf => by show (fallF keep d f).length ≤ _; rw [fallF_len]; have := h.len f hf; omega, h.lost, by show 0 ≤ _; omega, h.keep⟩
theorem Ok.due {d : DS} (h : Ok d) : Ok (due2 d) := ⟨h.dur, h.len, h.lost, by show d.armed - 1 ≤ _; have := h.armed; omega, h.keep⟩
theorem ext1_zero {f : Int} {s : List UInt8} {d : DS} (h : ext1 f s d = 0) : vF f = true ∧ (d.data f.toNat).length + s.length ≤ 16777216 := by
  unfold ext1 at h
  split at h
  · rename_i hv
    split at h
    · cases h
    · exact ⟨hv, by omega⟩
  · cases h
theorem Ok.ext {d : DS} (h : Ok d) (f : Int) (s : List UInt8) : Ok (ext2 f s d) := by
  unfold ext2
  split
  · rename_i h0
    obtain ⟨hv, hl⟩ := ext1_zero h0
    refine ⟨fun g hg => ?_, fun g hg => ?_, h.lost, h.armed, h.keep⟩
    · show d.dur g ≤ (upd d.data f.toNat (d.data f.toNat ++ s) g).length
      unfold upd
      split
      · rename_i e; subst e; have := h.dur _ hg; simp; omega
      · exact h.dur g hg
    · show (upd d.data f.toNat (d.data f.toNat ++ s) g).length ≤ _
      unfold upd
      split
      · rename_i e; subst e; simp; omega
      · exact h.len g hg
  · exact h
theorem Ok.app {d : DS} (h : Ok d) (f : Int) (s : List UInt8) : Ok (app2 f s d) := by
  unfold app2
  split
  · exact h
  · split
    · exact (h.due.ext f s).fall _
    · exact h.due.ext f s
theorem Ok.start {d : DS} (h : Ok d) : Ok (start2 d) := by
  unfold start2
  split
  · exact h
  · split
    · exact h.due.fall _
    · exact h.due
theorem start1_zero {d : DS} (h : start1 d = 0) : d.down = false ∧ due1 d = false ∧ start2 d = due2 d := by
  unfold start1 at h
  unfold start2
  cases hd : d.down with
  | true => rw [hd] at h; simp at h
  | false =>
    cases hu : due1 d with
    | true => rw [hd, hu] at h; simp at h
    | false => simp
theorem Ok.flush {d : DS} (h : Ok d) (f : Int) : Ok (flush2 f d) := by
  unfold flush2
  split
  · exact h.start
  · rename_i h0
    have h0' : start1 d = 0 := by omega
    rw [(start1_zero h0').2.2]
    split
    · split
      · exact ⟨h.dur, h.len, by show d.lost - 1 ≤ _; have := h.lost; omega, h.due.armed, h.keep⟩
      · refine ⟨fun g hg => ?_, h.len, h.lost, h.due.armed, h.keep⟩
        show upd d.dur f.toNat (d.data f.toNat).length g ≤ (d.data g).length
        unfold upd
        split
        · rename_i e; subst e; exact Nat.le_refl _
        · exact h.dur g hg
    · exact h.due
theorem cut1_zero {f n : Int} {d : DS} (h : cut1 f n d = 0) : start1 d = 0 ∧ vF f = true ∧ 0 ≤ n ∧ n ≤ (d.data f.toNat).length := by
  unfold cut1 at h
  split at h
  · rename_i h0; exact absurd h h0
  · rename_i h0
    split at h
    · rename_i hv
      split at h
      · cases h
      · exact ⟨by omega, hv, by omega, by omega⟩
    · cases h
theorem Ok.cut {d : DS} (h : Ok d) (f n : Int) : Ok (cut2 f n d) := by
  unfold cut2
  split
  · rename_i h0
    obtain ⟨h1, hv, h2, h3⟩ := cut1_zero h0
    rw [(start1_zero h1).2.2]
    refine ⟨fun g hg => ?_, fun g hg => ?_, h.lost, h.due.armed, h.keep⟩
    · show upd d.dur f.toNat _ g ≤ (upd d.data f.toNat _ g).length
      unfold upd
      split
      · rename_i e; subst e; have := h.dur _ hg; simp; omega
      · exact h.dur g hg
    · show (upd d.data f.toNat _ g).length ≤ _
      unfold upd
      split
      · rename_i e; subst e; have := h.len _ hg; simp; omega
      · exact h.len g hg
  · exact h.start
theorem turn1_zero {f g : Int} {d : DS} (h : turn1 f g d = 0) : start1 d = 0 ∧ vF f = true ∧ vF g = true ∧ f ≠ g ∧ (d.data g.toNat).length ≤ d.dur g.toNat := by
  unfold turn1 at h
  split at h
  · rename_i h0; exact absurd h h0
  · rename_i h0
    split at h
    · rename_i hv
      simp only [Bool.and_eq_true, Bool.not_eq_true', decide_eq_false_iff_not] at hv
      split at h
      · cases h
      · exact ⟨by omega, hv.1.1, hv.1.2, hv.2, by omega⟩
    · cases h
theorem Ok.turn {d : DS} (h : Ok d) (f g : Int) : Ok (turn2 f g d) := by
  unfold turn2
  split
  · rename_i h0
    obtain ⟨h1, hv, hw, hne, h3⟩ := turn1_zero h0
    rw [vF_iff] at hw
    rw [(start1_zero h1).2.2]
    refine ⟨fun i hi => ?_, fun i hi => ?_, h.lost, h.due.armed, h.keep⟩
    · show upd (upd d.dur f.toNat (d.dur g.toNat)) g.toNat 0 i ≤ (upd (upd d.data f.toNat (d.data g.toNat)) g.toNat [] i).length
      unfold upd
      split
      · simp
      · split
        · exact h.dur _ (by omega)
        · exact h.dur i hi
    · show (upd (upd d.data f.toNat (d.data g.toNat)) g.toNat [] i).length ≤ _
      unfold upd
      split
      · simp
      · split
        · exact h.len _ (by omega)
        · exact h.len i hi
  · exact h.start
theorem Ok.new : Ok dNew := ⟨fun _ _ => Nat.le_refl _, fun _ _ => by simp [dNew], by decide, by decide, fun _ _ => by simp [dNew]⟩
theorem Ok.lose {d : DS} (h : Ok d) (n : Int) (hn : n ≤ 9223372036854775807) : Ok (dLose n d) := ⟨h.dur, h.len, by show n.toNat ≤ _; omega, h.armed, h.keep⟩
theorem keptF_le {l : List Int} (hl : ∀ x ∈ l, x ≤ 9223372036854775807) (f : Nat) : keptF l f ≤ 9223372036854775807 := by
  unfold keptF
  rcases h : l[f]? with _ | x
  · simp [List.getD, h]
  · have := hl x (List.mem_of_getElem? h)
    simp [List.getD, h]; omega
theorem Ok.arm {d : DS} (h : Ok d) (n : Int) (l : List Int) (hn : n ≤ 9223372036854775807) (hl : ∀ x ∈ l, x ≤ 9223372036854775807) : Ok (dArm n l d) := ⟨h.dur, h.len, h.lost, by show n.toNat ≤ _; omega, fun f _ => keptF_le hl f⟩
theorem Ok.crash {d : DS} (h : Ok d) (l : List Int) : Ok (dCrash l d) := by
  unfold dCrash
  split
  · exact h
  · exact h.fall _
theorem Ok.up {d : DS} (h : Ok d) : Ok (dStart d) := ⟨h.dur, h.len, h.lost, h.armed, h.keep⟩
end Go.Proofs.Ytffmmhofgocldaa
