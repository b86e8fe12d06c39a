/- Chapter 05 (disk): plain laws for DiskLasts: what has been flushed stays. -/
import Derived.Test.YtdapjoapndemkaaDiskW10
import Derived.Test.YtdapjoapndemkaaDiskT
set_option linter.unusedVariables false
namespace Go.Proofs.Ytdapjoapndemkaa
/-- the bytes of safe are durable -/
def Safe (safe : Nat → List UInt8) (d : DS) : Prop := ∀ f, f < 8 → safe f <+: (d.data f).take (d.dur f)
/-- on a machine that is down all that is left is durable -/
def Fell (d : DS) : Prop := d.down = true → ∀ f, f < 8 → d.dur f = (d.data f).length
theorem Safe.data {safe : Nat → List UInt8} {d : DS} (h : Safe safe d) {f : Nat} (hf : f < 8) : safe f <+: d.data f := (h f hf).trans (List.take_prefix _ _)
theorem Safe.same {safe : Nat → List UInt8} {d e : DS} (h : Safe safe d) (h1 : e.data = d.data) (h2 : e.dur = d.dur) : Safe safe e := fun f hf => by rw [h1, h2]; exact h f hf
theorem take_take_prefix {α : Type} (l : List α) {a b : Nat} (h : a ≤ b) : l.take a <+: l.take b := by
  have : l.take a = (l.take b).take a := by rw [List.take_take, Nat.min_eq_left h]
  rw [this]; exact List.take_prefix _ _
theorem Safe.fall {safe : Nat → List UInt8} {d : DS} (h : Safe safe d) (kf : Nat → Nat) : Safe safe (dFall kf d) := fun f hf => by
  show safe f <+: (fallF kf d f).take (fallF kf d f).length
  rw [List.take_length]
  unfold fallF
  exact (h f hf).trans (take_take_prefix _ (Nat.le_add_right _ _))
theorem Fell.fall (kf : Nat → Nat) (d : DS) : Fell (dFall kf d) := fun _ f _ => rfl
theorem Fell.up {d : DS} (h : d.down = false) : Fell d := fun h2 => by rw [h] at h2; cases h2
theorem Safe.start {safe : Nat → List UInt8} {d : DS} (h : Safe safe d) : Safe safe (start2 d) := by
  unfold start2
  split
  · exact h
  · split
    · exact (h.same (e := due2 d) rfl rfl).fall _
    · exact h.same rfl rfl
theorem Fell.start {d : DS} (h : Fell d) : Fell (start2 d) := by
  unfold start2
  split
  · exact h
  · rename_i hd
    split
    · exact Fell.fall _ _
    · exact Fell.up (by simpa [due2] using hd)
theorem Safe.ext {safe : Nat → List UInt8} {d : DS} (h : Safe safe d) (ho : Ok d) (f : Int) (s : List UInt8) : Safe safe (ext2 f s d) := by
  unfold ext2
  split
  · intro g hg
    show safe g <+: (upd d.data f.toNat (d.data f.toNat ++ s) g).take (d.dur g)
    unfold upd
    split
    · rename_i e
      have h1 := h g hg
      rw [← e]
      rw [List.take_append_of_le_length (ho.dur g hg)]; exact h1
    · exact h g hg
  · exact h
theorem ext_down (f : Int) (s : List UInt8) (d : DS) : (ext2 f s d).down = d.down := by unfold ext2; split <;> rfl
theorem Safe.app {safe : Nat → List UInt8} {d : DS} (h : Safe safe d) (ho : Ok d) (f : Int) (s : List UInt8) : Safe safe (app2 f s d) := by
  unfold app2
  split
  · exact h
  · split
    · exact ((h.same (e := due2 d) rfl rfl).ext ho.due f s).fall _
    · exact (h.same (e := due2 d) rfl rfl).ext ho.due f s
theorem Fell.app {d : DS} (h : Fell d) (f : Int) (s : List UInt8) : Fell (app2 f s d) := by
  unfold app2
  split
  · exact h
  · rename_i hd
    split
    · exact Fell.fall _ _
    · exact Fell.up (by rw [ext_down]; simpa [due2] using hd)
theorem flush_bad {d : DS} {f : Int} (h : flush1 f d ≠ 0) : (flush2 f d).data = (start2 d).data ∧ (flush2 f d).dur = (start2 d).dur ∧ (flush2 f d).down = (start2 d).down := by
  unfold flush1 at h
  unfold flush2
  split
  · exact ⟨rfl, rfl, rfl⟩
  · rename_i h0
    rw [if_neg h0] at h
    split
    · rename_i hv
      rw [if_pos hv] at h
      split
      · exact ⟨rfl, rfl, rfl⟩
      · rename_i hl; rw [if_neg hl] at h; exact absurd rfl h
    · exact ⟨rfl, rfl, rfl⟩
theorem flush_ok {d : DS} {f : Int} (h : flush1 f d = 0) : vF f = true ∧ (flush2 f d).data = d.data ∧ (flush2 f d).dur = upd d.dur f.toNat (d.data f.toNat).length ∧ (flush2 f d).down = false := by
  unfold flush1 at h
  unfold flush2
  split
  · rename_i h0; rw [if_pos h0] at h; exact absurd h h0
  · rename_i h0
    rw [if_neg h0] at h
    obtain ⟨hd, _, hs⟩ := start1_zero (d := d) (by omega)
    rw [hs]
    split
    · rename_i hv
      rw [if_pos hv] at h
      split
      · rename_i hl; rw [if_pos hl] at h; cases h
      · exact ⟨hv, rfl, rfl, hd⟩
    · rename_i hv; rw [if_neg hv] at h; cases h
theorem Safe.flush_bad {safe : Nat → List UInt8} {d : DS} {f : Int} (h : Safe safe d) (h0 : flush1 f d ≠ 0) : Safe safe (flush2 f d) := h.start.same (Go.Proofs.Ytdapjoapndemkaa.flush_bad h0).1 (Go.Proofs.Ytdapjoapndemkaa.flush_bad h0).2.1
theorem Safe.flush_ok {safe : Nat → List UInt8} {d : DS} {f : Int} (h : Safe safe d) (h0 : flush1 f d = 0) : Safe (upd safe f.toNat (d.data f.toNat)) (flush2 f d) := by
  obtain ⟨_, h1, h2, _⟩ := Go.Proofs.Ytdapjoapndemkaa.flush_ok h0
  intro g hg
  rw [h1, h2]
  unfold upd
  split
  · rename_i e; rw [e, List.take_length]; exact List.prefix_rfl
  · exact h g hg
theorem Fell.flush {d : DS} (h : Fell d) (f : Int) : Fell (flush2 f d) := by
  by_cases h0 : flush1 f d = 0
  · exact Fell.up (Go.Proofs.Ytdapjoapndemkaa.flush_ok h0).2.2.2
  · obtain ⟨h1, h2, h3⟩ := Go.Proofs.Ytdapjoapndemkaa.flush_bad h0
    intro hd g hg
    rw [h1, h2]
    exact h.start (by rw [← h3]; exact hd) g hg
theorem cut_bad {d : DS} {f n : Int} (h : cut1 f n d ≠ 0) : cut2 f n d = start2 d := if_neg h
theorem cut_ok {d : DS} {f n : Int} (h : cut1 f n d = 0) : cut2 f n d = { start2 d with data := upd d.data f.toNat ((d.data f.toNat).take n.toNat), dur := upd d.dur f.toNat (min (d.dur f.toNat) n.toNat) } := if_pos h
theorem prefix_take {α : Type} {a l : List α} (h : a <+: l) (n : Nat) : a.take n <+: l.take n := by
  obtain ⟨r, rfl⟩ := h
  rw [List.take_append]
  exact List.prefix_append _ _
theorem Safe.cut_ok {safe : Nat → List UInt8} {d : DS} {f n : Int} (h : Safe safe d) (h0 : cut1 f n d = 0) : Safe (upd safe f.toNat ((safe f.toNat).take n.toNat)) (cut2 f n d) := by
  obtain ⟨_, hv, _, _⟩ := cut1_zero h0
  rw [Go.Proofs.Ytdapjoapndemkaa.cut_ok h0]
  intro g hg
  show upd safe f.toNat ((safe f.toNat).take n.toNat) g <+: (upd d.data f.toNat ((d.data f.toNat).take n.toNat) g).take (upd d.dur f.toNat (min (d.dur f.toNat) n.toNat) g)
  unfold upd
  split
  · rename_i e
    subst e
    have h1 := prefix_take (h _ hg) n.toNat
    rw [List.take_take] at h1 ⊢
    rw [show min (min (d.dur f.toNat) n.toNat) n.toNat = min n.toNat (d.dur f.toNat) by omega]
    exact h1
  · exact h g hg
theorem upd_self {α : Type} (g : Nat → α) (f : Nat) : upd g f (g f) = g := by funext i; unfold upd; split; rename_i e; rw [e]; rfl
theorem Fell.cut {d : DS} (h : Fell d) (f n : Int) : Fell (cut2 f n d) := by
  by_cases h0 : cut1 f n d = 0
  · obtain ⟨hs, _⟩ := cut1_zero h0
    obtain ⟨hd, _, h2⟩ := start1_zero hs
    rw [Go.Proofs.Ytdapjoapndemkaa.cut_ok h0, h2]
    exact Fell.up hd
  · rw [cut_bad h0]; exact h.start
theorem turn_bad {d : DS} {f g : Int} (h : turn1 f g d ≠ 0) : turn2 f g d = start2 d := if_neg h
theorem turn_ok {d : DS} {f g : Int} (h : turn1 f g d = 0) : turn2 f g d = { start2 d with data := upd (upd d.data f.toNat (d.data g.toNat)) g.toNat [], dur := upd (upd d.dur f.toNat (d.dur g.toNat)) g.toNat 0 } := if_pos h
theorem Safe.turn_ok {safe : Nat → List UInt8} {d : DS} {f g : Int} (h : Safe safe d) (h0 : turn1 f g d = 0) : Safe (upd (upd safe f.toNat (safe g.toNat)) g.toNat []) (turn2 f g d) := by
  obtain ⟨_, _, hw, _, _⟩ := turn1_zero h0
  rw [vF_iff] at hw
  rw [Go.Proofs.Ytdapjoapndemkaa.turn_ok h0]
  intro i hi
  show upd (upd safe f.toNat (safe g.toNat)) g.toNat [] i <+: (upd (upd d.data f.toNat (d.data g.toNat)) g.toNat [] i).take (upd (upd d.dur f.toNat (d.dur g.toNat)) g.toNat 0 i)
  unfold upd
  split
  · exact List.nil_prefix
  · split
    · exact h _ (by omega)
    · exact h i hi
theorem Fell.turn {d : DS} (h : Fell d) (f g : Int) : Fell (turn2 f g d) := by
  by_cases h0 : turn1 f g d = 0
  · obtain ⟨hs, _⟩ := turn1_zero h0
    obtain ⟨hd, _, h2⟩ := start1_zero hs
    rw [Go.Proofs.Ytdapjoapndemkaa.turn_ok h0, h2]
    exact Fell.up hd
  · rw [turn_bad h0]; exact h.start
theorem Safe.crash {safe : Nat → List UInt8} {d : DS} (h : Safe safe d) (l : List Int) : Safe safe (dCrash l d) := by
  unfold dCrash
  split
  · exact h
  · exact h.fall _
theorem Fell.crash {d : DS} (h : Fell d) (l : List Int) : Fell (dCrash l d) := by
  unfold dCrash
  split
  · exact h
  · exact Fell.fall _ _
theorem Fell.do {d : DS} (h : Fell d) (a : AC) : Fell (do2 a d) := by
  unfold do2
  split
  · exact h.app _ _
  split
  · exact h.flush _
  split
  · exact h.cut _ _
  split
  · exact h.turn _ _
  split
  · exact h.crash _
  split
  · exact fun hd f hf => h hd f hf
  split
  · exact Fell.up rfl
  split
  · exact fun hd f hf => h hd f hf
  exact h
/-- what the law makes of safe after an act -/
def nextSafe (a : AC) (d : DS) (safe : Nat → List UInt8) : Nat → List UInt8 :=
  if a.op % 11 = 2 ∧ do1 a d = 0 then upd safe a.f.toNat (d.data a.f.toNat)
  else if a.op % 11 = 3 ∧ do1 a d = 0 then upd safe a.f.toNat ((safe a.f.toNat).take a.n.toNat)
  else if a.op % 11 = 4 ∧ do1 a d = 0 then upd (upd safe a.f.toNat (safe a.g.toNat)) a.g.toNat [] else safe
theorem Safe.do {safe : Nat → List UInt8} {d : DS} (h : Safe safe d) (ho : Ok d) (a : AC) : Safe (nextSafe a d safe) (do2 a d) := by
  rcases (by omega : a.op % 11 = 0 ∨ a.op % 11 = 1 ∨ a.op % 11 = 2 ∨ a.op % 11 = 3 ∨ a.op % 11 = 4 ∨ a.op % 11 = 5 ∨ a.op % 11 = 6 ∨ a.op % 11 = 7 ∨ a.op % 11 = 8 ∨ a.op % 11 = 9 ∨ a.op % 11 = 10) with hk | hk | hk | hk | hk | hk | hk | hk | hk | hk | hk
  · simpa [nextSafe, do2, hk] using h.app ho a.f a.s
  · simpa [nextSafe, do2, hk] using h.app ho a.f a.s
  · have e : do1 a d = flush1 a.f d := by simp [do1, hk]
    by_cases h0 : flush1 a.f d = 0
    · simpa [nextSafe, do2, hk, e, h0] using h.flush_ok h0
    · simpa [nextSafe, do2, hk, e, h0] using h.flush_bad h0
  · have e : do1 a d = cut1 a.f a.n d := by simp [do1, hk]
    by_cases h0 : cut1 a.f a.n d = 0
    · simpa [nextSafe, do2, hk, e, h0] using h.cut_ok h0
    · simpa [nextSafe, do2, hk, e, h0, cut_bad h0] using h.start
  · have e : do1 a d = turn1 a.f a.g d := by simp [do1, hk]
    by_cases h0 : turn1 a.f a.g d = 0
    · simpa [nextSafe, do2, hk, e, h0] using h.turn_ok h0
    · simpa [nextSafe, do2, hk, e, h0, turn_bad h0] using h.start
  · simpa [nextSafe, do2, hk] using h.crash a.keep
  · simpa [nextSafe, do2, hk] using h.same (e := dLose a.n d) rfl rfl
  · simpa [nextSafe, do2, hk] using h.same (e := dStart d) rfl rfl
  · simpa [nextSafe, do2, hk] using h
  · simpa [nextSafe, do2, hk] using h
  · simpa [nextSafe, do2, hk] using h.same (e := dArm a.n a.keep d) rfl rfl
/-- after a fall: start, look at all files, crash again -/
theorem Safe.again {d : DS} (hf : Fell d) (hd : d.down = true) : Safe d.data (dCrash [] (dStart d)) ∧ Fell (dCrash [] (dStart d)) := by
  rw [crash_calm rfl]
  refine ⟨fun f hf8 => ?_, Fell.fall _ _⟩
  show d.data f <+: (fallF (keptF []) (dStart d) f).take (fallF (keptF []) (dStart d) f).length
  rw [List.take_length]
  unfold fallF
  show d.data f <+: (d.data f).take (d.dur f + _)
  rw [hf hd f hf8, List.take_of_length_le (Nat.le_add_right _ _)]
  exact List.prefix_rfl
theorem Safe.new : Safe (fun _ => []) dNew := fun f _ => List.nil_prefix
end Go.Proofs.Ytdapjoapndemkaa
