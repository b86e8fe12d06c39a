/- Chapter 05 (disk): plain laws: a machine that is up and has no crash scheduled. -/
import Derived.Test.YtdapjoapndemkaaDiskM
set_option linter.unusedVariables false
namespace Go.Proofs.Ytdapjoapndemkaa
structure Calm (d : DS) : Prop where
  down : d.down = false
  armed : d.armed = 0
section
variable {d : DS}
theorem due_calm (h : Calm d) : due1 d = false ∧ due2 d = d := by
  refine ⟨by unfold due1; rw [h.armed]; rfl, ?_⟩
  have := h.armed
  cases d; simp_all [due2]
theorem start_calm (h : Calm d) : start1 d = 0 ∧ start2 d = d := by
  have := due_calm h
  unfold start1 start2
  rw [h.down, this.1, this.2]
  exact ⟨rfl, rfl⟩
theorem app_calm (h : Calm d) {f : Int} {s : List UInt8} (hv : vF f = true) (hl : (d.data f.toNat).length + s.length ≤ 16777216) :
    app1 f s d = 0 ∧ app2 f s d = { d with data := upd d.data f.toNat (d.data f.toNat ++ s) } := by
  have hd := due_calm h
  have e : ext1 f s d = 0 := by unfold ext1; rw [hv, if_pos rfl, if_neg (by omega)]
  refine ⟨?_, ?_⟩
  · unfold app1; rw [h.down, hd.1]; exact e
  · unfold app2
    rw [if_neg (by rw [h.down]; simp), if_neg (by rw [hd.1]; simp), hd.2]
    unfold ext2; rw [e]; rfl
theorem flush_calm (h : Calm d) {f : Int} (hv : vF f = true) (hl : d.lost = 0) : flush1 f d = 0 ∧ flush2 f d = { d with dur := upd d.dur f.toNat (d.data f.toNat).length } := by
  have hs := start_calm h
  unfold flush1 flush2
  rw [hs.1, hs.2, hv]
  simp [hl]
theorem flush_lost (h : Calm d) {f : Int} (hv : vF f = true) (hl : 0 < d.lost) : flush1 f d = 13 ∧ flush2 f d = { d with lost := d.lost - 1 } := by
  have hs := start_calm h
  unfold flush1 flush2
  rw [hs.1, hs.2, hv]
  simp [hl]
theorem turn_calm (h : Calm d) {f g : Int} (hf : vF f = true) (hg : vF g = true) (hne : f ≠ g) (hl : (d.data g.toNat).length ≤ d.dur g.toNat) :
    turn1 f g d = 0 ∧ turn2 f g d = { d with data := upd (upd d.data f.toNat (d.data g.toNat)) g.toNat [], dur := upd (upd d.dur f.toNat (d.dur g.toNat)) g.toNat 0 } := by
  have hs := start_calm h
  have e : turn1 f g d = 0 := by unfold turn1; rw [hs.1, hf, hg]; simp [hne]; omega
  refine ⟨e, ?_⟩
  unfold turn2; rw [e, hs.2]; rfl
theorem turn_early (h : Calm d) {f g : Int} (hf : vF f = true) (hg : vF g = true) (hne : f ≠ g) (hl : d.dur g.toNat < (d.data g.toNat).length) : turn1 f g d = 16 ∧ turn2 f g d = d := by
  have hs := start_calm h
  have e : turn1 f g d = 16 := by unfold turn1; rw [hs.1, hf, hg]; simp [hne, hl]
  refine ⟨e, ?_⟩
  unfold turn2; rw [e, hs.2]; rfl
theorem crash_calm (h : d.down = false) (l : List Int) : dCrash l d = dFall (keptF l) d := by unfold dCrash; rw [h]; rfl
theorem read_up (h : d.down = false) {f : Int} (hv : vF f = true) : read1 f d = 0 ∧ read2 f d = d.data f.toNat := by
  have e : read1 f d = 0 := by unfold read1; rw [h, hv]; rfl
  exact ⟨e, by unfold read2; rw [e]; rfl⟩
theorem fallF_dur (keep : Nat → Nat) {f : Nat} (h : d.dur f = (d.data f).length) : fallF keep d f = d.data f := by unfold fallF; rw [h, List.take_of_length_le (by omega)]
end

/-- the disk of the law DiskTurns ahead of Turn -/
def tA (e : List UInt8) : DS := { dNew with data := upd dNew.data 3 e, dur := upd dNew.dur 3 e.length }
def tB (e n : List UInt8) : DS := { tA e with data := upd (tA e).data 4 n }
def tC (e n : List UInt8) : DS := { tB e n with dur := upd (tA e).dur 4 n.length }
theorem t_app3 (e : List UInt8) (h : e.length ≤ 50000) : app1 3 e dNew = 0 ∧ app2 3 e dNew = { dNew with data := upd dNew.data 3 e } := by
  have := app_calm (d := dNew) ⟨rfl, rfl⟩ (f := 3) (s := e) rfl (by show 0 + e.length ≤ _; omega)
  exact this
theorem t_flush3 (e : List UInt8) (h : e.length ≤ 50000) : flush1 3 (app2 3 e dNew) = 0 ∧ flush2 3 (app2 3 e dNew) = tA e := by
  rw [(t_app3 e h).2]
  exact flush_calm (d := { dNew with data := upd dNew.data 3 e }) ⟨rfl, rfl⟩ (f := 3) rfl rfl
theorem t_app4 (e n : List UInt8) (h : n.length ≤ 50000) : app1 4 n (tA e) = 0 ∧ app2 4 n (tA e) = tB e n :=
  app_calm (d := tA e) ⟨rfl, rfl⟩ (f := 4) (s := n) rfl (by show 0 + n.length ≤ _; omega)
theorem t_flush4 (e n : List UInt8) : flush2 4 (tB e n) = tC e n := (flush_calm (d := tB e n) ⟨rfl, rfl⟩ (f := 4) rfl rfl).2
/-- what the law asks behind the crash -/
theorem t_end0 (e : List UInt8) (l : List Int) : turn1 3 4 (tA e) = 0 ∧ read1 3 (dStart (dCrash l (turn2 3 4 (tA e)))) = 0 ∧ read2 3 (dStart (dCrash l (turn2 3 4 (tA e)))) = [] := by
  have h := turn_calm (d := tA e) ⟨rfl, rfl⟩ (f := 3) (g := 4) rfl rfl (by decide) (Nat.le_refl _)
  refine ⟨h.1, (read_up rfl rfl).1, ?_⟩
  rw [(read_up (d := dStart (dCrash l (turn2 3 4 (tA e)))) rfl (f := 3) rfl).2, h.2]
  show List.take _ [] = []
  simp
theorem t_endC (e n : List UInt8) (l : List Int) : turn1 3 4 (tC e n) = 0 ∧ read1 3 (dStart (dCrash l (turn2 3 4 (tC e n)))) = 0 ∧ read2 3 (dStart (dCrash l (turn2 3 4 (tC e n)))) = n ∧ size1 4 (dStart (dCrash l (turn2 3 4 (tC e n)))) = 0 := by
  have h := turn_calm (d := tC e n) ⟨rfl, rfl⟩ (f := 3) (g := 4) rfl rfl (by decide) (Nat.le_refl _)
  refine ⟨h.1, (read_up rfl rfl).1, ?_, ?_⟩
  · rw [(read_up (d := dStart (dCrash l (turn2 3 4 (tC e n)))) rfl (f := 3) rfl).2, h.2]
    exact fallF_dur (keptF l) (d := { tC e n with data := upd (upd (tC e n).data 3 n) 4 [], dur := upd (upd (tC e n).dur 3 n.length) 4 0 }) (f := 3) rfl
  · rw [h.2]
    show (fallF _ _ 4).length = 0
    rw [fallF_len]
    show min _ ([] : List UInt8).length = 0
    simp
theorem t_endE (e : List UInt8) (l : List Int) : turn1 3 4 (tB e []) = 0 ∧ read1 3 (dStart (dCrash l (turn2 3 4 (tB e [])))) = 0 ∧ read2 3 (dStart (dCrash l (turn2 3 4 (tB e [])))) = [] ∧ size1 4 (dStart (dCrash l (turn2 3 4 (tB e [])))) = 0 := by
  have h := turn_calm (d := tB e []) ⟨rfl, rfl⟩ (f := 3) (g := 4) rfl rfl (by decide) (Nat.le_refl _)
  refine ⟨h.1, (read_up rfl rfl).1, ?_, ?_⟩
  · rw [(read_up (d := dStart (dCrash l (turn2 3 4 (tB e [])))) rfl (f := 3) rfl).2, h.2]
    show List.take _ [] = []
    simp
  · rw [h.2]
    show (fallF _ _ 4).length = 0
    rw [fallF_len]
    show min _ ([] : List UInt8).length = 0
    simp
theorem t_endB (e n : List UInt8) (l : List Int) (hn : n ≠ []) : turn1 3 4 (tB e n) = 16 ∧ read1 3 (dStart (dCrash l (turn2 3 4 (tB e n)))) = 0 ∧ read2 3 (dStart (dCrash l (turn2 3 4 (tB e n)))) = e ∧ size1 4 (dStart (dCrash l (turn2 3 4 (tB e n)))) ≤ n.length := by
  have h := turn_early (d := tB e n) ⟨rfl, rfl⟩ (f := 3) (g := 4) rfl rfl (by decide) (List.length_pos_iff.2 hn)
  refine ⟨h.1, (read_up rfl rfl).1, ?_, ?_⟩
  · rw [(read_up (d := dStart (dCrash l (turn2 3 4 (tB e n)))) rfl (f := 3) rfl).2, h.2]
    exact fallF_dur (keptF l) (d := tB e n) (f := 3) rfl
  · rw [h.2]
    show (fallF _ _ 4).length ≤ _
    rw [fallF_len]
    exact Nat.min_le_right _ _
end Go.Proofs.Ytdapjoapndemkaa
