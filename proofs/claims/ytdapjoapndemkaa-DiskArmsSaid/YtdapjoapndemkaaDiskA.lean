/- Chapter 05 (disk): plain laws of the law DiskArms. -/
import Derived.Test.YtdapjoapndemkaaDiskT
set_option linter.unusedVariables false
namespace Go.Proofs.Ytdapjoapndemkaa
theorem ds_eq {d e : DS} (h1 : d.data = e.data) (h2 : d.dur = e.dur) (h3 : d.down = e.down) (h4 : d.lost = e.lost) (h5 : d.armed = e.armed) (h6 : d.keep = e.keep) : d = e := by
  cases d; cases e; simp_all
def armD (safe rest : List UInt8) (a : Nat) (kp : Nat → Nat) : DS := { dNew with data := upd dNew.data 0 (safe ++ rest), dur := upd dNew.dur 0 safe.length, armed := a, keep := kp }
def downD (safe rest : List UInt8) (kp : Nat → Nat) : DS := dFall kp (armD safe rest 0 kp)
theorem armD_new (n : Int) (l : List Int) : dArm n l dNew = armD [] [] n.toNat (keptF l) := by
  unfold dArm armD
  have e1 : upd dNew.data 0 ([] ++ []) = dNew.data := by funext i; unfold upd; split <;> rfl
  have e2 : upd dNew.dur 0 ([] : List UInt8).length = dNew.dur := by funext i; unfold upd; split <;> rfl
  rw [e1, e2]
theorem arm_data (safe rest s : List UInt8) (a : Nat) (kp : Nat → Nat) : ({ armD safe rest a kp with data := upd (armD safe rest a kp).data 0 ((armD safe rest a kp).data 0 ++ s) } : DS) = armD safe (rest ++ s) a kp := by
  refine ds_eq ?_ rfl rfl rfl rfl rfl
  funext i
  show upd (upd dNew.data 0 (safe ++ rest)) 0 ((safe ++ rest) ++ s) i = upd dNew.data 0 (safe ++ (rest ++ s)) i
  unfold upd
  split
  · simp
  · rfl
theorem arm_ext (safe rest s : List UInt8) (a : Nat) (kp : Nat → Nat) (h : safe.length + rest.length + s.length ≤ 16777216) : ext1 0 s (armD safe rest a kp) = 0 ∧ ext2 0 s (armD safe rest a kp) = armD safe (rest ++ s) a kp := by
  have e : ext1 0 s (armD safe rest a kp) = 0 := by
    unfold ext1
    rw [show vF 0 = true from rfl, if_pos rfl, if_neg]
    show ¬ (16777216 - ((safe ++ rest).length : Int) < s.length)
    rw [List.length_append]; omega
  refine ⟨e, ?_⟩
  unfold ext2
  rw [e]
  exact arm_data safe rest s a kp
theorem arm_due (safe rest : List UInt8) (a : Nat) (kp : Nat → Nat) : due2 (armD safe rest (a + 1) kp) = armD safe rest a kp := rfl
theorem arm_app (safe rest s : List UInt8) (a : Nat) (kp : Nat → Nat) (h : safe.length + rest.length + s.length ≤ 16777216) : app1 0 s (armD safe rest (a + 2) kp) = 0 ∧ app2 0 s (armD safe rest (a + 2) kp) = armD safe (rest ++ s) (a + 1) kp := by
  have hx := arm_ext safe rest s (a + 1) kp h
  have hu : due1 (armD safe rest (a + 2) kp) = false := by unfold due1; simp [armD]
  have hxe : ext1 0 s (armD safe rest (a + 2) kp) = 0 := (arm_ext safe rest s (a + 2) kp h).1
  unfold app1 app2
  rw [hu, arm_due safe rest (a + 1) kp]
  exact ⟨hxe, hx.2⟩
theorem arm_app_down (safe rest s : List UInt8) (kp : Nat → Nat) (h : safe.length + rest.length + s.length ≤ 16777216) : app1 0 s (armD safe rest 1 kp) = 12 ∧ app2 0 s (armD safe rest 1 kp) = downD safe (rest ++ s) kp := by
  have hx := arm_ext safe rest s 0 kp h
  have hu : due1 (armD safe rest 1 kp) = true := rfl
  unfold app1 app2
  rw [hu, arm_due safe rest 0 kp, hx.2]
  exact ⟨rfl, rfl⟩
theorem arm_flush (safe rest : List UInt8) (a : Nat) (kp : Nat → Nat) : flush1 0 (armD safe rest (a + 2) kp) = 0 ∧ flush2 0 (armD safe rest (a + 2) kp) = armD (safe ++ rest) [] (a + 1) kp := by
  have hu : due1 (armD safe rest (a + 2) kp) = false := by unfold due1; simp [armD]
  have hs1 : start1 (armD safe rest (a + 2) kp) = 0 := by unfold start1; rw [hu]; rfl
  have hs2 : start2 (armD safe rest (a + 2) kp) = armD safe rest (a + 1) kp := by unfold start2; rw [hu]; rfl
  unfold flush1 flush2
  rw [hs1, hs2]
  refine ⟨rfl, ?_⟩
  show ({ armD safe rest (a + 1) kp with dur := upd (upd dNew.dur 0 safe.length) 0 (safe ++ rest).length } : DS) = _
  refine ds_eq ?_ ?_ rfl rfl rfl rfl
  · show upd dNew.data 0 (safe ++ rest) = upd dNew.data 0 ((safe ++ rest) ++ [])
    rw [List.append_nil]
  · show upd (upd dNew.dur 0 safe.length) 0 (safe ++ rest).length = upd dNew.dur 0 (safe ++ rest).length
    funext i; unfold upd; split <;> rfl
theorem arm_flush_down (safe rest : List UInt8) (kp : Nat → Nat) : flush1 0 (armD safe rest 1 kp) = 12 ∧ flush2 0 (armD safe rest 1 kp) = downD safe rest kp := by
  have hu : due1 (armD safe rest 1 kp) = true := rfl
  have hs1 : start1 (armD safe rest 1 kp) = 12 := by unfold start1; rw [hu]; rfl
  have hs2 : start2 (armD safe rest 1 kp) = downD safe rest kp := by unfold start2; rw [hu]; rfl
  unfold flush1 flush2
  rw [hs1, hs2]
  exact ⟨rfl, rfl⟩
theorem arm_read (safe rest : List UInt8) (a : Nat) (kp : Nat → Nat) : read1 0 (armD safe rest a kp) = 0 ∧ read2 0 (armD safe rest a kp) = safe ++ rest := read_up rfl rfl
theorem down_read (safe rest : List UInt8) (kp : Nat → Nat) : read1 0 (dStart (downD safe rest kp)) = 0 ∧ read2 0 (dStart (downD safe rest kp)) = safe ++ rest.take (min (kp 0) rest.length) := by
  refine ⟨(read_up rfl rfl).1, ?_⟩
  rw [(read_up (d := dStart (downD safe rest kp)) rfl (f := 0) rfl).2]
  show List.take (safe.length + min (kp 0) ((safe ++ rest).length - safe.length)) (safe ++ rest) = _
  have e : (safe ++ rest).length - safe.length = rest.length := by rw [List.length_append]; omega
  rw [e, List.take_append, List.take_of_length_le (by omega)]
  congr 2; omega
/-- the bytes of the first k strings -/
def tot (l : List (List UInt8)) (k : Nat) : Nat := ((l.take k).map List.length).sum
theorem tot_succ (l : List (List UInt8)) (k : Nat) (s : List UInt8) (h : l[k]? = some s) : tot l (k + 1) = tot l k + s.length := by
  unfold tot; rw [List.take_add_one, h]; simp
theorem tot_mono (l : List (List UInt8)) (k : Nat) : tot l k ≤ tot l l.length := by
  have e : tot l l.length = tot l k + ((l.drop k).map List.length).sum := by
    unfold tot
    rw [List.take_length, ← List.sum_append_nat, ← List.map_append, List.take_append_drop]
  omega
theorem tot_le (l : List (List UInt8)) (h : ∀ x ∈ l, x.length ≤ 140737488351232) : ∀ k, tot l k ≤ l.length * 140737488351232 := by
  intro k
  refine Nat.le_trans (tot_mono l k) ?_
  unfold tot
  rw [List.take_length]
  induction l with
  | nil => simp
  | cons x l ih =>
    have h1 := h x (by simp)
    have h2 := ih (fun y hy => h y (List.mem_cons_of_mem _ hy))
    simp only [List.map_cons, List.sum_cons, List.length_cons, Nat.add_mul, Nat.one_mul]
    omega
end Go.Proofs.Ytdapjoapndemkaa
