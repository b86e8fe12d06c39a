/- Chapter 05 (disk): the law's acts: pick, few, do. -/
import Derived.Test.YtdapjoapndemkaaDiskL0
set_option linter.unusedVariables false
namespace Go.Proofs.Ytdapjoapndemkaa
open Go.RowKit
open Go.Lib (hid)

structure AC where
  op : Int
  f : Int
  g : Int
  n : Int
  s : List UInt8
  keep : List Int
abbrev aga (a : AC) (vk : Value) : Value := .agg #[iv a.op, iv a.f, iv a.g, iv a.n, sv a.s, vk]
def do0 (a : AC) (d : DS) : List UInt8 := if a.op % 11 = 8 then read2 a.f d else []
def do1 (a : AC) (d : DS) : Int := if a.op % 11 ≤ 1 then app1 a.f a.s d else if a.op % 11 = 2 then flush1 a.f d else if a.op % 11 = 3 then cut1 a.f a.n d else if a.op % 11 = 4 then turn1 a.f a.g d else if a.op % 11 = 8 then read1 a.f d else 0
def do2 (a : AC) (d : DS) : DS := if a.op % 11 ≤ 1 then app2 a.f a.s d else if a.op % 11 = 2 then flush2 a.f d else if a.op % 11 = 3 then cut2 a.f a.n d else if a.op % 11 = 4 then turn2 a.f a.g d else if a.op % 11 = 5 then dCrash a.keep d else if a.op % 11 = 6 then dLose a.n d
  else if a.op % 11 = 7 then dStart d else if a.op % 11 = 10 then dArm a.n a.keep d else d
structure ActOk (a : AC) : Prop where
  op : -9223372036854775808 ≤ a.op ∧ a.op ≤ 9223372036854775807
  f : -9223372036854775808 ≤ a.f ∧ a.f ≤ 9223372036854775807
  g : -9223372036854775808 ≤ a.g ∧ a.g ≤ 9223372036854775807
  n : -9223372036854775808 ≤ a.n ∧ a.n ≤ 9223372036854775807
  s : a.s.length ≤ 1048576
  kl : a.keep.length ≤ 1048576
  keep : ∀ x ∈ a.keep, x ≤ 9223372036854775807

theorem tmod11 (K : Int) : (0 ≤ K ∧ K.tmod 11 = K % 11) ∨ (K < 0 ∧ K % 11 = 0 ∧ K.tmod 11 = 0) ∨ (K < 0 ∧ K.tmod 11 = K % 11 - 11 ∧ 1 ≤ K % 11) := by
  rcases Int.lt_or_le K 0 with h | h
  · obtain ⟨m, rfl⟩ : ∃ m : Int, K = -m := ⟨-K, by omega⟩
    rw [Int.neg_tmod, Int.tmod_eq_emod_of_nonneg (by omega)]
    omega
  · exact Or.inl ⟨h, Int.tmod_eq_emod_of_nonneg h⟩
set_option maxRecDepth 100000 in
theorem pick_any (K : Int) (w : World) (hK : -9223372036854775808 ≤ K ∧ K ≤ 9223372036854775807) :
    Calls Try.prog 21 #[iv K] w fun e w' => e = .returned (iv (K % 11)) ∧ w = w' := by
  obtain ⟨hK1, hK2⟩ := hK
  rcases tmod11 K with ⟨h0, ht⟩ | ⟨h0, hz, ht⟩ | ⟨h0, ht, h1⟩
  · have hr : 0 ≤ K % 11 ∧ K % 11 ≤ 10 := by omega
    obtain ⟨hr1, hr2⟩ := hr
    generalize hm : K % 11 = m at *
    replace hm := hid hm
    go_enter Try.func21, Try.ntmps21
    go_wp2
    go_ret
    exact ⟨rfl, rfl⟩
  · rw [hz]
    go_enter Try.func21, Try.ntmps21
    go_wp2
    go_ret
    exact ⟨rfl, rfl⟩
  · have hr : K % 11 ≤ 10 := by omega
    generalize K % 11 = m at *
    go_enter Try.func21, Try.ntmps21
    go_wp2
    go_ret
    exact ⟨ret_int (by simp), rfl⟩

theorem cells6 {w : World} {c : Nat} {a0 a1 a2 a3 a4 a5 : Value} {T : TypeId} (h : w.heap[c]? = some (.cells #[a0, a1, a2, a3, a4, a5] T (0, 0))) :
    w.cell? ⟨c, 0, none⟩ = some a0 ∧ w.cell? ⟨c, 1, none⟩ = some a1 ∧ w.cell? ⟨c, 2, none⟩ = some a2 ∧ w.cell? ⟨c, 3, none⟩ = some a3 ∧ w.cell? ⟨c, 4, none⟩ = some a4 ∧ w.cell? ⟨c, 5, none⟩ = some a5 :=
  ⟨by rw [cell_of h]; rfl, by rw [cell_of h]; rfl, by rw [cell_of h]; rfl, by rw [cell_of h]; rfl, by rw [cell_of h]; rfl, by rw [cell_of h]; rfl⟩
theorem row_fr {B : Nat} {w w' : World} {v : Value} {n : Nat} {cs : List Value} (h : Row B w 1 v n cs) (hB : B ≤ w.heap.size) (hf : Fr (from_ B) w w') : Row B w' 1 v n cs :=
  h.kept fun k hk => hf.block k (by omega) (fun e => by have : B ≤ k := e; omega)

set_option maxHeartbeats 8000000 in
set_option maxRecDepth 100000 in
theorem do_any (B b : Nat) (d : DS) (a : AC) (vk : Value) (w : World) (h : DkD (from_ B) b d w) (hB : B ≤ w.heap.size) (ha : ActOk a) (hv : Row B w 1 vk a.keep.length (a.keep.map iv)) :
    Calls Try.prog 20 #[pt b, aga a vk] w fun e w' => e = .returned (.tuple #[sv (do0 a d), iv (do1 a d)]) ∧ DkD (from_ B) b (do2 a d) w' ∧ Below B w w' := by
  have hv' := hv
  obtain ⟨ka, kc, kb, ko, rfl, -, -, -⟩ := hv'
  generalize hkn : a.keep.length = kn at hv ⊢
  obtain ⟨hop, hf, hg, hn, hs, hkl, hkx⟩ := ha
  have hA := heap_alloc_new' w (.cells #[iv a.op, iv a.f, iv a.g, iv a.n, sv a.s, .slice ka kn kc] 39)
  have h1 := dk_alloc h (.cells #[iv a.op, iv a.f, iv a.g, iv a.n, sv a.s, .slice ka kn kc] 39)
  have hB1 : Below B w (w.alloc (.cells #[iv a.op, iv a.f, iv a.g, iv a.n, sv a.s, .slice ka kn kc] 39)) := (Below.refl _ _).alloc hB _
  have hv1 := hid (hv.below hB1 (Nat.le_refl _))
  have hsz : B ≤ (w.alloc (.cells #[iv a.op, iv a.f, iv a.g, iv a.n, sv a.s, .slice ka kn kc] 39)).heap.size := by simp; omega
  obtain ⟨c0, c1, c2, c3, c4, c5⟩ := cells6 hA
  have hp := hid (fun w' => pick_any a.op w' hop)
  replace hkx := hid hkx
  clear hA hv
  rcases (by omega : a.op % 11 = 0 ∨ a.op % 11 = 1 ∨ a.op % 11 = 2 ∨ a.op % 11 = 3 ∨ a.op % 11 = 4 ∨ a.op % 11 = 5 ∨ a.op % 11 = 6 ∨ a.op % 11 = 7 ∨ a.op % 11 = 8 ∨ a.op % 11 = 9 ∨ a.op % 11 = 10) with hk | hk | hk | hk | hk | hk | hk | hk | hk | hk | hk
  · have e0 : do0 a d = [] := by simp [do0, hk]
    have e1 : do1 a d = app1 a.f a.s d := by simp [do1, hk]
    have e2 : do2 a d = app2 a.f a.s d := by simp [do2, hk]
    rw [e0, e1, e2]
    clear e0 e1 e2
    go_enter Try.func20, Try.ntmps20
    go_wp2_with fail
    refine (hp.out _).mono ?_
    rintro e w1 ⟨rfl, rfl⟩
    rw [hk]
    go_wp2_with fail
    refine (app_s B b d a.f a.s _ h1 hsz (by omega)).mono ?_
    rintro e w2 ⟨rfl, h2, hB2⟩
    go_wp2
    go_ret2
    exact ⟨rfl, h2, hB1.trans hB2⟩
  · have e0 : do0 a d = [] := by simp [do0, hk]
    have e1 : do1 a d = app1 a.f a.s d := by simp [do1, hk]
    have e2 : do2 a d = app2 a.f a.s d := by simp [do2, hk]
    rw [e0, e1, e2]
    clear e0 e1 e2
    go_enter Try.func20, Try.ntmps20
    go_wp2_with fail
    refine (hp.out _).mono ?_
    rintro e w1 ⟨rfl, rfl⟩
    rw [hk]
    go_wp2_with fail
    refine (app_s B b d a.f a.s _ h1 hsz (by omega)).mono ?_
    rintro e w2 ⟨rfl, h2, hB2⟩
    go_wp2
    go_ret2
    exact ⟨rfl, h2, hB1.trans hB2⟩
  · have e0 : do0 a d = [] := by simp [do0, hk]
    have e1 : do1 a d = flush1 a.f d := by simp [do1, hk]
    have e2 : do2 a d = flush2 a.f d := by simp [do2, hk]
    rw [e0, e1, e2]
    clear e0 e1 e2
    go_enter Try.func20, Try.ntmps20
    go_wp2_with fail
    refine (hp.out _).mono ?_
    rintro e w1 ⟨rfl, rfl⟩
    rw [hk]
    go_wp2_with fail
    refine (flush_s B b d a.f _ h1 hsz).mono ?_
    rintro e w2 ⟨rfl, h2, hB2⟩
    go_wp2
    go_ret2
    exact ⟨rfl, h2, hB1.trans hB2⟩
  · have e0 : do0 a d = [] := by simp [do0, hk]
    have e1 : do1 a d = cut1 a.f a.n d := by simp [do1, hk]
    have e2 : do2 a d = cut2 a.f a.n d := by simp [do2, hk]
    rw [e0, e1, e2]
    clear e0 e1 e2
    go_enter Try.func20, Try.ntmps20
    go_wp2_with fail
    refine (hp.out _).mono ?_
    rintro e w1 ⟨rfl, rfl⟩
    rw [hk]
    go_wp2_with fail
    refine (cut_s B b d a.f a.n _ h1 hsz).mono ?_
    rintro e w2 ⟨rfl, h2, hB2⟩
    go_wp2
    go_ret2
    exact ⟨rfl, h2, hB1.trans hB2⟩
  · have e0 : do0 a d = [] := by simp [do0, hk]
    have e1 : do1 a d = turn1 a.f a.g d := by simp [do1, hk]
    have e2 : do2 a d = turn2 a.f a.g d := by simp [do2, hk]
    rw [e0, e1, e2]
    clear e0 e1 e2
    go_enter Try.func20, Try.ntmps20
    go_wp2_with fail
    refine (hp.out _).mono ?_
    rintro e w1 ⟨rfl, rfl⟩
    rw [hk]
    go_wp2_with fail
    refine (turn_s B b d a.f a.g _ h1 hsz).mono ?_
    rintro e w2 ⟨rfl, h2, hB2⟩
    go_wp2
    go_ret2
    exact ⟨rfl, h2, hB1.trans hB2⟩
  · have e0 : do0 a d = [] := by simp [do0, hk]
    have e1 : do1 a d = 0 := by simp [do1, hk]
    have e2 : do2 a d = dCrash a.keep d := by simp [do2, hk]
    rw [e0, e1, e2]
    clear e0 e1 e2
    go_enter Try.func20, Try.ntmps20
    go_wp2_with fail
    refine (hp.out _).mono ?_
    rintro e w1 ⟨rfl, rfl⟩
    rw [hk]
    go_wp2_with fail
    refine (crash_s B b d a.keep _ _ h1 hsz (by rw [hkn]; exact hv1.out.mono hsz) (by omega) hkx.out).mono ?_
    rintro e w2 ⟨rfl, h2, hB2⟩
    go_wp2
    go_ret2
    exact ⟨rfl, h2, hB1.trans hB2⟩
  · have e0 : do0 a d = [] := by simp [do0, hk]
    have e1 : do1 a d = 0 := by simp [do1, hk]
    have e2 : do2 a d = dLose a.n d := by simp [do2, hk]
    rw [e0, e1, e2]
    clear e0 e1 e2
    go_enter Try.func20, Try.ntmps20
    go_wp2_with fail
    refine (hp.out _).mono ?_
    rintro e w1 ⟨rfl, rfl⟩
    rw [hk]
    go_wp2_with fail
    refine (lose_s B b d a.n _ h1 hsz hn.2).mono ?_
    rintro e w2 ⟨rfl, h2, hB2⟩
    go_wp2
    go_ret2
    exact ⟨rfl, h2, hB1.trans hB2⟩
  · have e0 : do0 a d = [] := by simp [do0, hk]
    have e1 : do1 a d = 0 := by simp [do1, hk]
    have e2 : do2 a d = dStart d := by simp [do2, hk]
    rw [e0, e1, e2]
    clear e0 e1 e2
    go_enter Try.func20, Try.ntmps20
    go_wp2_with fail
    refine (hp.out _).mono ?_
    rintro e w1 ⟨rfl, rfl⟩
    rw [hk]
    go_wp2_with fail
    refine (start_s B b d _ h1 hsz).mono ?_
    rintro e w2 ⟨rfl, h2, hB2⟩
    go_wp2
    go_ret2
    exact ⟨rfl, h2, hB1.trans hB2⟩
  · have e0 : do0 a d = read2 a.f d := by simp [do0, hk]
    have e1 : do1 a d = read1 a.f d := by simp [do1, hk]
    have e2 : do2 a d = d := by simp [do2, hk]
    rw [e0, e1, e2]
    clear e0 e1 e2
    go_enter Try.func20, Try.ntmps20
    go_wp2_with fail
    refine (hp.out _).mono ?_
    rintro e w1 ⟨rfl, rfl⟩
    rw [hk]
    go_wp2_with fail
    refine (read_any (from_ B) b d a.f _ h1).mono ?_
    rintro e w2 ⟨rfl, rfl⟩
    go_wp2
    go_ret2
    exact ⟨rfl, h1, hB1⟩
  · have e0 : do0 a d = [] := by simp [do0, hk]
    have e1 : do1 a d = 0 := by simp [do1, hk]
    have e2 : do2 a d = d := by simp [do2, hk]
    rw [e0, e1, e2]
    clear e0 e1 e2
    go_enter Try.func20, Try.ntmps20
    go_wp2_with fail
    refine (hp.out _).mono ?_
    rintro e w1 ⟨rfl, rfl⟩
    rw [hk]
    go_wp2
    go_ret2
    exact ⟨rfl, h1, hB1⟩
  · have e0 : do0 a d = [] := by simp [do0, hk]
    have e1 : do1 a d = 0 := by simp [do1, hk]
    have e2 : do2 a d = dArm a.n a.keep d := by simp [do2, hk]
    rw [e0, e1, e2]
    clear e0 e1 e2
    go_enter Try.func20, Try.ntmps20
    go_wp2_with fail
    refine (hp.out _).mono ?_
    rintro e w1 ⟨rfl, rfl⟩
    rw [hk]
    go_wp2_with fail
    refine (arm_s B b d a.n a.keep _ _ h1 hsz hn.2 (fun w9 hf9 => by rw [hkn]; exact (row_fr hv1.out hsz hf9).mono (Nat.le_trans hsz hf9.size)) (by omega) hkx.out).mono ?_
    rintro e w2 ⟨rfl, h2, hB2⟩
    go_wp2
    go_ret2
    exact ⟨rfl, h2, hB1.trans hB2⟩
end Go.Proofs.Ytdapjoapndemkaa
