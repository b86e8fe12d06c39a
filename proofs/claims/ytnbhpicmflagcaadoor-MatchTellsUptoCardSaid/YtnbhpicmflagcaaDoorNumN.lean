/- Chapter 01 (num): the plain functions of the package's operations, and their laws. -/
import Derived.Below
set_option linter.unusedVariables false
namespace Go.Proofs.YtnbhpicmflagcaaDoor
def rng (n : Int) : Bool := decide (-9007199254740992 ≤ n) && decide (n ≤ 9007199254740992)
theorem rng_iff (n : Int) : rng n = true ↔ -9007199254740992 ≤ n ∧ n ≤ 9007199254740992 := by simp [rng]
theorem rng_not (n : Int) : rng n = false ↔ n < -9007199254740992 ∨ 9007199254740992 < n := by
  rw [← Bool.not_eq_true, rng_iff]; omega
def chk (ok : Bool) (n : Int) : Int := if ok then n else 0
def add2 (a b : Int) : Bool := rng a && rng b && rng (a + b)
def add1 (a b : Int) : Int := chk (add2 a b) (a + b)
def sub2 (a b : Int) : Bool := rng a && rng b && rng (a - b)
def sub1 (a b : Int) : Int := chk (sub2 a b) (a - b)
def mul2 (a b : Int) : Bool := rng a && rng b && rng (a * b)
def mul1 (a b : Int) : Int := chk (mul2 a b) (a * b)
def div2 (a b : Int) : Bool := rng a && rng b && !decide (b = 0)
def div1 (a b : Int) : Int := chk (div2 a b) (a.tdiv b)
def mod1 (a b : Int) : Int := chk (div2 a b) (a.tmod b)
def neg1 (a : Int) : Int := chk (rng a) (-a)
def absI (n : Int) : Int := if n < 0 then -n else n

theorem add_comm' (a b : Int) : add2 a b = add2 b a ∧ add1 a b = add1 b a := by
  have h : add2 a b = add2 b a := by unfold add2; rw [Int.add_comm, Bool.and_comm (rng a)]
  refine ⟨h, ?_⟩
  unfold add1; rw [h, Int.add_comm]
theorem mul_comm' (a b : Int) : mul2 a b = mul2 b a ∧ mul1 a b = mul1 b a := by
  have h : mul2 a b = mul2 b a := by unfold mul2; rw [Int.mul_comm, Bool.and_comm (rng a)]
  refine ⟨h, ?_⟩
  unfold mul1; rw [h, Int.mul_comm]
theorem neg_sub (a : Int) : rng a = sub2 0 a ∧ neg1 a = sub1 0 a := by
  have h : rng a = sub2 0 a := by
    have h0 : rng 0 = true := by decide
    unfold sub2
    rw [h0, Bool.true_and]
    have e : rng (0 - a) = rng a := by rw [Bool.eq_iff_iff, rng_iff, rng_iff]; omega
    rw [e, Bool.and_self]
  refine ⟨h, ?_⟩
  unfold neg1 sub1; rw [← h]
  have : 0 - a = -a := by omega
  rw [this]
theorem add_true {a b : Int} (h : add2 a b = true) : rng a = true ∧ rng b = true ∧ rng (a + b) = true ∧ add1 a b = a + b := by
  have h' := h
  unfold add2 at h
  simp only [Bool.and_eq_true] at h
  exact ⟨h.1.1, h.1.2, h.2, by unfold add1 chk; rw [h']; rfl⟩
theorem mul_true {a b : Int} (h : mul2 a b = true) : rng a = true ∧ rng b = true ∧ rng (a * b) = true ∧ mul1 a b = a * b := by
  have h' := h
  unfold mul2 at h
  simp only [Bool.and_eq_true] at h
  exact ⟨h.1.1, h.1.2, h.2, by unfold mul1 chk; rw [h']; rfl⟩
theorem sub_back {a b : Int} (h : add2 a b = true) : sub2 (add1 a b) b = true ∧ sub1 (add1 a b) b = a ∧ -9007199254740992 ≤ add1 a b ∧ add1 a b ≤ 9007199254740992 := by
  obtain ⟨h1, h2, h3, h4⟩ := add_true h
  rw [h4]
  have e : a + b - b = a := by omega
  have hs : sub2 (a + b) b = true := by unfold sub2; rw [h3, h2, e, h1]; rfl
  refine ⟨hs, by unfold sub1 chk; rw [hs, e]; rfl, ?_⟩
  rwa [rng_iff] at h3
theorem add_assoc' {a b c : Int} (h : add2 a b = true) (k : add2 b c = true) : add2 (add1 a b) c = add2 a (add1 b c) ∧ add1 (add1 a b) c = add1 a (add1 b c) := by
  obtain ⟨h1, h2, h3, h4⟩ := add_true h
  obtain ⟨k1, k2, k3, k4⟩ := add_true k
  rw [h4, k4]
  have e : add2 (a + b) c = add2 a (b + c) := by unfold add2; rw [h3, k2, h1, k3, Int.add_assoc]
  refine ⟨e, ?_⟩
  unfold add1; rw [e, Int.add_assoc]
theorem mul_add' {a b c : Int} (h : mul2 a b = true) (k : mul2 a c = true) (g : add2 b c = true) : add2 (mul1 a b) (mul1 a c) = mul2 a (add1 b c) ∧ add1 (mul1 a b) (mul1 a c) = mul1 a (add1 b c) := by
  obtain ⟨h1, h2, h3, h4⟩ := mul_true h
  obtain ⟨k1, k2, k3, k4⟩ := mul_true k
  obtain ⟨g1, g2, g3, g4⟩ := add_true g
  rw [h4, k4, g4]
  have e : add2 (a * b) (a * c) = mul2 a (b + c) := by unfold add2 mul2; rw [h3, k3, h1, g3, Int.mul_add]
  refine ⟨e, ?_⟩
  unfold add1 mul1; rw [e, Int.mul_add]

theorem absI_nonneg (n : Int) : 0 ≤ absI n := by unfold absI; split <;> omega
theorem absI_natAbs (n : Int) : absI n = (n.natAbs : Int) := by unfold absI; split <;> omega
theorem absI_rng {n : Int} (h : rng n = true) : 0 ≤ absI n ∧ absI n ≤ 9007199254740992 := by
  rw [rng_iff] at h; unfold absI; split <;> omega
theorem rng_abs (n : Int) : rng n = decide (absI n ≤ 9007199254740992) := by
  rw [Bool.eq_iff_iff, rng_iff, decide_eq_true_eq]; unfold absI; split <;> omega
theorem absI_mul (a b : Int) : absI (a * b) = absI a * absI b := by
  rw [absI_natAbs, absI_natAbs, absI_natAbs, Int.natAbs_mul, Int.natCast_mul]
/-- the test of Mul -/
theorem mul_test {a b : Int} (ha : rng a = true) (hb : rng b = true) (h0 : a ≠ 0) : mul2 a b = !decide (9007199254740992 / absI a < absI b) := by
  have h1 : 0 < absI a := by unfold absI; split <;> omega
  unfold mul2
  have h2 : absI b ≤ 9007199254740992 / absI a ↔ absI a * absI b ≤ 9007199254740992 := by rw [Int.le_ediv_iff_mul_le h1, Int.mul_comm]
  rw [ha, hb, rng_abs, absI_mul, Bool.true_and, Bool.true_and, Bool.eq_iff_iff]
  simp only [decide_eq_true_eq, Bool.not_eq_true', decide_eq_false_iff_not, Int.not_lt]
  exact h2.symm
theorem mul_zero' (b : Int) (hb : rng b = true) : mul2 0 b = true ∧ mul1 0 b = 0 := by
  have h : mul2 0 b = true := by unfold mul2; rw [hb, Int.zero_mul]; decide
  exact ⟨h, by unfold mul1 chk; rw [h, Int.zero_mul]; rfl⟩
theorem tdiv_rng {a b : Int} (ha : rng a = true) : -9007199254740992 ≤ a.tdiv b ∧ a.tdiv b ≤ 9007199254740992 := by
  rw [rng_iff] at ha
  have h : (a.tdiv b).natAbs ≤ a.natAbs := by rw [Int.natAbs_tdiv]; exact Nat.div_le_self _ _
  omega
theorem tmod_rng {a b : Int} (ha : rng a = true) : -9007199254740992 ≤ a.tmod b ∧ a.tmod b ≤ 9007199254740992 := by
  rw [rng_iff] at ha
  have h : (a.tmod b).natAbs ≤ a.natAbs := by rw [Int.natAbs_tmod]; exact Nat.mod_le _ _
  omega
/-- division and remainder -/
theorem div_laws {a b : Int} (h : div2 a b = true) : div1 a b = a.tdiv b ∧ mod1 a b = a.tmod b ∧ mul2 b (a.tdiv b) = true ∧ mul1 b (a.tdiv b) = b * a.tdiv b ∧
    add2 (b * a.tdiv b) (a.tmod b) = true ∧ add1 (b * a.tdiv b) (a.tmod b) = a ∧ absI (a.tmod b) < absI b ∧ (a.tmod b = 0 ∨ (a.tmod b < 0 ↔ a < 0)) := by
  have h' := h
  unfold div2 at h
  simp only [Bool.and_eq_true, Bool.not_eq_true', decide_eq_false_iff_not] at h
  obtain ⟨⟨ha, hb⟩, h0⟩ := h
  have hq := tdiv_rng (b := b) ha
  have hr := tmod_rng (b := b) ha
  have hd : b * a.tdiv b + a.tmod b = a := by have := Int.mul_tdiv_add_tmod a b; omega
  have hl : (a.tmod b).natAbs < b.natAbs := by rw [Int.natAbs_tmod]; exact Nat.mod_lt _ (by omega)
  have hs : a.tmod b = 0 ∨ (a.tmod b < 0 ↔ a < 0) := by
    rcases Int.lt_or_le a 0 with hn | hn
    · have e : a.tmod b = -((-a).tmod b) := by rw [Int.neg_tmod]; omega
      have := Int.tmod_nonneg b (show 0 ≤ -a by omega)
      omega
    · have := Int.tmod_nonneg b hn
      omega
  have hp : rng (b * a.tdiv b) = true := by
    have e : (b * a.tdiv b).natAbs ≤ a.natAbs := by rw [Int.natAbs_mul, Int.natAbs_tdiv]; exact Nat.mul_div_le _ _
    rw [rng_iff] at ha ⊢; omega
  have hm : mul2 b (a.tdiv b) = true := by unfold mul2; rw [hb, (rng_iff _).2 hq, hp]; rfl
  have hA : add2 (b * a.tdiv b) (a.tmod b) = true := by unfold add2; rw [hp, (rng_iff _).2 hr, hd, ha]; rfl
  refine ⟨by unfold div1 chk; rw [h']; rfl, by unfold mod1 chk; rw [h']; rfl, hm, (mul_true hm).2.2.2, hA, by rw [(add_true hA).2.2.2, hd], ?_, hs⟩
  rw [absI_natAbs, absI_natAbs]; omega
end Go.Proofs.YtnbhpicmflagcaaDoor
