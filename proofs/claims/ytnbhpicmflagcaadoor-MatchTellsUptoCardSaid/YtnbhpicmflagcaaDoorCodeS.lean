/- Chapter 02 (code): the plain functions that the code and the reference compute; no program here. -/
import Derived.Test.YtnbhpicmflagcaaDoorLib
set_option linter.unusedVariables false
namespace Go.Proofs.YtnbhpicmflagcaaDoor

def vencF : Nat → Nat → List UInt8
  | 0, _ => []
  | f+1, n => if n < 128 then [UInt8.ofNat n] else UInt8.ofNat (n % 128 + 128) :: vencF f (n / 128)
/-- the varint of a natural number below 2^63 -/
def venc (n : Nat) : List UInt8 := vencF 9 n
def nenc (n : Int) : List UInt8 := if n < 0 then [] else venc n.toNat
def zig (n : Int) : Int := if n < 0 then -2 * n - 1 else 2 * n
def inR (n : Int) : Bool := decide (-1152921504606846976 ≤ n) && decide (n ≤ 1152921504606846976)
def ienc (n : Int) : List UInt8 := if inR n then venc (zig n).toNat else []
def tenc (s : List UInt8) : List UInt8 := venc s.length ++ s
def lenc (l : List (List UInt8)) : List UInt8 := venc l.length ++ (l.map tenc).flatten
def msenc (l : List Int) : List UInt8 := venc l.length ++ (l.map ienc).flatten

/-- a varint read: the first byte may be 0, the last of several may not -/
def dnum : Nat → Bool → List UInt8 → Option (Nat × List UInt8)
  | 0, _, _ => none
  | _+1, _, [] => none
  | f+1, first, c :: r =>
    if 128 ≤ c.toNat then
      match dnum f false r with
      | some (n, r') => some (c.toNat - 128 + 128 * n, r')
      | none => none
    else if c.toNat = 0 ∧ first = false then none else some (c.toNat, r)

abbrev St := List UInt8 × Bool
def failed : St := ([], true)
def stNum (st : St) : Nat × St :=
  match dnum 9 true st.1 with
  | some (n, r) => (n, (r, st.2))
  | none => (0, failed)
def unzig (z : Nat) : Int := if z % 2 = 1 then -((z / 2 : Nat) : Int) - 1 else ((z / 2 : Nat) : Int)
def stInt (st : St) : Int × St :=
  if inR (unzig (stNum st).1) then (unzig (stNum st).1, (stNum st).2) else (0, failed)
def stTake (n : Int) (st : St) : List UInt8 × St :=
  if st.2 = true ∨ n < 0 ∨ (st.1.length : Int) < n then ([], failed) else (st.1.take n.toNat, (st.1.drop n.toNat, st.2))
def stText (st : St) : List UInt8 × St := stTake (stNum st).1 (stNum st).2
def iter {α : Type} (each : St → α × St) : Nat → St → List α × St
  | 0, st => ([], st)
  | n+1, st => if st.2 = true then ([], st) else ((each st).1 :: (iter each n (each st).2).1, (iter each n (each st).2).2)
def stMany {α : Type} (each : St → α × St) (st : St) : List α × St :=
  let n := (stNum st).1
  let st1 := (stNum st).2
  let st2 := if st1.1.length < n then failed else st1
  let r := iter each n st2
  if r.2.2 = true then ([], r.2) else r
def stList (st : St) : List (List UInt8) × St := stMany stText st
def stNums (st : St) : List Int × St := stMany stInt st

def bufOf (pre : List UInt8) : Array Value := (pre.map (fun b => Value.int .u8 b.toNat) ++ List.replicate (9 - pre.length) (Value.int .u8 0)).toArray
theorem buf_at (pre : List UInt8) (h : pre.length ≤ 8) : (bufOf pre)[pre.length]? = some (Value.int .u8 0) := by
  simp [bufOf, List.getElem?_append, List.getElem?_replicate]; omega
theorem buf_set (pre : List UInt8) (h : pre.length ≤ 8) (v : Int) (b : UInt8) (hb : v = b.toNat) : (bufOf pre).setIfInBounds pre.length (Value.int .u8 v) = bufOf (pre ++ [b]) := by
  subst hb
  obtain ⟨m, hm⟩ : ∃ m, 9 - pre.length = m + 1 := ⟨8 - pre.length, by omega⟩
  simp only [bufOf, List.setIfInBounds_toArray, hm, List.replicate_succ, List.length_append, List.length_cons, List.length_nil, List.map_append]
  rw [List.set_append_right _ _ (by simp)]
  simp
  omega

theorem vencF_bound : ∀ f n, n < 128 ^ f → 0 < f → 1 ≤ (vencF f n).length ∧ (vencF f n).length ≤ f := by
  intro f
  induction f with
  | zero => intro n _ h; omega
  | succ f ih =>
    intro n hn _
    unfold vencF
    split
    · simp
    · rename_i h
      have h2 : n / 128 < 128 ^ f := by rw [Nat.div_lt_iff_lt_mul (by decide)]; rw [Nat.pow_succ] at hn; exact hn
      have hf : 0 < f := by
        rcases Nat.eq_zero_or_pos f with rfl | hf
        · simp at h2; omega
        · exact hf
      have := ih (n / 128) h2 hf
      simp; omega
theorem venc_bound (n : Nat) (h : n < 9223372036854775808) : 1 ≤ (venc n).length ∧ (venc n).length ≤ 9 :=
  vencF_bound 9 n (by simpa using h) (by decide)
theorem ienc_bound (n : Int) : (ienc n).length ≤ 9 := by
  unfold ienc inR
  split
  · rename_i h; simp at h
    refine (venc_bound _ ?_).2
    unfold zig; split <;> omega
  · simp
end Go.Proofs.YtnbhpicmflagcaaDoor
