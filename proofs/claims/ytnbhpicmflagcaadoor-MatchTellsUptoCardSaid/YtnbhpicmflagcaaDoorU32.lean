/- Unsigned words of 32 bits as the walk shows them. -/
import Derived.Test.YtnbhpicmflagcaaDoorChecked
import Derived.Test.YtnbhpicmflagcaaDoorStr
import Derived.Laws.BitsAllLaws
set_option linter.unusedVariables false
namespace Go.Proofs.YtnbhpicmflagcaaDoor
open Go.RowKit
abbrev wv (c : UInt32) : Value := .int .u32 (c.toNat : Int)
/-! the operations under names of their own, so that no rewriting opens them -/
def xW (a b : UInt32) : UInt32 := a ^^^ b
def aW (a b : UInt32) : UInt32 := a &&& b
def oW (a b : UInt32) : UInt32 := a ||| b
def nW (a : UInt32) : UInt32 := xW 4294967295 a
def addW (a b : UInt32) : UInt32 := a + b
def halfW (a : UInt32) : UInt32 := a / 2
/-- a / 2^n -/
def divW (a : UInt32) (n : Nat) : UInt32 := UInt32.ofNat (a.toNat / n)
/-- a · 2^n -/
def mulW (a : UInt32) (n : Nat) : UInt32 := UInt32.ofNat (a.toNat * n)
def byteW (c : UInt8) : UInt32 := UInt32.ofNat c.toNat
def lowW (c : UInt32) : UInt8 := UInt8.ofNat (c.toNat % 256)
theorem u32_lt (c : UInt32) : c.toNat < 4294967296 := c.toNat_lt
theorem ux32 (a b : UInt32) : bits .xor .u32 (a.toNat : Int) (b.toNat : Int) = ((xW a b).toNat : Int) := by
  rw [u32_xor_nat _ _ (u32_lt a) (u32_lt b)]; unfold xW; rw [UInt32.toNat_xor]
theorem ua32 (a b : UInt32) : bits .and .u32 (a.toNat : Int) (b.toNat : Int) = ((aW a b).toNat : Int) := by
  rw [u32_and_nat _ _ (u32_lt a) (u32_lt b)]; unfold aW; rw [UInt32.toNat_and]
theorem uo32 (a b : UInt32) : bits .or .u32 (a.toNat : Int) (b.toNat : Int) = ((oW a b).toNat : Int) := by
  rw [u32_or_nat _ _ (u32_lt a) (u32_lt b)]; unfold oW; rw [UInt32.toNat_or]
theorem un32 (a : UInt32) : bits .xor .u32 IntKind.u32.max (a.toNat : Int) = ((nW a).toNat : Int) := ux32 4294967295 a
theorem uadd32 (a b : UInt32) : ((a.toNat : Int) + (b.toNat : Int)) % 4294967296 = ((addW a b).toNat : Int) := by
  unfold addW; rw [UInt32.toNat_add]; omega
theorem udiv32 (a : UInt32) (n : Nat) : (a.toNat : Int) / (n : Int) = ((divW a n).toNat : Int) := by
  have h := u32_lt a
  have h2 := Nat.div_le_self a.toNat n
  unfold divW
  rw [UInt32.toNat_ofNat_of_lt' (show a.toNat / n < UInt32.size by unfold UInt32.size; omega)]
  simp
theorem umul32 (a : UInt32) (n : Nat) : (a.toNat : Int) * (n : Int) % 4294967296 = ((mulW a n).toNat : Int) := by
  unfold mulW
  rw [UInt32.toNat_ofNat']
  simp
theorem ubyte32 (c : UInt8) : (c.toNat : Int) = ((byteW c).toNat : Int) := by
  have := c.toNat_lt
  unfold byteW
  rw [UInt32.toNat_ofNat_of_lt' (show c.toNat < UInt32.size by unfold UInt32.size; omega)]
theorem ulow32 (c : UInt32) : (c.toNat : Int) % 256 = ((lowW c).toNat : Int) := by
  unfold lowW
  simp
theorem and15 (a : UInt32) : ((aW a 15).toNat : Int) = ((a.toNat % 16 : Nat) : Int) := by
  unfold aW
  rw [UInt32.toNat_and]
  have : a.toNat &&& (15 : UInt32).toNat = a.toNat % 16 := Nat.and_two_pow_sub_one_eq_mod a.toNat 4
  rw [this]
/-- n cells, as a function lists them -/
def arrW (n : Nat) (f : Nat → Value) : Array Value := ((List.range n).map f).toArray
theorem arr_at {n : Nat} (f : Nat → Value) {k : Nat} (h : k < n) : (arrW n f)[k]? = some (f k) := by
  simp [arrW, h]
theorem arr_size (n : Nat) (f : Nat → Value) : (arrW n f).size = n := by simp [arrW]
theorem arr_congr {n : Nat} {f g : Nat → Value} (h : ∀ k, k < n → f k = g k) : arrW n f = arrW n g := by
  unfold arrW
  congr 1
  exact List.map_congr_left (fun k hk => h k (List.mem_range.1 hk))
theorem arr_set {n : Nat} (f : Nat → Value) (k : Nat) (v : Value) (g : Nat → Value) (h1 : g k = v) (h2 : ∀ j, j < n → j ≠ k → g j = f j) : (arrW n f).setIfInBounds k v = arrW n g := by
  apply Array.ext_getElem?
  intro j
  rw [Array.getElem?_setIfInBounds]
  by_cases hj : j < n
  · rw [arr_at g hj]
    by_cases e : k = j
    · subst e; rw [if_pos rfl, if_pos (by rw [arr_size]; exact hj), h1]
    · rw [if_neg e, arr_at f hj, h2 j hj (fun e2 => e e2.symm)]
  · have e1 : (arrW n g)[j]? = none := Array.getElem?_eq_none (by rw [arr_size]; omega)
    have e2 : (arrW n f)[j]? = none := Array.getElem?_eq_none (by rw [arr_size]; omega)
    rw [e1, e2]
    split
    · split
      · rename_i h3 h4; rw [arr_size] at h4; omega
      · rfl
    · rfl
end Go.Proofs.YtnbhpicmflagcaaDoor
