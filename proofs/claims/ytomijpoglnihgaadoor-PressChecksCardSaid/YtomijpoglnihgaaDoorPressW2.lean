/- press: key, and the index in memory. -/
import Derived.Test.YtomijpoglnihgaaDoorPressW1
import Derived.Test.YtomijpoglnihgaaDoorPressI
import Derived.Test.YtomijpoglnihgaaDoorMapV
import Derived.Deep.RegionLaw
import Derived.Deep.RegionHeld3
set_option linter.unusedVariables false
namespace Go.Proofs.YtomijpoglnihgaaDoor
open Go.RowKit
open Go.Lib (hid byteCells)
theorem u32_wrap_id (n : Int) (h0 : 0 ≤ n) (h1 : n < 2 ^ 32) : IntKind.u32.wrap n = n := by
  have : IntKind.u32.wrap n = n % 4294967296 := rfl
  rw [this]; omega
theorem or_u32 (i a b : Nat) (ha : a < 4294967296) (hb : b < 4294967296) (h1 : b % 2 ^ i = 0) (h2 : a < 2 ^ i) : bits .or .u32 (a : Int) (b : Int) = ((a + b : Nat) : Int) := by
  have h := (bits_nat .u32 32 (by decide) u32_wrap_id a b (by omega) (by omega)).2
  rw [h, Nat.or_comm, nat_join i b a h1 h2, Nat.add_comm]
theorem key_bits (a0 a1 a2 a3 : Nat) (h0 : a0 < 256) (h1 : a1 < 256) (h2 : a2 < 256) (h3 : a3 < 256) :
    bits .or .u32 (bits .or .u32 (bits .or .u32 (IntKind.u32.wrap (a0 : Int)) (IntKind.u32.wrap (IntKind.u32.wrap (a1 : Int) * 256))) (IntKind.u32.wrap (IntKind.u32.wrap (a2 : Int) * 65536))) (IntKind.u32.wrap (IntKind.u32.wrap (a3 : Int) * 16777216)) = ((a0 + 256 * a1 + 65536 * a2 + 16777216 * a3 : Nat) : Int) := by
  rw [u32_wrap_id (a0 : Int) (by omega) (by omega), u32_wrap_id (a1 : Int) (by omega) (by omega), u32_wrap_id (a2 : Int) (by omega) (by omega), u32_wrap_id (a3 : Int) (by omega) (by omega)]
  rw [u32_wrap_id ((a1 : Int) * 256) (by omega) (by omega), u32_wrap_id ((a2 : Int) * 65536) (by omega) (by omega), u32_wrap_id ((a3 : Int) * 16777216) (by omega) (by omega)]
  rw [show (a1 : Int) * 256 = ((256 * a1 : Nat) : Int) by omega, show (a2 : Int) * 65536 = ((65536 * a2 : Nat) : Int) by omega, show (a3 : Int) * 16777216 = ((16777216 * a3 : Nat) : Int) by omega]
  rw [or_u32 8 a0 (256 * a1) (by omega) (by omega) (by omega) (by omega), or_u32 16 _ (65536 * a2) (by omega) (by omega) (by omega) (by omega), or_u32 24 _ (16777216 * a3) (by omega) (by omega) (by omega) (by omega)]
set_option maxHeartbeats 2000000 in
set_option maxRecDepth 100000 in
theorem key_any (b : Nat) (s : List UInt8) (p : Nat) (w : World) (hp : p + 4 ≤ s.length) (hs : s.length ≤ 16777216) (hc : w.cell? ⟨b, 0, none⟩ = some (sv s)) :
    Calls Tryd.prog 23 #[pt b, iv p] w fun e w' => e = .returned (.int .u32 (key4 s p)) ∧ Below w.heap.size w w' := by
  obtain ⟨a0, h0⟩ : ∃ a0, s[p]? = some a0 := ⟨_, List.getElem?_eq_getElem (by omega)⟩
  obtain ⟨a1, h1⟩ : ∃ a1, s[p + 1]? = some a1 := ⟨_, List.getElem?_eq_getElem (by omega)⟩
  obtain ⟨a2, h2⟩ : ∃ a2, s[p + 2]? = some a2 := ⟨_, List.getElem?_eq_getElem (by omega)⟩
  obtain ⟨a3, h3⟩ : ∃ a3, s[p + 3]? = some a3 := ⟨_, List.getElem?_eq_getElem (by omega)⟩
  have hx : (ByteArray.mk s.toArray).extract p (p + 4) = ⟨[a0, a1, a2, a3].toArray⟩ := by
    rw [ByteArray.extract_mk]
    have e : (s.drop p).take (p + 4 - p) = [a0, a1, a2, a3] := by
      rw [show p + 4 - p = 4 by omega]
      apply List.ext_getElem?
      intro j
      rw [List.getElem?_take]
      match j with
      | 0 => simp [h0]
      | 1 => simp [h1]
      | 2 => simp [h2]
      | 3 => simp [h3]
      | j + 4 => rw [if_neg (by omega)]; rfl
    rw [e]
  have hk : key4 s p = a0.toNat + 256 * a1.toNat + 65536 * a2.toNat + 16777216 * a3.toNat := by
    unfold key4 byteN
    rw [List.getD_eq_getElem?_getD, List.getD_eq_getElem?_getD, List.getD_eq_getElem?_getD, List.getD_eq_getElem?_getD, h0, h1, h2, h3]; rfl
  have k1 : (p : Int) + 4 ≤ (s.length : Int) := by omega
  have k2 : p ≤ s.length := by omega
  have k3 : (0 : Int) ≤ (p : Int) := by omega
  have k4 : (p : Int) ≤ (p : Int) + 4 := by omega
  have k5 : (0 : Int) ≤ (p : Int) + 4 := by omega
  have k6 : p + 4 ≤ s.length := hp
  replace hk := hid hk
  clear h0 h1 h2 h3
  go_enter Tryd.func23, Tryd.ntmps23
  go_wp2_with fail
  go_quiet (fail)
  go_wp2_with fail
  go_ret
  refine ⟨?_, below_drewM (Below.refl _ _) nq⟩
  rw [hk.out]
  exact ret_int (key_bits a0.toNat a1.toNat a2.toNat a3.toNat a0.toNat_lt a1.toNat_lt a2.toNat_lt a3.toNat_lt)
abbrev PI : TypeId := 49
/-- block b is the index of s, all offsets below m entered; its map is block mb -/
structure IX (s : List UInt8) (m b mb : Nat) (w : World) : Prop where
  cells : ∃ Z : Array Value, w.heap[b]? = some (.cells Z 49 (0, 0)) ∧ Z.size = 4099 ∧ Z[0]? = some (sv s) ∧ Z[1]? = some (.map (some mb)) ∧ Z[4098]? = some (iv m) ∧
    ∀ q, q < m → m ≤ q + 4096 → Z[2 + q % 4096]? = some (iv (optI (prevF s q)))
  map : ∃ N f, MapV Tryd.prog 28 mb N f w ∧ N ≤ m ∧ ∀ K, f (.int .u32 (K : Nat)) = (lastF s m K).map fun (p : Nat) => iv (p : Int)
  ne : b ≠ mb
theorem keyU (K : Nat) (h : K < 4294967296) : keyOf Tryd.prog 28 (.int .u32 (K : Nat)) = some (.int .u32 (K : Nat)) := by
  have hk := Tryd.underlying28
  simp [keyOf, hk, mapKey, Lit.wf, IntKind.min, IntKind.max, IntKind.signed, IntKind.bits]
  omega
theorem IX.below {s : List UInt8} {m b mb : Nat} {w w' : World} (h : IX s m b mb w) (hb : Below w.heap.size w w') : IX s m b mb w' := by
  obtain ⟨⟨Z, h1, h2⟩, ⟨N, f, h3, h4⟩, h5⟩ := h
  exact ⟨⟨Z, below_keep hb h1 (lt_of_heap h1), h2⟩, ⟨N, f, h3.below hb h3.lt, h4⟩, h5⟩
theorem IX.lt {s : List UInt8} {m b mb : Nat} {w : World} (h : IX s m b mb w) : b < w.heap.size ∧ mb < w.heap.size := by
  obtain ⟨⟨Z, h1, h2⟩, ⟨N, f, h3, h4⟩, h5⟩ := h
  exact ⟨lt_of_heap h1, h3.lt⟩
theorem IX.drewN {s : List UInt8} {m b mb : Nat} {w : World} (h : IX s m b mb w) (n : Nat) : IX s m b mb (w.drewN n) := h.below (below_drewM (Below.refl _ _) n)
end Go.Proofs.YtomijpoglnihgaaDoor
