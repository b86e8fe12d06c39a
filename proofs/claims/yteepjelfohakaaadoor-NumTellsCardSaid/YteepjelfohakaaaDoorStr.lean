/- Strings as lists of bytes: indexes and cuts. -/
import Derived.Test.YteepjelfohakaaaDoorLib
import Derived.Deep.DeepCutAuto
set_option linter.unusedVariables false
namespace Go.Proofs.YteepjelfohakaaaDoor
open Go.RowKit
abbrev sv (l : List UInt8) : Value := .string ⟨l.toArray⟩
theorem ext_take (s : List UInt8) (k : Nat) : (ByteArray.mk s.toArray).extract 0 k = ⟨(s.take k).toArray⟩ := by rw [ByteArray.extract_mk]; simp
theorem ext_drop (s : List UInt8) (k : Nat) : (ByteArray.mk s.toArray).extract k s.length = ⟨(s.drop k).toArray⟩ := by
  rw [ByteArray.extract_mk, List.take_of_length_le (by simp)]
theorem idx_str {P : Program} (t : TypeId) (ht : P.underlying t = some .string) (s : List UInt8) (k : Nat) (c : UInt8) (hc : s[k]? = some c) : ∀ kd W, (Instr.index t (.string ⟨s.toArray⟩) (.int kd k)).run P W = .ok (.int .u8 c.toNat) W := by
  intro kd W
  obtain ⟨hk, e⟩ := List.getElem?_eq_some_iff.1 hc
  rw [run_index_string W t _ kd k ht]
  rw [dif_pos ⟨by omega, by rw [ByteArray.size_mk', List.size_toArray]; omega⟩]
  subst e
  rfl
theorem idx_str0 {P : Program} (t : TypeId) (ht : P.underlying t = some .string) (c : UInt8) (s : List UInt8) : ∀ kd W, (Instr.index t (.string ⟨(c :: s).toArray⟩) (.int kd 0)).run P W = .ok (.int .u8 c.toNat) W := fun kd W => idx_str t ht (c :: s) 0 c rfl kd W
theorem ext_tail (c : UInt8) (r : List UInt8) : (ByteArray.mk (c :: r).toArray).extract 1 (r.length + 1) = ⟨r.toArray⟩ := ext_drop (c :: r) 1
theorem ext_tail2 (c d : UInt8) (r : List UInt8) : (ByteArray.mk (c :: d :: r).toArray).extract 1 (r.length + 1 + 1) = ⟨(d :: r).toArray⟩ := ext_drop (c :: d :: r) 1
end Go.Proofs.YteepjelfohakaaaDoor
