/- What the form's own reach gives on a slice of integers. -/
import Derived.Test.YtmlcnmpfjallkaaFrame
set_option linter.unusedVariables false
namespace Go.Proofs.Ytmlcnmpfjallkaa
theorem ints_sized {H : Type} {P : Program} {ts : List TypeId} {ds : List (DataW H)} (h : (DataW.weightsEach P ts ds).all (· ≤ reachBytes) = true) {j : Nat} {t e : TypeId} {k : IntKind} {d : DataW H} {zs : List Int} (ht : ts[j]? = some t) (hd : ds[j]? = some d) (hu : P.underlying t = some (.slice e)) (hb : 1 ≤ P.bytesOf e)
    (hx : (d = .nil ∧ zs = []) ∨ ∃ sp, d = .slice (zs.map fun z => .lit (.int k z)) sp) : zs.length ≤ 140737488351232 := by
  rcases hx with ⟨_, rfl⟩ | ⟨sp, rfl⟩
  · simp
  · have := sized_slice h ht hd hu
    rw [List.length_map] at this
    have h2 : (zs.length + sp.length) * 1 ≤ (zs.length + sp.length) * P.bytesOf e := Nat.mul_le_mul_left _ hb
    have h3 : reachBytes = 140737488351232 := rfl
    omega
theorem str_sized {H : Type} {P : Program} {ts : List TypeId} {ds : List (DataW H)} (h : (DataW.weightsEach P ts ds).all (· ≤ reachBytes) = true) {j : Nat} {t : TypeId} {l : List UInt8} (ht : ts[j]? = some t) (hd : ds[j]? = some (.lit (.string l))) : l.length ≤ 140737488351232 := sized_string h ht hd
end Go.Proofs.Ytmlcnmpfjallkaa
