/- What the form's own reach gives on a slice of integers. -/
import Derived.Test.YtnbhpicmflagcaaDoorFrame
set_option linter.unusedVariables false
namespace Go.Proofs.YtnbhpicmflagcaaDoor
theorem ints_sized {H : Type} {P : Program} {ts : List TypeId} {ds : List (DataW H)} (h : (DataW.weightsEach P ts ds).all (· ≤ reachBytes) = true) {j : Nat} {t e : TypeId} {k : IntKind} {d : DataW H} {zs : List Int} (ht : ts[j]? = some t) (hd : ds[j]? = some d) (hu : P.underlying t = some (.slice e)) (hb : 1 ≤ P.bytesOf e)
    (hx : (d = .nil ∧ zs = []) ∨ ∃ sp, d = .slice (zs.map fun z => .lit (.int k z)) sp) : zs.length ≤ 140737488351232 := by
  rcases hx with ⟨_, rfl⟩ | ⟨sp, rfl⟩
  · simp
  · have := sized_slice h ht hd hu
    rw [List.length_map] at this
    have h2 : (zs.length + sp.length) * 1 ≤ (zs.length + sp.length) * P.bytesOf e := Nat.mul_le_mul_left _ hb
    have h3 : reachBytes = 140737488351232 := rfl
    omega
theorem str_sized {H : Type} {P : Program} {ts : List TypeId} {ds : List (DataW H)} (h : (DataW.weightsEach P ts ds).all (· ≤ reachBytes) = true) {j : Nat} {t : TypeId} {l : List UInt8} (ht : ts[j]? = some t) (hd : ds[j]? = some (.lit (.string l))) : l.length ≤ 140737488351232 := sized_string h ht hd
theorem mem_weightsAll {H : Type} {P : Program} {e : TypeId} {x : Nat} : ∀ {ds : List (DataW H)} {d : DataW H}, d ∈ ds → x ∈ d.weights P e → x ∈ DataW.weightsAll P e ds
  | [], _, h, _ => by cases h
  | d0 :: r, d, h, hx => by
    simp only [DataW.weightsAll, List.mem_append]
    rcases List.mem_cons.1 h with rfl | h
    · exact Or.inl hx
    · exact Or.inr (mem_weightsAll h hx)
theorem strs_sized {H : Type} {P : Program} {ts : List TypeId} {ds : List (DataW H)} (h : (DataW.weightsEach P ts ds).all (· ≤ reachBytes) = true) {j : Nat} {t e : TypeId} {d : DataW H} {ss : List (List UInt8)} (ht : ts[j]? = some t) (hd : ds[j]? = some d) (hu : P.underlying t = some (.slice e)) (hb : 1 ≤ P.bytesOf e)
    (hx : (d = .nil ∧ ss = []) ∨ ∃ sp, d = .slice (ss.map fun s => .lit (.string s)) sp) : ss.length ≤ 140737488351232 ∧ ∀ s ∈ ss, s.length ≤ 140737488351232 := by
  rcases hx with ⟨_, rfl⟩ | ⟨sp, rfl⟩
  · simp
  · refine ⟨?_, fun s hs => ?_⟩
    · have := sized_slice h ht hd hu
      rw [List.length_map] at this
      have h2 : (ss.length + sp.length) * 1 ≤ (ss.length + sp.length) * P.bytesOf e := Nat.mul_le_mul_left _ hb
      have h3 : reachBytes = 140737488351232 := rfl
      omega
    · have hm : s.length ∈ (DataW.slice (ss.map fun s => (.lit (.string s) : DataW H)) sp).weights P t := by
        simp only [DataW.weights, hu, List.mem_cons, List.mem_append]
        right; left
        exact mem_weightsAll (d := .lit (.string s)) (List.mem_map.2 ⟨s, hs, rfl⟩) (by simp [DataW.weights])
      have := List.all_eq_true.1 h _ (DataW.weights_mem_each ht hd s.length hm)
      have h3 : reachBytes = 140737488351232 := rfl
      simpa [h3] using this
end Go.Proofs.YtnbhpicmflagcaaDoor
