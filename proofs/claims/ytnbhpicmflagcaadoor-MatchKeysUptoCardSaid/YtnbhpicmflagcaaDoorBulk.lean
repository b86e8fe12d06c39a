/- What the bound of the second form gives. -/
import Derived.Test.YtnbhpicmflagcaaDoorRows
import Derived.Test.YtnbhpicmflagcaaDoorFrame
set_option linter.unusedVariables false
namespace Go.Proofs.YtnbhpicmflagcaaDoor.bulks
theorem one_le {H : Type} (d : DataW H) : 1 ≤ Rows.uptoBulk d := by
  cases d with
  | lit l => cases l <;> simp [Rows.uptoBulk]
  | nil => simp [Rows.uptoBulk]
  | ptr d => simp [Rows.uptoBulk]
  | slice elems spare => simp [Rows.uptoBulk]
  | agg parts => simp [Rows.uptoBulk]
  | iface t d => simp [Rows.uptoBulk]
  | map entries => simp [Rows.uptoBulk]
  | held h => simp [Rows.uptoBulk]
theorem part_le {H : Type} {d : DataW H} {l : List (DataW H)} (h : d ∈ l) : Rows.uptoBulk d ≤ Rows.uptoBulkAll l := by
  induction l with
  | nil => cases h
  | cons x r ih =>
    simp only [Rows.uptoBulkAll]
    cases List.mem_cons.1 h with
    | inl e => subst e; omega
    | inr e => have := ih e; omega
theorem length_le {H : Type} (l : List (DataW H)) : l.length ≤ Rows.uptoBulkAll l := by
  induction l with
  | nil => simp [Rows.uptoBulkAll]
  | cons x r ih => have := one_le x; simp only [Rows.uptoBulkAll, List.length_cons]; omega
theorem bound {H : Type} {l : List (DataW H)} (hk : Rows.uptoSmall H l = true) : Rows.uptoBulkAll l ≤ 1048576 := of_decide_eq_true hk
theorem strs_le {H : Type} {d : DataW H} {ss : List (List UInt8)} (h : (d = .nil ∧ ss = []) ∨ ∃ sp, d = .slice (ss.map fun s => .lit (.string s)) sp) : ss.length ≤ Rows.uptoBulk d ∧ ∀ s ∈ ss, s.length ≤ Rows.uptoBulk d := by
  rcases h with ⟨rfl, rfl⟩ | ⟨sp, rfl⟩
  · simp
  · simp only [Rows.uptoBulk]
    have h1 := length_le (H := H) (ss.map fun s => DataW.lit (.string s))
    rw [List.length_map] at h1
    refine ⟨by omega, fun s hs => ?_⟩
    have h2 := part_le (H := H) (List.mem_map.2 ⟨s, hs, rfl⟩ : DataW.lit (.string s) ∈ ss.map fun s => DataW.lit (.string s))
    simp only [Rows.uptoBulk] at h2
    omega
theorem ints_le {H : Type} {d : DataW H} {k : IntKind} {zs : List Int} (h : (d = .nil ∧ zs = []) ∨ ∃ sp, d = .slice (zs.map fun z => .lit (.int k z)) sp) : zs.length ≤ Rows.uptoBulk d := by
  rcases h with ⟨rfl, rfl⟩ | ⟨sp, rfl⟩
  · simp
  · simp only [Rows.uptoBulk]
    have h1 := length_le (H := H) (zs.map fun z => DataW.lit (.int k z))
    rw [List.length_map] at h1
    omega
end Go.Proofs.YtnbhpicmflagcaaDoor.bulks
