/- A slice that stands for a list, out of its block. No program. -/
import Derived.Test.YtnbhpicmflagcaaDoorRel
set_option linter.unusedVariables false
namespace Go.Proofs.YtnbhpicmflagcaaDoor
open Go.RowKit
theorem flatten_at {α : Type} {sz : Nat} : ∀ (css : List (List α)) (i j : Nat) (cs : List α), (∀ cs ∈ css, cs.length = sz) → css[i]? = some cs → j < sz → css.flatten[i * sz + j]? = cs[j]?
  | [], i, j, cs, _, h, _ => by simp at h
  | c :: css, 0, j, cs, hs, h, hj => by
    simp at h
    subst h
    have := hs c List.mem_cons_self
    rw [List.flatten_cons, Nat.zero_mul, Nat.zero_add, List.getElem?_append_left (by omega)]
  | c :: css, i + 1, j, cs, hs, h, hj => by
    have hc := hs c List.mem_cons_self
    rw [List.flatten_cons, List.getElem?_append_right (by rw [hc, Nat.succ_mul]; omega), hc, show (i + 1) * sz + j - sz = i * sz + j by rw [Nat.succ_mul]; omega]
    exact flatten_at css i j cs (fun x hx => hs x (List.mem_cons_of_mem _ hx)) (by simpa using h) hj
theorem SlR.of_block {α : Type} {sz : Nat} {R : Rel α} {S : Foot} {W : World} {l : List α} {b : Nat} {css : List (List Value)} {E : TypeId} {fr : Nat × Nat} (hlen : css.length = l.length) (hs : ∀ cs ∈ css, cs.length = sz)
    (h : W.heap[b]? = some (.cells css.flatten.toArray E fr)) (hS : S b) (hR : ∀ (i : Nat) x cs, l[i]? = some x → css[i]? = some cs → R S W x cs) : SlR sz R S W l (.slice (some ⟨b, 0, none⟩) l.length l.length) := by
  refine ⟨_, _, b, 0, fun i => css.getD i [], rfl, Nat.le_refl _, fun _ => ⟨rfl, hS, lt_of_some h⟩, fun i hi j u hu => ?_, fun i x hx => ?_⟩
  · have hi2 : i < css.length := by omega
    have hci : css[i]? = some css[i] := List.getElem?_eq_getElem hi2
    simp only [List.getD_eq_getElem?_getD, hci, Option.getD_some] at hu
    have hj : j < sz := by
      have := (List.getElem?_eq_some_iff.1 hu).1
      rw [hs _ (List.getElem_mem hi2)] at this; exact this
    rw [Nat.zero_add]
    refine (cell_of h).trans ?_
    rw [List.getElem?_toArray, flatten_at css i j _ hs hci hj]
    exact hu
  · have hi2 : i < css.length := by have := (List.getElem?_eq_some_iff.1 hx).1; omega
    have hci : css[i]? = some css[i] := List.getElem?_eq_getElem hi2
    simp only [List.getD_eq_getElem?_getD, hci, Option.getD_some]
    exact hR i x _ hx hci
end Go.Proofs.YtnbhpicmflagcaaDoor
