/- The types of package api that the laws use: values, effects in force, commands; how they lie in memory. -/
import Derived.Test.YtbkdakbhagjkhaaGreatDoorChecked
import Derived.Test.YtbkdakbhagjkhaaGreatDoorRel
import Derived.OwnWalk
set_option linter.unusedVariables false
namespace Go.Proofs.YtbkdakbhagjkhaaGreatDoor
open Go.RowKit
open Go.Lib (hid)
inductive Val where
 | mk (kind : Int) (t : List UInt8) (n m : Int) (s : List UInt8) (l : List Val)
namespace Val
def kind : Val → Int | mk k _ _ _ _ _=>k
def t : Val → List UInt8 | mk _ t _ _ _ _=>t
def n : Val → Int | mk _ _ n _ _ _=>n
def m : Val → Int | mk _ _ _ m _ _=>m
def s : Val → List UInt8 | mk _ _ _ _ s _=>s
def l : Val → List Val | mk _ _ _ _ _ l=>l
end Val
/-- sizes that a machine can hold -/
inductive ValB : Val → Prop
 | mk (x : Val) (h1 : x.l.length ≤ 1048576) (h2 : x.t.length ≤ 1048576) (h3 : x.s.length ≤ 1048576) (h4 : ∀ y ∈ x.l,ValB y) : ValB x
theorem ValB.len {x : Val} (h : ValB x) : x.l.length ≤ 1048576:=by cases h; assumption
theorem ValB.mem {x y : Val} (h : ValB x) (hy : y ∈ x.l) : ValB y:=by cases h; rename_i h4; exact h4 y hy
def ValsB (l : List Val) : Prop:=l.length ≤ 1048576 ∧ ∀ x ∈ l,ValB x
theorem ValB.l {x : Val} (h : ValB x) : ValsB x.l:=⟨h.len,fun _=>h.mem⟩

/-- the first k elements of the row v stand for those of l -/
def PartR {α : Type} (E : TypeId) (sz : Nat) (R : Rel α) (S : Foot) (w : World) (l : List α) (v : Value) (k : Nat) : Prop :=
 ∃ xs,w.ownsRow 0 E sz v l.length xs ∧ (∀ q,v.ownBlock = some q → S q) ∧ ∀ i x,i < k → l[i]? = some x → ∃ cs,(∀ j u,cs[j]? = some u → xs[i * sz + j]? = some u) ∧ R (fun q=>S q ∧ v.ownBlock ≠ some q) w x cs
section
variable {α : Type} {E : TypeId} {sz : Nat} {R : Rel α} {S T : Foot} {w w' : World} {x : α} {l : List α} {v : Value} {k : Nat}
theorem PartR.start {base : Nat} {xs : List Value} (h : w.ownsRow base E sz v l.length xs) (hs : ∀ q,base ≤ q → S q) : PartR E sz R S w l v 0 :=
 ⟨xs,owns_move h (fun _ _=>rfl) (fun _ _=>Nat.zero_le _),fun q hq=>hs q (h.lt q hq).1,fun i x hi=>absurd hi (by omega)⟩
theorem PartR.all (h : PartR E sz R S w l v l.length) : OwnR E sz R S w l v:=by
 obtain ⟨xs,h1,h2,h3⟩:=h; exact ⟨xs,h1,h2,fun i x hx=>h3 i x (List.getElem?_eq_some_iff.1 hx).1 hx⟩
theorem PartR.move (hR : Good sz R) (h : PartR E sz R S w l v k) (hm : ∀ q,q < w.heap.size → S q → T q ∧ w'.heap[q]? = w.heap[q]?) : PartR E sz R T w' l v k:=by
 obtain ⟨xs,h1,h2,h3⟩:=h; refine ⟨xs,owns_move h1 (fun q hq=>(hm q (h1.lt q hq).2 (h2 q hq)).2) (fun _ _=>Nat.zero_le _),fun q hq=>(hm q (h1.lt q hq).2 (h2 q hq)).1,fun i x hi hx=>?_⟩; obtain ⟨cs,h4,h5⟩:=h3 i x hi hx; exact ⟨cs,h4,hR.move h5 fun q hq hs=>⟨⟨(hm q hq hs.1).1,hs.2⟩,(hm q hq hs.1).2⟩⟩
theorem PartR.below (hR : Good sz R) (h : PartR E sz R S w l v k) (hb : Below w.heap.size w w') : PartR E sz R S w' l v k:=h.move hR fun q hq hs=>⟨hs,hb.block q hq⟩
theorem PartR.lt (h : PartR E sz R S w l v k) {q : Nat} (hq : v.ownBlock = some q) : q < w.heap.size:=by obtain ⟨xs,h1,_⟩:=h; exact (h1.lt q hq).2
/-- the cells of an element: they are there and may be written -/
theorem PartR.there {g n cap i j : Nat} (h : PartR E sz R S w l (.slice (some ⟨g,0,none⟩) n cap) k) (hi : i < l.length) (hj : j < sz) : (∃ u,w.cell? ⟨g,i * sz + j,none⟩ = some u) ∧ w.frozen? ⟨g,i * sz + j,none⟩ = false:=by
 obtain ⟨xs,h1,_⟩:=h; obtain ⟨a,c,e,_,_⟩:=owns_form h1; simp only [Value.slice.injEq] at e; obtain ⟨-,rfl,-⟩:=e
 have hle : i * sz + sz ≤ l.length * sz:=by rw [← Nat.succ_mul]; exact Nat.mul_le_mul_right _ hi
 refine ⟨?_,h1.frozenAt _⟩; rw [h1.cellAt _ (by omega)]; exact ⟨_,List.getElem?_eq_getElem (by rw [h1.1]; omega)⟩
theorem PartR.set (hR : Good sz R) {g n cap : Nat} (h : PartR E sz R S w l (.slice (some ⟨g,0,none⟩) n cap) k) (hi : l[k]? = some x) {cs : List Value} (hx : R (fun q=>S q ∧ q ≠ g) w x cs) :
  PartR E sz R S (setCells w g (k * sz) cs) l (.slice (some ⟨g,0,none⟩) n cap) (k + 1):=by
 obtain ⟨xs,h1,h2,h3⟩:=h; obtain ⟨a,c,e,_,_⟩:=owns_form h1; simp only [Value.slice.injEq] at e; obtain ⟨-,rfl,-⟩:=e; have hk:=(List.getElem?_eq_some_iff.1 hi).1; have hcl:=hR.len hx
 have hle : k * sz + sz ≤ l.length * sz:=by rw [← Nat.succ_mul]; exact Nat.mul_le_mul_right _ hk
 refine ⟨putList xs (k * sz) cs,owns_setCells cs w xs (k * sz) h1 (by omega),h2,fun i y hik hy=>?_⟩
 have hfr : ∀ (q : Nat),q < w.heap.size → (S q ∧ (Value.slice (some ⟨g,0,none⟩) l.length cap).ownBlock ≠ some q) → (S q ∧ (Value.slice (some ⟨g,0,none⟩) l.length cap).ownBlock ≠ some q) ∧ (setCells w g (k * sz) cs).heap[q]? = w.heap[q]? :=
  fun q _ hs=>⟨hs,setCells_other g cs w _ q (fun e=>hs.2 (by rw [e]; rfl))⟩
 by_cases e : i = k
 ·subst e
  rw [hi] at hy; injection hy with hy; subst hy; refine ⟨cs,fun j u hu=>?_,?_⟩
  ·have hj:=(List.getElem?_eq_some_iff.1 hu).1
   rw [putList_at cs xs _ _ hj (by rw [h1.1]; omega)]; exact hu
  ·exact hR.move hx fun q hq hs=>hfr q hq ⟨hs.1,fun e=>hs.2 (by injection e with e; exact e.symm)⟩
 ·obtain ⟨ds,h4,h5⟩:=h3 i y (by omega) hy
  refine ⟨ds,fun j u hu=>?_,hR.move h5 hfr⟩
  have hj : j < sz:=by have:=(List.getElem?_eq_some_iff.1 hu).1; rw [hR.len h5] at this; exact this
  have : i * sz + sz ≤ k * sz:=by rw [← Nat.succ_mul]; exact Nat.mul_le_mul_right _ (by omega)
  rw [putList_other cs xs _ _ (by omega)]; exact h4 j u hu
end
end Go.Proofs.YtbkdakbhagjkhaaGreatDoor
