/- Data in memory, by relations: which cells stand for which data, and in which blocks they may lie. No program. -/
import Derived.Test.YtbkdakbhagjkhaaGreatDoorStr
import Derived.Maps.AppendAt
set_option linter.unusedVariables false
namespace Go.Proofs.YtbkdakbhagjkhaaGreatDoor
open Go.RowKit
open Go.Lib (hid)
abbrev iv (n : Int) : Value:=.int .i64 n
abbrev pt (b : Nat) : Value:=.pointer (some ⟨b,0,none⟩)
abbrev Foot:=Nat → Prop
/-- all memory from B on -/
def from_ (B : Nat) : Foot:=fun k=>B ≤ k
/-- R S w x cs: the cells cs stand for x in w; what they refer to lies in blocks of S -/
abbrev Rel (α : Type):=Foot → World → α → List Value → Prop
structure Good {α : Type} (sz : Nat) (R : Rel α) : Prop where
 len : ∀ {S w x cs},R S w x cs → cs.length = sz
 one : ∀ {S w x cs},R S w x cs → ∀ u ∈ cs,u.oneCell' = true
 move : ∀ {S T w w' x cs},R S w x cs → (∀ k,k < w.heap.size → S k → T k ∧ w'.heap[k]? = w.heap[k]?) → R T w' x cs
section
variable {α : Type} {sz : Nat} {R : Rel α} {S T : Foot} {w w' : World} {x : α} {cs : List Value}
theorem Good.below (h : Good sz R) (hr : R S w x cs) (hb : Below w.heap.size w w') : R S w' x cs:=h.move hr fun k hk hs=>⟨hs,hb.block k hk⟩
theorem Good.mono (h : Good sz R) (hr : R S w x cs) (hs : ∀ k,k < w.heap.size → S k → T k) : R T w x cs:=h.move hr fun k hk hk2=>⟨hs k hk hk2,rfl⟩
theorem Good.fr (h : Good sz R) (hr : R S w x cs) {G : Foot} (hf : Fr G w w') (hs : ∀ k,S k → ¬ G k) : R S w' x cs:=h.move hr fun k hk hk2=>⟨hk2,hf.block k hk (hs k hk2)⟩
end
theorem below_drewM {B : Nat} {w w' : World} (h : Below B w w') (n : Nat) : Below B w (w'.drewN n):=⟨h.os,h.tape,h.output,h.size,h.block⟩
/-- the slice v stands for the list l, element by element (sz cells each) -/
def SlR {α : Type} (sz : Nat) (R : Rel α) (S : Foot) (w : World) (l : List α) (v : Value) : Prop :=
 ∃ (a : Option Addr) (cap b off : Nat) (cs : Nat → List Value),v = .slice a l.length cap ∧ l.length ≤ cap ∧ (0 < l.length → a = some ⟨b,off,none⟩ ∧ S b ∧ b < w.heap.size) ∧
  (∀ i,i < l.length → ∀ j u,(cs i)[j]? = some u → w.cell? ⟨b,off + i * sz + j,none⟩ = some u) ∧ ∀ i x,l[i]? = some x → R S w x (cs i)
theorem lt_of_some {w : World} {b : Nat} {o : Obj} (h : w.heap[b]? = some o) : b < w.heap.size:=(Array.getElem?_eq_some_iff.1 h).1
theorem some_of_lt {w : World} {b : Nat} (h : b < w.heap.size) : ∃ o,w.heap[b]? = some o:=⟨_,Array.getElem?_eq_getElem h⟩
theorem lt_same {w w' : World} {b : Nat} (h : b < w.heap.size) (e : w'.heap[b]? = w.heap[b]?) : b < w'.heap.size:=by
 obtain ⟨o,ho⟩:=some_of_lt h; rw [ho] at e; exact lt_of_some e
section
variable {α : Type} {sz : Nat} {R : Rel α} {S T : Foot} {w w' : World} {x : α} {l : List α} {v : Value}
theorem SlR.nil (sz : Nat) (R : Rel α) (S : Foot) (w : World) (cap : Nat) : SlR sz R S w [] (.slice none 0 cap) :=
 ⟨none,cap,0,0,fun _=>[],rfl,Nat.zero_le _,fun h=>absurd h (by simp),fun i h=>absurd h (by simp),fun i x h=>by simp at h⟩
theorem SlR.move (hR : Good sz R) (h : SlR sz R S w l v) (hm : ∀ k,k < w.heap.size → S k → T k ∧ w'.heap[k]? = w.heap[k]?) : SlR sz R T w' l v:=by
 obtain ⟨a,cap,b,off,cs,h1,h2,h3,h4,h5⟩:=h; refine ⟨a,cap,b,off,cs,h1,h2,fun hl=>?_,fun i hi j u hu=>?_,fun i x hx=>hR.move (h5 i x hx) hm⟩
 ·obtain ⟨e,hs,hb⟩:=h3 hl
  exact ⟨e,(hm b hb hs).1,lt_same hb (hm b hb hs).2⟩
 ·obtain ⟨e,hs,hb⟩:=h3 (by omega)
  rw [World.cell?_of_block (w:=w) (hm b hb hs).2]; exact h4 i hi j u hu
theorem SlR.below (hR : Good sz R) (h : SlR sz R S w l v) (hb : Below w.heap.size w w') : SlR sz R S w' l v:=h.move hR fun k hk hs=>⟨hs,hb.block k hk⟩
theorem SlR.mono (hR : Good sz R) (h : SlR sz R S w l v) (hs : ∀ k,k < w.heap.size → S k → T k) : SlR sz R T w l v:=h.move hR fun k hk hk2=>⟨hs k hk hk2,rfl⟩
theorem SlR.fr (hR : Good sz R) (h : SlR sz R S w l v) {G : Foot} (hf : Fr G w w') (hs : ∀ k,S k → ¬ G k) : SlR sz R S w' l v:=h.move hR fun k hk hk2=>⟨hk2,hf.block k hk (hs k hk2)⟩
theorem SlR.slice (h : SlR sz R S w l v) : ∃ a cap,v = .slice a l.length cap ∧ l.length ≤ cap:=by
 obtain ⟨a,cap,b,off,cs,h1,h2,_⟩:=h; exact ⟨a,cap,h1,h2⟩
/-- element i: its address, its cells -/
theorem SlR.at {P : Program} {t : TypeId} {a : Option Addr} {n cap i : Nat} (h : SlR sz R S w l (.slice a n cap)) (ht : P.underlying t = some (.slice (P.elem t))) (hz : ∀ w,(sizeOf (P.elem t)).run P w = .ok sz w) (hi : l[i]? = some x) :
  ∃ g o cs,(∀ kd W,(Instr.indexAt t (.slice a n cap) (.int kd i)).run P W = .ok (.pointer (some ⟨g,o,none⟩)) W) ∧ S g ∧ g < w.heap.size ∧ (∀ j u,cs[j]? = some u → w.cell? ⟨g,o + j,none⟩ = some u) ∧ R S w x cs:=by
 obtain ⟨a',cap',b,off,cs,h1,h2,h3,h4,h5⟩:=h; simp only [Value.slice.injEq] at h1; obtain ⟨rfl,rfl,rfl⟩:=h1; have hlt:=(List.getElem?_eq_some_iff.1 hi).1; obtain ⟨e,hs,hb⟩:=h3 (by omega); exact ⟨b,off + i * sz,cs i,fun kd W=>row_idx ht hz e l.length cap i hlt kd W,hs,hb,h4 i hlt,h5 i x hi⟩
end
/-- the cells from o on are set -/
def setCells (w : World) (b : Nat) : Nat → List Value → World
 | _,[]=>w
 | o,u :: cs=>setCells (w.setCell ⟨b,o,none⟩ u) b (o + 1) cs
def putList : List Value → Nat → List Value → List Value
 | xs,_,[]=>xs
 | xs,o,u :: cs=>putList (xs.set o u) (o + 1) cs
theorem putList_other : ∀ (cs xs : List Value) (o i : Nat),i < o ∨ o + cs.length ≤ i → (putList xs o cs)[i]? = xs[i]?
 | [],_,_,_,_=>rfl
 | u :: cs,xs,o,i,h=>by
  rw [putList,putList_other cs _ _ _ (by simp at h; omega)]; rw [List.getElem?_set_ne (by simp at h; omega)]
theorem putList_at : ∀ (cs xs : List Value) (o j : Nat),j < cs.length → o + cs.length ≤ xs.length → (putList xs o cs)[o + j]? = cs[j]?
 | [],_,_,j,h,_=>absurd h (by simp)
 | u :: cs,xs,o,0,_,hl=>by
  simp only [List.length_cons] at hl; rw [putList,putList_other cs _ _ _ (by omega),Nat.add_zero,List.getElem?_set_self (by omega)]; rfl
 | u :: cs,xs,o,j + 1,h,hl=>by
  have:=putList_at cs (xs.set o u) (o + 1) j (by simpa using h) (by simp at hl ⊢; omega); rw [putList,show o + (j + 1) = o + 1 + j by omega,this]; simp
theorem setCells_other (b : Nat) : ∀ (cs : List Value) (w : World) (o k : Nat),k ≠ b → (setCells w b o cs).heap[k]? = w.heap[k]?
 | [],_,_,_,_=>rfl
 | u :: cs,w,o,k,h=>by rw [setCells,setCells_other b cs _ _ _ h,heap_setCell_other u h]
theorem Fr.setCells {S : Foot} {b : Nat} : ∀ (cs : List Value) {a w : World} (o : Nat),Fr S a w → (S b ∨ a.heap.size ≤ b) → Fr S a (setCells w b o cs)
 | [],_,_,_,h,_=>h
 | u :: cs,_,_,o,h,hb=>Fr.setCells cs (o + 1) (h.setCell hb u) hb
theorem owns_setCells {base g n cap : Nat} {e : TypeId} {sz : Nat} : ∀ (cs : List Value) (w : World) (xs : List Value) (o : Nat),w.ownsRow base e sz (.slice (some ⟨g,0,none⟩) n cap) n xs → o + cs.length ≤ n * sz →
  (setCells w g o cs).ownsRow base e sz (.slice (some ⟨g,0,none⟩) n cap) n (putList xs o cs)
 | [],_,_,_,h,_=>h
 | u :: cs,w,xs,o,h,hl=>by
  rw [setCells,putList]; exact owns_setCells cs _ _ (o + 1) (h.stored o u).1 (by simp at hl; omega)

/-- the slice v is a row of the owner's own (elements of type E, sz cells each) that stands for l -/
def OwnR {α : Type} (E : TypeId) (sz : Nat) (R : Rel α) (S : Foot) (w : World) (l : List α) (v : Value) : Prop :=
 ∃ xs,w.ownsRow 0 E sz v l.length xs ∧ (∀ k,v.ownBlock = some k → S k) ∧ ∀ i x,l[i]? = some x → ∃ cs,(∀ j u,cs[j]? = some u → xs[i * sz + j]? = some u) ∧ R (fun k=>S k ∧ v.ownBlock ≠ some k) w x cs
theorem owns_move {w w' : World} {base base' : Nat} {e : TypeId} {sz n : Nat} {v : Value} {xs : List Value} (h : w.ownsRow base e sz v n xs) (hk : ∀ k,v.ownBlock = some k → w'.heap[k]? = w.heap[k]?) (hb : ∀ k,v.ownBlock = some k → base' ≤ k) : w'.ownsRow base' e sz v n xs:=by
 obtain ⟨h1,h2⟩:=h; refine ⟨h1,?_⟩; rcases h2 with h2 | ⟨g,cap,cur,rfl,_,hg,rest⟩
 ·exact Or.inl h2
 ·exact Or.inr ⟨g,cap,cur,rfl,hb g rfl,(hk g rfl).trans hg,rest⟩
theorem owns_form {w : World} {base : Nat} {e : TypeId} {sz n : Nat} {v : Value} {xs : List Value} (h : w.ownsRow base e sz v n xs) : ∃ a c,v = .slice a n c ∧ n ≤ c ∧ c ≤ maxLen:=by
 rcases h.2 with ⟨rfl,rfl⟩ | ⟨g,cap,cur,rfl,_,_,h1,h2,_⟩
 ·exact ⟨_,_,rfl,Nat.le_refl _,Nat.zero_le _⟩
 ·exact ⟨_,_,rfl,h1,h2⟩
section
variable {α : Type} {E : TypeId} {sz : Nat} {R : Rel α} {S T : Foot} {w w' : World} {x : α} {l : List α} {v : Value}
theorem OwnR.nil (E : TypeId) (sz : Nat) (R : Rel α) (S : Foot) (w : World) : OwnR E sz R S w [] (.slice none 0 0) :=
 ⟨[],World.ownsRow_nil _ _ _ _,fun k h=>by simp [Value.ownBlock] at h,fun i x h=>by simp at h⟩
theorem OwnR.lt (h : OwnR E sz R S w l v) {k : Nat} (hk : v.ownBlock = some k) : k < w.heap.size:=by
 obtain ⟨xs,h1,_⟩:=h; exact (h1.lt k hk).2
theorem OwnR.slice (h : OwnR E sz R S w l v) : ∃ a c,v = .slice a l.length c ∧ l.length ≤ c ∧ c ≤ maxLen:=by
 obtain ⟨xs,h1,_⟩:=h; exact owns_form h1
theorem OwnR.move (hR : Good sz R) (h : OwnR E sz R S w l v) (hm : ∀ k,k < w.heap.size → S k → T k ∧ w'.heap[k]? = w.heap[k]?) : OwnR E sz R T w' l v:=by
 obtain ⟨xs,h1,h2,h3⟩:=h; refine ⟨xs,owns_move h1 (fun k hk=>(hm k (h1.lt k hk).2 (h2 k hk)).2) (fun _ _=>Nat.zero_le _),fun k hk=>(hm k (h1.lt k hk).2 (h2 k hk)).1,fun i x hx=>?_⟩; obtain ⟨cs,h4,h5⟩:=h3 i x hx; exact ⟨cs,h4,hR.move h5 fun k hk hs=>⟨⟨(hm k hk hs.1).1,hs.2⟩,(hm k hk hs.1).2⟩⟩
theorem OwnR.below (hR : Good sz R) (h : OwnR E sz R S w l v) (hb : Below w.heap.size w w') : OwnR E sz R S w' l v:=h.move hR fun k hk hs=>⟨hs,hb.block k hk⟩
theorem OwnR.mono (hR : Good sz R) (h : OwnR E sz R S w l v) (hs : ∀ k,k < w.heap.size → S k → T k) : OwnR E sz R T w l v:=h.move hR fun k hk hk2=>⟨hs k hk hk2,rfl⟩
theorem OwnR.fr (hR : Good sz R) (h : OwnR E sz R S w l v) {G : Foot} (hf : Fr G w w') (hs : ∀ k,S k → ¬ G k) : OwnR E sz R S w' l v:=h.move hR fun k hk hk2=>⟨hk2,hf.block k hk (hs k hk2)⟩
theorem OwnR.sl (hR : Good sz R) (h : OwnR E sz R S w l v) : SlR sz R S w l v:=by
 obtain ⟨xs,h1,h2,h3⟩:=h
 have hcs : ∀ i,∃ cs : List Value,∀ x,l[i]? = some x → (∀ j u,cs[j]? = some u → xs[i * sz + j]? = some u) ∧ R (fun k=>S k ∧ v.ownBlock ≠ some k) w x cs:=by
  intro i; rcases hx : l[i]? with _ | x
  ·exact ⟨[],fun x h=>by simp at h⟩
  ·obtain ⟨cs,h4,h5⟩:=h3 i x hx
   exact ⟨cs,fun y hy=>by injection hy with hy; subst hy; exact ⟨h4,h5⟩⟩
 obtain ⟨cs,hcs⟩ : ∃ cs : Nat → List Value,∀ i x,l[i]? = some x → (∀ j u,(cs i)[j]? = some u → xs[i * sz + j]? = some u) ∧ R (fun k=>S k ∧ v.ownBlock ≠ some k) w x (cs i):=Classical.axiomOfChoice hcs; rcases h1.2 with ⟨rfl,h0⟩ | ⟨g,cap,cur,rfl,hb,hg,hn,hm,hs,ht⟩
 ·have : l = []:=List.eq_nil_of_length_eq_zero h0
  subst this; exact SlR.nil _ _ _ _ _
 ·refine ⟨some ⟨g,0,none⟩,cap,g,0,cs,rfl,hn,fun _=>⟨rfl,h2 g rfl,lt_of_some hg⟩,fun i hi j u hu=>?_,fun i x hx=>hR.mono (hcs i x hx).2 (fun k _ h=>h.1)⟩
  obtain ⟨h4,h5⟩:=hcs i l[i] (List.getElem?_eq_getElem hi)
  have hj : j < sz:=by have:=(List.getElem?_eq_some_iff.1 hu).1; rw [hR.len h5] at this; exact this
  have hlt : i * sz + j < l.length * sz:=by
   have : i * sz + sz ≤ l.length * sz:=by rw [← Nat.succ_mul]; exact Nat.mul_le_mul_right _ hi
   omega
  rw [Nat.zero_add,h1.cellAt _ hlt]; exact h4 j u hu
/-- element i of an owned row is replaced -/
theorem OwnR.set (hR : Good sz R) {g n cap i : Nat} (h : OwnR E sz R S w l (.slice (some ⟨g,0,none⟩) n cap)) (hi : i < l.length) {cs : List Value} (hx : R (fun k=>S k ∧ k ≠ g) w x cs) :
  OwnR E sz R S (setCells w g (i * sz) cs) (l.set i x) (.slice (some ⟨g,0,none⟩) n cap):=by
 obtain ⟨xs,h1,h2,h3⟩:=h; obtain ⟨a,c,e,_,_⟩:=owns_form h1; simp only [Value.slice.injEq] at e; obtain ⟨-,rfl,-⟩:=e; have hcl:=hR.len hx
 have hle : i * sz + sz ≤ l.length * sz:=by rw [← Nat.succ_mul]; exact Nat.mul_le_mul_right _ hi
 refine ⟨putList xs (i * sz) cs,by rw [List.length_set]; exact owns_setCells cs w xs (i * sz) h1 (by omega),h2,fun k y hy=>?_⟩
 have hfr : ∀ (q : Nat),q < w.heap.size → (S q ∧ (Value.slice (some ⟨g,0,none⟩) l.length cap).ownBlock ≠ some q) → (S q ∧ (Value.slice (some ⟨g,0,none⟩) l.length cap).ownBlock ≠ some q) ∧ (setCells w g (i * sz) cs).heap[q]? = w.heap[q]? :=
  fun q _ hs=>⟨hs,setCells_other g cs w _ q (fun e=>hs.2 (by rw [e]; rfl))⟩
 by_cases e : k = i
 ·subst e
  rw [List.getElem?_set_self hi] at hy; injection hy with hy; subst hy; refine ⟨cs,fun j u hu=>?_,?_⟩
  ·have hj:=(List.getElem?_eq_some_iff.1 hu).1
   rw [putList_at cs xs _ _ hj (by rw [h1.1]; omega)]; exact hu
  ·exact hR.move hx fun q hq hs=>hfr q hq ⟨hs.1,fun e=>hs.2 (by injection e with e; exact e.symm)⟩
 ·rw [List.getElem?_set_ne (fun e2=>e e2.symm)] at hy
  obtain ⟨ds,h4,h5⟩:=h3 k y hy; refine ⟨ds,fun j u hu=>?_,hR.move h5 hfr⟩
  have hj : j < sz:=by have:=(List.getElem?_eq_some_iff.1 hu).1; rw [hR.len h5] at this; exact this
  have hkl:=(List.getElem?_eq_some_iff.1 hy).1; rw [putList_other cs xs _ _ ?_]
  ·exact h4 j u hu
  ·rcases Nat.lt_or_gt_of_ne e with h | h
   ·left
    have : k * sz + sz ≤ i * sz:=by rw [← Nat.succ_mul]; exact Nat.mul_le_mul_right _ h
    omega
   ·right
    have : i * sz + sz ≤ k * sz:=by rw [← Nat.succ_mul]; exact Nat.mul_le_mul_right _ h
    omega
/-- after an append of one element's cells: the row is another, perhaps -/
theorem OwnR.push (hR : Good sz R) (h : OwnR E sz R S w l v) {v' : Value} {cs : List Value} (hown : ∀ xs,w.ownsRow 0 E sz v l.length xs → w'.ownsRow 0 E sz v' (l.length + 1) (xs ++ cs)) (hg : w.grownBy w' v.ownBlock) (hv : v'.ownBlock = v.ownBlock ∨ v'.ownBlock = some w.heap.size)
  (hST : ∀ k,S k → T k) (hnew : T w.heap.size) (hx : R (fun k=>T k ∧ v.ownBlock ≠ some k ∧ k < w.heap.size) w x cs) : OwnR E sz R T w' (l ++ [x]) v':=by
 obtain ⟨xs,h1,h2,h3⟩:=h
 have hkeep : ∀ {y : α} {ds : List Value} {U : Foot},R U w y ds → (∀ k,k < w.heap.size → U k → T k ∧ v.ownBlock ≠ some k) → R (fun k=>T k ∧ v'.ownBlock ≠ some k) w' y ds:=by
  intro y ds U hy hU
  refine hR.move hy fun k hk hu=>?_
  obtain ⟨h6,h7⟩:=hU k hk hu; refine ⟨⟨h6,?_⟩,hg.block k hk (fun e=>h7 e.symm)⟩; rcases hv with hv | hv
  ·rw [hv]; exact h7
  ·rw [hv]; intro e; injection e with e; omega
 refine ⟨xs ++ cs,by rw [List.length_append]; exact hown xs h1,fun k hk=>?_,fun i y hy=>?_⟩
 ·rcases hv with hv | hv
  ·exact hST k (h2 k (hv ▸ hk))
  ·rw [hv] at hk; injection hk with hk; subst hk; exact hnew
 ·by_cases hi : i < l.length
  ·rw [List.getElem?_append_left hi] at hy
   obtain ⟨ds,h4,h5⟩:=h3 i y hy; refine ⟨ds,fun j u hu=>?_,hkeep h5 fun k hk hs=>⟨hST k hs.1,hs.2⟩⟩; have:=h4 j u hu; rw [List.getElem?_append_left (List.getElem?_eq_some_iff.1 this).1]; exact this
  ·have hil : i = l.length:=by
    have:=(List.getElem?_eq_some_iff.1 hy).1; simp at this; omega
   subst hil; rw [List.getElem?_append_right (Nat.le_refl _),Nat.sub_self] at hy; simp at hy; subst hy; refine ⟨cs,fun j u hu=>?_,hkeep hx fun k hk hs=>⟨hs.1,hs.2.1⟩⟩; have hxl:=h1.1; rw [List.getElem?_append_right (by omega),show l.length * sz + j - xs.length = j by omega]; exact hu
end
end Go.Proofs.YtbkdakbhagjkhaaGreatDoor
