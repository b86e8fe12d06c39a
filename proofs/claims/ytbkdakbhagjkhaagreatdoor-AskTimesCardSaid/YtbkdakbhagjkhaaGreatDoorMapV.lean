/- A map in memory as a function on keys; its elements are values of any make. No program. -/
import Derived.Test.YtbkdakbhagjkhaaGreatDoorRel
import Derived.Maps.Own
import Derived.Maps.OwnOps
import Derived.Maps.OwnSet
import Derived.Maps.Views
set_option linter.unusedVariables false
namespace Go.Proofs.YtbkdakbhagjkhaaGreatDoor
open Go.RowKit
open Go.Maps (Keyed has IsMap)
def heldV : Value → Option (DataW Value × List MemPlace):=fun v=>some (.held v,[])
/-- block b is a map of at most N entries; f says which value stands at which key -/
def MapV (P : Program) (k : TypeId) (b N : Nat) (f : Lit → Option Value) (w : World) : Prop :=
 ∃ D : DataW Value,w.ownsMap P k heldV b N D ∧ ∀ kl,WideAt.IsKeyLit kl → has D kl = (f kl).isSome ∧ ∀ v,f kl = some v → ∀ z,D.atKey kl z = .held v
section
variable {P : Program} {k e t : TypeId} {b N : Nat} {f : Lit → Option Value} {w w' : World}
theorem MapV.made (w : World) : MapV P k w.heap.size 0 (fun _=>none) (w.alloc (.map #[] 0)) :=
 ⟨.map [],World.ownsMap_made _ _ _ _,fun kl _=>⟨rfl,fun v h=>by cases h⟩⟩
theorem MapV.lt (h : MapV P k b N f w) : b < w.heap.size:=by obtain ⟨D,h1,_⟩:=h; exact h1.lt
theorem MapV.same (h : MapV P k b N f w) (hb : w'.heap[b]? = w.heap[b]?) : MapV P k b N f w':=by
 obtain ⟨D,⟨es,clock,h1,h2⟩,h3⟩:=h; exact ⟨D,⟨es,clock,hb.trans h1,h2⟩,h3⟩
theorem MapV.mono (h : MapV P k b N f w) {M : Nat} (hN : N ≤ M) : MapV P k b M f w:=by obtain ⟨D,h1,h2⟩:=h; exact ⟨D,h1.mono hN,h2⟩
theorem MapV.below (h : MapV P k b N f w) {B : Nat} (hb : Below B w w') (hB : b < B) : MapV P k b N f w':=h.same (hb.block b hB)
theorem MapV.fr (h : MapV P k b N f w) {G : Foot} (hf : Fr G w w') (hs : ¬ G b) : MapV P k b N f w':=h.same (hf.block b h.lt hs)
theorem MapV.alloc (h : MapV P k b N f w) (o : Obj) : MapV P k b N f (w.alloc o):=h.same (Below.heap_alloc _ _ _ h.lt)
theorem MapV.drew (h : MapV P k b N f w) : MapV P k b N f w.drew:=h.same rfl
theorem MapV.drewN (h : MapV P k b N f w) (n : Nat) : MapV P k b N f (w.drewN n):=h.same rfl
theorem MapV.setCell (h : MapV P k b N f w) {p : Addr} (hp : p.block ≠ b) (u : Value) : MapV P k b N f (w.setCell p u):=h.same (Below.heap_setCell _ _ _ _ (Ne.symm hp))
theorem MapV.congr {g : Lit → Option Value} (h : MapV P k b N f w) (hg : ∀ kl,WideAt.IsKeyLit kl → g kl = f kl) : MapV P k b N g w:=by
 obtain ⟨D,h1,h2⟩:=h; exact ⟨D,h1,fun kl hk=>by rw [hg kl hk]; exact h2 kl hk⟩
theorem MapV.look (h : MapV P k b N f w) (K : Keyed P k) (ht : P.underlying t = some (.map k e)) {z : Value} (hz : (zeroValue e).run P w = .ok z w) {key : Value} {kl : Lit} (hkey : keyOf P k key = some kl) (hkl : WideAt.IsKeyLit kl) :
  (Instr.lookup t (.map (some b)) key false).run P w = .ok ((f kl).getD z) w:=by
 obtain ⟨D,h1,h2⟩:=h; obtain ⟨v,ps,hrun,hv⟩:=h1.lookup K ht hz (zd:=.held z) (zp:=[]) rfl hkey
 have hv2 : DataW.held v = D.atKey kl (.held z):=by simp only [heldV,Option.some.injEq,Prod.mk.injEq] at hv; exact hv.1
 rw [hrun]; obtain ⟨h3,h4⟩:=h2 kl hkl; rcases hf : f kl with _ | u
 ·rw [hf] at h3
  rw [Maps.atKey_of_not_has (by simpa using h3)] at hv2; injection hv2 with hv2; subst hv2; rfl
 ·rw [h4 u hf] at hv2
  injection hv2 with hv2; subst hv2; rfl
theorem MapV.look_ok (h : MapV P k b N f w) (K : Keyed P k) (ht : P.underlying t = some (.map k e)) {z : Value} (hz : (zeroValue e).run P w = .ok z w) {key : Value} {kl : Lit} (hkey : keyOf P k key = some kl) (hkl : WideAt.IsKeyLit kl) :
  (Instr.lookup t (.map (some b)) key true).run P w = .ok (.tuple #[(f kl).getD z,.bool (f kl).isSome]) w:=by
 obtain ⟨D,h1,h2⟩:=h; obtain ⟨v,ps,hrun,hv⟩:=h1.look_ok K ht hz (zd:=.held z) (zp:=[]) rfl hkey
 have hv2 : DataW.held v = D.atKey kl (.held z):=by simp only [heldV,Option.some.injEq,Prod.mk.injEq] at hv; exact hv.1
 rw [hrun]; obtain ⟨h3,h4⟩:=h2 kl hkl; rcases hf : f kl with _ | u
 ·rw [hf] at h3
  rw [Maps.atKey_of_not_has (by simpa using h3)] at hv2; injection hv2 with hv2; subst hv2; rw [h3]; rfl
 ·rw [hf] at h3
  rw [h4 u hf] at hv2; injection hv2 with hv2; subst hv2; rw [h3]; rfl
open Classical in
noncomputable def putF (f : Lit → Option Value) (kl : Lit) (v : Value) : Lit → Option Value:=fun x=>if x = kl then some v else f x
theorem MapV.put (h : MapV P k b N f w) (K : Keyed P k) (ht : P.underlying t = some (.map k e)) (hN : N < maxLen) {key : Value} {kl : Lit} (hkey : keyOf P k key = some kl) (hkl : WideAt.IsKeyLit kl) (v : Value) :
  ∃ w',(Instr.mapUpdate t (.map (some b)) key v).run P w = .ok () w' ∧ MapV P k b (N + 1) (putF f kl v) w' ∧ w.grownBy w' (some b):=by
 obtain ⟨D,h1,h2⟩:=h; obtain ⟨w',hrun,h3,h4⟩:=h1.update K ht hN hkey (val:=v) (d:=.held v) (ps:=[]) rfl
 have hm : IsMap D:=by obtain ⟨es,clock,_,_,_,rfl⟩:=h1; exact ⟨_,rfl⟩
 refine ⟨w',hrun,⟨_,h3,fun x hx=>?_⟩,h4⟩; unfold putF; by_cases e : x = kl
 ·subst e
  rw [if_pos rfl]; refine ⟨Maps.has_put_same hm hx _,fun u hu z=>?_⟩; injection hu with hu; subst hu; exact Maps.atKey_put_same hm hx _ z
 ·rw [if_neg e]
  refine ⟨(Maps.has_put_other e _).trans (h2 x hx).1,fun u hu z=>?_⟩; rw [Maps.atKey_put_other e]; exact (h2 x hx).2 u hu z
end
end Go.Proofs.YtbkdakbhagjkhaaGreatDoor
