/- The types of package api that the laws use: values, effects in force, commands; how they lie in memory. -/
import Derived.Test.YtfejagpjahoibaaGreatDoorChecked
import Derived.Test.YtfejagpjahoibaaGreatDoorRel
import Derived.OwnWalk
set_option linter.unusedVariables false
namespace Go.Proofs.YtfejagpjahoibaaGreatDoor
open Go.RowKit
open Go.Lib (hid)
inductive Val where
 | mk (kind:Int) (t:List UInt8) (n m:Int) (s:List UInt8) (l:List Val)
namespace Val
def kind:Val→Int | mk k _ _ _ _ _=>k
def t:Val→List UInt8 | mk _ t _ _ _ _=>t
def n:Val→Int | mk _ _ n _ _ _=>n
def m:Val→Int | mk _ _ _ m _ _=>m
def s:Val→List UInt8 | mk _ _ _ _ s _=>s
def l:Val→List Val | mk _ _ _ _ _ l=>l
end Val
theorem val_mem_lt {x y:Val} (h:y∈x.l):SizeOf.sizeOf y < SizeOf.sizeOf x:=by
 obtain ⟨k,t,n,m,s,l⟩:=x; have:=List.sizeOf_lt_of_mem (show y∈l from h); simp only [Val.mk.sizeOf_spec]; omega
/-- the cells of a value, the row of its elements aside -/
abbrev valCs (x:Val) (v:Value):List Value:=[iv x.kind,sv x.t,iv x.n,iv x.m,sv x.s,v]
inductive ValP (S:Foot) (w:World):Val→List Value→Prop
 | mk (x:Val) (a:Option Addr) (cap b off:Nat) (cs:Nat→List Value) (h1:x.l.length≤cap) (h2:0 < x.l.length→a=some ⟨b,off,none⟩∧S b∧b < w.heap.size)
   (h3:∀ i,i < x.l.length→∀ j u,(cs i)[j]? = some u→w.cell? ⟨b,off+i * 6+j,none⟩=some u) (h4:∀ i y,x.l[i]? = some y→ValP S w y (cs i)):ValP S w x (valCs x (.slice a x.l.length cap))
def ValR:Rel Val:=fun S w x cs=>ValP S w x cs
theorem goodVal:Good 6 ValR:=by
 refine ⟨fun h=>by cases h; rfl,fun h u hu=>?_,fun {S T w w' x cs} h hm=>?_⟩
 ·cases h
  simp only [List.mem_cons,List.not_mem_nil,or_false] at hu; rcases hu with rfl | rfl | rfl | rfl | rfl | rfl <;> rfl
 ·induction h with
  | mk x a cap b off cs h1 h2 h3 h4 ih =>
   refine ValP.mk x a cap b off cs h1 (fun hl=>?_) (fun i hi j u hu=>?_) ih
   ·obtain ⟨e,hs,hb⟩:=h2 hl
    exact ⟨e,(hm b hb hs).1,lt_same hb (hm b hb hs).2⟩
   ·obtain ⟨e,hs,hb⟩:=h2 (by omega)
    rw [World.cell?_of_block (w:=w) (hm b hb hs).2]; exact h3 i hi j u hu
abbrev ValsR:Foot→World→List Val→Value→Prop:=SlR 6 ValR
theorem valR_open {S:Foot} {w:World} {x:Val} {cs:List Value} (h:ValR S w x cs):∃ a cap,cs=valCs x (.slice a x.l.length cap)∧ValsR S w x.l (.slice a x.l.length cap):=by
 cases h with
 | mk x a cap b off cs h1 h2 h3 h4=>exact ⟨a,cap,rfl,a,cap,b,off,cs,rfl,h1,h2,h3,h4⟩
theorem valR_shut {S:Foot} {w:World} {x:Val} {v:Value} (h:ValsR S w x.l v):ValR S w x (valCs x v):=by
 obtain ⟨a,cap,b,off,cs,rfl,h1,h2,h3,h4⟩:=h; exact ValP.mk x a cap b off cs h1 h2 h3 h4
/-- an effect in force -/
structure Out where
 key:List UInt8
 name:List UInt8
 args:List Val
 part:Bool
 tick:Int
abbrev outCs (o:Out) (v:Value):List Value:=[sv o.key,sv o.name,v,.bool o.part,iv o.tick]
def OutR:Rel Out:=fun S w o cs=>∃ a cap,cs=outCs o (.slice a o.args.length cap)∧ValsR S w o.args (.slice a o.args.length cap)
theorem goodOut:Good 5 OutR:=by
 refine ⟨fun h=>by obtain ⟨a,c,rfl,_⟩:=h; rfl,fun h u hu=>?_,fun h hm=>?_⟩
 ·obtain ⟨a,c,rfl,_⟩:=h
  simp only [List.mem_cons,List.not_mem_nil,or_false] at hu; rcases hu with rfl | rfl | rfl | rfl | rfl <;> rfl
 ·obtain ⟨a,c,rfl,h⟩:=h
  exact ⟨a,c,rfl,h.move goodVal hm⟩
theorem outR_shut {S:Foot} {w:World} {o:Out} {v:Value} (h:ValsR S w o.args v):OutR S w o (outCs o v):=by
 obtain ⟨a,cap,rfl,_⟩:=h.slice; exact ⟨a,cap,rfl,h⟩
/-- a command -/
structure Cmd where
 key:List UInt8
 kind:Int
 of:List UInt8
 new:List UInt8
 name:List UInt8
 args:List Val
abbrev cmdCs (c:Cmd) (v:Value):List Value:=[sv c.key,iv c.kind,sv c.of,sv c.new,sv c.name,v]
def CmdR:Rel Cmd:=fun S w c cs=>∃ a cap,cs=cmdCs c (.slice a c.args.length cap)∧ValsR S w c.args (.slice a c.args.length cap)
theorem goodCmd:Good 6 CmdR:=by
 refine ⟨fun h=>by obtain ⟨a,c,rfl,_⟩:=h; rfl,fun h u hu=>?_,fun h hm=>?_⟩
 ·obtain ⟨a,c,rfl,_⟩:=h
  simp only [List.mem_cons,List.not_mem_nil,or_false] at hu; rcases hu with rfl | rfl | rfl | rfl | rfl | rfl <;> rfl
 ·obtain ⟨a,c,rfl,h⟩:=h
  exact ⟨a,c,rfl,h.move goodVal hm⟩
theorem cmdR_shut {S:Foot} {w:World} {c:Cmd} {v:Value} (h:ValsR S w c.args v):CmdR S w c (cmdCs c v):=by
 obtain ⟨a,cap,rfl,_⟩:=h.slice; exact ⟨a,cap,rfl,h⟩
/-- sizes that a machine can hold -/
inductive ValB:Val→Prop
 | mk (x:Val) (h1:x.l.length≤1048576) (h2:x.t.length≤1048576) (h3:x.s.length≤1048576) (h4:∀ y∈x.l,ValB y):ValB x
theorem ValB.len {x:Val} (h:ValB x):x.l.length≤1048576:=by cases h; assumption
theorem ValB.mem {x y:Val} (h:ValB x) (hy:y∈x.l):ValB y:=by cases h; rename_i h4; exact h4 y hy
def ValsB (l:List Val):Prop:=l.length≤1048576∧∀ x∈l,ValB x
theorem ValB.l {x:Val} (h:ValB x):ValsB x.l:=⟨h.len,fun _=>h.mem⟩

/-- the first k elements of the row v stand for those of l -/
def PartR {α:Type} (E:TypeId) (sz:Nat) (R:Rel α) (S:Foot) (w:World) (l:List α) (v:Value) (k:Nat):Prop :=
 ∃ xs,w.ownsRow 0 E sz v l.length xs∧(∀ q,v.ownBlock=some q→S q)∧∀ i x,i < k→l[i]? = some x→∃ cs,(∀ j u,cs[j]? = some u→xs[i * sz+j]? = some u)∧R (fun q=>S q∧v.ownBlock≠some q) w x cs
section
variable {α:Type} {E:TypeId} {sz:Nat} {R:Rel α} {S T:Foot} {w w':World} {x:α} {l:List α} {v:Value} {k:Nat}
theorem PartR.start {base:Nat} {xs:List Value} (h:w.ownsRow base E sz v l.length xs) (hs:∀ q,base≤q→S q):PartR E sz R S w l v 0 :=
 ⟨xs,owns_move h (fun _ _=>rfl) (fun _ _=>Nat.zero_le _),fun q hq=>hs q (h.lt q hq).1,fun i x hi=>absurd hi (by omega)⟩
theorem PartR.all (h:PartR E sz R S w l v l.length):OwnR E sz R S w l v:=by
 obtain ⟨xs,h1,h2,h3⟩:=h; exact ⟨xs,h1,h2,fun i x hx=>h3 i x (List.getElem?_eq_some_iff.1 hx).1 hx⟩
theorem PartR.move (hR:Good sz R) (h:PartR E sz R S w l v k) (hm:∀ q,q < w.heap.size→S q→T q∧w'.heap[q]? = w.heap[q]?):PartR E sz R T w' l v k:=by
 obtain ⟨xs,h1,h2,h3⟩:=h; refine ⟨xs,owns_move h1 (fun q hq=>(hm q (h1.lt q hq).2 (h2 q hq)).2) (fun _ _=>Nat.zero_le _),fun q hq=>(hm q (h1.lt q hq).2 (h2 q hq)).1,fun i x hi hx=>?_⟩; obtain ⟨cs,h4,h5⟩:=h3 i x hi hx; exact ⟨cs,h4,hR.move h5 fun q hq hs=>⟨⟨(hm q hq hs.1).1,hs.2⟩,(hm q hq hs.1).2⟩⟩
theorem PartR.below (hR:Good sz R) (h:PartR E sz R S w l v k) (hb:Below w.heap.size w w'):PartR E sz R S w' l v k:=h.move hR fun q hq hs=>⟨hs,hb.block q hq⟩
theorem PartR.lt (h:PartR E sz R S w l v k) {q:Nat} (hq:v.ownBlock=some q):q < w.heap.size:=by obtain ⟨xs,h1,_⟩:=h; exact (h1.lt q hq).2
/-- the cells of an element: they are there and may be written -/
theorem PartR.there {g n cap i j:Nat} (h:PartR E sz R S w l (.slice (some ⟨g,0,none⟩) n cap) k) (hi:i < l.length) (hj:j < sz):(∃ u,w.cell? ⟨g,i * sz+j,none⟩=some u)∧w.frozen? ⟨g,i * sz+j,none⟩=false:=by
 obtain ⟨xs,h1,_⟩:=h; obtain ⟨a,c,e,_,_⟩:=owns_form h1; simp only [Value.slice.injEq] at e; obtain ⟨-,rfl,-⟩:=e
 have hle:i * sz+sz≤l.length * sz:=by rw [← Nat.succ_mul]; exact Nat.mul_le_mul_right _ hi
 refine ⟨?_,h1.frozenAt _⟩; rw [h1.cellAt _ (by omega)]; exact ⟨_,List.getElem?_eq_getElem (by rw [h1.1]; omega)⟩
theorem PartR.set (hR:Good sz R) {g n cap:Nat} (h:PartR E sz R S w l (.slice (some ⟨g,0,none⟩) n cap) k) (hi:l[k]? = some x) {cs:List Value} (hx:R (fun q=>S q∧q≠g) w x cs) :
  PartR E sz R S (setCells w g (k * sz) cs) l (.slice (some ⟨g,0,none⟩) n cap) (k+1):=by
 obtain ⟨xs,h1,h2,h3⟩:=h; obtain ⟨a,c,e,_,_⟩:=owns_form h1; simp only [Value.slice.injEq] at e; obtain ⟨-,rfl,-⟩:=e; have hk:=(List.getElem?_eq_some_iff.1 hi).1; have hcl:=hR.len hx
 have hle:k * sz+sz≤l.length * sz:=by rw [← Nat.succ_mul]; exact Nat.mul_le_mul_right _ hk
 refine ⟨putList xs (k * sz) cs,owns_setCells cs w xs (k * sz) h1 (by omega),h2,fun i y hik hy=>?_⟩
 have hfr:∀ (q:Nat),q < w.heap.size→(S q∧(Value.slice (some ⟨g,0,none⟩) l.length cap).ownBlock≠some q)→(S q∧(Value.slice (some ⟨g,0,none⟩) l.length cap).ownBlock≠some q)∧(setCells w g (k * sz) cs).heap[q]? = w.heap[q]? :=
  fun q _ hs=>⟨hs,setCells_other g cs w _ q (fun e=>hs.2 (by rw [e]; rfl))⟩
 by_cases e:i=k
 ·subst e
  rw [hi] at hy; injection hy with hy; subst hy; refine ⟨cs,fun j u hu=>?_,?_⟩
  ·have hj:=(List.getElem?_eq_some_iff.1 hu).1
   rw [putList_at cs xs _ _ hj (by rw [h1.1]; omega)]; exact hu
  ·exact hR.move hx fun q hq hs=>hfr q hq ⟨hs.1,fun e=>hs.2 (by injection e with e; exact e.symm)⟩
 ·obtain ⟨ds,h4,h5⟩:=h3 i y (by omega) hy
  refine ⟨ds,fun j u hu=>?_,hR.move h5 hfr⟩
  have hj:j < sz:=by have:=(List.getElem?_eq_some_iff.1 hu).1; rw [hR.len h5] at this; exact this
  have:i * sz+sz≤k * sz:=by rw [← Nat.succ_mul]; exact Nat.mul_le_mul_right _ (by omega)
  rw [putList_other cs xs _ _ (by omega)]; exact h4 j u hu
end
theorem infoVal:(Tryz.prog.info? 47).map (fun i=>(i.zero,i.size,i.bytes))=some (some (.agg #[.int .i64 0,.string .empty,.int .i64 0,.int .i64 0,.string .empty,.slice none 0 0]),6,80):=by kernel_rfl
theorem infoOut:(Tryz.prog.info? 37).map (fun i=>(i.zero,i.size,i.bytes))=some (some (.agg #[.string .empty,.string .empty,.slice none 0 0,.bool false,.int .i64 0]),5,72):=by kernel_rfl
end Go.Proofs.YtfejagpjahoibaaGreatDoor
