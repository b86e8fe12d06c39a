/- Rel: Lib, Str, Rel, in one text. -/
import Derived.WalkKit
import Derived.WalkLawsBesides
import Derived.Lib.Hide
import Derived.Deep.DeepCutAuto
import Derived.Maps.AppendAt
set_option linter.unusedVariables false
namespace Go.Proofs.YtffdpoifdahadaaGreatDoor
open Go.RowKit
abbrev zM:=@Nat.le_refl
abbrev zN:=@Below.refl
abbrev zO:=@decide_eq_false
abbrev zP:=@decide_eq_true
abbrev zQ:=@List.length_append
abbrev zR:=@List.getElem?_eq_getElem
abbrev zS:=@Nat.lt_of_lt_of_le
abbrev zT:=@List.length_cons
abbrev zU:=@List.mem_of_getElem?
abbrev zV:=@Nat.le_trans
abbrev zW:=@Nat.zero_le
abbrev zX:=@IntKind.wrap_i64
abbrev zY:=@List.length_map
abbrev zZ:=@List.getD_eq_getElem?_getD
abbrev z7:=@Below.heap_alloc
abbrev z8:=@List.mem_append
abbrev z_:=@List.length_nil
abbrev Aa:=@List.getElem?_append_left
abbrev Ab:=@List.getElem?_append_right
abbrev Ac:=@List.drop_eq_getElem_cons
abbrev Ad:=@List.append_assoc
abbrev Ae:=@List.mem_cons
abbrev Af:=@World.cell?_of_block
abbrev Ag:=@Nat.lt_succ_self
abbrev Ah:=@List.length_take
abbrev Ai:=@List.getElem?_map
abbrev Aj:=@World.block_lt_of_cell?
abbrev Ak:=@Nat.mul_le_mul_right
abbrev Al:=@Option.some.injEq
open Go.Lib (hid IsBuilder byteCells)
theorem c_ (n:Int) (h0:0<=n) (h1:n < 2 ^ 63):IntKind.i64.wrap n=n:=by rw [zX]; omega
structure Fr (S:Nat->Prop) (w w':World):Prop where
 os:w'.os=w.os
 tape:w'.tape=w.tape
 output:w'.output=w.output
 size:w.heap.size<=w'.heap.size
 block:∀ k,k < w.heap.size->¬ S k->w'.heap[k]? = w.heap[k]?
def nS:Nat->Prop:=fun _=>False
def one (b:Nat):Nat->Prop:=fun k=>k=b
theorem Fr.refl (S:Nat->Prop) (w:World):Fr S w w:=⟨rfl,rfl,rfl,zM _,fun _ _ _=>rfl⟩
theorem Fr.trans' {S T U:Nat->Prop} {a b c:World} (h:Fr S a b) (k:Fr T b c) (hs:∀ i,S i->U i) (ht:∀ i,i < a.heap.size->T i->U i):Fr U a c :=
 ⟨k.os.trans h.os,k.tape.trans h.tape,k.output.trans h.output,zV h.size k.size,fun i hi hu =>
  (k.block i (zS hi h.size) (fun t=>hu (ht i hi t))).trans (h.block i hi (fun s=>hu (hs i s)))⟩
theorem Fr.trans {S:Nat->Prop} {a b c:World} (h:Fr S a b) (k:Fr S b c):Fr S a c:=h.trans' k (fun _ x=>x) (fun _ _ x=>x)
theorem Fr.mono {S T:Nat->Prop} {a b:World} (h:Fr S a b) (hs:∀ i,i < a.heap.size->S i->T i):Fr T a b :=
 ⟨h.os,h.tape,h.output,h.size,fun k hk ht=>h.block k hk (fun s=>ht (hs k hk s))⟩
theorem Fr.of_below {w w':World} (h:Below w.heap.size w w') (S:Nat->Prop):Fr S w w':=⟨h.os,h.tape,h.output,h.size,fun k hk _=>h.block k hk⟩
theorem Fr.to_below {S:Nat->Prop} {B:Nat} {w w':World} (h:Fr S w w') (hB:B<=w.heap.size) (hs:∀ k,k < B->¬ S k):Below B w w' :=
 ⟨h.os,h.tape,h.output,h.size,fun k hk=>h.block k (zS hk hB) (hs k hk)⟩
theorem Fr.drew {S:Nat->Prop} {a w:World} (h:Fr S a w):Fr S a w.drew:=⟨h.os,h.tape,h.output,h.size,h.block⟩
theorem Fr.drewN {S:Nat->Prop} {a w:World} (h:Fr S a w) (n:Nat):Fr S a (w.drewN n):=⟨h.os,h.tape,h.output,h.size,h.block⟩
theorem Fr.alloc {S:Nat->Prop} {a w:World} (h:Fr S a w) (o:Obj):Fr S a (w.alloc o) :=
 h.trans ⟨rfl,rfl,rfl,by simp,fun k hk _=>z7 _ _ _ hk⟩
theorem Fr.setCell {S:Nat->Prop} {a w:World} (h:Fr S a w) {p:Addr} (hp:S p.block\/a.heap.size<=p.block) (u:Value):Fr S a (w.setCell p u) :=
 ⟨h.os,h.tape,h.output,by simpa [World.setCell] using h.size,fun k hk hs=>by
  rw [Below.heap_setCell _ _ _ _ (fun e=>by subst e; rcases hp with hp | hp; exact hs hp; omega)]
  exact h.block k hk hs⟩
theorem Fr.grown {S:Nat->Prop} {a w w':World} {row:Option Nat} (h:Fr S a w) (hg:w.grownBy w' row) (hr:∀ k,row=some k->S k\/a.heap.size<=k):Fr S a w' :=
 ⟨hg.os.trans h.os,hg.tape.trans h.tape,hg.output.trans h.output,zV h.size hg.size,fun k hk hs =>
  (hg.block k (zS hk h.size) (fun e=>by rcases hr k e.symm with x | x; exact hs x; omega)).trans (h.block k hk hs)⟩
theorem ae {w:World} {b:Nat} {o:Obj} (h:w.heap[b]? = some o):b < w.heap.size:=(Array.getElem?_eq_some_iff.1 h).1
theorem aj {w:World} {b i:Nat} {cs:Array Value} {t:TypeId} {f:Nat × Nat} (h:w.heap[b]? = some (.cells cs t f)):w.cell? ⟨b,i,none⟩=cs[i]?:=by simp [World.cell?,h]
theorem bX {w:World} {b i:Nat} {cs:Array Value} {t:TypeId} (h:w.heap[b]? = some (.cells cs t (0,0))):w.frozen? ⟨b,i,none⟩=false:=by simp [World.frozen?,h]
theorem aC {w:World} {b i:Nat} {cs:Array Value} {t:TypeId} {f:Nat × Nat} (h:w.heap[b]? = some (.cells cs t f)) (v:Value) :
  (w.setCell ⟨b,i,none⟩ v).heap[b]? = some (.cells (cs.setIfInBounds i v) t f):=by
 simp [World.setCell,Array.getElem?_modify,h]
theorem ak {w:World} {b c i:Nat} (v:Value) (h:c≠b):(w.setCell ⟨b,i,none⟩ v).heap[c]? = w.heap[c]?:=Below.heap_setCell _ _ _ _ h
theorem af (w:World) (o:Obj):(w.alloc o).heap[w.heap.size]? = some o:=by
 show (w.heap.push o)[w.heap.size]? = _; simp
theorem bt {w:World} {o o':Obj} {b:Nat} (h:w.heap[b]? = some o):(w.alloc o').heap[b]? = some o:=by
 rw [z7 _ _ _ (ae h)]; exact h
theorem Fr.keep {S:Nat->Prop} {w w':World} (h:Fr S w w') {b:Nat} {o:Obj} (hb:w.heap[b]? = some o) (hs:¬ S b):w'.heap[b]? = some o :=
 (h.block b (ae hb) hs).trans hb
theorem an {B:Nat} {w w':World} (h:Below B w w') {b:Nat} {o:Obj} (hb:w.heap[b]? = some o) (hs:b < B):w'.heap[b]? = some o :=
 (h.block b hs).trans hb
theorem vn (s:ByteArray):∃ l:List UInt8,s=⟨l.toArray⟩/\l.length=s.size:=⟨s.data.toList,by simp,by simp⟩

def Row (B:Nat) (w:World) (sz:Nat) (v:Value) (n:Nat) (cs:List Value):Prop :=
 ∃ a cap b off,v=.slice a n cap/\cs.length=n * sz/\(0 < n->a=some ⟨b,off,none⟩/\b < B)/\∀ j (h:j < cs.length),w.cell? ⟨b,off+j,none⟩=some cs[j]
theorem Row.mono {B B':Nat} {w:World} {sz:Nat} {v:Value} {n:Nat} {cs:List Value} (h:Row B w sz v n cs) (hB:B<=B'):Row B' w sz v n cs:=by
 obtain ⟨a,cap,b,off,h1,h2,h3,h4⟩:=h; exact ⟨a,cap,b,off,h1,h2,fun hn=>⟨(h3 hn).1,zS (h3 hn).2 hB⟩,h4⟩
theorem Row.kept {B:Nat} {w w':World} {sz:Nat} {v:Value} {n:Nat} {cs:List Value} (h:Row B w sz v n cs) (hw:∀ k,k < B->w'.heap[k]? = w.heap[k]?):Row B w' sz v n cs:=by
 obtain ⟨a,cap,b,off,h1,h2,h3,h4⟩:=h; refine ⟨a,cap,b,off,h1,h2,h3,fun j hj=>?_⟩; rcases Nat.eq_zero_or_pos n with h0 | h0
 ·rw [h0] at h2; simp at h2; simp [h2] at hj
 ·rw [Af (w:=w) (hw b (h3 h0).2)]; exact h4 j hj
theorem Row.below {B C:Nat} {w w':World} {sz:Nat} {v:Value} {n:Nat} {cs:List Value} (h:Row B w sz v n cs) (hw:Below C w w') (hC:B<=C):Row B w' sz v n cs :=
 h.kept fun k hk=>hw.block k (by omega)
theorem Row.nil (B:Nat) (w:World) (sz:Nat) (cap:Nat):Row B w sz (.slice none 0 cap) 0 [] :=
 ⟨none,cap,0,0,rfl,by simp,fun h=>by omega,fun j hj=>by simp at hj⟩
theorem gm {P:Program} {t:TypeId} {sz:Nat} (ht:P.underlying t=some (.slice (P.elem t))) (hz:∀ w,(sizeOf (P.elem t)).run P w=.ok sz w) {a:Option Addr} {b off:Nat} (ha:a=some ⟨b,off,none⟩)
  (n cap:Nat) (k:Nat) (hk:k < n) (kd:IntKind) (W:World):(Instr.indexAt t (.slice a n cap) (.int kd k)).run P W=.ok (.pointer (some ⟨b,off+k * sz,none⟩)) W:=by
 subst ha; rw [run_indexAt_slice W t _ n cap kd k ht,if_pos (by omega),hz]; simp [Result.andThen,Addr.add]
theorem m8 {u:Value} (h:u.oneCell'=true):∀ x∈[u],x.oneCell'=true:=by
 intro x hx; simp at hx; subst hx; exact h

end Go.Proofs.YtffdpoifdahadaaGreatDoor
namespace Go.Proofs.YtffdpoifdahadaaGreatDoor
open Go.RowKit
abbrev sv (l:List UInt8):Value:=.string ⟨l.toArray⟩
theorem mK (s:List UInt8) (k:Nat):(ByteArray.mk s.toArray).extract k s.length=⟨(s.drop k).toArray⟩:=by
 rw [ByteArray.extract_mk,List.take_of_length_le (by simp)]
theorem eP {P:Program} (t:TypeId) (ht:P.underlying t=some .string) (s:List UInt8) (k:Nat) (c:UInt8) (hc:s[k]? = some c):∀ kd W,(Instr.index t (.string ⟨s.toArray⟩) (.int kd k)).run P W=.ok (.int .u8 c.toNat) W:=by
 intro kd W; obtain ⟨hk,e⟩:=List.getElem?_eq_some_iff.1 hc; rw [run_index_string W t _ kd k ht]; rw [dif_pos ⟨by omega,by rw [ByteArray.size_mk',List.size_toArray]; omega⟩]; subst e; rfl
theorem f8 {P:Program} (t:TypeId) (ht:P.underlying t=some .string) (c:UInt8) (s:List UInt8):∀ kd W,(Instr.index t (.string ⟨(c::s).toArray⟩) (.int kd 0)).run P W=.ok (.int .u8 c.toNat) W:=fun kd W=>eP t ht (c::s) 0 c rfl kd W
theorem qv (c:UInt8) (r:List UInt8):(ByteArray.mk (c::r).toArray).extract 1 (r.length+1)=⟨r.toArray⟩:=mK (c::r) 1
theorem uD (c d:UInt8) (r:List UInt8):(ByteArray.mk (c::d::r).toArray).extract 1 (r.length+1+1)=⟨(d::r).toArray⟩:=mK (c::d::r) 1
theorem k_ {P:Program} {ops:Array Oper} {o:Oper} {a:Act} {w w':World} {K:Act->World->Prop} {Q:Exit->Act->World->Prop} {E:Prop} (hg:o.guard=none) (s x:Operand) (t u:TypeId)
  (hop:o.op=Op.call { callee:=Callee.builtin Builtin.append,args:=#[s,x],argTypes:=#[t,u] }) {vs vx v':Value} (hs:a.eval s=vs) (hx:a.eval x=vx)
  (hrun:(Builtin.append_ #[t,u] o.type #[vs,vx]).run P w=.ok v' w') (hK:K (a.put o.dst v') w'):if Region.wanted o (yielded ops a.tmps)=true then Oper.wp P o a w K Q else E:=by
 have hw:Region.wanted o (yielded ops a.tmps)=true:=by simp [Region.wanted,hg]
 rw [if_pos hw]; unfold Oper.wp execOp; simp only [hop,resolve,invoke,builtin,Sem.run_bind,Sem.run_pure,Result.andThen_ok,List.map_toArray,List.map_cons,List.map_nil,hs,hx,hrun]; exact hK
theorem jD {P:Program} {ops:Array Oper} {rest:List Oper} {o:Oper} {a:Act} {w w':World} {Q:Exit->Act->World->Prop} (hg:o.guard=none) (s x:Operand) (t u:TypeId)
  (hop:o.op=Op.call { callee:=Callee.builtin Builtin.append,args:=#[s,x],argTypes:=#[t,u] }) {vs vx v':Value} (hs:a.eval s=vs) (hx:a.eval x=vx)
  (hrun:(Builtin.append_ #[t,u] o.type #[vs,vx]).run P w=.ok v' w') (h:wpList P ops Q rest (a.put o.dst v') w'):wpList P ops Q (o::rest) a w:=by
 refine wpList_plain hg fun K hK=>?_
 unfold Oper.wp execOp; simp only [hop,resolve,invoke,builtin,Sem.run_bind,Sem.run_pure,Result.andThen_ok,List.map_toArray,List.map_cons,List.map_nil,hs,hx,hrun]; exact hK _ _ h
end Go.Proofs.YtffdpoifdahadaaGreatDoor
namespace Go.Proofs.YtffdpoifdahadaaGreatDoor
open Go.RowKit
open Go.Lib (hid)
abbrev iv (n:Int):Value:=.int .i64 n
abbrev pt (b:Nat):Value:=.pointer (some ⟨b,0,none⟩)
abbrev aP:=Nat->Prop
def aF (B:Nat):aP:=fun k=>B<=k
abbrev Rel (α:Type):=aP->World->α->List Value->Prop
structure dA {α:Type} (sz:Nat) (R:Rel α):Prop where
 len:∀ {S w x cs},R S w x cs->cs.length=sz
 one:∀ {S w x cs},R S w x cs->∀ u∈cs,u.oneCell'=true
 move:∀ {S T w w' x cs},R S w x cs->(∀ k,k < w.heap.size->S k->T k/\w'.heap[k]? = w.heap[k]?)->R T w' x cs
section
variable {α:Type} {sz:Nat} {R:Rel α} {S T:aP} {w w':World} {x:α} {cs:List Value}
theorem dA.below (h:dA sz R) (hr:R S w x cs) (hb:Below w.heap.size w w'):R S w' x cs:=h.move hr fun k hk hs=>⟨hs,hb.block k hk⟩
theorem dA.mono (h:dA sz R) (hr:R S w x cs) (hs:∀ k,k < w.heap.size->S k->T k):R T w x cs:=h.move hr fun k hk hk2=>⟨hs k hk hk2,rfl⟩
theorem dA.fr (h:dA sz R) (hr:R S w x cs) {G:aP} (hf:Fr G w w') (hs:∀ k,S k->¬ G k):R S w' x cs:=h.move hr fun k hk hk2=>⟨hk2,hf.block k hk (hs k hk2)⟩
end
theorem bG {B:Nat} {w w':World} (h:Below B w w') (n:Nat):Below B w (w'.drewN n):=⟨h.os,h.tape,h.output,h.size,h.block⟩
def SlR {α:Type} (sz:Nat) (R:Rel α) (S:aP) (w:World) (l:List α) (v:Value):Prop :=
 ∃ (a:Option Addr) (cap b off:Nat) (cs:Nat->List Value),v=.slice a l.length cap/\l.length<=cap/\(0 < l.length->a=some ⟨b,off,none⟩/\S b/\b < w.heap.size) /\
  (∀ i,i < l.length->∀ j u,(cs i)[j]? = some u->w.cell? ⟨b,off+i * sz+j,none⟩=some u)/\∀ i x,l[i]? = some x->R S w x (cs i)
theorem aL {w:World} {b:Nat} {o:Obj} (h:w.heap[b]? = some o):b < w.heap.size:=(Array.getElem?_eq_some_iff.1 h).1
theorem rk {w:World} {b:Nat} (h:b < w.heap.size):∃ o,w.heap[b]? = some o:=⟨_,Array.getElem?_eq_getElem h⟩
theorem yk {w w':World} {b:Nat} (h:b < w.heap.size) (e:w'.heap[b]? = w.heap[b]?):b < w'.heap.size:=by
 obtain ⟨o,ho⟩:=rk h; rw [ho] at e; exact aL e
section
variable {α:Type} {sz:Nat} {R:Rel α} {S T:aP} {w w':World} {x:α} {l:List α} {v:Value}
theorem SlR.nil (sz:Nat) (R:Rel α) (S:aP) (w:World) (cap:Nat):SlR sz R S w [] (.slice none 0 cap) :=
 ⟨none,cap,0,0,fun _=>[],rfl,zW _,fun h=>absurd h (by simp),fun i h=>absurd h (by simp),fun i x h=>by simp at h⟩
theorem SlR.move (hR:dA sz R) (h:SlR sz R S w l v) (hm:∀ k,k < w.heap.size->S k->T k/\w'.heap[k]? = w.heap[k]?):SlR sz R T w' l v:=by
 obtain ⟨a,cap,b,off,cs,h1,h2,h3,h4,h5⟩:=h; refine ⟨a,cap,b,off,cs,h1,h2,fun hl=>?_,fun i hi j u hu=>?_,fun i x hx=>hR.move (h5 i x hx) hm⟩
 ·obtain ⟨e,hs,hb⟩:=h3 hl
  exact ⟨e,(hm b hb hs).1,yk hb (hm b hb hs).2⟩
 ·obtain ⟨e,hs,hb⟩:=h3 (by omega)
  rw [Af (w:=w) (hm b hb hs).2]; exact h4 i hi j u hu
theorem SlR.below (hR:dA sz R) (h:SlR sz R S w l v) (hb:Below w.heap.size w w'):SlR sz R S w' l v:=h.move hR fun k hk hs=>⟨hs,hb.block k hk⟩
theorem SlR.mono (hR:dA sz R) (h:SlR sz R S w l v) (hs:∀ k,k < w.heap.size->S k->T k):SlR sz R T w l v:=h.move hR fun k hk hk2=>⟨hs k hk hk2,rfl⟩
theorem SlR.fr (hR:dA sz R) (h:SlR sz R S w l v) {G:aP} (hf:Fr G w w') (hs:∀ k,S k->¬ G k):SlR sz R S w' l v:=h.move hR fun k hk hk2=>⟨hk2,hf.block k hk (hs k hk2)⟩
theorem SlR.slice (h:SlR sz R S w l v):∃ a cap,v=.slice a l.length cap/\l.length<=cap:=by
 obtain ⟨a,cap,b,off,cs,h1,h2,_⟩:=h; exact ⟨a,cap,h1,h2⟩
theorem SlR.empty {n cap:Nat} (h:SlR sz R S w l (.slice none n cap)):l=[]:=by
 obtain ⟨a,cap',b,off,cs,h1,h2,h3,_⟩:=h; rcases Nat.eq_zero_or_pos l.length with h0 | h0
 ·exact List.eq_nil_of_length_eq_zero h0
 ·have:=(h3 h0).1; subst this; cases h1
theorem SlR.at {P:Program} {t:TypeId} {a:Option Addr} {n cap i:Nat} (h:SlR sz R S w l (.slice a n cap)) (ht:P.underlying t=some (.slice (P.elem t))) (hz:∀ w,(sizeOf (P.elem t)).run P w=.ok sz w) (hi:l[i]? = some x) :
  ∃ g o cs,(∀ kd W,(Instr.indexAt t (.slice a n cap) (.int kd i)).run P W=.ok (.pointer (some ⟨g,o,none⟩)) W)/\S g/\g < w.heap.size/\(∀ j u,cs[j]? = some u->w.cell? ⟨g,o+j,none⟩=some u)/\R S w x cs:=by
 obtain ⟨a',cap',b,off,cs,h1,h2,h3,h4,h5⟩:=h; simp only [Value.slice.injEq] at h1; obtain ⟨rfl,rfl,rfl⟩:=h1; have hlt:=(List.getElem?_eq_some_iff.1 hi).1; obtain ⟨e,hs,hb⟩:=h3 (by omega); exact ⟨b,off+i * sz,cs i,fun kd W=>gm ht hz e l.length cap i hlt kd W,hs,hb,h4 i hlt,h5 i x hi⟩
end
def yH:Rel (List UInt8):=fun _ _ s cs=>cs=[sv s]
def sr:Rel Int:=fun _ _ n cs=>cs=[iv n]
theorem yw:dA 1 yH:=⟨fun h=>by rw [h]; rfl,fun h=>by rw [h]; exact m8 rfl,fun h _=>h⟩
theorem yx:dA 1 sr:=⟨fun h=>by rw [h]; rfl,fun h=>by rw [h]; exact m8 rfl,fun h _=>h⟩

def setCells (w:World) (b:Nat):Nat->List Value->World
 | _,[]=>w
 | o,u::cs=>setCells (w.setCell ⟨b,o,none⟩ u) b (o+1) cs
def ff:List Value->Nat->List Value->List Value
 | xs,_,[]=>xs
 | xs,o,u::cs=>ff (xs.set o u) (o+1) cs
theorem fe:∀ (cs xs:List Value) (o i:Nat),i < o\/o+cs.length<=i->(ff xs o cs)[i]? = xs[i]?
 | [],_,_,_,_=>rfl
 | u::cs,xs,o,i,h=>by
  rw [ff,fe cs _ _ _ (by simp at h; omega)]; rw [List.getElem?_set_ne (by simp at h; omega)]
theorem jo:∀ (cs xs:List Value) (o j:Nat),j < cs.length->o+cs.length<=xs.length->(ff xs o cs)[o+j]? = cs[j]?
 | [],_,_,j,h,_=>absurd h (by simp)
 | u::cs,xs,o,0,_,hl=>by
  simp only [zT] at hl; rw [ff,fe cs _ _ _ (by omega),Nat.add_zero,List.getElem?_set_self (by omega)]; rfl
 | u::cs,xs,o,j+1,h,hl=>by
  have:=jo cs (xs.set o u) (o+1) j (by simpa using h) (by simp at hl ⊢; omega); rw [ff,show o+(j+1)=o+1+j by omega,this]; simp
theorem fV (b:Nat):∀ (cs:List Value) (w:World) (o k:Nat),k≠b->(setCells w b o cs).heap[k]? = w.heap[k]?
 | [],_,_,_,_=>rfl
 | u::cs,w,o,k,h=>by rw [setCells,fV b cs _ _ _ h,ak u h]
theorem Fr.setCells {S:aP} {b:Nat}:∀ (cs:List Value) {a w:World} (o:Nat),Fr S a w->(S b\/a.heap.size<=b)->Fr S a (setCells w b o cs)
 | [],_,_,_,h,_=>h
 | u::cs,_,_,o,h,hb=>Fr.setCells cs (o+1) (h.setCell hb u) hb
theorem eh {base g n cap:Nat} {e:TypeId} {sz:Nat}:∀ (cs:List Value) (w:World) (xs:List Value) (o:Nat),w.ownsRow base e sz (.slice (some ⟨g,0,none⟩) n cap) n xs->o+cs.length<=n * sz ->
  (setCells w g o cs).ownsRow base e sz (.slice (some ⟨g,0,none⟩) n cap) n (ff xs o cs)
 | [],_,_,_,h,_=>h
 | u::cs,w,xs,o,h,hl=>by
  rw [setCells,ff]; exact eh cs _ _ (o+1) (h.stored o u).1 (by simp at hl; omega)

def aO {α:Type} (E:TypeId) (sz:Nat) (R:Rel α) (S:aP) (w:World) (l:List α) (v:Value):Prop :=
 ∃ xs,w.ownsRow 0 E sz v l.length xs/\(∀ k,v.ownBlock=some k->S k)/\∀ i x,l[i]? = some x->∃ cs,(∀ j u,cs[j]? = some u->xs[i * sz+j]? = some u)/\R (fun k=>S k/\v.ownBlock≠some k) w x cs
theorem aJ {w w':World} {base base':Nat} {e:TypeId} {sz n:Nat} {v:Value} {xs:List Value} (h:w.ownsRow base e sz v n xs) (hk:∀ k,v.ownBlock=some k->w'.heap[k]? = w.heap[k]?) (hb:∀ k,v.ownBlock=some k->base'<=k):w'.ownsRow base' e sz v n xs:=by
 obtain ⟨h1,h2⟩:=h; refine ⟨h1,?_⟩; rcases h2 with h2 | ⟨g,cap,cur,rfl,_,hg,rest⟩
 ·exact Or.inl h2
 ·exact Or.inr ⟨g,cap,cur,rfl,hb g rfl,(hk g rfl).trans hg,rest⟩
theorem bp {w:World} {base:Nat} {e:TypeId} {sz n:Nat} {v:Value} {xs:List Value} (h:w.ownsRow base e sz v n xs):∃ a c,v=.slice a n c/\n<=c/\c<=maxLen:=by
 rcases h.2 with ⟨rfl,rfl⟩ | ⟨g,cap,cur,rfl,_,_,h1,h2,_⟩
 ·exact ⟨_,_,rfl,zM _,zW _⟩
 ·exact ⟨_,_,rfl,h1,h2⟩
section
variable {α:Type} {E:TypeId} {sz:Nat} {R:Rel α} {S T:aP} {w w':World} {x:α} {l:List α} {v:Value}
theorem aO.nil (E:TypeId) (sz:Nat) (R:Rel α) (S:aP) (w:World):aO E sz R S w [] (.slice none 0 0) :=
 ⟨[],World.ownsRow_nil _ _ _ _,fun k h=>by simp [Value.ownBlock] at h,fun i x h=>by simp at h⟩
theorem aO.lt (h:aO E sz R S w l v) {k:Nat} (hk:v.ownBlock=some k):k < w.heap.size:=by
 obtain ⟨xs,h1,_⟩:=h; exact (h1.lt k hk).2
theorem aO.slice (h:aO E sz R S w l v):∃ a c,v=.slice a l.length c/\l.length<=c/\c<=maxLen:=by
 obtain ⟨xs,h1,_⟩:=h; exact bp h1
theorem aO.move (hR:dA sz R) (h:aO E sz R S w l v) (hm:∀ k,k < w.heap.size->S k->T k/\w'.heap[k]? = w.heap[k]?):aO E sz R T w' l v:=by
 obtain ⟨xs,h1,h2,h3⟩:=h; refine ⟨xs,aJ h1 (fun k hk=>(hm k (h1.lt k hk).2 (h2 k hk)).2) (fun _ _=>zW _),fun k hk=>(hm k (h1.lt k hk).2 (h2 k hk)).1,fun i x hx=>?_⟩; obtain ⟨cs,h4,h5⟩:=h3 i x hx; exact ⟨cs,h4,hR.move h5 fun k hk hs=>⟨⟨(hm k hk hs.1).1,hs.2⟩,(hm k hk hs.1).2⟩⟩
theorem aO.below (hR:dA sz R) (h:aO E sz R S w l v) (hb:Below w.heap.size w w'):aO E sz R S w' l v:=h.move hR fun k hk hs=>⟨hs,hb.block k hk⟩
theorem aO.mono (hR:dA sz R) (h:aO E sz R S w l v) (hs:∀ k,k < w.heap.size->S k->T k):aO E sz R T w l v:=h.move hR fun k hk hk2=>⟨hs k hk hk2,rfl⟩
theorem aO.fr (hR:dA sz R) (h:aO E sz R S w l v) {G:aP} (hf:Fr G w w') (hs:∀ k,S k->¬ G k):aO E sz R S w' l v:=h.move hR fun k hk hk2=>⟨hk2,hf.block k hk (hs k hk2)⟩
theorem aO.sl (hR:dA sz R) (h:aO E sz R S w l v):SlR sz R S w l v:=by
 obtain ⟨xs,h1,h2,h3⟩:=h
 have hcs:∀ i,∃ cs:List Value,∀ x,l[i]? = some x->(∀ j u,cs[j]? = some u->xs[i * sz+j]? = some u)/\R (fun k=>S k/\v.ownBlock≠some k) w x cs:=by
  intro i; rcases hx:l[i]? with _ | x
  ·exact ⟨[],fun x h=>by simp at h⟩
  ·obtain ⟨cs,h4,h5⟩:=h3 i x hx
   exact ⟨cs,fun y hy=>by injection hy with hy; subst hy; exact ⟨h4,h5⟩⟩
 obtain ⟨cs,hcs⟩:∃ cs:Nat->List Value,∀ i x,l[i]? = some x->(∀ j u,(cs i)[j]? = some u->xs[i * sz+j]? = some u)/\R (fun k=>S k/\v.ownBlock≠some k) w x (cs i):=Classical.axiomOfChoice hcs; rcases h1.2 with ⟨rfl,h0⟩ | ⟨g,cap,cur,rfl,hb,hg,hn,hm,hs,ht⟩
 ·have:l=[]:=List.eq_nil_of_length_eq_zero h0
  subst this; exact SlR.nil _ _ _ _ _
 ·refine ⟨some ⟨g,0,none⟩,cap,g,0,cs,rfl,hn,fun _=>⟨rfl,h2 g rfl,aL hg⟩,fun i hi j u hu=>?_,fun i x hx=>hR.mono (hcs i x hx).2 (fun k _ h=>h.1)⟩
  obtain ⟨h4,h5⟩:=hcs i l[i] (zR hi)
  have hj:j < sz:=by have:=(List.getElem?_eq_some_iff.1 hu).1; rw [hR.len h5] at this; exact this
  have hlt:i * sz+j < l.length * sz:=by
   have:i * sz+sz<=l.length * sz:=by rw [← Nat.succ_mul]; exact Ak _ hi
   omega
  rw [Nat.zero_add,h1.cellAt _ hlt]; exact h4 j u hu
theorem aO.set (hR:dA sz R) {g n cap i:Nat} (h:aO E sz R S w l (.slice (some ⟨g,0,none⟩) n cap)) (hi:i < l.length) {cs:List Value} (hx:R (fun k=>S k/\k≠g) w x cs) :
  aO E sz R S (setCells w g (i * sz) cs) (l.set i x) (.slice (some ⟨g,0,none⟩) n cap):=by
 obtain ⟨xs,h1,h2,h3⟩:=h; obtain ⟨a,c,e,_,_⟩:=bp h1; simp only [Value.slice.injEq] at e; obtain ⟨-,rfl,-⟩:=e; have hcl:=hR.len hx
 have hle:i * sz+sz<=l.length * sz:=by rw [← Nat.succ_mul]; exact Ak _ hi
 refine ⟨ff xs (i * sz) cs,by rw [List.length_set]; exact eh cs w xs (i * sz) h1 (by omega),h2,fun k y hy=>?_⟩
 have hfr:∀ (q:Nat),q < w.heap.size->(S q/\(Value.slice (some ⟨g,0,none⟩) l.length cap).ownBlock≠some q)->(S q/\(Value.slice (some ⟨g,0,none⟩) l.length cap).ownBlock≠some q)/\(setCells w g (i * sz) cs).heap[q]? = w.heap[q]? :=
  fun q _ hs=>⟨hs,fV g cs w _ q (fun e=>hs.2 (by rw [e]; rfl))⟩
 by_cases e:k=i
 ·subst e
  rw [List.getElem?_set_self hi] at hy; injection hy with hy; subst hy; refine ⟨cs,fun j u hu=>?_,?_⟩
  ·have hj:=(List.getElem?_eq_some_iff.1 hu).1
   rw [jo cs xs _ _ hj (by rw [h1.1]; omega)]; exact hu
  ·exact hR.move hx fun q hq hs=>hfr q hq ⟨hs.1,fun e=>hs.2 (by injection e with e; exact e.symm)⟩
 ·rw [List.getElem?_set_ne (fun e2=>e e2.symm)] at hy
  obtain ⟨ds,h4,h5⟩:=h3 k y hy; refine ⟨ds,fun j u hu=>?_,hR.move h5 hfr⟩
  have hj:j < sz:=by have:=(List.getElem?_eq_some_iff.1 hu).1; rw [hR.len h5] at this; exact this
  have hkl:=(List.getElem?_eq_some_iff.1 hy).1; rw [fe cs xs _ _ ?_]
  ·exact h4 j u hu
  ·rcases Nat.lt_or_gt_of_ne e with h | h
   ·left
    (have:k * sz+sz<=i * sz:=by rw [← Nat.succ_mul]; exact Ak _ h);omega
   ·right
    (have:i * sz+sz<=k * sz:=by rw [← Nat.succ_mul]; exact Ak _ h);omega
theorem aO.push (hR:dA sz R) (h:aO E sz R S w l v) {v':Value} {cs:List Value} (hown:∀ xs,w.ownsRow 0 E sz v l.length xs->w'.ownsRow 0 E sz v' (l.length+1) (xs++cs)) (hg:w.grownBy w' v.ownBlock) (hv:v'.ownBlock=v.ownBlock\/v'.ownBlock=some w.heap.size)
  (hST:∀ k,S k->T k) (hnew:T w.heap.size) (hx:R (fun k=>T k/\v.ownBlock≠some k/\k < w.heap.size) w x cs):aO E sz R T w' (l++[x]) v':=by
 obtain ⟨xs,h1,h2,h3⟩:=h
 have hkeep:∀ {y:α} {ds:List Value} {U:aP},R U w y ds->(∀ k,k < w.heap.size->U k->T k/\v.ownBlock≠some k)->R (fun k=>T k/\v'.ownBlock≠some k) w' y ds:=by
  intro y ds U hy hU
  refine hR.move hy fun k hk hu=>?_
  obtain ⟨h6,h7⟩:=hU k hk hu; refine ⟨⟨h6,?_⟩,hg.block k hk (fun e=>h7 e.symm)⟩; rcases hv with hv | hv
  ·rw [hv]; exact h7
  ·rw [hv]; intro e; injection e with e; omega
 refine ⟨xs++cs,by rw [zQ]; exact hown xs h1,fun k hk=>?_,fun i y hy=>?_⟩
 ·rcases hv with hv | hv
  ·exact hST k (h2 k (hv ▸ hk))
  ·rw [hv] at hk; injection hk with hk; subst hk; exact hnew
 ·by_cases hi:i < l.length
  ·rw [Aa hi] at hy
   obtain ⟨ds,h4,h5⟩:=h3 i y hy; refine ⟨ds,fun j u hu=>?_,hkeep h5 fun k hk hs=>⟨hST k hs.1,hs.2⟩⟩; have:=h4 j u hu; rw [Aa (List.getElem?_eq_some_iff.1 this).1]; exact this
  ·have hil:i=l.length:=by
    have:=(List.getElem?_eq_some_iff.1 hy).1; simp at this; omega
   subst hil; rw [Ab (zM _),Nat.sub_self] at hy; simp at hy; subst hy; refine ⟨cs,fun j u hu=>?_,hkeep hx fun k hk hs=>⟨hs.1,hs.2.1⟩⟩; have hxl:=h1.1; rw [Ab (by omega),show l.length * sz+j - xs.length=j by omega]; exact hu
end
end Go.Proofs.YtffdpoifdahadaaGreatDoor
