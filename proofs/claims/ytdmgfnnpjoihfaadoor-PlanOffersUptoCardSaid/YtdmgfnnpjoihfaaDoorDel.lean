/- One element struck out of an owned row: append(s[:i], s[i+1:]...) and clear. No program. -/
import Derived.Test.YtdmgfnnpjoihfaaDoorRel
import Derived.Laws.CopyRow
import Derived.BigFrame
set_option linter.unusedVariables false
namespace Go.Proofs.YtdmgfnnpjoihfaaDoor
open Go.RowKit
/-- a run of append, closed to unfolding -/
structure AppRun (P:Program) (t u ty:TypeId) (vs vx v':Value) (W W':World):Prop where
 out:(Builtin.append_ #[t,u] ty #[vs,vx]).run P W=.ok v' W'
theorem step_append_shut {P:Program} {ops:Array Oper} {o:Oper} {a:Act} {w w':World} {K:Act→World→Prop} {Q:Exit→Act→World→Prop} {E:Prop} (hg:o.guard=none) (s x:Operand) {t u:TypeId}
  (hop:o.op=Op.call { callee:=Callee.builtin Builtin.append,args:=#[s,x],argTypes:=#[t,u] }) {vs vx v':Value} (hs:a.eval s=vs) (hx:a.eval x=vx)
  (hrun:AppRun P t u o.type vs vx v' w w') (hK:K (a.put o.dst v') w'):if Region.wanted o (yielded ops a.tmps)=true then Oper.wp P o a w K Q else E :=
 step_append_run hg s x t u hop hs hx hrun.out hK
theorem wpList_append_shut {P:Program} {ops:Array Oper} {rest:List Oper} {o:Oper} {a:Act} {w w':World} {Q:Exit→Act→World→Prop} (hg:o.guard=none) (s x:Operand) {t u:TypeId}
  (hop:o.op=Op.call { callee:=Callee.builtin Builtin.append,args:=#[s,x],argTypes:=#[t,u] }) {vs vx v':Value} (hs:a.eval s=vs) (hx:a.eval x=vx)
  (hrun:AppRun P t u o.type vs vx v' w w') (h:wpList P ops Q rest (a.put o.dst v') w'):wpList P ops Q (o::rest) a w :=
 wpList_append_run hg s x t u hop hs hx hrun.out h
/-- append(v, vs...): v a row of the call's own, vs any row, nil let in -/
theorem append_row {P:Program} (w:World) (base:Nat) (t ty e:TypeId) (i:TypeInfo) (z:Value) (size bytes:Nat) (ht:P.underlying t=some (.slice e)) (hi:P.info? e=some i) (hz:i.zero=some z)
  (hsize:i.size=size) (hby:i.bytes=bytes) (hzs:z.cells.size=size) (hsz:0 < size) (v:Value) (n:Nat) (xs:List Value) (hown:w.ownsRow base e size v n xs)
  (B:Nat) (vs:Value) (m:Nat) (news:List Value) (hr:Row B w size vs m news) (h1:∀ u∈news,u.oneCell'=true) (h63:n+m≤maxLen) (hbytes:(n+m) * bytes≤140737488355328) (hbase:base≤w.heap.size) :
  ∃ v' w',(Builtin.append_ #[t,t] ty #[v,vs]).run P w=.ok v' w'∧w'.ownsRow base e size v' (n+m) (xs++news)∧w.grownBy w' v.ownBlock∧(v'.ownBlock=v.ownBlock∨v'.ownBlock=some w.heap.size):=by
 obtain ⟨a,cap,b,off,rfl,hl,ha,hc⟩:=hr; rcases a with _ | ad
 ·have hm:m=0:=by
   rcases Nat.eq_zero_or_pos m with h | h
   ·exact h
   ·cases (ha h).1
  subst hm; have hn:news=[]:=List.eq_nil_of_length_eq_zero (by simpa using hl); subst hn; refine ⟨v,w,?_,by simpa using hown,World.grownBy.refl w _,.inl rfl⟩; rcases hown.2 with ⟨rfl,rfl⟩ | ⟨g,cap,cur,rfl,_,_,hnc,_⟩
  ·simp [Builtin.append_,run_underlying ht,sizeOf,typeInfo,hi,Builtin.lenOf,Builtin.firstCells]
  ·simp [Builtin.append_,run_underlying ht,sizeOf,typeInfo,hi,Builtin.lenOf,Builtin.firstCells,hnc,storeCells]
 ·have hcells:∀ j u,news[j]? = some u→w.cell? (ad.add j)=some u:=by
   intro j u hu; obtain ⟨hj,rfl⟩:=List.getElem?_eq_some_iff.1 hu
   have hm:0 < m:=by
    rcases Nat.eq_zero_or_pos m with h | h
    ·rw [hl,h,Nat.zero_mul] at hj; omega
    ·exact h
   have e:=(ha hm).1; injection e with e; subst e
   have e2:(⟨b,off,none⟩:Addr).add j=⟨b,off+j,none⟩:=by simp only [Addr.add]; split <;> simp_all
   rw [e2]; exact hc j hj
  obtain ⟨v',w',hrun,h2,h3,h4,h5⟩:=run_append_own_at (P:=P) w base t ty e i z size bytes ht hi hz hsize hby hzs hsz v n xs hown ad m cap news hl hcells h1 h63 hbytes hbase; exact ⟨v',w',hrun,h2,h3,h5⟩
/-- one element behind an owned row: out = append(out, x) -/
theorem OwnR.append1 {α:Type} {P:Program} {E t ty:TypeId} {sz bytes:Nat} {R:Rel α} {i:TypeInfo} {z:Value} (hR:Good sz R) (ht:P.underlying t=some (.slice E)) (hi:P.info? E=some i) (hz:i.zero=some z) (hsize:i.size=sz) (hby:i.bytes=bytes) (hzs:z.cells.size=sz) (hsz:0 < sz)
  {S:Foot} {w:World} {l:List α} {v:Value} (h:OwnR E sz R S w l v) {B:Nat} {vs:Value} {cs:List Value} {x:α} (hr:Row B w sz vs 1 cs) (hx:R (fun k=>S k∧v.ownBlock≠some k) w x cs) (h63:l.length+1≤maxLen) (hbytes:(l.length+1) * bytes≤140737488355328) (hS:∀ k,w.heap.size≤k→S k) :
  ∃ v' w',AppRun P t t ty v vs v' w w'∧OwnR E sz R S w' (l++[x]) v'∧Fr S w w':=by
 obtain ⟨xs,h1,h2,h3⟩:=h; obtain ⟨v',w',hrun,hown,hg,hv⟩:=append_row w 0 t ty E i z sz bytes ht hi hz hsize hby hzs hsz v l.length xs h1 B vs 1 cs hr (hR.one hx) h63 hbytes (Nat.zero_le _)
 have hkeep:∀ {y:α} {ds:List Value},R (fun k=>S k∧v.ownBlock≠some k) w y ds→R (fun k=>S k∧v'.ownBlock≠some k) w' y ds:=by
  intro y ds hy
  refine hR.move hy fun k hk hu=>⟨⟨hu.1,?_⟩,hg.block k hk (fun e=>hu.2 e.symm)⟩
  rcases hv with hv | hv
  ·rw [hv]; exact hu.2
  ·rw [hv]; intro e; injection e with e; omega
 refine ⟨v',w',⟨hrun⟩,⟨xs++cs,by rw [List.length_append]; exact hown,fun k hk=>?_,fun i y hy=>?_⟩,⟨hg.os,hg.tape,hg.output,hg.size,fun k hk hs=>hg.block k hk (fun e=>hs (h2 k e.symm))⟩⟩
 ·rcases hv with hv | hv
  ·exact h2 k (hv ▸ hk)
  ·rw [hv] at hk; injection hk with hk; subst hk; exact hS _ (Nat.le_refl _)
 ·by_cases hil:i < l.length
  ·rw [List.getElem?_append_left hil] at hy
   obtain ⟨ds,h4,h5⟩:=h3 i y hy; refine ⟨ds,fun j u hu=>?_,hkeep h5⟩; have:=h4 j u hu; rw [List.getElem?_append_left (List.getElem?_eq_some_iff.1 this).1]; exact this
  ·have hil:i=l.length:=by
    have:=(List.getElem?_eq_some_iff.1 hy).1; simp at this; omega
   subst hil; rw [List.getElem?_append_right (Nat.le_refl _),Nat.sub_self] at hy; simp at hy; subst hy; refine ⟨cs,fun j u hu=>?_,hkeep hx⟩; have hxl:=h1.1; rw [List.getElem?_append_right (by omega),show l.length * sz+j - xs.length=j by omega]; exact hu
/-- a new block of one element's cells, as the source of an append -/
theorem row_of_block {w:World} {b sz:Nat} {cs:List Value} {t:TypeId} {f:Nat × Nat} (h:w.heap[b]? = some (.cells cs.toArray t f)) (hl:cs.length=sz):Row w.heap.size w sz (.slice (some ⟨b,0,none⟩) 1 1) 1 cs :=
 ⟨_,_,b,0,rfl,by rw [hl]; omega,fun _=>⟨rfl,lt_of_some h⟩,fun j hj=>by rw [Nat.zero_add,cell_of h]; simp [hj]⟩
theorem setRow_far {w:World} {g k:Nat} (h:k≠g) (cs:Array Value):(w.setRow g cs).heap[k]? = w.heap[k]?:=by
 simp [World.setRow,Array.getElem?_modify,Ne.symm h]
theorem Fr.setRow {S:Nat→Prop} {a w:World} (h:Fr S a w) {g:Nat} (hg:S g) (cs:Array Value):Fr S a (w.setRow g cs) :=
 ⟨h.os,h.tape,h.output,by simpa [World.setRow] using h.size,fun k hk hs=>(setRow_far (fun e=>hs (by rw [e]; exact hg)) cs).trans (h.block k hk hs)⟩
end Go.Proofs.YtdmgfnnpjoihfaaDoor
