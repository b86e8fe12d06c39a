/- One element struck out of an owned row: append(s[:i], s[i+1:]...) and clear. No program. -/
import Derived.Test.YtfejagpjahoibaaGreatDoorRel
import Derived.Laws.CopyRow
import Derived.BigFrame
set_option linter.unusedVariables false
namespace Go.Proofs.YtfejagpjahoibaaGreatDoor
open Go.RowKit
/-- a run of append, closed to unfolding -/
structure AppRun (P:Program) (t u ty:TypeId) (vs vx v':Value) (W W':World):Prop where
 out:(Builtin.append_ #[t,u] ty #[vs,vx]).run P W=.ok v' W'
theorem step_append_shut {P:Program} {ops:Array Oper} {o:Oper} {a:Act} {w w':World} {K:Act→World→Prop} {Q:Exit→Act→World→Prop} {E:Prop} (hg:o.guard=none) (s x:Operand) {t u:TypeId}
  (hop:o.op=Op.call { callee:=Callee.builtin Builtin.append,args:=#[s,x],argTypes:=#[t,u] }) {vs vx v':Value} (hs:a.eval s=vs) (hx:a.eval x=vx)
  (hrun:AppRun P t u o.type vs vx v' w w') (hK:K (a.put o.dst v') w'):if Region.wanted o (yielded ops a.tmps)=true then Oper.wp P o a w K Q else E :=
 step_append_run hg s x t u hop hs hx hrun.out hK
theorem wpList_append_shut {P:Program} {ops:Array Oper} {rest:List Oper} {o:Oper} {a:Act} {w w':World} {Q:Exit→Act→World→Prop} (hg:o.guard=none) (s x:Operand) {t u:TypeId}
  (hop:o.op=Op.call { callee:=Callee.builtin Builtin.append,args:=#[s,x],argTypes:=#[t,u] }) {vs vx v':Value} (hs:a.eval s=vs) (hx:a.eval x=vx)
  (hrun:AppRun P t u o.type vs vx v' w w') (h:wpList P ops Q rest (a.put o.dst v') w'):wpList P ops Q (o::rest) a w :=
 wpList_append_run hg s x t u hop hs hx hrun.out h
/-- append(v, vs...): v a row of the call's own, vs any row, nil let in -/
theorem append_row {P:Program} (w:World) (base:Nat) (t ty e:TypeId) (i:TypeInfo) (z:Value) (size bytes:Nat) (ht:P.underlying t=some (.slice e)) (hi:P.info? e=some i) (hz:i.zero=some z)
  (hsize:i.size=size) (hby:i.bytes=bytes) (hzs:z.cells.size=size) (hsz:0 < size) (v:Value) (n:Nat) (xs:List Value) (hown:w.ownsRow base e size v n xs)
  (B:Nat) (vs:Value) (m:Nat) (news:List Value) (hr:Row B w size vs m news) (h1:∀ u∈news,u.oneCell'=true) (h63:n+m≤maxLen) (hbytes:(n+m) * bytes≤140737488355328) (hbase:base≤w.heap.size) :
  ∃ v' w',(Builtin.append_ #[t,t] ty #[v,vs]).run P w=.ok v' w'∧w'.ownsRow base e size v' (n+m) (xs++news)∧w.grownBy w' v.ownBlock∧(v'.ownBlock=v.ownBlock∨v'.ownBlock=some w.heap.size):=by
 obtain ⟨a,cap,b,off,rfl,hl,ha,hc⟩:=hr; rcases a with _ | ad
 ·have hm:m=0:=by
   rcases Nat.eq_zero_or_pos m with h | h
   ·exact h
   ·cases (ha h).1
  subst hm; have hn:news=[]:=List.eq_nil_of_length_eq_zero (by simpa using hl); subst hn; refine ⟨v,w,?_,by simpa using hown,World.grownBy.refl w _,.inl rfl⟩; rcases hown.2 with ⟨rfl,rfl⟩ | ⟨g,cap,cur,rfl,_,_,hnc,_⟩
  ·simp [Builtin.append_,run_underlying ht,sizeOf,typeInfo,hi,Builtin.lenOf,Builtin.firstCells]
  ·simp [Builtin.append_,run_underlying ht,sizeOf,typeInfo,hi,Builtin.lenOf,Builtin.firstCells,hnc,storeCells]
 ·have hcells:∀ j u,news[j]? = some u→w.cell? (ad.add j)=some u:=by
   intro j u hu; obtain ⟨hj,rfl⟩:=List.getElem?_eq_some_iff.1 hu
   have hm:0 < m:=by
    rcases Nat.eq_zero_or_pos m with h | h
    ·rw [hl,h,Nat.zero_mul] at hj; omega
    ·exact h
   have e:=(ha hm).1; injection e with e; subst e
   have e2:(⟨b,off,none⟩:Addr).add j=⟨b,off+j,none⟩:=by simp only [Addr.add]; split <;> simp_all
   rw [e2]; exact hc j hj
  obtain ⟨v',w',hrun,h2,h3,h4,h5⟩:=run_append_own_at (P:=P) w base t ty e i z size bytes ht hi hz hsize hby hzs hsz v n xs hown ad m cap news hl hcells h1 h63 hbytes hbase; exact ⟨v',w',hrun,h2,h3,h5⟩
/-- one element behind an owned row: out = append(out, x) -/
theorem OwnR.append1 {α:Type} {P:Program} {E t ty:TypeId} {sz bytes:Nat} {R:Rel α} {i:TypeInfo} {z:Value} (hR:Good sz R) (ht:P.underlying t=some (.slice E)) (hi:P.info? E=some i) (hz:i.zero=some z) (hsize:i.size=sz) (hby:i.bytes=bytes) (hzs:z.cells.size=sz) (hsz:0 < sz)
  {S:Foot} {w:World} {l:List α} {v:Value} (h:OwnR E sz R S w l v) {B:Nat} {vs:Value} {cs:List Value} {x:α} (hr:Row B w sz vs 1 cs) (hx:R (fun k=>S k∧v.ownBlock≠some k) w x cs) (h63:l.length+1≤maxLen) (hbytes:(l.length+1) * bytes≤140737488355328) (hS:∀ k,w.heap.size≤k→S k) :
  ∃ v' w',AppRun P t t ty v vs v' w w'∧OwnR E sz R S w' (l++[x]) v'∧Fr S w w':=by
 obtain ⟨xs,h1,h2,h3⟩:=h; obtain ⟨v',w',hrun,hown,hg,hv⟩:=append_row w 0 t ty E i z sz bytes ht hi hz hsize hby hzs hsz v l.length xs h1 B vs 1 cs hr (hR.one hx) h63 hbytes (Nat.zero_le _)
 have hkeep:∀ {y:α} {ds:List Value},R (fun k=>S k∧v.ownBlock≠some k) w y ds→R (fun k=>S k∧v'.ownBlock≠some k) w' y ds:=by
  intro y ds hy
  refine hR.move hy fun k hk hu=>⟨⟨hu.1,?_⟩,hg.block k hk (fun e=>hu.2 e.symm)⟩
  rcases hv with hv | hv
  ·rw [hv]; exact hu.2
  ·rw [hv]; intro e; injection e with e; omega
 refine ⟨v',w',⟨hrun⟩,⟨xs++cs,by rw [List.length_append]; exact hown,fun k hk=>?_,fun i y hy=>?_⟩,⟨hg.os,hg.tape,hg.output,hg.size,fun k hk hs=>hg.block k hk (fun e=>hs (h2 k e.symm))⟩⟩
 ·rcases hv with hv | hv
  ·exact h2 k (hv ▸ hk)
  ·rw [hv] at hk; injection hk with hk; subst hk; exact hS _ (Nat.le_refl _)
 ·by_cases hil:i < l.length
  ·rw [List.getElem?_append_left hil] at hy
   obtain ⟨ds,h4,h5⟩:=h3 i y hy; refine ⟨ds,fun j u hu=>?_,hkeep h5⟩; have:=h4 j u hu; rw [List.getElem?_append_left (List.getElem?_eq_some_iff.1 this).1]; exact this
  ·have hil:i=l.length:=by
    have:=(List.getElem?_eq_some_iff.1 hy).1; simp at this; omega
   subst hil; rw [List.getElem?_append_right (Nat.le_refl _),Nat.sub_self] at hy; simp at hy; subst hy; refine ⟨cs,fun j u hu=>?_,hkeep hx⟩; have hxl:=h1.1; rw [List.getElem?_append_right (by omega),show l.length * sz+j - xs.length=j by omega]; exact hu
/-- a new block of one element's cells, as the source of an append -/
theorem row_of_block {w:World} {b sz:Nat} {cs:List Value} {t:TypeId} {f:Nat × Nat} (h:w.heap[b]? = some (.cells cs.toArray t f)) (hl:cs.length=sz):Row w.heap.size w sz (.slice (some ⟨b,0,none⟩) 1 1) 1 cs :=
 ⟨_,_,b,0,rfl,by rw [hl]; omega,fun _=>⟨rfl,lt_of_some h⟩,fun j hj=>by rw [Nat.zero_add,cell_of h]; simp [hj]⟩
theorem setRow_at {w:World} {g:Nat} {cur:Array Value} {e:TypeId} (h:w.heap[g]? = some (.cells cur e (0,0))) (cs:Array Value):(w.setRow g cs).heap[g]? = some (.cells cs e (0,0)):=by
 simp [World.setRow,Array.getElem?_modify,h]
theorem setRow_far {w:World} {g k:Nat} (h:k≠g) (cs:Array Value):(w.setRow g cs).heap[k]? = w.heap[k]?:=by
 simp [World.setRow,Array.getElem?_modify,Ne.symm h]
theorem Fr.setRow {S:Nat→Prop} {a w:World} (h:Fr S a w) {g:Nat} (hg:S g) (cs:Array Value):Fr S a (w.setRow g cs) :=
 ⟨h.os,h.tape,h.output,by simpa [World.setRow] using h.size,fun k hk hs=>(setRow_far (fun e=>hs (by rw [e]; exact hg)) cs).trans (h.block k hk hs)⟩
theorem zero1 {z:Array Value}:(Builtin.zeroCells z 1).toList=z.toList:=by
 apply List.ext_getElem
 ·simp [Builtin.zeroCells]
 ·intro i h1 h2
  have:i < z.size:=by simpa using h2
  simp [Builtin.zeroCells,Nat.mod_eq_of_lt this]; rw [getElem!_pos z i this]
theorem delete_own {α:Type} {P:Program} {E t ty ty2:TypeId} {sz:Nat} {R:Rel α} (hR:Good sz R) {i0:TypeInfo} {z:Value} (ht:P.underlying t=some (.slice E)) (hi:P.info? E=some i0) (hsz:i0.size=sz) (hz:∀ w,(zeroValue E).run P w=.ok z w)
  (hzl:z.cells.size=sz) (hz1:∀ u∈z.cells.toList,u.oneCell'=true) {S:Foot} {w:World} {l:List α} {g cap k:Nat} (h:OwnR E sz R S w l (.slice (some ⟨g,0,none⟩) l.length cap)) (hk:k < l.length) (hp:0 < sz) (src:Addr) (hsrc:k+1 < l.length→src=⟨g,(k+1) * sz,none⟩) :
  ∃ W1 W2,AppRun P t t ty (.slice (some ⟨g,0,none⟩) k cap) (.slice (some src) (l.length - (k+1)) (cap - (k+1))) (.slice (some ⟨g,0,none⟩) (l.length - 1) cap) w W1 ∧
   (Builtin.clear_ #[t] ty2 #[.slice (some ⟨g,(l.length - 1) * sz,none⟩) 1 (cap - (l.length - 1))]).run P W1=.ok (.tuple #[]) W2∧OwnR E sz R S W2 (l.eraseIdx k) (.slice (some ⟨g,0,none⟩) (l.length - 1) cap)∧Fr (fun q=>q=g) w W2:=by
 obtain ⟨xs,h1,h2,h3⟩:=h; obtain ⟨hxl,h1⟩:=h1; rcases h1 with ⟨e,_⟩ | ⟨g',cap',cur,e,_,hg,hnc,hcm,hcs,htk⟩
 ·cases e
 ·simp only [Value.slice.injEq,Option.some.injEq,Addr.mk.injEq] at e
  obtain ⟨⟨rfl,_⟩,_,rfl⟩:=e; obtain ⟨n,hn⟩:∃ n,l.length=n+1:=⟨l.length - 1,by omega⟩; rw [hn] at hxl htk hnc hk hsrc ⊢
  have hkn:k≤n:=by omega
  have m1:k * sz≤n * sz:=Nat.mul_le_mul_right _ hkn; have m2:(k+1) * sz=k * sz+sz:=Nat.succ_mul _ _; have m3:(n+1) * sz=n * sz+sz:=Nat.succ_mul _ _; have m4:(n+1) * sz≤cap * sz:=Nat.mul_le_mul_right _ hnc
  have hcl:cur.toList.length=cap * sz:=by simpa using hcs
  have hnl:(xs.drop ((k+1) * sz)).length=(n+1 - (k+1)) * sz:=by rw [List.length_drop,hxl,Nat.sub_mul]
  have hxs:∀ j,j < (n+1) * sz→xs[j]? = cur[j]?:=fun j hj=>by rw [← htk,List.getElem?_take_of_lt hj,Array.getElem?_toList]
  have hone:∀ u∈xs.drop ((k+1) * sz),u.oneCell'=true:=by
   intro u hu; have hu2:=List.mem_of_mem_drop hu; obtain ⟨j,hj⟩:=List.mem_iff_getElem?.1 hu2; have hjl:=(List.getElem?_eq_some_iff.1 hj).1
   have hjd:j / sz < l.length:=by rw [hn]; exact Nat.div_lt_of_lt_mul (by rw [Nat.mul_comm]; omega)
   obtain ⟨cs,h4,h5⟩:=h3 (j / sz) l[j / sz] (List.getElem?_eq_getElem hjd)
   have hjm:j % sz < cs.length:=by rw [hR.len h5]; exact Nat.mod_lt _ hp
   have h6:=h4 (j % sz) cs[j % sz] (List.getElem?_eq_getElem hjm); rw [Nat.mul_comm,Nat.div_add_mod,hj] at h6; injection h6 with h6; rw [h6]; exact hR.one h5 _ (List.getElem_mem hjm)
  have hnews:∀ j u,(xs.drop ((k+1) * sz))[j]? = some u→w.cell? (src.add j)=some u:=by
   intro j u hu; have hj:=(List.getElem?_eq_some_iff.1 hu).1; rw [hnl] at hj
   have hkl:k+1 < n+1:=by
    rcases Nat.lt_or_ge (k+1) (n+1) with h | h
    ·exact h
    ·have:n+1 - (k+1)=0:=by omega
     rw [this,Nat.zero_mul] at hj; omega
   rw [hsrc hkl]
   have e2:(⟨g,(k+1) * sz,none⟩:Addr).add j=⟨g,(k+1) * sz+j,none⟩:=by simp only [Addr.add]; split <;> simp_all
   rw [e2,cell_of hg]; rw [List.getElem?_drop] at hu; rw [← hxs _ (by have:=(List.getElem?_eq_some_iff.1 hu).1; omega)]; exact hu
  have m5:(n+1 - (k+1)) * sz+(k+1) * sz=(n+1) * sz:=by rw [← Nat.add_mul]; congr 1; omega
  have hrun:=run_append_room (P:=P) w t ty E i0 ht hi g k cap cur hg src (n+1 - (k+1)) (cap - (k+1)) (xs.drop ((k+1) * sz)) (by rw [hsz]; exact hnl) hnews hone (by omega) (by rw [hsz,hnl,hcs]; omega); rw [hsz,show k+(n+1 - (k+1))=n+1 - 1 by omega] at hrun; have hg1:=setRow_at hg ((cur.toList.take (k * sz)++xs.drop ((k+1) * sz)++cur.toList.drop (k * sz+(xs.drop ((k+1) * sz)).length)).toArray); generalize hc1:(cur.toList.take (k * sz)++xs.drop ((k+1) * sz)++cur.toList.drop (k * sz+(xs.drop ((k+1) * sz)).length))=c1 at hrun hg1
  have hc1l:c1.length=cap * sz:=by
   rw [← hc1]; simp only [List.length_append,List.length_take,List.length_drop]; rw [hcl,hxl]; omega
  have hc1t:c1.take (n * sz)=xs.take (k * sz)++xs.drop ((k+1) * sz):=by
   rw [← hc1,List.take_append_of_le_length (by rw [List.length_append,List.length_take,hnl,hcl]; omega)]; rw [List.take_of_length_le (by rw [List.length_append,List.length_take,hnl,hcl]; omega)]
   congr 1
   rw [← htk,List.take_take,Nat.min_eq_left (by omega)]
  have hst:=run_storeCells_at P g (n * sz) E z.cells.toList 0 c1.toArray _ hg1 (by simp; rw [hzl,hc1l]; omega) hz1; simp only [Nat.add_zero] at hst
  have hclear:(Builtin.clear_ #[t] ty2 #[.slice (some ⟨g,n * sz,none⟩) 1 (cap - n)]).run P (w.setRow g c1.toArray)=.ok (.tuple #[]) ((w.setRow g c1.toArray).setRow g (c1.toArray.toList.take (n * sz)++z.cells.toList++c1.toArray.toList.drop (n * sz+z.cells.toList.length)).toArray):=by
   simp [Builtin.clear_,run_underlying ht,hz,zero1,hst]
  refine ⟨_,_,⟨hrun⟩,hclear,⟨xs.take (k * sz)++xs.drop ((k+1) * sz),⟨?_,Or.inr ⟨g,cap,_,by rw [List.length_eraseIdx_of_lt (by omega),hn],Nat.zero_le _,setRow_at hg1 _,?_,hcm,?_,?_⟩⟩,h2,fun i x hx=>?_⟩,Fr.setRow (S:=fun q=>q=g) (Fr.setRow (S:=fun q=>q=g) (Fr.refl _ w) rfl _) rfl _⟩
  ·rw [List.length_append,List.length_take,hnl,List.length_eraseIdx_of_lt (by omega),hn,hxl]
   show _=n * sz; omega
  ·rw [List.length_eraseIdx_of_lt (by omega),hn]; omega
  ·simp only [List.size_toArray,List.length_append,List.length_take,List.length_drop,hc1l]
   have:z.cells.toList.length=sz:=by simpa using hzl
   rw [this]; omega
  ·rw [List.length_eraseIdx_of_lt (by omega),hn]
   show List.take (n * sz) (List.take (n * sz) c1++z.cells.toList++List.drop _ c1)=_; rw [List.append_assoc,List.take_append_of_le_length (by rw [List.length_take,hc1l]; omega),List.take_take,Nat.min_self,hc1t]
  ·have hmv:∀ {y:α} {ds:List Value},R (fun q=>S q∧(Value.slice (some ⟨g,0,none⟩) l.length cap).ownBlock≠some q) w y ds→R (fun q=>S q∧(Value.slice (some ⟨g,0,none⟩) (n+1 - 1) cap).ownBlock≠some q) ((w.setRow g c1.toArray).setRow g (c1.toArray.toList.take (n * sz)++z.cells.toList++c1.toArray.toList.drop (n * sz+z.cells.toList.length)).toArray) y ds:=fun hy=>hR.move hy fun q hq hs=>by
    have hne:q≠g:=fun e=>hs.2 (by rw [e]; rfl)
    exact ⟨⟨hs.1,fun e=>hne (by injection e with e; exact e.symm)⟩,(setRow_far hne _).trans (setRow_far hne _)⟩
   rw [List.getElem?_eraseIdx] at hx; by_cases hik:i < k
   ·rw [if_pos hik] at hx
    obtain ⟨cs,h4,h5⟩:=h3 i x hx; refine ⟨cs,fun j u hu=>?_,hmv h5⟩
    have hj:j < sz:=by have:=(List.getElem?_eq_some_iff.1 hu).1; rw [hR.len h5] at this; exact this
    have:i * sz+sz≤k * sz:=by rw [← Nat.succ_mul]; exact Nat.mul_le_mul_right _ hik
    rw [List.getElem?_append_left (by rw [List.length_take,hxl]; omega),List.getElem?_take_of_lt (by omega)]; exact h4 j u hu
   ·rw [if_neg hik] at hx
    obtain ⟨cs,h4,h5⟩:=h3 (i+1) x hx; refine ⟨cs,fun j u hu=>?_,hmv h5⟩; have m6:(i+1) * sz=i * sz+sz:=Nat.succ_mul _ _; have m7:k * sz≤i * sz:=Nat.mul_le_mul_right _ (by omega); rw [List.getElem?_append_right (by rw [List.length_take,hxl]; omega),List.getElem?_drop]; rw [show (k+1) * sz+(i * sz+j - (List.take (k * sz) xs).length)=(i+1) * sz+j by rw [List.length_take,hxl]; omega]; exact h4 j u hu
end Go.Proofs.YtfejagpjahoibaaGreatDoor
