/- AskQv (printed by gen_askqv.py): a query read as data, with the bound of the second form. -/
import Derived.Test.YtffdpoifdahadaaGreatDoorRows
import Derived.Test.YtffdpoifdahadaaGreatDoorFrame
import Derived.Test.YtffdpoifdahadaaGreatDoorLaid
import Derived.Deep.Slices
import Derived.Deep.Fields
import Derived.Lib.SmallJoins
import Derived.Test.YtffdpoifdahadaaGreatDoorStrXd
set_option linter.unusedVariables false
namespace Go.Proofs.YtffdpoifdahadaaGreatDoor.bulks
theorem one_le {H:Type} (d:DataW H):1≤Rows.uptoBulk d:=by
 cases d with
 | lit l=>cases l <;> simp [Rows.uptoBulk]
 | nil=>simp [Rows.uptoBulk]
 | ptr d=>simp [Rows.uptoBulk]
 | slice elems spare=>simp [Rows.uptoBulk]
 | agg parts=>simp [Rows.uptoBulk]
 | iface t d=>simp [Rows.uptoBulk]
 | map entries=>simp [Rows.uptoBulk]
 | held h=>simp [Rows.uptoBulk]
theorem part_le {H:Type} {d:DataW H} {l:List (DataW H)} (h:d∈l):Rows.uptoBulk d≤Rows.uptoBulkAll l:=by
 induction l with
 | nil=>cases h
 | cons x r ih =>
  simp only [Rows.uptoBulkAll]
  cases List.mem_cons.1 h with
  | inl e=>subst e; omega
  | inr e=>have:=ih e; omega
theorem length_le {H:Type} (l:List (DataW H)):l.length≤Rows.uptoBulkAll l:=by
 induction l with
 | nil=>simp [Rows.uptoBulkAll]
 | cons x r ih=>have:=one_le x; simp only [Rows.uptoBulkAll,List.length_cons]; omega
theorem bound {H:Type} {l:List (DataW H)} (hk:Rows.uptoSmall H l=true):Rows.uptoBulkAll l≤1048576:=of_decide_eq_true hk
end Go.Proofs.YtffdpoifdahadaaGreatDoor.bulks
namespace Go.Proofs.YtffdpoifdahadaaGreatDoor
open Go.Joins Go.ChangeShapes Go.WideShapes Go.ChangeAt Go.RowKit Go.WideMaps Go.WideElems Go.Deep
theorem read_int1 {H:Type} {enc:TypeId × Value→H} {P:Program} {W:World} {t:TypeId} {k:IntKind} (ht:P.underlying t=some (.int k)) {v:Value} {y:DataW H × List MemPlace} {n:Nat} (h:DataW.trod enc P W 0 (fun _=>true) true n t [v]=some y) :
  ∃ z,v=.int k z∧(Lit.int k z).wf=true:=by
 obtain ⟨z,e1,_,e3⟩:=DataW.trod_int ht h; exact ⟨z,by simpa using e1,e3⟩
theorem read_str1 {H:Type} {enc:TypeId × Value→H} {P:Program} {W:World} {t:TypeId} (ht:P.underlying t=some .string) {v:Value} {y:DataW H × List MemPlace} {n:Nat} (h:DataW.trod enc P W 0 (fun _=>true) true n t [v]=some y) :
  ∃ s:List UInt8,v=.string ⟨s.toArray⟩∧y.1=.lit (.string s):=by
 obtain ⟨s,e1,e2,_⟩:=DataW.trod_string ht h; exact ⟨s.data.toList,by simpa using e1,by rw [e2]⟩
theorem list_choose {α:Type} {Q:Nat→α→Prop}:∀ (n:Nat),(∀ i,i < n→∃ x,Q i x)→∃ l:List α,l.length=n∧∀ i x,l[i]? = some x→Q i x
 | 0,_=>⟨[],rfl,fun i x h=>by simp at h⟩
 | n+1,h=>by
  obtain ⟨l,hl,hq⟩:=list_choose n (fun i hi=>h i (by omega)); obtain ⟨x,hx⟩:=h n (by omega); refine ⟨l++[x],by simp [hl],fun i y hy=>?_⟩; by_cases hi:i < n
  ·rw [List.getElem?_append_left (by omega)] at hy
   exact hq i y hy
  ·rw [List.getElem?_append_right (by omega)] at hy
   have:i=n:=by
    have:=(List.getElem?_eq_some_iff.1 hy).1; simp at this; omega
   subst this; rw [hl] at hy; simp at hy; subst hy; exact hx
theorem bulk_len {H:Type} {d:DataW H} {D:Nat→DataW H} {len:Nat} (hd:(d=.nil∧len=0)∨∃ sp,d=.slice ((List.range len).map D) sp):len≤Rows.uptoBulk d:=by
 rcases hd with ⟨_,h⟩ | ⟨sp,rfl⟩
 ·omega
 ·have h1:=bulks.length_le ((List.range len).map D)
  rw [List.length_map,List.length_range] at h1; simp only [Rows.uptoBulk]; omega
theorem read_bool1 {H:Type} {enc:TypeId × Value→H} {P:Program} {W:World} {t:TypeId} (ht:P.underlying t=some .bool) {v:Value} {y:DataW H × List MemPlace} {n:Nat} (h:DataW.trod enc P W 0 (fun _=>true) true n t [v]=some y) :
  ∃ b,v=.bool b:=by
 obtain ⟨b,e1,_⟩:=DataW.trod_bool ht h; exact ⟨b,by simpa using e1⟩
/-- what lies below the world's size -/
abbrev LowF (W:World):Foot:=fun k=>k < W.heap.size
theorem read_row {H:Type} {enc:TypeId × Value→H} {P:Program} {W:World} {t e:TypeId} {sz:Nat} {α:Type} {R:Rel α} {Ok:α→Prop} {B:Nat} (ht:P.underlying t=some (.slice e)) (hC:P.cellsOf e=sz) (h0:0 < sz)
  (hel:∀ n cs y,DataW.trod enc P W 0 (fun _=>true) true n e cs=some y→cs.length=sz→(∀ x∈y.2,x.block < W.heap.size)→Rows.uptoBulk y.1 < B→∃ x:α,R (LowF W) W x cs∧Ok x)
  {n:Nat} {v:Value} {y:DataW H × List MemPlace} (h:DataW.trod enc P W 0 (fun _=>true) true n t [v]=some y) (hlt:∀ x∈y.2,x.block < W.heap.size) (hb:Rows.uptoBulk y.1≤B) :
  ∃ l:List α,SlR sz R (LowF W) W l v∧(∀ x∈l,Ok x)∧l.length≤B:=by
 rcases open_slice ht h with ⟨hcs,hx⟩ | ⟨a,len,cap,m,n,D,Pl,hcs,_,hl,hm,hmm,hx,hi⟩
 ·simp at hcs
  subst hcs; exact ⟨[],SlR.nil _ _ _ _ _,by simp,by simp⟩
 ·simp at hcs
  subst hcs; simp only [if_true] at hmm; subst hmm; rw [hC] at hx hi; subst hx
  have hspot:0 < len→a.spot=none∧a.block < W.heap.size:=fun hpos=>by
   obtain ⟨cs',hc,_⟩:=hi 0 (by omega); obtain ⟨_,hcl,hat⟩:=World.cells?_some hc; have hs:=World.cell?_spot ((hat 0 h0).trans (List.getElem?_eq_getElem (by omega))); refine ⟨by simpa [Addr.add] using hs,?_⟩; refine hlt (.cell a.block (a.off+0)) (List.mem_append_left _ (MemPlace.mem_row.2 ⟨0,?_,by simp⟩)); exact Nat.mul_pos (by omega) h0
  have hlen:len≤Rows.uptoBulk (DataW.slice ((List.range len).map D) ((List.range (m - len)).map fun j=>D (len+j))):=bulk_len (Or.inr ⟨_,rfl⟩)
  obtain ⟨ps,hpl,hq⟩:=list_choose (Q:=fun i (p:α × List Value)=>(∀ j u,p.2[j]? = some u→W.cell? ⟨a.block,a.off+i * sz+j,none⟩=some u)∧R (LowF W) W p.1 p.2∧Ok p.1) len (fun i hil=>by
   obtain ⟨h1,_⟩:=hspot (by omega); obtain ⟨cs',hc,ht'⟩:=hi i (by omega); obtain ⟨_,hcl,hat⟩:=World.cells?_some hc
   have hbi:Rows.uptoBulk (D i) < B:=by
    have h1:Rows.uptoBulk (D i)≤Rows.uptoBulkAll ((List.range len).map D):=bulks.part_le (List.mem_map.2 ⟨i,List.mem_range.2 hil,rfl⟩); simp only [Rows.uptoBulk] at hb; omega
   obtain ⟨x,hx,ho⟩:=hel n cs' _ ht' hcl (fun x hx=>hlt x (List.mem_append_right _ (List.mem_flatMap.2 ⟨i,List.mem_range.2 (by omega),hx⟩))) hbi; refine ⟨(x,cs'),fun j u hu=>?_,hx,ho⟩
   have hj:j < sz:=by have:=(List.getElem?_eq_some_iff.1 hu).1; simp at this; omega
   have:=(hat j hj).trans hu; rw [Go.Deep.add_add,plain_add h1] at this; rw [Nat.add_assoc]
   exact this)
  refine ⟨ps.map (·.1),⟨some a,m,a.block,a.off,fun i=>((ps[i]?).map (·.2)).getD [],by simp [hpl],by simp [hpl]; exact hl,fun hp=>?_,fun i hil j u hu=>?_,fun i x hx=>?_⟩,fun x hx=>?_,by simp [hpl]; simp only [] at hb; omega⟩
  ·obtain ⟨h1,h2⟩:=hspot (by simpa [hpl] using hp)
   refine ⟨?_,h2,h2⟩; obtain ⟨b,o,s⟩:=a; simp only at h1; subst h1; rfl
  ·have hil':i < ps.length:=by simpa using hil
   have e:ps[i]? = some ps[i]:=List.getElem?_eq_getElem hil'; simp only [e] at hu; exact (hq i _ e).1 j u hu
  ·rw [List.getElem?_map] at hx
   cases e:ps[i]? with
   | none=>rw [e] at hx; simp at hx
   | some p =>
    rw [e] at hx; simp at hx; subst hx; show R (LowF W) W p.1 (((ps[i]?).map (·.2)).getD []); rw [e]; exact (hq i p e).2.1
  ·obtain ⟨p,hp,rfl⟩:=List.mem_map.1 hx
   obtain ⟨i,hi⟩:=List.mem_iff_getElem?.1 hp; exact (hq i p hi).2.2
theorem read_fields {H:Type} {enc:TypeId × Value→H} {P:Program} {W:World} {e:TypeId} {fs:Array Field} (he:P.underlying e=some (.struct fs)) {n:Nat} {cs:List Value} {y:DataW H × List MemPlace}
  (h:DataW.trod enc P W 0 (fun _=>true) true n e cs=some y) (hlt:∀ x∈y.2,x.block < W.heap.size) :
  cs.length=P.cellsOf e∧∃ (ys:List (DataW H × List MemPlace)) (n':Nat),y.1=.agg (ys.map (·.1))∧ys.length=fs.size∧∀ (j:Nat) (f:Field),fs[j]? = some f→∃ yj,ys[j]? = some yj∧DataW.trod enc P W 0 (fun _=>true) true n' f.type ((cs.drop f.offset).take (P.cellsOf f.type))=some yj∧(∀ x∈yj.2,x.block < W.heap.size)∧Rows.uptoBulk yj.1 < Rows.uptoBulk y.1:=by
 obtain ⟨ys,n',_,rfl,hcl,hyl,hfd⟩:=DataW.trod_struct he h; refine ⟨hcl,ys,n',rfl,hyl,fun j f hj=>?_⟩; have hjl:j < fs.size:=(Array.getElem?_eq_some_iff.1 hj).1
 have hjy:j < ys.length:=by omega
 have hys:ys[j]? = some ys[j]:=List.getElem?_eq_getElem hjy; refine ⟨ys[j],hys,(hfd j f hj).trans hys,fun x hx=>hlt x (List.mem_flatMap.2 ⟨ys[j],List.getElem_mem hjy,hx⟩),?_⟩; have:=bulks.part_le (List.mem_map.2 ⟨ys[j],List.getElem_mem hjy,rfl⟩:(ys[j]).1∈ys.map (·.1)); simp only [Rows.uptoBulk]; omega
set_option maxRecDepth 100000 in
theorem read_tval {H:Type} {enc:TypeId × Value→H} {W:World} {n:Nat} {cs:List Value} {y:DataW H × List MemPlace} (h:DataW.trod enc Tryz.prog W 0 (fun _=>true) true n 61 cs=some y) (hlt:∀ x∈y.2,x.block < W.heap.size) (hb:Rows.uptoBulk y.1≤1048576) :
  ∃ (k n m:Int) (vt vs:List UInt8) (ln:Nat) (a:Option Addr) (c:Nat),cs=[iv k,sv vt,iv n,iv m,sv vs,.slice a ln c]∧vt.length≤1048576∧vs.length≤1048576∧ln≤1048576:=by
 obtain ⟨hcl,ys,n',hy,hyl,hf⟩:=read_fields Tryz.underlying61 h hlt; replace hcl:cs.length=6:=hcl.trans (by kernel_rfl); obtain ⟨y0,_,t0,p0,b0⟩:=hf 0 _ rfl; obtain ⟨y1,_,t1,p1,b1⟩:=hf 1 _ rfl; obtain ⟨y2,_,t2,p2,b2⟩:=hf 2 _ rfl; obtain ⟨y3,_,t3,p3,b3⟩:=hf 3 _ rfl; obtain ⟨y4,_,t4,p4,b4⟩:=hf 4 _ rfl; obtain ⟨y5,_,t5,p5,b5⟩:=hf 5 _ rfl
 match cs,hcl with
 | [u0,u1,u2,u3,u4,u5],_ =>
 clear hf h hyl
 replace t0:DataW.trod enc Tryz.prog W 0 (fun _=>true) true n' 3 [u0]=some y0:=by
  have h9:DataW.trod enc Tryz.prog W 0 (fun _=>true) true n' 3 (([u0,u1,u2,u3,u4,u5].drop 0).take (Tryz.prog.cellsOf 3))=some y0:=t0; rw [show Tryz.prog.cellsOf 3 = 1 by kernel_rfl] at h9; exact h9
 replace t1:DataW.trod enc Tryz.prog W 0 (fun _=>true) true n' 9 [u1]=some y1:=by
  have h9:DataW.trod enc Tryz.prog W 0 (fun _=>true) true n' 9 (([u0,u1,u2,u3,u4,u5].drop 1).take (Tryz.prog.cellsOf 9))=some y1:=t1; rw [show Tryz.prog.cellsOf 9 = 1 by kernel_rfl] at h9; exact h9
 replace t2:DataW.trod enc Tryz.prog W 0 (fun _=>true) true n' 3 [u2]=some y2:=by
  have h9:DataW.trod enc Tryz.prog W 0 (fun _=>true) true n' 3 (([u0,u1,u2,u3,u4,u5].drop 2).take (Tryz.prog.cellsOf 3))=some y2:=t2; rw [show Tryz.prog.cellsOf 3 = 1 by kernel_rfl] at h9; exact h9
 replace t3:DataW.trod enc Tryz.prog W 0 (fun _=>true) true n' 3 [u3]=some y3:=by
  have h9:DataW.trod enc Tryz.prog W 0 (fun _=>true) true n' 3 (([u0,u1,u2,u3,u4,u5].drop 3).take (Tryz.prog.cellsOf 3))=some y3:=t3; rw [show Tryz.prog.cellsOf 3 = 1 by kernel_rfl] at h9; exact h9
 replace t4:DataW.trod enc Tryz.prog W 0 (fun _=>true) true n' 9 [u4]=some y4:=by
  have h9:DataW.trod enc Tryz.prog W 0 (fun _=>true) true n' 9 (([u0,u1,u2,u3,u4,u5].drop 4).take (Tryz.prog.cellsOf 9))=some y4:=t4; rw [show Tryz.prog.cellsOf 9 = 1 by kernel_rfl] at h9; exact h9
 replace t5:DataW.trod enc Tryz.prog W 0 (fun _=>true) true n' 59 [u5]=some y5:=by
  have h9:DataW.trod enc Tryz.prog W 0 (fun _=>true) true n' 59 (([u0,u1,u2,u3,u4,u5].drop 5).take (Tryz.prog.cellsOf 59))=some y5:=t5; rw [show Tryz.prog.cellsOf 59 = 1 by kernel_rfl] at h9; exact h9
 obtain ⟨z0,rfl,hz0⟩:=read_int1 Tryz.underlying3 t0; obtain ⟨s1,rfl,e1⟩:=read_str1 Tryz.underlying9 t1; rw [e1] at b1; simp only [Rows.uptoBulk] at b1; obtain ⟨z2,rfl,hz2⟩:=read_int1 Tryz.underlying3 t2; obtain ⟨z3,rfl,hz3⟩:=read_int1 Tryz.underlying3 t3; obtain ⟨s4,rfl,e4⟩:=read_str1 Tryz.underlying9 t4; rw [e4] at b4; simp only [Rows.uptoBulk] at b4; obtain ⟨l5,hl5,ho5,hn5⟩:=read_row (R:=fun (_:Foot) (_:World) (_:Unit) (_:List Value)=>True) (Ok:=fun _=>True) (B:=1048576) Tryz.underlying59 (show Tryz.prog.cellsOf 61 = 6 by kernel_rfl) (by decide) (fun n cs y h _ hlt hb=>⟨(),trivial,trivial⟩) t5 p5 (by omega); obtain ⟨a,c,rfl,-⟩:=hl5.slice; exact ⟨z0,z2,z3,s1,s4,l5.length,a,c,rfl,by omega,by omega,hn5⟩
set_option maxRecDepth 100000 in
theorem read_tg {H:Type} {enc:TypeId × Value→H} {W:World} {n:Nat} {cs:List Value} {y:DataW H × List MemPlace} (h:DataW.trod enc Tryz.prog W 0 (fun _=>true) true n 63 cs=some y) (hlt:∀ x∈y.2,x.block < W.heap.size) (hb:Rows.uptoBulk y.1≤1048576) :
  ∃ x:Tg,TgR (LowF W) W x cs∧TmM x:=by
 obtain ⟨hcl,ys,n',hy,hyl,hf⟩:=read_fields Tryz.underlying63 h hlt; replace hcl:cs.length=7:=hcl.trans (by kernel_rfl); obtain ⟨y0,_,t0,p0,b0⟩:=hf 0 _ rfl; obtain ⟨y1,_,t1,p1,b1⟩:=hf 1 _ rfl
 match cs,hcl with
 | [u0,u1,u2,u3,u4,u5,u6],_ =>
 clear hf h hyl
 replace t0:DataW.trod enc Tryz.prog W 0 (fun _=>true) true n' 9 [u0]=some y0:=by
  have h9:DataW.trod enc Tryz.prog W 0 (fun _=>true) true n' 9 (([u0,u1,u2,u3,u4,u5,u6].drop 0).take (Tryz.prog.cellsOf 9))=some y0:=t0; rw [show Tryz.prog.cellsOf 9 = 1 by kernel_rfl] at h9; exact h9
 replace t1:DataW.trod enc Tryz.prog W 0 (fun _=>true) true n' 61 [u1,u2,u3,u4,u5,u6]=some y1:=by
  have h9:DataW.trod enc Tryz.prog W 0 (fun _=>true) true n' 61 (([u0,u1,u2,u3,u4,u5,u6].drop 1).take (Tryz.prog.cellsOf 61))=some y1:=t1; rw [show Tryz.prog.cellsOf 61 = 6 by kernel_rfl] at h9; exact h9
 obtain ⟨s0,rfl,e0⟩:=read_str1 Tryz.underlying9 t0; rw [e0] at b0; simp only [Rows.uptoBulk] at b0; obtain ⟨k,nn,m,vt,vs,ln,a,c,hcs,h1,h2,h3⟩:=read_tval t1 p1 (by omega); injection hcs with e1 hcs; injection hcs with e2 hcs; injection hcs with e3 hcs; injection hcs with e4 hcs; injection hcs with e5 hcs; injection hcs with e6 hcs; subst e1 e2 e3 e4 e5 e6; exact ⟨⟨s0,k,vt,nn,m,vs,ln⟩,⟨a,c,rfl⟩,by show s0.length≤_; omega,h2,h1,h3⟩
set_option maxRecDepth 100000 in
theorem read_lg {H:Type} {enc:TypeId × Value→H} {W:World} {n:Nat} {cs:List Value} {y:DataW H × List MemPlace} (h:DataW.trod enc Tryz.prog W 0 (fun _=>true) true n 24 cs=some y) (hlt:∀ x∈y.2,x.block < W.heap.size) (hb:Rows.uptoBulk y.1≤1048576) :
  ∃ x:Lg,LgR (LowF W) W x cs∧LgM x:=by
 obtain ⟨hcl,ys,n',hy,hyl,hf⟩:=read_fields Tryz.underlying24 h hlt; replace hcl:cs.length=4:=hcl.trans (by kernel_rfl); obtain ⟨y0,_,t0,p0,b0⟩:=hf 0 _ rfl; obtain ⟨y1,_,t1,p1,b1⟩:=hf 1 _ rfl; obtain ⟨y2,_,t2,p2,b2⟩:=hf 2 _ rfl; obtain ⟨y3,_,t3,p3,b3⟩:=hf 3 _ rfl
 match cs,hcl with
 | [u0,u1,u2,u3],_ =>
 clear hf h hyl
 replace t0:DataW.trod enc Tryz.prog W 0 (fun _=>true) true n' 3 [u0]=some y0:=by
  have h9:DataW.trod enc Tryz.prog W 0 (fun _=>true) true n' 3 (([u0,u1,u2,u3].drop 0).take (Tryz.prog.cellsOf 3))=some y0:=t0; rw [show Tryz.prog.cellsOf 3 = 1 by kernel_rfl] at h9; exact h9
 replace t1:DataW.trod enc Tryz.prog W 0 (fun _=>true) true n' 4 [u1]=some y1:=by
  have h9:DataW.trod enc Tryz.prog W 0 (fun _=>true) true n' 4 (([u0,u1,u2,u3].drop 1).take (Tryz.prog.cellsOf 4))=some y1:=t1; rw [show Tryz.prog.cellsOf 4 = 1 by kernel_rfl] at h9; exact h9
 replace t2:DataW.trod enc Tryz.prog W 0 (fun _=>true) true n' 9 [u2]=some y2:=by
  have h9:DataW.trod enc Tryz.prog W 0 (fun _=>true) true n' 9 (([u0,u1,u2,u3].drop 2).take (Tryz.prog.cellsOf 9))=some y2:=t2; rw [show Tryz.prog.cellsOf 9 = 1 by kernel_rfl] at h9; exact h9
 replace t3:DataW.trod enc Tryz.prog W 0 (fun _=>true) true n' 22 [u3]=some y3:=by
  have h9:DataW.trod enc Tryz.prog W 0 (fun _=>true) true n' 22 (([u0,u1,u2,u3].drop 3).take (Tryz.prog.cellsOf 22))=some y3:=t3; rw [show Tryz.prog.cellsOf 22 = 1 by kernel_rfl] at h9; exact h9
 obtain ⟨z0,rfl,hz0⟩:=read_int1 Tryz.underlying3 t0; obtain ⟨z1,rfl⟩:=read_bool1 Tryz.underlying4 t1; obtain ⟨s2,rfl,e2⟩:=read_str1 Tryz.underlying9 t2; rw [e2] at b2; simp only [Rows.uptoBulk] at b2; obtain ⟨l3,hl3,ho3,hn3⟩:=read_row (R:=TgR) (Ok:=TmM) (B:=1048576) Tryz.underlying22 (show Tryz.prog.cellsOf 63 = 7 by kernel_rfl) (by decide) (fun n cs y h _ hlt hb=>read_tg h hlt (by omega)) t3 p3 (by omega); obtain ⟨a,c,rfl,-⟩:=hl3.slice; exact ⟨⟨z0,z1,s2,l3⟩,⟨a,c,rfl,hl3⟩,by show s2.length≤_; omega,hn3,ho3⟩
set_option maxRecDepth 100000 in
theorem read_rg {H:Type} {enc:TypeId × Value→H} {W:World} {n:Nat} {cs:List Value} {y:DataW H × List MemPlace} (h:DataW.trod enc Tryz.prog W 0 (fun _=>true) true n 27 cs=some y) (hlt:∀ x∈y.2,x.block < W.heap.size) (hb:Rows.uptoBulk y.1≤1048576) :
  ∃ x:Rg,RgR (LowF W) W x cs∧RgM x:=by
 obtain ⟨hcl,ys,n',hy,hyl,hf⟩:=read_fields Tryz.underlying27 h hlt; replace hcl:cs.length=7:=hcl.trans (by kernel_rfl); obtain ⟨y0,_,t0,p0,b0⟩:=hf 0 _ rfl; obtain ⟨y1,_,t1,p1,b1⟩:=hf 1 _ rfl; obtain ⟨y2,_,t2,p2,b2⟩:=hf 2 _ rfl; obtain ⟨y3,_,t3,p3,b3⟩:=hf 3 _ rfl
 match cs,hcl with
 | [u0,u1,u2,u3,u4,u5,u6],_ =>
 clear hf h hyl
 replace t0:DataW.trod enc Tryz.prog W 0 (fun _=>true) true n' 24 [u0,u1,u2,u3]=some y0:=by
  have h9:DataW.trod enc Tryz.prog W 0 (fun _=>true) true n' 24 (([u0,u1,u2,u3,u4,u5,u6].drop 0).take (Tryz.prog.cellsOf 24))=some y0:=t0; rw [show Tryz.prog.cellsOf 24 = 4 by kernel_rfl] at h9; exact h9
 replace t1:DataW.trod enc Tryz.prog W 0 (fun _=>true) true n' 3 [u4]=some y1:=by
  have h9:DataW.trod enc Tryz.prog W 0 (fun _=>true) true n' 3 (([u0,u1,u2,u3,u4,u5,u6].drop 4).take (Tryz.prog.cellsOf 3))=some y1:=t1; rw [show Tryz.prog.cellsOf 3 = 1 by kernel_rfl] at h9; exact h9
 replace t2:DataW.trod enc Tryz.prog W 0 (fun _=>true) true n' 3 [u5]=some y2:=by
  have h9:DataW.trod enc Tryz.prog W 0 (fun _=>true) true n' 3 (([u0,u1,u2,u3,u4,u5,u6].drop 5).take (Tryz.prog.cellsOf 3))=some y2:=t2; rw [show Tryz.prog.cellsOf 3 = 1 by kernel_rfl] at h9; exact h9
 replace t3:DataW.trod enc Tryz.prog W 0 (fun _=>true) true n' 25 [u6]=some y3:=by
  have h9:DataW.trod enc Tryz.prog W 0 (fun _=>true) true n' 25 (([u0,u1,u2,u3,u4,u5,u6].drop 6).take (Tryz.prog.cellsOf 25))=some y3:=t3; rw [show Tryz.prog.cellsOf 25 = 1 by kernel_rfl] at h9; exact h9
 obtain ⟨x,hx,hxm⟩:=read_lg t0 p0 (by omega); obtain ⟨z1,rfl,hz1⟩:=read_int1 Tryz.underlying3 t1; obtain ⟨z2,rfl,hz2⟩:=read_int1 Tryz.underlying3 t2; obtain ⟨l3,hl3,ho3,hn3⟩:=read_row (R:=LgR) (Ok:=LgM) (B:=1048576) Tryz.underlying25 (show Tryz.prog.cellsOf 24 = 4 by kernel_rfl) (by decide) (fun n cs y h _ hlt hb=>read_lg h hlt (by omega)) t3 p3 (by omega); obtain ⟨ba,bc,rfl,-⟩:=hl3.slice; obtain ⟨a,c,hcs,ha⟩:=hx; injection hcs with e1 hcs; injection hcs with e2 hcs; injection hcs with e3 hcs; injection hcs with e4 hcs; subst e1 e2 e3 e4; exact ⟨⟨x,z1,z2,l3⟩,⟨a,c,ba,bc,rfl,ha,hl3⟩,hxm,hn3,ho3⟩
set_option maxRecDepth 100000 in
theorem read_qg {H:Type} {enc:TypeId × Value→H} {W:World} {n:Nat} {cs:List Value} {y:DataW H × List MemPlace} (h:DataW.trod enc Tryz.prog W 0 (fun _=>true) true n 32 cs=some y) (hlt:∀ x∈y.2,x.block < W.heap.size) (hb:Rows.uptoBulk y.1≤1048576) :
  ∃ (q:Qg) (ra:Option Addr) (rc:Nat) (aa:Option Addr) (ac:Nat),cs=(qcells (.slice ra q.rules.length rc) q.goal.op q.goal.nt q.goal.rel (.slice aa q.goal.args.length ac)).toList∧SlR 7 RgR (LowF W) W q.rules (.slice ra q.rules.length rc)∧SlR 7 TgR (LowF W) W q.goal.args (.slice aa q.goal.args.length ac)∧QgM q:=by
 obtain ⟨hcl,ys,n',hy,hyl,hf⟩:=read_fields Tryz.underlying32 h hlt; replace hcl:cs.length=5:=hcl.trans (by kernel_rfl); obtain ⟨y0,_,t0,p0,b0⟩:=hf 0 _ rfl; obtain ⟨y1,_,t1,p1,b1⟩:=hf 1 _ rfl
 match cs,hcl with
 | [u0,u1,u2,u3,u4],_ =>
 clear hf h hyl
 replace t0:DataW.trod enc Tryz.prog W 0 (fun _=>true) true n' 30 [u0]=some y0:=by
  have h9:DataW.trod enc Tryz.prog W 0 (fun _=>true) true n' 30 (([u0,u1,u2,u3,u4].drop 0).take (Tryz.prog.cellsOf 30))=some y0:=t0; rw [show Tryz.prog.cellsOf 30 = 1 by kernel_rfl] at h9; exact h9
 replace t1:DataW.trod enc Tryz.prog W 0 (fun _=>true) true n' 24 [u1,u2,u3,u4]=some y1:=by
  have h9:DataW.trod enc Tryz.prog W 0 (fun _=>true) true n' 24 (([u0,u1,u2,u3,u4].drop 1).take (Tryz.prog.cellsOf 24))=some y1:=t1; rw [show Tryz.prog.cellsOf 24 = 4 by kernel_rfl] at h9; exact h9
 obtain ⟨l0,hl0,ho0,hn0⟩:=read_row (R:=RgR) (Ok:=RgM) (B:=1048576) Tryz.underlying30 (show Tryz.prog.cellsOf 27 = 7 by kernel_rfl) (by decide) (fun n cs y h _ hlt hb=>read_rg h hlt (by omega)) t0 p0 (by omega); obtain ⟨x,hx,hxm⟩:=read_lg t1 p1 (by omega); obtain ⟨ra,rc,rfl,-⟩:=hl0.slice; obtain ⟨a,c,hcs,ha⟩:=hx; injection hcs with e1 hcs; injection hcs with e2 hcs; injection hcs with e3 hcs; injection hcs with e4 hcs; subst e1 e2 e3 e4; exact ⟨⟨l0,x⟩,ra,rc,a,c,rfl,hl0,ha,hxm,hn0,ho0⟩
set_option maxRecDepth 100000 in
theorem read_query {H:Type} {enc:TypeId × Value→H} {W:World} {r:Reach} {b0:Nat} {v:Value} {d:DataW H} {p:List MemPlace} (hv:Value.okWide Tryz.prog W r b0 32 v) (h:DataW.Trod enc Tryz.prog W 0 (fun _=>true) true 32 v d p) (hlt:∀ x∈p,x.block < W.heap.size) (hb:Rows.uptoBulk d≤1048576) :
  ∃ (q:Qg) (ra:Option Addr) (rc:Nat) (aa:Option Addr) (ac:Nat),v=.agg (qcells (.slice ra q.rules.length rc) q.goal.op q.goal.nt q.goal.rel (.slice aa q.goal.args.length ac))∧SlR 7 RgR (LowF W) W q.rules (.slice ra q.rules.length rc)∧SlR 7 TgR (LowF W) W q.goal.args (.slice aa q.goal.args.length ac)∧QgM q:=by
 obtain ⟨⟨cs⟩,rfl,hsz⟩:=okWide_struct Tryz.underlying32 hv; obtain ⟨n,h⟩:=h; obtain ⟨q,ra,rc,aa,ac,hcs,h1,h2,h3⟩:=read_qg (y:=(d,p)) h hlt hb; simp only [Value.cells] at hcs; subst hcs; exact ⟨q,ra,rc,aa,ac,rfl,h1,h2,h3⟩
end Go.Proofs.YtffdpoifdahadaaGreatDoor
