/- PlTabS: PlQv, PlTabS, in one text. -/
import Derived.Test.YtfejagpjahoibaaGreatDoorAgg
import Derived.Test.YtfejagpjahoibaaGreatDoorPlO
import Derived.Test.YtfejagpjahoibaaGreatDoorPlC
import Derived.Test.YtfejagpjahoibaaGreatDoorPmP
import Derived.Test.YtfejagpjahoibaaGreatDoorRows
set_option linter.unusedVariables false
namespace Go.Proofs.YtfejagpjahoibaaGreatDoor
open Go.Joins Go.ChangeShapes Go.WideShapes Go.ChangeAt Go.RowKit Go.WideMaps Go.WideElems Go.Deep
abbrev AllF:Foot:=fun _=>True
/-- a slice whose elements can be read one by one -/
theorem read_row {H:Type} {enc:TypeId × Value→H} {P:Program} {W:World} {t e:TypeId} {sz:Nat} {α:Type} {R:Rel α} {Ok:α→Prop} {B:Nat} (ht:P.underlying t=some (.slice e)) (hC:P.cellsOf e=sz) (h0:0 < sz)
  (hel:∀ n cs y,DataW.trod enc P W 0 (fun _=>true) true n e cs=some y→cs.length=sz→(∀ x∈y.2,x.block < W.heap.size)→Rows.uptoBulk y.1 < B→∃ x:α,R AllF W x cs∧Ok x)
  {n:Nat} {v:Value} {y:DataW H × List MemPlace} (h:DataW.trod enc P W 0 (fun _=>true) true n t [v]=some y) (hlt:∀ x∈y.2,x.block < W.heap.size) (hb:Rows.uptoBulk y.1≤B) :
  ∃ l:List α,SlR sz R AllF W l v∧(∀ x∈l,Ok x)∧l.length≤B:=by
 rcases open_slice ht h with ⟨hcs,hx⟩ | ⟨a,len,cap,m,n,D,Pl,hcs,_,hl,hm,hmm,hx,hi⟩
 ·simp at hcs
  subst hcs; exact ⟨[],SlR.nil _ _ _ _ _,by simp,by simp⟩
 ·simp at hcs
  subst hcs; simp only [if_true] at hmm; subst hmm; rw [hC] at hx hi; subst hx
  have hspot:0 < len→a.spot=none∧a.block < W.heap.size:=fun hpos=>by
   obtain ⟨cs',hc,_⟩:=hi 0 (by omega); obtain ⟨_,hcl,hat⟩:=World.cells?_some hc; have hs:=World.cell?_spot ((hat 0 h0).trans (List.getElem?_eq_getElem (by omega))); refine ⟨by simpa [Addr.add] using hs,?_⟩; refine hlt (.cell a.block (a.off+0)) (List.mem_append_left _ (MemPlace.mem_row.2 ⟨0,?_,by simp⟩)); exact Nat.mul_pos (by omega) h0
  have hlen:len≤Rows.uptoBulk (DataW.slice ((List.range len).map D) ((List.range (m - len)).map fun j=>D (len+j))):=bulk_len (Or.inr ⟨_,rfl⟩)
  obtain ⟨ps,hpl,hq⟩:=list_choose (Q:=fun i (p:α × List Value)=>(∀ j u,p.2[j]? = some u→W.cell? ⟨a.block,a.off+i * sz+j,none⟩=some u)∧R AllF W p.1 p.2∧Ok p.1) len (fun i hil=>by
   obtain ⟨h1,_⟩:=hspot (by omega); obtain ⟨cs',hc,ht'⟩:=hi i (by omega); obtain ⟨_,hcl,hat⟩:=World.cells?_some hc
   have hbi:Rows.uptoBulk (D i) < B:=by
    have h1:Rows.uptoBulk (D i)≤Rows.uptoBulkAll ((List.range len).map D):=bulks.part_le (List.mem_map.2 ⟨i,List.mem_range.2 hil,rfl⟩); simp only [Rows.uptoBulk] at hb; omega
   obtain ⟨x,hx,ho⟩:=hel n cs' _ ht' hcl (fun x hx=>hlt x (List.mem_append_right _ (List.mem_flatMap.2 ⟨i,List.mem_range.2 (by omega),hx⟩))) hbi; refine ⟨(x,cs'),fun j u hu=>?_,hx,ho⟩
   have hj:j < sz:=by have:=(List.getElem?_eq_some_iff.1 hu).1; simp at this; omega
   have:=(hat j hj).trans hu; rw [Go.Deep.add_add,plain_add h1] at this; rw [Nat.add_assoc]
   exact this)
  refine ⟨ps.map (·.1),⟨some a,m,a.block,a.off,fun i=>((ps[i]?).map (·.2)).getD [],by simp [hpl],by simp [hpl]; exact hl,fun hp=>?_,fun i hil j u hu=>?_,fun i x hx=>?_⟩,fun x hx=>?_,by simp [hpl]; simp only [] at hb; omega⟩
  ·obtain ⟨h1,h2⟩:=hspot (by simpa [hpl] using hp)
   refine ⟨?_,trivial,h2⟩; obtain ⟨b,o,s⟩:=a; simp only at h1; subst h1; rfl
  ·have hil':i < ps.length:=by simpa using hil
   have e:ps[i]? = some ps[i]:=List.getElem?_eq_getElem hil'; simp only [e] at hu; exact (hq i _ e).1 j u hu
  ·rw [List.getElem?_map] at hx
   cases e:ps[i]? with
   | none=>rw [e] at hx; simp at hx
   | some p =>
    rw [e] at hx; simp at hx; subst hx; show R AllF W p.1 (((ps[i]?).map (·.2)).getD []); rw [e]; exact (hq i p e).2.1
  ·obtain ⟨p,hp,rfl⟩:=List.mem_map.1 hx
   obtain ⟨i,hi⟩:=List.mem_iff_getElem?.1 hp; exact (hq i p hi).2.2
/-- a struct's fields -/
theorem read_fields {H:Type} {enc:TypeId × Value→H} {P:Program} {W:World} {e:TypeId} {fs:Array Field} (he:P.underlying e=some (.struct fs)) {n:Nat} {cs:List Value} {y:DataW H × List MemPlace}
  (h:DataW.trod enc P W 0 (fun _=>true) true n e cs=some y) (hlt:∀ x∈y.2,x.block < W.heap.size) :
  cs.length=P.cellsOf e∧∃ (ys:List (DataW H × List MemPlace)) (n':Nat),y.1=.agg (ys.map (·.1))∧ys.length=fs.size∧∀ (j:Nat) (f:Field),fs[j]? = some f→∃ yj,ys[j]? = some yj∧DataW.trod enc P W 0 (fun _=>true) true n' f.type ((cs.drop f.offset).take (P.cellsOf f.type))=some yj∧(∀ x∈yj.2,x.block < W.heap.size)∧Rows.uptoBulk yj.1 < Rows.uptoBulk y.1:=by
 obtain ⟨ys,n',_,rfl,hcl,hyl,hfd⟩:=DataW.trod_struct he h; refine ⟨hcl,ys,n',rfl,hyl,fun j f hj=>?_⟩; have hjl:j < fs.size:=(Array.getElem?_eq_some_iff.1 hj).1
 have hjy:j < ys.length:=by omega
 have hys:ys[j]? = some ys[j]:=List.getElem?_eq_getElem hjy; refine ⟨ys[j],hys,(hfd j f hj).trans hys,fun x hx=>hlt x (List.mem_flatMap.2 ⟨ys[j],List.getElem_mem hjy,hx⟩),?_⟩; have:=bulks.part_le (List.mem_map.2 ⟨ys[j],List.getElem_mem hjy,rfl⟩:(ys[j]).1∈ys.map (·.1)); simp only [Rows.uptoBulk]; omega
set_option maxRecDepth 100000 in
theorem read_val {H:Type} {enc:TypeId × Value→H} {W:World} (B:Nat) (hB:B≤1048576):∀ n cs (y:DataW H × List MemPlace),DataW.trod enc Tryz.prog W 0 (fun _=>true) true n 47 cs=some y→(∀ x∈y.2,x.block < W.heap.size)→Rows.uptoBulk y.1 < B→∃ x:Val,ValR AllF W x cs∧ValB x:=by
 induction B with
 | zero=>intro n cs y h hlt hb; omega
 | succ B ih =>
  intro n cs y h hlt hb; obtain ⟨hcl,ys,n',hy,hyl,hf⟩:=read_fields Tryz.underlying47 h hlt; replace hcl:cs.length=6:=hcl.trans (by kernel_rfl); obtain ⟨y0,_,t0,p0,b0⟩:=hf 0 _ rfl; obtain ⟨y1,_,t1,p1,b1⟩:=hf 1 _ rfl; obtain ⟨y2,_,t2,p2,b2⟩:=hf 2 _ rfl; obtain ⟨y3,_,t3,p3,b3⟩:=hf 3 _ rfl; obtain ⟨y4,_,t4,p4,b4⟩:=hf 4 _ rfl; obtain ⟨y5,_,t5,p5,b5⟩:=hf 5 _ rfl
  match cs,hcl with
  | [u0,u1,u2,u3,u4,u5],_ =>
  clear hf h hyl
  replace t0:DataW.trod enc Tryz.prog W 0 (fun _=>true) true n' 3 [u0]=some y0:=by
   have h9:DataW.trod enc Tryz.prog W 0 (fun _=>true) true n' 3 (([u0,u1,u2,u3,u4,u5].drop 0).take (Tryz.prog.cellsOf 3))=some y0:=t0; rw [show Tryz.prog.cellsOf 3 = 1 by kernel_rfl] at h9; exact h9
  replace t1:DataW.trod enc Tryz.prog W 0 (fun _=>true) true n' 9 [u1]=some y1:=by
   have h9:DataW.trod enc Tryz.prog W 0 (fun _=>true) true n' 9 (([u0,u1,u2,u3,u4,u5].drop 1).take (Tryz.prog.cellsOf 9))=some y1:=t1; rw [show Tryz.prog.cellsOf 9 = 1 by kernel_rfl] at h9; exact h9
  replace t2:DataW.trod enc Tryz.prog W 0 (fun _=>true) true n' 3 [u2]=some y2:=by
   have h9:DataW.trod enc Tryz.prog W 0 (fun _=>true) true n' 3 (([u0,u1,u2,u3,u4,u5].drop 2).take (Tryz.prog.cellsOf 3))=some y2:=t2; rw [show Tryz.prog.cellsOf 3 = 1 by kernel_rfl] at h9; exact h9
  replace t3:DataW.trod enc Tryz.prog W 0 (fun _=>true) true n' 3 [u3]=some y3:=by
   have h9:DataW.trod enc Tryz.prog W 0 (fun _=>true) true n' 3 (([u0,u1,u2,u3,u4,u5].drop 3).take (Tryz.prog.cellsOf 3))=some y3:=t3; rw [show Tryz.prog.cellsOf 3 = 1 by kernel_rfl] at h9; exact h9
  replace t4:DataW.trod enc Tryz.prog W 0 (fun _=>true) true n' 9 [u4]=some y4:=by
   have h9:DataW.trod enc Tryz.prog W 0 (fun _=>true) true n' 9 (([u0,u1,u2,u3,u4,u5].drop 4).take (Tryz.prog.cellsOf 9))=some y4:=t4; rw [show Tryz.prog.cellsOf 9 = 1 by kernel_rfl] at h9; exact h9
  replace t5:DataW.trod enc Tryz.prog W 0 (fun _=>true) true n' 35 [u5]=some y5:=by
   have h9:DataW.trod enc Tryz.prog W 0 (fun _=>true) true n' 35 (([u0,u1,u2,u3,u4,u5].drop 5).take (Tryz.prog.cellsOf 35))=some y5:=t5; rw [show Tryz.prog.cellsOf 35 = 1 by kernel_rfl] at h9; exact h9
  obtain ⟨z0,rfl,_⟩:=read_int1 Tryz.underlying3 t0; obtain ⟨s1,rfl,e1⟩:=read_str1 Tryz.underlying9 t1; obtain ⟨z2,rfl,_⟩:=read_int1 Tryz.underlying3 t2; obtain ⟨z3,rfl,_⟩:=read_int1 Tryz.underlying3 t3; obtain ⟨s4,rfl,e4⟩:=read_str1 Tryz.underlying9 t4; obtain ⟨l,hl,ho,hlen⟩:=read_row (R:=ValR) (Ok:=ValB) (B:=B) Tryz.underlying35 (show Tryz.prog.cellsOf 47 = 6 by kernel_rfl) (by decide) (fun n cs y h _ hlt hb=>ih (by omega) n cs y h hlt hb) t5 p5 (by omega); rw [e1] at b1; rw [e4] at b4; simp only [Rows.uptoBulk] at b1 b4; exact ⟨⟨z0,s1,z2,z3,s4,l⟩,valR_shut (x:=⟨z0,s1,z2,z3,s4,l⟩) hl,ValB.mk _ (by show l.length≤_; omega) (by show s1.length≤_; omega) (by show s4.length≤_; omega) ho⟩
set_option maxRecDepth 100000 in
theorem read_vals {H:Type} {enc:TypeId × Value→H} {W:World} {n:Nat} {v:Value} {y:DataW H × List MemPlace} (h:DataW.trod enc Tryz.prog W 0 (fun _=>true) true n 35 [v]=some y) (hlt:∀ x∈y.2,x.block < W.heap.size) (hb:Rows.uptoBulk y.1≤1048576) :
  ∃ l:List Val,ValsR AllF W l v∧ValsB l:=by
 obtain ⟨l,hl,ho,hlen⟩:=read_row (R:=ValR) (Ok:=ValB) Tryz.underlying35 (show Tryz.prog.cellsOf 47 = 6 by kernel_rfl) (by decide) (fun n cs y h _ hlt hb=>read_val 1048576 (Nat.le_refl _) n cs y h hlt hb) h hlt hb; exact ⟨l,hl,hlen,ho⟩
set_option maxRecDepth 100000 in
theorem read_bool1 {H:Type} {enc:TypeId × Value→H} {P:Program} {W:World} {t:TypeId} (ht:P.underlying t=some .bool) {v:Value} {y:DataW H × List MemPlace} {n:Nat} (h:DataW.trod enc P W 0 (fun _=>true) true n t [v]=some y) :
  ∃ b,v=.bool b:=by
 obtain ⟨b,e1,_⟩:=DataW.trod_bool ht h; exact ⟨b,by simpa using e1⟩
set_option maxRecDepth 100000 in
theorem read_out {H:Type} {enc:TypeId × Value→H} {W:World} {n:Nat} {cs:List Value} {y:DataW H × List MemPlace} (h:DataW.trod enc Tryz.prog W 0 (fun _=>true) true n 37 cs=some y) (hlt:∀ x∈y.2,x.block < W.heap.size) (hb:Rows.uptoBulk y.1≤1048576) :
  ∃ o:Out,OutR AllF W o cs∧ValsB o.args:=by
 obtain ⟨hcl,ys,n',hy,hyl,hf⟩:=read_fields Tryz.underlying37 h hlt; replace hcl:cs.length=5:=hcl.trans (by kernel_rfl); obtain ⟨y0,_,t0,p0,b0⟩:=hf 0 _ rfl; obtain ⟨y1,_,t1,p1,b1⟩:=hf 1 _ rfl; obtain ⟨y2,_,t2,p2,b2⟩:=hf 2 _ rfl; obtain ⟨y3,_,t3,p3,b3⟩:=hf 3 _ rfl; obtain ⟨y4,_,t4,p4,b4⟩:=hf 4 _ rfl
 match cs,hcl with
 | [u0,u1,u2,u3,u4],_ =>
 clear hf h hyl
 replace t0:DataW.trod enc Tryz.prog W 0 (fun _=>true) true n' 9 [u0]=some y0:=by
  have h9:DataW.trod enc Tryz.prog W 0 (fun _=>true) true n' 9 (([u0,u1,u2,u3,u4].drop 0).take (Tryz.prog.cellsOf 9))=some y0:=t0; rw [show Tryz.prog.cellsOf 9 = 1 by kernel_rfl] at h9; exact h9
 replace t1:DataW.trod enc Tryz.prog W 0 (fun _=>true) true n' 9 [u1]=some y1:=by
  have h9:DataW.trod enc Tryz.prog W 0 (fun _=>true) true n' 9 (([u0,u1,u2,u3,u4].drop 1).take (Tryz.prog.cellsOf 9))=some y1:=t1; rw [show Tryz.prog.cellsOf 9 = 1 by kernel_rfl] at h9; exact h9
 replace t2:DataW.trod enc Tryz.prog W 0 (fun _=>true) true n' 35 [u2]=some y2:=by
  have h9:DataW.trod enc Tryz.prog W 0 (fun _=>true) true n' 35 (([u0,u1,u2,u3,u4].drop 2).take (Tryz.prog.cellsOf 35))=some y2:=t2; rw [show Tryz.prog.cellsOf 35 = 1 by kernel_rfl] at h9; exact h9
 replace t3:DataW.trod enc Tryz.prog W 0 (fun _=>true) true n' 4 [u3]=some y3:=by
  have h9:DataW.trod enc Tryz.prog W 0 (fun _=>true) true n' 4 (([u0,u1,u2,u3,u4].drop 3).take (Tryz.prog.cellsOf 4))=some y3:=t3; rw [show Tryz.prog.cellsOf 4 = 1 by kernel_rfl] at h9; exact h9
 replace t4:DataW.trod enc Tryz.prog W 0 (fun _=>true) true n' 3 [u4]=some y4:=by
  have h9:DataW.trod enc Tryz.prog W 0 (fun _=>true) true n' 3 (([u0,u1,u2,u3,u4].drop 4).take (Tryz.prog.cellsOf 3))=some y4:=t4; rw [show Tryz.prog.cellsOf 3 = 1 by kernel_rfl] at h9; exact h9
 obtain ⟨s0,rfl,e0⟩:=read_str1 Tryz.underlying9 t0; rw [e0] at b0; simp only [Rows.uptoBulk] at b0; obtain ⟨s1,rfl,e1⟩:=read_str1 Tryz.underlying9 t1; rw [e1] at b1; simp only [Rows.uptoBulk] at b1; obtain ⟨l2,hl2,ho2⟩:=read_vals t2 p2 (by omega); obtain ⟨z3,rfl⟩:=read_bool1 Tryz.underlying4 t3; obtain ⟨z4,rfl,hz4⟩:=read_int1 Tryz.underlying3 t4; exact ⟨⟨s0,s1,l2,z3,z4⟩,outR_shut (o:=⟨s0,s1,l2,z3,z4⟩) hl2,ho2⟩
set_option maxRecDepth 100000 in
theorem read_off {H:Type} {enc:TypeId × Value→H} {W:World} {n:Nat} {cs:List Value} {y:DataW H × List MemPlace} (h:DataW.trod enc Tryz.prog W 0 (fun _=>true) true n 45 cs=some y) (hlt:∀ x∈y.2,x.block < W.heap.size) (hb:Rows.uptoBulk y.1≤1048576) :
  ∃ o:Offer,OffR AllF W o cs∧(o.name.length≤1048576∧∀ z∈[o.do,o.undo,o.due,o.part,o.amend],-9223372036854775808≤z∧z≤9223372036854775807):=by
 obtain ⟨hcl,ys,n',hy,hyl,hf⟩:=read_fields Tryz.underlying45 h hlt; replace hcl:cs.length=6:=hcl.trans (by kernel_rfl); obtain ⟨y0,_,t0,p0,b0⟩:=hf 0 _ rfl; obtain ⟨y1,_,t1,p1,b1⟩:=hf 1 _ rfl; obtain ⟨y2,_,t2,p2,b2⟩:=hf 2 _ rfl; obtain ⟨y3,_,t3,p3,b3⟩:=hf 3 _ rfl; obtain ⟨y4,_,t4,p4,b4⟩:=hf 4 _ rfl; obtain ⟨y5,_,t5,p5,b5⟩:=hf 5 _ rfl
 match cs,hcl with
 | [u0,u1,u2,u3,u4,u5],_ =>
 clear hf h hyl
 replace t0:DataW.trod enc Tryz.prog W 0 (fun _=>true) true n' 9 [u0]=some y0:=by
  have h9:DataW.trod enc Tryz.prog W 0 (fun _=>true) true n' 9 (([u0,u1,u2,u3,u4,u5].drop 0).take (Tryz.prog.cellsOf 9))=some y0:=t0; rw [show Tryz.prog.cellsOf 9 = 1 by kernel_rfl] at h9; exact h9
 replace t1:DataW.trod enc Tryz.prog W 0 (fun _=>true) true n' 3 [u1]=some y1:=by
  have h9:DataW.trod enc Tryz.prog W 0 (fun _=>true) true n' 3 (([u0,u1,u2,u3,u4,u5].drop 1).take (Tryz.prog.cellsOf 3))=some y1:=t1; rw [show Tryz.prog.cellsOf 3 = 1 by kernel_rfl] at h9; exact h9
 replace t2:DataW.trod enc Tryz.prog W 0 (fun _=>true) true n' 3 [u2]=some y2:=by
  have h9:DataW.trod enc Tryz.prog W 0 (fun _=>true) true n' 3 (([u0,u1,u2,u3,u4,u5].drop 2).take (Tryz.prog.cellsOf 3))=some y2:=t2; rw [show Tryz.prog.cellsOf 3 = 1 by kernel_rfl] at h9; exact h9
 replace t3:DataW.trod enc Tryz.prog W 0 (fun _=>true) true n' 3 [u3]=some y3:=by
  have h9:DataW.trod enc Tryz.prog W 0 (fun _=>true) true n' 3 (([u0,u1,u2,u3,u4,u5].drop 3).take (Tryz.prog.cellsOf 3))=some y3:=t3; rw [show Tryz.prog.cellsOf 3 = 1 by kernel_rfl] at h9; exact h9
 replace t4:DataW.trod enc Tryz.prog W 0 (fun _=>true) true n' 3 [u4]=some y4:=by
  have h9:DataW.trod enc Tryz.prog W 0 (fun _=>true) true n' 3 (([u0,u1,u2,u3,u4,u5].drop 4).take (Tryz.prog.cellsOf 3))=some y4:=t4; rw [show Tryz.prog.cellsOf 3 = 1 by kernel_rfl] at h9; exact h9
 replace t5:DataW.trod enc Tryz.prog W 0 (fun _=>true) true n' 3 [u5]=some y5:=by
  have h9:DataW.trod enc Tryz.prog W 0 (fun _=>true) true n' 3 (([u0,u1,u2,u3,u4,u5].drop 5).take (Tryz.prog.cellsOf 3))=some y5:=t5; rw [show Tryz.prog.cellsOf 3 = 1 by kernel_rfl] at h9; exact h9
 obtain ⟨s0,rfl,e0⟩:=read_str1 Tryz.underlying9 t0; rw [e0] at b0; simp only [Rows.uptoBulk] at b0; obtain ⟨z1,rfl,hz1⟩:=read_int1 Tryz.underlying3 t1; obtain ⟨z2,rfl,hz2⟩:=read_int1 Tryz.underlying3 t2; obtain ⟨z3,rfl,hz3⟩:=read_int1 Tryz.underlying3 t3; obtain ⟨z4,rfl,hz4⟩:=read_int1 Tryz.underlying3 t4; obtain ⟨z5,rfl,hz5⟩:=read_int1 Tryz.underlying3 t5; refine ⟨⟨s0,z1,z2,z3,z4,z5⟩,rfl,by show s0.length≤_; omega,fun z hz=>?_⟩; simp only [List.mem_cons,List.not_mem_nil,or_false] at hz; rcases hz with rfl | rfl | rfl | rfl | rfl
 ·exact wf64 hz1
 ·exact wf64 hz2
 ·exact wf64 hz3
 ·exact wf64 hz4
 ·exact wf64 hz5
set_option maxRecDepth 100000 in
theorem read_outs1 {H:Type} {enc:TypeId × Value→H} {W:World} {n:Nat} {v:Value} {y:DataW H × List MemPlace} (h:DataW.trod enc Tryz.prog W 0 (fun _=>true) true n 23 [v]=some y) (hlt:∀ x∈y.2,x.block < W.heap.size) (hb:Rows.uptoBulk y.1≤1048576) :
  ∃ l:List Out,SlR 5 OutR AllF W l v∧(∀ x∈l,ValsB x.args)∧l.length≤1048576 :=
 read_row (R:=OutR) (Ok:=fun x=>ValsB x.args) Tryz.underlying23 (show Tryz.prog.cellsOf 37 = 5 by kernel_rfl) (by decide) (fun n cs y h _ hlt hb=>read_out h hlt (by omega)) h hlt hb
set_option maxRecDepth 100000 in
theorem read_outs {H:Type} {enc:TypeId × Value→H} {W:World} {r:Reach} {b0:Nat} {v:Value} {d:DataW H} {p:List MemPlace} (hv:Value.okWide Tryz.prog W r b0 23 v) (h:DataW.Trod enc Tryz.prog W 0 (fun _=>true) true 23 v d p) (hlt:∀ x∈p,x.block < W.heap.size) (hb:Rows.uptoBulk d≤1048576) :
  ∃ l:List Out,SlR 5 OutR AllF W l v∧(∀ x∈l,ValsB x.args)∧l.length≤1048576:=by
 obtain ⟨a0,n0,c0,rfl⟩:=okWide_slice Tryz.underlying23 hv; obtain ⟨n,h⟩:=h; exact read_outs1 (y:=(d,p)) h hlt hb
set_option maxRecDepth 100000 in
theorem read_offs1 {H:Type} {enc:TypeId × Value→H} {W:World} {n:Nat} {v:Value} {y:DataW H × List MemPlace} (h:DataW.trod enc Tryz.prog W 0 (fun _=>true) true n 22 [v]=some y) (hlt:∀ x∈y.2,x.block < W.heap.size) (hb:Rows.uptoBulk y.1≤1048576) :
  ∃ l:List Offer,SlR 6 OffR AllF W l v∧(∀ x∈l,x.name.length≤1048576∧∀ z∈[x.do,x.undo,x.due,x.part,x.amend],-9223372036854775808≤z∧z≤9223372036854775807)∧l.length≤1048576 :=
 read_row (R:=OffR) (Ok:=fun x=>x.name.length≤1048576∧∀ z∈[x.do,x.undo,x.due,x.part,x.amend],-9223372036854775808≤z∧z≤9223372036854775807) Tryz.underlying22 (show Tryz.prog.cellsOf 45 = 6 by kernel_rfl) (by decide) (fun n cs y h _ hlt hb=>read_off h hlt (by omega)) h hlt hb
set_option maxRecDepth 100000 in
theorem read_offs {H:Type} {enc:TypeId × Value→H} {W:World} {r:Reach} {b0:Nat} {v:Value} {d:DataW H} {p:List MemPlace} (hv:Value.okWide Tryz.prog W r b0 22 v) (h:DataW.Trod enc Tryz.prog W 0 (fun _=>true) true 22 v d p) (hlt:∀ x∈p,x.block < W.heap.size) (hb:Rows.uptoBulk d≤1048576) :
  ∃ l:List Offer,SlR 6 OffR AllF W l v∧(∀ x∈l,x.name.length≤1048576∧∀ z∈[x.do,x.undo,x.due,x.part,x.amend],-9223372036854775808≤z∧z≤9223372036854775807)∧l.length≤1048576:=by
 obtain ⟨a0,n0,c0,rfl⟩:=okWide_slice Tryz.underlying22 hv; obtain ⟨n,h⟩:=h; exact read_offs1 (y:=(d,p)) h hlt hb
set_option maxRecDepth 100000 in
theorem read_texts1 {H:Type} {enc:TypeId × Value→H} {W:World} {n:Nat} {v:Value} {y:DataW H × List MemPlace} (h:DataW.trod enc Tryz.prog W 0 (fun _=>true) true n 24 [v]=some y) (hlt:∀ x∈y.2,x.block < W.heap.size) (hb:Rows.uptoBulk y.1≤1048576) :
  ∃ l:List (List UInt8),SlR 1 StrR AllF W l v∧(∀ x∈l,x.length≤1048576)∧l.length≤1048576 :=
 read_row (R:=StrR) (Ok:=fun x=>x.length≤1048576) Tryz.underlying24 (show Tryz.prog.cellsOf 9 = 1 by kernel_rfl) (by decide) (fun n cs y h hl hlt hb=>by
  match cs,hl with
  | [u],_ =>
   obtain ⟨s,rfl,e⟩:=read_str1 Tryz.underlying9 h; rw [e] at hb; simp only [Rows.uptoBulk] at hb
   exact ⟨s,rfl,by omega⟩) h hlt hb
set_option maxRecDepth 100000 in
theorem read_texts {H:Type} {enc:TypeId × Value→H} {W:World} {r:Reach} {b0:Nat} {v:Value} {d:DataW H} {p:List MemPlace} (hv:Value.okWide Tryz.prog W r b0 24 v) (h:DataW.Trod enc Tryz.prog W 0 (fun _=>true) true 24 v d p) (hlt:∀ x∈p,x.block < W.heap.size) (hb:Rows.uptoBulk d≤1048576) :
  ∃ l:List (List UInt8),SlR 1 StrR AllF W l v∧(∀ x∈l,x.length≤1048576)∧l.length≤1048576:=by
 obtain ⟨a0,n0,c0,rfl⟩:=okWide_slice Tryz.underlying24 hv; obtain ⟨n,h⟩:=h; exact read_texts1 (y:=(d,p)) h hlt hb
end Go.Proofs.YtfejagpjahoibaaGreatDoor
namespace Go.Proofs.YtfejagpjahoibaaGreatDoor
open Go.ChangeShapes Go.WideShapes Go.ChangeAt Go.RowKit
theorem tabs_of_laid {W:World} (h:laidMetH Tryz.prog Rows.planSettlesRow.laid W):Tabs W:=by
 rw [MakeChecks.laidMetH_plain _ _ _ (by kernel_rfl)] at h; have h2:=laidMet_tail (laidMet_tail h); have h3:=laidMet_tail h2
 exact ⟨Lib.tabIs_of_head (g:=0) (t:=143) (e:=120) (n:=64) (rest:=[]) (by kernel_rfl) (by kernel_rfl) (by kernel_rfl) (by kernel_rfl) (by kernel_rfl) (by kernel_rfl) h3,
  Lib.tabIs_of_head (g := 2) (t := 164) (e := 122) (n := 20) (rest := [("retroact/sum.rounds", Rows.laid_retroact_sum_rounds)]) (by kernel_rfl) (by kernel_rfl) (by kernel_rfl) (by kernel_rfl) (by kernel_rfl) (by kernel_rfl) h2⟩
end Go.Proofs.YtfejagpjahoibaaGreatDoor
