/- PlT: PlQ, PlT, in one text. -/
import Derived.Test.YtfejagpjahoibaaGreatDoorPlP
import Derived.Test.YtfejagpjahoibaaGreatDoorDel
import Derived.Deep.AppendSrc
import Derived.Laws.CopyOwn
set_option linter.unusedVariables false
set_option linter.unusedSimpArgs false
namespace Go.Proofs.YtfejagpjahoibaaGreatDoor
open Go.RowKit
open Go.Lib (hid)
/-- the queue l, in a block from B on -/
def QI (B:Nat) (w:World) (l:List Nat) (v:Value):Prop :=
 ∃ a c,v=.slice a l.length c∧l.length≤c∧(c=0∨∃ g o cur,a=some ⟨g,o,none⟩∧B≤g∧w.heap[g]? = some (.cells cur 3 (0,0))∧o+c≤cur.size∧∀ i (x:Nat),l[i]? = some x→cur[o+i]? = some (iv x))
theorem QI.below {B:Nat} {w w':World} {l:List Nat} {v:Value} (h:QI B w l v) (hb:Below w.heap.size w w'):QI B w' l v:=by
 obtain ⟨a,c,h1,h2,h3⟩:=h; refine ⟨a,c,h1,h2,h3.imp id ?_⟩; rintro ⟨g,o,cur,e1,e2,e3,e4,e5⟩; exact ⟨g,o,cur,e1,e2,(hb.block g (lt_of_some e3)).trans e3,e4,e5⟩
theorem QI.keep {B:Nat} {w w':World} {l:List Nat} {v:Value} (h:QI B w l v) (hb:∀ k,B≤k→w'.heap[k]? = w.heap[k]?):QI B w' l v:=by
 obtain ⟨a,c,h1,h2,h3⟩:=h; refine ⟨a,c,h1,h2,h3.imp id ?_⟩; rintro ⟨g,o,cur,e1,e2,e3,e4,e5⟩; exact ⟨g,o,cur,e1,e2,(hb g e2).trans e3,e4,e5⟩
/-- the head, and the queue without it -/
theorem QI.pop {B:Nat} {w:World} {x:Nat} {q:List Nat} {v:Value} (h:QI B w (x::q) v) :
  ∃ g o c v',v=.slice (some ⟨g,o,none⟩) (q.length+1) c∧0 < c∧(∀ kd W,(Instr.indexAt 29 (.slice (some ⟨g,o,none⟩) (q.length+1) c) (.int kd 0)).run Tryz.prog W=.ok (.pointer (some ⟨g,o,none⟩)) W) ∧
   w.cell? ⟨g,o,none⟩=some (iv x)∧(∀ W,(Instr.sliceAt 29 (.slice (some ⟨g,o,none⟩) (q.length+1) c) (some (.int .i64 1)) none none).run Tryz.prog W=.ok v' W)∧QI B w q v':=by
 obtain ⟨a,c,rfl,h2,h3⟩:=h; rw [List.length_cons] at h2; rcases h3 with rfl | ⟨g,o,cur,rfl,e2,e3,e4,e5⟩
 ·omega
 ·refine ⟨g,o,c,sliced (some ⟨g,o,none⟩) 1 (q.length+1) c 1,by rw [List.length_cons],by omega,fun kd W=>?_,(cell_of e3).trans (e5 0 x rfl),fun W=>?_,?_⟩
  ·have:=row_idx (P:=Tryz.prog) (t:=29) (sz:=1) (b:=g) (off:=o) (a:=some ⟨g,o,none⟩) (by kernel_rfl) (fun _=>by kernel_rfl) rfl (q.length+1) c 0 (by omega) kd W
   simpa using this
  ·have ht:Tryz.prog.underlying 29 = some (.slice (Tryz.prog.elem 29)):=by kernel_rfl
   have hsz:∀ w,(sizeOf (Tryz.prog.elem 29)).run Tryz.prog w=.ok 1 w:=fun _=>by kernel_rfl
   rw [run_sliceAt_slice _ _ _ _ _ _ ht,run_slice_l _ _ _ _ _ ht _ _ (by decide) (by omega),hsz]; rfl
  ·unfold sliced
   by_cases hc:c=1
   ·have hq:q=[]:=List.eq_nil_of_length_eq_zero (by omega)
    subst hq hc; exact ⟨_,0,by rw [if_pos rfl]; rfl,Nat.le_refl _,Or.inl rfl⟩
   ·refine ⟨some ⟨g,o+1,none⟩,c - 1,by rw [if_neg hc]; rfl,by omega,Or.inr ⟨g,o+1,cur,rfl,e2,e3,by omega,fun i y hy=>?_⟩⟩
    rw [show o+1+i=o+(i+1) from by omega]; exact e5 (i+1) y hy
theorem infoIntQ:∃ i,Tryz.prog.info? 3 = some i∧i.zero=some (iv 0)∧i.size=1∧i.bytes=8:=info_partsP infoIntP
set_option maxRecDepth 100000 in
/-- one element behind the queue -/
theorem QI.push {B:Nat} {w:World} {l:List Nat} {v vs:Value} {x b ty:Nat} {cur:Array Value} (h:QI B w l v) (hB:B≤w.heap.size) (hl:l.length≤1048576) (hvs:vs=.slice (some ⟨b,0,none⟩) 1 1) (hb:w.cell? ⟨b,0,none⟩=some (iv x)) :
  ∃ v' w',AppRun Tryz.prog 29 29 ty v vs v' w w'∧QI B w' (l++[x]) v'∧Below B w w':=by
 obtain ⟨a,c,rfl,h2,h3⟩:=h; subst hvs; obtain ⟨i,hi,hz,hsize,hby⟩:=infoIntQ
 have ht:Tryz.prog.underlying 29 = some (.slice 3):=by kernel_rfl
 have hsrc:Src Tryz.prog 1 29 (.slice (some ⟨b,0,none⟩) 1 1) 1 [iv x] w:=Src.ofSlice w ht ⟨b,0,none⟩ 1 1 [iv x] rfl (fun j u hu=>by
  rcases j with _ | j
  ·injection hu with hu; subst hu; exact hb
  ·cases hu) (fun u hu=>by rw [List.mem_singleton.1 hu]; rfl)
 replace hsrc:Src Tryz.prog i.size 29 (.slice (some ⟨b,0,none⟩) 1 1) 1 [iv x] w:=by rw [hsize]; exact hsrc
 by_cases hroom:l.length+1≤c
 ·rcases h3 with rfl | ⟨g,o,cur,rfl,e2,e3,e4,e5⟩
  ·omega
  ·have hcl:(w.cell? ⟨g,o+l.length * i.size,none⟩).isSome=true:=by
    rw [cell_of e3,hsize,Nat.mul_one]
    have:o+l.length < cur.size:=by omega
    simp [this]
   have hrun:=run_append_room_src w 29 29 ty 3 i ht hi g o l.length c _ 1 [iv x] hsrc hroom (fun j hj=>by
    have:j=0:=by simp at hj; omega
    subst this; exact hcl) (fun j hj=>free_of e3)
   refine ⟨_,_,⟨hrun⟩,⟨some ⟨g,o,none⟩,c,by rw [List.length_append]; rfl,by rw [List.length_append]; exact hroom,Or.inr ⟨g,o,cur.setIfInBounds (o+l.length) (iv x),rfl,e2,?_,by simpa using e4,fun j y hy=>?_⟩⟩,?_⟩
   ·rw [hsize,Nat.mul_one]; exact heap_setCell_same e3 (iv x)
   ·by_cases hj:j < l.length
    ·rw [List.getElem?_append_left hj] at hy
     rw [Array.getElem?_setIfInBounds_ne (by omega)]; exact e5 j y hy
    ·rw [List.getElem?_append_right (by omega)] at hy
     have hj2:j=l.length:=by
      have:=(List.getElem?_eq_some_iff.1 hy).1; simp at this; omega
     subst hj2; rw [Nat.sub_self] at hy; injection hy with hy; rw [Array.getElem?_setIfInBounds_self_of_lt (by omega),hy]
   ·rw [hsize,Nat.mul_one]
    exact ((Fr.refl (one g) w).setCell (p:=⟨g,o+l.length,none⟩) (Or.inl rfl) (iv x)).to_below hB (fun k hk e=>by unfold one at e; omega)
 ·have hold:(Builtin.firstCells i.size l.length (.slice a l.length c)).run Tryz.prog w.drew=.ok (l.map fun n:Nat=>iv (n:Int)).toArray w.drew:=by
   rcases h3 with rfl | ⟨g,o,cur,rfl,e2,e3,e4,e5⟩
   ·have:l=[]:=List.eq_nil_of_length_eq_zero (by omega)
    subst this; rcases a with _ | ad
    ·exact run_firstCells_none _ _ _ _ _
    ·exact run_firstCells_some w.drew i.size 0 ad 0 0 [] (by simp) (fun j v hv=>by cases hv)
   ·refine run_firstCells_some w.drew i.size l.length ⟨g,o,none⟩ l.length c _ (by rw [hsize]; simp) (fun j u hu=>?_)
    rw [List.getElem?_map,Option.map_eq_some_iff] at hu; obtain ⟨y,hy,rfl⟩:=hu; rw [show (⟨g,o,none⟩:Addr).add j=⟨g,o+j,none⟩ from by simp only [Addr.add]; split <;> simp_all]; exact (cell_of (w:=w) e3).trans (e5 j y hy)
  have hrun:=run_append_grow_src w 29 29 ty 3 i _ ht hi hz a l.length c _ hold _ 1 [iv x] hsrc (by omega) (by omega) (growslice_fits (by omega) (by rw [hby]; omega)); refine ⟨_,_,⟨hrun⟩,⟨_,_,by rw [List.length_append]; rfl,by rw [List.length_append]; exact grownCap_ge _ _ _ _,Or.inr ⟨w.heap.size,0,_,rfl,hB,heap_alloc_new' w.drew _,?_,fun j y hy=>?_⟩⟩,?_⟩
  ·have h9:=grownCap_ge w (l.length+1) c 3
   rw [Array.size_append,size_zeroCells]; simp [Value.cells]; omega
  ·have hjl:j < l.length+1:=by have:=(List.getElem?_eq_some_iff.1 hy).1; simpa using this
   rw [Nat.zero_add,Array.getElem?_append_left (by simp; omega)]; rw [List.getElem?_toArray]
   have:((l++[x]).map fun n:Nat=>iv (n:Int))[j]? = some (iv y):=by rw [List.getElem?_map,hy]; rfl
   rw [List.map_append] at this; exact this
  ·exact ((Fr.refl (fun _=>False) w).drew.alloc _).to_below hB (fun k hk e=>e)
end Go.Proofs.YtfejagpjahoibaaGreatDoor
set_option linter.unusedSimpArgs false
namespace Go.Proofs.YtfejagpjahoibaaGreatDoor
open Go.RowKit
open Go.Lib (hid)
/-- turn's memory while it searches: the grid as it was, two rows of the call's own, the queue -/
structure TuM (g:Pl.Gr) (w0:World) (fb eb:Nat) (pre:Nat→Int) (sn:Nat→Bool) (Q:List Nat) (v:Value) (w:World):Prop where
 fr:IB fb g.n pre w
 sn:BB eb g.n sn w
 q:QI (eb+1) w Q v
 bel:Below w0.heap.size w0 w
 ge:w0.heap.size≤fb∧fb < eb∧eb < w.heap.size
theorem TuM.below {g:Pl.Gr} {w0:World} {fb eb:Nat} {pre:Nat→Int} {sn:Nat→Bool} {Q:List Nat} {v:Value} {w w':World} (h:TuM g w0 fb eb pre sn Q v w) (hb:Below w.heap.size w w'):TuM g w0 fb eb pre sn Q v w' :=
 ⟨h.fr.below hb,h.sn.below hb,h.q.below hb,h.bel.trans (hb.mono h.bel.size),h.ge.1,h.ge.2.1,Nat.lt_of_lt_of_le h.ge.2.2 hb.size⟩
/-- a column found -/
theorem TuM.found {g:Pl.Gr} {w0:World} {fb eb:Nat} {pre:Nat→Int} {sn:Nat→Bool} {Q:List Nat} {v:Value} {w:World} (h:TuM g w0 fb eb pre sn Q v w) {j:Nat} (hj:j < g.n) (a:Nat) :
  (w.setCell ⟨eb,j,none⟩ (.bool true)).frozen? ⟨fb,j,none⟩=false∧(∃ u,(w.setCell ⟨eb,j,none⟩ (.bool true)).cell? ⟨fb,j,none⟩=some u)∧TuM g w0 fb eb (Pl.upd pre j a) (Pl.upd sn j true) Q v ((w.setCell ⟨eb,j,none⟩ (.bool true)).setCell ⟨fb,j,none⟩ (iv a)):=by
 have h1:=h.ge; have hf:IB fb g.n pre (w.setCell ⟨eb,j,none⟩ (.bool true)):=h.fr.keep (heap_setCell_other _ (by omega)); have hs:BB eb g.n (Pl.upd sn j true) (w.setCell ⟨eb,j,none⟩ (.bool true)):=h.sn.set hj true; refine ⟨hf.free j,⟨_,hf.cell hj⟩,hf.set hj a,hs.keep (heap_setCell_other _ (by omega)),h.q.keep fun k hk=>?_,below_set (below_set h.bel (by omega) _) h1.1 _,h1.1,h1.2.1,by rw [World.size_setCell,World.size_setCell]; exact h1.2.2⟩; rw [heap_setCell_other _ (by omega),heap_setCell_other _ (by omega)]
/-- a column behind the queue -/
theorem TuM.add {g:Pl.Gr} {w0:World} {fb eb:Nat} {pre:Nat→Int} {sn:Nat→Bool} {Q:List Nat} {v:Value} {w:World} (h:TuM g w0 fb eb pre sn Q v w) (j:Nat) (hl:Q.length≤1048576) {b:Nat} (hb:b=w.heap.size) (ty:Nat) :
  ∃ v' w',AppRun Tryz.prog 29 29 ty v (.slice (some ⟨b,0,none⟩) 1 1) v' (w.alloc (.cells #[iv j] 3)) w'∧TuM g w0 fb eb pre sn (Q++[j]) v' w':=by
 subst hb; have hab:Below w.heap.size w (w.alloc (.cells #[iv j] 3)):=(Below.refl _ w).alloc (Nat.le_refl _) _; have h2:=h.below hab; have hge:=h2.ge; obtain ⟨v',w',h3,h4,h5⟩:=QI.push (ty:=ty) (cur:=#[]) h2.q (by omega) hl rfl (cell_of (heap_alloc_new' w (.cells #[iv j] 3)):(w.alloc (.cells #[iv j] 3)).cell? ⟨w.heap.size,0,none⟩=some (iv j)); exact ⟨v',w',h3,h2.fr.keep (h5.block _ (by omega)),h2.sn.keep (h5.block _ (by omega)),h4,h2.bel.trans (h5.mono (by omega)),hge.1,hge.2.1,Nat.lt_of_lt_of_le hge.2.2 h5.size⟩
theorem bb_copy {W:World} {b n:Nat} {cur:Array Value} {f:Nat→Bool} (hb:W.heap[b]? = some (.cells cur 4 (0,0))) (hc:cur.size=n):BB b n f (W.setRow b (cur.toList.take 0++(List.range n).map (fun i=>Value.bool (f i))++cur.toList.drop (0+((List.range n).map fun i=>Value.bool (f i)).length)).toArray):=by
 refine ⟨_,setRow_heap W b _ _ _ _ hb,fun i hi=>?_⟩; rw [List.getElem?_toArray,List.append_assoc,List.take_zero,List.nil_append,List.getElem?_append_left (by simp; exact hi),List.getElem?_map,List.getElem?_range hi]; rfl
/-- what turn's search has seen -/
def seenF (fx:Nat→Bool) (c:Nat) (T:List Nat) (x:Nat):Bool:=fx x || decide (x=c) || decide (x∈T)
theorem seen_start (fx:Nat→Bool) (c:Nat):Pl.upd fx c true=seenF fx c []:=by
 funext x
 unfold seenF; by_cases e:x=c
 ·subst e; rw [Pl.upd_same]; simp
 ·rw [Pl.upd_other _ _ e]; simp [e]
theorem seen_add (fx:Nat→Bool) (c:Nat) (T:List Nat) (k:Nat):Pl.upd (seenF fx c T) k true=seenF fx c (k::T):=by
 funext x
 unfold seenF; by_cases e:x=k
 ·subst e; rw [Pl.upd_same]; simp
 ·rw [Pl.upd_other _ _ e]; simp [e]
set_option maxHeartbeats 40000000 in
set_option maxRecDepth 100000 in
theorem turn_any (G:GB) (g:Pl.Gr) (r c xb xc:Nat) (fx:Nat→Bool) (w:World) (h:GM G g w) (hn:GN g) (hg:Pl.Full g) (hr:r < g.n) (hc:c < g.n) (hfx:fx c=false) (ht:Pl.tightB g r c=true) (hx:BB xb g.n fx w) :
  Calls Tryz.prog 50 #[pt G.gb,iv r,iv c,.slice (some ⟨xb,0,none⟩) g.n xc] w fun e w'=>e=.returned (.bool (Pl.turnF g r c fx).1)∧GM G (Pl.withOwn g (Pl.turnF g r c fx).2) w'∧Fr (fun k=>k=G.ob) w w':=by
 have hn0:0 < g.n:=by omega
 obtain ⟨f0,f1,f2,f3,f4⟩:=h.fields hn0; have x1:=h.own.cell hc
 have k1:=fun kd W=>ib_idx (g:=G.ob) (n:=g.n) (cap:=G.oc) hc kd W
 obtain ⟨ρ,hρ,hρn⟩:=hg.rng c hc; rw [hρ] at x1; have hA:=hid (fun n=>below_drewM (Below.refl w.heap.size w) n); by_cases ho:ρ=r
 ·subst ho
  have hF:Pl.turnF g ρ c fx=(true,g.own):=by unfold Pl.turnF; rw [if_pos hρ]
  rw [hF]; have q0:((ρ:Int) == (ρ:Int))=true:=beq_self_eq_true _; replace h:=hid h; replace hn:=hid hn; replace hg:=hid hg; replace hx:=hid hx; replace hF:=hid hF; replace hρ:=hid hρ
  go_enter Tryz.func50,Tryz.ntmps50
  go_wp2_with fail
  go_step3
  go_wp2_with fail
  rw [Exit.noGoto_ret]; go_ret; exact ⟨rfl,h.out,Fr.refl _ _⟩
 ·have q0:((ρ:Int) == (r:Int))=false:=by simp; omega
  have q0':decide ((ρ:Int)=(r:Int))=false:=decide_eq_false (by omega)
  have q0'':¬ ((ρ:Int)=(r:Int)):=by omega
  have q0c:¬ ρ=r:=ho; have q0a:decide (ρ=r)=false:=decide_eq_false ho
  have q0b:(ρ == r)=false:=by simp [ho]
  have h1b:Below w.heap.size w (w.alloc (.cells (Array.replicate g.n (iv 0)) 3 (0,0))):=(Below.refl _ w).alloc (Nat.le_refl _) _
  have s1:(w.alloc (.cells (Array.replicate g.n (iv 0)) 3 (0,0))).heap.size=w.heap.size+1:=by simp
  obtain ⟨W1,hW1⟩:∃ W,W=w.alloc (.cells (Array.replicate g.n (iv 0)) 3 (0,0)):=⟨_,rfl⟩; have i1:=ib_made w g.n; rw [← hW1] at h1b s1 i1; have h2b:Below W1.heap.size W1 (W1.alloc (.cells (Array.replicate g.n (.bool false)) 4 (0,0))):=(Below.refl _ W1).alloc (Nat.le_refl _) _
  have s2:(W1.alloc (.cells (Array.replicate g.n (.bool false)) 4 (0,0))).heap.size=W1.heap.size+1:=by simp
  have i2:=heap_alloc_new' W1 (.cells (Array.replicate g.n (.bool false)) 4 (0,0)); obtain ⟨W2,hW2⟩:∃ W,W=W1.alloc (.cells (Array.replicate g.n (.bool false)) 4 (0,0)):=⟨_,rfl⟩; rw [← hW2] at h2b s2 i2; have m1:=pmkInts g.n (by have:=hn.n; omega) w; have m2:=pmkBools g.n (by have:=hn.n; omega) W1; rw [← hW1] at m1; rw [← hW2] at m2; obtain ⟨a0,-⟩:=(h.below h1b).fields hn0; have hx2:=(hx.below h1b).below h2b; have hcp:=bb_copy (f:=fx) i2 (by simp:(Array.replicate g.n (Value.bool false)).size=g.n); obtain ⟨W3,hW3⟩:∃ W,W=W2.setRow W1.heap.size ((Array.replicate g.n (Value.bool false)).toList.take 0++(List.range g.n).map (fun i=>Value.bool (fx i))++(Array.replicate g.n (Value.bool false)).toList.drop (0+((List.range g.n).map fun i=>Value.bool (fx i)).length)).toArray:=⟨_,rfl⟩
  rw [← hW3] at hcp
  have s3:W3.heap.size=W2.heap.size:=by rw [hW3]; simp [World.setRow]
  have h3b:Below W1.heap.size W2 W3:=by rw [hW3]; exact below_setRow (Below.refl _ _) (Nat.le_refl _) _
  have hB3:Below w.heap.size w W3:=(h1b.trans (h2b.mono h1b.size)).trans (h3b.mono h1b.size); have i1':IB w.heap.size g.n (fun _=>0) W3:=((i1.below h2b).keep (h3b.block _ (by omega)))
  -- the store,the queue
  have hcp2:=hcp.set hc true; have i3:=hcp.cell hc; have i4:=hcp.free c; rw [seen_start] at hcp2
  have k2:=fun kd W=>bb_idx (g:=W1.heap.size) (n:=g.n) (cap:=g.n) hc kd W
  have hB4:Below w.heap.size w (W3.setCell ⟨W1.heap.size,c,none⟩ (.bool true)):=below_set hB3 (by omega) _; have i5:IB w.heap.size g.n (fun _=>0) (W3.setCell ⟨W1.heap.size,c,none⟩ (.bool true)):=i1'.keep (heap_setCell_other _ (by omega)); obtain ⟨W4,hW4⟩:∃ W,W=W3.setCell ⟨W1.heap.size,c,none⟩ (.bool true):=⟨_,rfl⟩; rw [← hW4] at hcp2 hB4 i5
  have s4:W4.heap.size=W3.heap.size:=by rw [hW4]; simp
  have hSrc:∀ j v,((List.range g.n).map fun i=>Value.bool (fx i))[j]? = some v→W2.cell? ((⟨xb,0,none⟩:Addr).add j)=some v:=fun j v hv=>by
   rw [List.getElem?_map,Option.map_eq_some_iff] at hv; obtain ⟨i,hi,rfl⟩:=hv
   have hjn:j < g.n:=by have:=(List.getElem?_eq_some_iff.1 hi).1; simpa using this
   rw [List.getElem?_range hjn] at hi; injection hi with hi; subst hi; rw [show (⟨xb,0,none⟩:Addr).add j=⟨xb,j,none⟩ from by simp only [Addr.add]; split <;> simp_all]; exact hx2.cell hjn
  obtain ⟨fb,hfb⟩:∃ x,x=w.heap.size:=⟨_,rfl⟩; obtain ⟨eb,heb⟩:∃ x,x=W1.heap.size:=⟨_,rfl⟩; rw [← hfb] at m1 i5; rw [← heb] at m2 k2 i3 i4 hcp2 hcp i2 hW3 hW4
  have hcopy:∀ ty,(Builtin.copy_ #[107,107] ty #[.slice (some ⟨eb,0,none⟩) g.n g.n,.slice (some ⟨xb,0,none⟩) g.n xc]).run Tryz.prog W2=.ok (goInt g.n) W3:=fun ty=>by
   have:=run_copy_row (P:=Tryz.prog) W2 107 107 ty 4 eb 0 g.n g.n ⟨xb,0,none⟩ g.n xc _ _ ((List.range g.n).map fun i=>Value.bool (fx i)) (by kernel_rfl) (by kernel_rfl) i2 (by simp) hSrc (by simp) (fun v hv=>by obtain ⟨i,-,rfl⟩:=List.mem_map.1 hv; rfl); rw [this,hW3]; simp
  replace i2:=hid i2; replace hSrc:=hid hSrc; replace hW1:=hid hW1; replace hW2:=hid hW2; replace hW3:=hid hW3; replace hW4:=hid hW4; replace hfb:=hid hfb; replace heb:=hid heb; replace h:=hid h; replace hn:=hid hn; replace hg:=hid hg; replace hx:=hid hx; replace hρ:=hid hρ; replace hcp:=hid hcp; replace hcp2:=hid hcp2; replace i5:=hid i5; replace hB4:=hid hB4; replace s1:=hid s1; replace s2:=hid s2; replace s3:=hid s3; replace s4:=hid s4; clear h1b h2b h3b hB3 i1 i1' hx2
  go_enter Tryz.func50,Tryz.ntmps50
  go_wp2_with fail
  go_step3
  go_wp2_with fail
  have hq0:QI (eb+1) (W4.alloc (.cells #[iv c] 3)) [c] (.slice (some ⟨W4.heap.size,0,none⟩) 1 1):=⟨_,1,rfl,Nat.le_refl _,Or.inr ⟨W4.heap.size,0,_,rfl,by have:=s4.out; have:=s3.out; have:=s2.out; have:=heb.out; omega,heap_alloc_new' W4 _,Nat.le_refl _,fun i y hy=>by
   rcases i with _ | i
   ·injection hy with hy; subst hy; rfl
   ·cases hy⟩⟩
  have hab:Below W4.heap.size W4 (W4.alloc (.cells #[iv c] 3)):=(Below.refl _ W4).alloc (Nat.le_refl _) _
  have hTM:TuM g w fb eb (fun _=>0) (seenF fx c []) [c] (.slice (some ⟨W4.heap.size,0,none⟩) 1 1) (W4.alloc (.cells #[iv c] 3)) :=
   ⟨i5.out.below hab,hcp2.out.below hab,hq0,hB4.out.trans (hab.mono hB4.out.size),by have:=hfb.out; omega,by have:=hfb.out; have:=heb.out; have:=s1.out; omega,by have:=s4.out; have:=s3.out; have:=s2.out; have:=heb.out; simp; omega⟩
  rw [s4.out,hW4.out] at hTM; generalize (W3.setCell ⟨eb,c,none⟩ (.bool true)).alloc (.cells #[iv c] 3)=W5 at hTM ⊢; replace hTM:=hid hTM; obtain ⟨vq,hvq⟩:∃ v,v=Value.slice (some ⟨W3.heap.size,0,none⟩) 1 1:=⟨_,rfl⟩; rw [← hvq] at hTM; clear hq0 hab m1 m2 k2 i3 i4 hcopy a0; replace hvq:=hid hvq
  go_step3
  obtain ⟨FIN,hFIN⟩:∃ F,F=Pl.bfs g r c fx (g.n+1) ⟨fun _=>0,[],[c],-1⟩:=⟨_,rfl⟩; have hFB:=hid (Pl.bfs_ok (g:=g) (r:=r) (c:=c) (fx:=fx) (g.n+1) _ Pl.bi_start); rw [← hFIN] at hFB; replace hFIN:=hid hFIN
  go_upto_block 0 with (fail)
  go_cut [12] (fun v12 wx=>v12=iv FIN.last∧Hid (IB fb g.n FIN.pre wx)∧Hid (Below w.heap.size w wx))
  case first =>
   go_wp2_with fail
   go_loopg [11,12] (g.n+1) (fun f v11 v12 wr=>∃ s:Pl.Bs,v12=iv (-1)∧s.Q.length+g.n≤f+1+s.T.length∧s.Q.length≤s.T.length+1∧Hid (s.last = -1)∧Hid (Pl.bfs g r c fx f s=FIN)∧Hid (Pl.BI g r c fx s)∧Hid (TuM g w fb eb s.pre (seenF fx c s.T) s.Q v11 wr))
   case atStart=>exact ⟨⟨fun _=>0,[],[c],-1⟩,rfl,by simp; omega,by simp,hid rfl,hid hFIN.out.symm,hid Pl.bi_start,by rw [← hvq.out]; exact hTM⟩
   case round =>
    obtain ⟨s,rfl,hlen,hlq,hlast,hbfs,hBI,hT⟩:=hrel; clear hTM; rcases hQ:s.Q with _ | ⟨a,q⟩
    ·have hfin:s=FIN:=by
      rw [← hbfs.out]
      cases gk with
      | zero=>rfl
      | succ k=>rw [Pl.bfs,hQ]
     have hTq:=hT.out.q; rw [hQ] at hTq; obtain ⟨a0,c0,rfl,h2,-⟩:=hTq; have hm:=hid (show IB fb g.n FIN.pre wr∧Below w.heap.size w wr from by rw [← hfin]; exact ⟨hT.out.fr,hT.out.bel⟩); replace hQ:=hid hQ; replace hfin:=hid hfin; clear hT hbfs hBI
     go_wp2_with fail
     go_meet
     case rel=>exact ⟨by rw [← hfin.out,hlast.out],hid hm.out.1,hid hm.out.2⟩
    ·have hTq:=hT.out.q
     rw [hQ] at hTq; obtain ⟨g1,o1,c1,v',rfl,hc1,hi1,he1,hs1,hq1⟩:=hTq.pop; obtain ⟨hB2,haT⟩:=Pl.bi_pop hBI.out hQ; have hTl:=Pl.bi_tl hBI.out hc
     have han:a < g.n:=by
      rcases haT with h9 | h9
      ·exact (hBI.out.lt a h9).1
      ·omega
     obtain ⟨k,rfl⟩:∃ k,gk=k+1:=⟨gk - 1,by rw [hQ] at hlen; simp at hlen; omega⟩; have hb2:=hbfs.out; rw [Pl.bfs,hQ] at hb2; replace hb2:(if 0≤(Pl.inn g r c fx a g.n ⟨s.pre,s.T,q,s.last⟩).last then Pl.inn g r c fx a g.n ⟨s.pre,s.T,q,s.last⟩ else Pl.bfs g r c fx k (Pl.inn g r c fx a g.n ⟨s.pre,s.T,q,s.last⟩))=FIN:=hb2; rw [hlast.out] at hb2; have hlen2:∀ j,(Pl.inn g r c fx a j ⟨s.pre,s.T,q,-1⟩).Q.length+s.T.length≤q.length+(Pl.inn g r c fx a j ⟨s.pre,s.T,q,-1⟩).T.length:=Pl.inn_len (g:=g) (r:=r) (c:=c) (fx:=fx) (a:=a) ⟨s.pre,s.T,q,-1⟩; have hTM2:=hid (show TuM g w fb eb s.pre (seenF fx c s.T) q v' wr from ⟨hT.out.fr,hT.out.sn,hq1,hT.out.bel,hT.out.ge⟩); rw [hlast.out] at hB2; rw [hQ,List.length_cons] at hlen hlq; replace hlq:=hid hlq
     obtain ⟨ρa,hρa,hρan⟩:=hg.out.rng a han; have hG:=h.out.below hT.out.bel; obtain ⟨y0,-,-,-,-⟩:=hG.fields hn0; replace hG:=hid hG; replace hB2:=hid hB2; replace haT:=hid haT; replace hTl:=hid hTl; replace hb2:=hid hb2; replace hlen2:=hid hlen2; replace hlen:=hid hlen; replace hρa:=hid hρa; replace hq1:=hid hq1; replace hTq:=hid hTq; replace hQ:=hid hQ; have q3:decide ((0:Int) < ((q.length+1:Nat):Int))=true:=decide_eq_true (by omega); have q4:decide (0 < q.length+1)=true:=decide_eq_true (by omega)
     go_wp2_with fail
     go_loopg [11,12,54] g.n (fun f v11 v12 v54 wr2=>∃ (j:Nat),v12=iv (-1)∧v54=iv j∧j+f=g.n∧Hid ((Pl.inn g r c fx a j ⟨s.pre,s.T,q,-1⟩).last = -1)∧Hid (TuM g w fb eb (Pl.inn g r c fx a j ⟨s.pre,s.T,q,-1⟩).pre (seenF fx c (Pl.inn g r c fx a j ⟨s.pre,s.T,q,-1⟩).T) (Pl.inn g r c fx a j ⟨s.pre,s.T,q,-1⟩).Q v11 wr2))
     case atStart=>exact ⟨0,rfl,rfl,by omega,hid rfl,hTM2⟩
     case round =>
      obtain ⟨j,rfl,rfl,hjf,hl,hT⟩:=hrel; clear hTM2 hG; by_cases hj:j < g.n
      ·have q1:decide ((j:Int) < (g.n:Int))=true:=decide_eq_true (by omega)
       have q5:IntKind.i64.wrap ((j:Int)+1)=((j+1:Nat):Int):=by have:=hn.out.n; rw [IntKind.wrap_i64]; omega
       obtain ⟨t,hte⟩:∃ t,t=Pl.inn g r c fx a j ⟨s.pre,s.T,q,-1⟩:=⟨_,rfl⟩
       have hstep:Pl.inn g r c fx a (j+1) ⟨s.pre,s.T,q,-1⟩=if j∈t.T∨j=c∨fx j=true∨Pl.tightB g (g.own a).toNat j=false then t
        else if g.own j=(r:Int) then ⟨Pl.upd t.pre j a,j::t.T,t.Q,j⟩ else ⟨Pl.upd t.pre j a,j::t.T,t.Q++[j],t.last⟩:=by
        have hng:¬ 0≤t.last:=by rw [hte,hl.out]; decide
        rw [Pl.inn,← hte,if_neg hng]
       rw [← hte] at hl hT; rw [hρa.out,show ((ρa:Nat):Int).toNat=ρa from rfl] at hstep; replace hte:=hid hte
       have k2:=fun kd W=>bb_idx (g:=eb) (n:=g.n) (cap:=g.n) hj kd W
       have c1:=hT.out.sn.cell hj; obtain ⟨sn,hsn⟩:∃ x,x=seenF fx c t.T j:=⟨_,rfl⟩; rw [← hsn] at c1
       cases sn with
       | true =>
        have hst2:Pl.inn g r c fx a (j+1) ⟨s.pre,s.T,q,-1⟩=t:=by
         rw [hstep,if_pos]; unfold seenF at hsn; have:=hsn.symm; simp only [Bool.or_eq_true,decide_eq_true_eq] at this; rcases this with (h9 | h9) | h9
         ·exact Or.inr (Or.inr (Or.inl h9))
         ·exact Or.inr (Or.inl h9)
         ·exact Or.inl h9
        replace hstep:=hid hstep; replace hsn:=hid hsn; have hl2:=hid (show (Pl.inn g r c fx a (j+1) ⟨s.pre,s.T,q,-1⟩).last = -1 from by rw [hst2]; exact hl.out); have hT2:=hid (show ∀ v W,TuM g w fb eb t.pre (seenF fx c t.T) t.Q v W→TuM g w fb eb (Pl.inn g r c fx a (j+1) ⟨s.pre,s.T,q,-1⟩).pre (seenF fx c (Pl.inn g r c fx a (j+1) ⟨s.pre,s.T,q,-1⟩).T) (Pl.inn g r c fx a (j+1) ⟨s.pre,s.T,q,-1⟩).Q v W from fun v W hv=>by rw [hst2]; exact hv); replace hst2:=hid hst2
        go_wp2_with fail
        go_roundg (g.n - (j+1))
        case measure=>omega
        case rel=>exact ⟨j+1,rfl,rfl,by omega,hl2,hid (hT2.out _ _ hT.out)⟩
       | false =>
        unfold seenF at hsn; have hs3:=hsn.symm; simp only [Bool.or_eq_false_iff,decide_eq_false_iff_not] at hs3; have hG:=h.out.below hT.out.bel; obtain ⟨y0,-,-,-,y4⟩:=hG.fields hn0
        have k3:=fun kd W=>ib_idx (g:=G.ob) (n:=g.n) (cap:=G.oc) han kd W
        have x2:=hG.own.cell han; rw [hρa.out] at x2; have htg:=tight_any G g ρa j _ hG hn.out hρan hj; replace htg:=hid htg; replace hG:=hid hG; obtain ⟨tb,htb⟩:∃ b,b=Pl.tightB g ρa j:=⟨_,rfl⟩; rw [← htb] at htg hstep; replace hsn:=hid hsn
        cases tb with
        | false =>
         rw [if_pos (Or.inr (Or.inr (Or.inr rfl)))] at hstep; have hl2:=hid (show (Pl.inn g r c fx a (j+1) ⟨s.pre,s.T,q,-1⟩).last = -1 from by rw [hstep]; exact hl.out); have hT2:=hid (show ∀ v W,TuM g w fb eb t.pre (seenF fx c t.T) t.Q v W→TuM g w fb eb (Pl.inn g r c fx a (j+1) ⟨s.pre,s.T,q,-1⟩).pre (seenF fx c (Pl.inn g r c fx a (j+1) ⟨s.pre,s.T,q,-1⟩).T) (Pl.inn g r c fx a (j+1) ⟨s.pre,s.T,q,-1⟩).Q v W from fun v W hv=>by rw [hstep]; exact hv); replace hstep:=hid hstep; replace htb:=hid htb; replace hs3:=hid hs3
         go_wp2_with (go_at_call 49; refine htg.out.mono ?_; rintro e w1 ⟨rfl,hbw⟩)
         go_roundg (g.n - (j+1))
         case measure=>omega
         case rel=>exact ⟨j+1,rfl,rfl,by omega,hl2,hid (hT2.out _ _ (hT.out.below hbw))⟩
        | true =>
         rw [if_neg (by
          rintro (h9 | h9 | h9 | h9)
          ·exact hs3.2 h9
          ·exact hs3.1.2 h9
          ·rw [hs3.1.1] at h9; cases h9
          ·cases h9)] at hstep
         obtain ⟨ρj,hρj,hρjn⟩:=hg.out.rng j hj; rw [hρj] at hstep
         have k4:=fun kd W=>ib_idx (g:=fb) (n:=g.n) (cap:=g.n) hj kd W
         have k5:=fun kd W=>ib_idx (g:=G.ob) (n:=g.n) (cap:=G.oc) hj kd W
         have htQ:t.Q.length≤1048576:=by
          have h7:=hlen2.out j; rw [← hte.out] at h7; have h8:=hlq.out; have h9:=hn.out.n; have h10:=Pl.bi_tl (Pl.inn_ok j ⟨s.pre,s.T,q,-1⟩ (by omega) hB2.out haT.out).1 hc; rw [← hte.out] at h10; omega
         by_cases hjr:ρj=r
         ·subst hjr
          have e0:((ρj:Int) == (ρj:Int))=true:=beq_self_eq_true _; rw [if_pos rfl] at hstep
          have hfin:FIN=⟨Pl.upd t.pre j a,j::t.T,t.Q,j⟩:=by
           have h7:=hb2.out
           have h8:Pl.inn g ρj c fx a g.n ⟨s.pre,s.T,q,-1⟩=⟨Pl.upd t.pre j a,j::t.T,t.Q,j⟩:=by
            have h9:=Pl.inn_stop (g:=g) (r:=ρj) (c:=c) (fx:=fx) (a:=a) (s:=⟨s.pre,s.T,q,-1⟩) (k:=j+1) (by rw [hstep]; show (0:Int)≤(j:Int); omega) (g.n - (j+1)); rw [show j+1+(g.n - (j+1))=g.n from by omega,hstep] at h9; exact h9
           rw [h8,if_pos (show (0:Int)≤(j:Int) from by omega)] at h7; exact h7.symm
          have hfp:=hid (show FIN.pre=Pl.upd t.pre j a from by rw [hfin]); have hfl:=hid (show FIN.last=(j:Int) from by rw [hfin]); replace hstep:=hid hstep; replace hs3:=hid hs3; replace htb:=hid htb; replace hρj:=hid hρj; replace htQ:=hid htQ; replace hfin:=hid hfin
          go_wp2_with (go_at_call 49; refine htg.out.mono ?_; rintro e w1 ⟨rfl,hbw⟩; have hT3:=hT.out.below hbw; have u1:=hT3.sn.cell hj; have u2:=hT3.sn.free j; obtain ⟨u3,⟨uu,u4⟩,hT4⟩:=hT3.found hj a; have hG4:=h.out.below hT4.bel; obtain ⟨-,-,-,-,y5⟩:=hG4.fields hn0; have x5:=hG4.own.cell hj; rw [hρj.out] at x5; replace hT3:=hid hT3; replace hT4:=hid hT4; replace hG4:=hid hG4)
          go_meet
          case rel=>exact ⟨by rw [hfl.out],hid (by rw [hfp.out]; exact hT4.out.fr),hid hT4.out.bel⟩
         ·have e0:((ρj:Int) == (r:Int))=false:=by simp; omega
          have e1:¬ ((ρj:Int)=(r:Int)):=by omega
          have e2:decide ((ρj:Int)=(r:Int))=false:=decide_eq_false e1; have e3:¬ ρj=r:=hjr; rw [if_neg e1] at hstep; have hl2:=hid (show (Pl.inn g r c fx a (j+1) ⟨s.pre,s.T,q,-1⟩).last = -1 from by rw [hstep]; exact hl.out); have hT2:=hid (show ∀ v W,TuM g w fb eb (Pl.upd t.pre j a) (seenF fx c (j::t.T)) (t.Q++[j]) v W→TuM g w fb eb (Pl.inn g r c fx a (j+1) ⟨s.pre,s.T,q,-1⟩).pre (seenF fx c (Pl.inn g r c fx a (j+1) ⟨s.pre,s.T,q,-1⟩).T) (Pl.inn g r c fx a (j+1) ⟨s.pre,s.T,q,-1⟩).Q v W from fun v W hv=>by rw [hstep]; exact hv); replace hstep:=hid hstep; replace hs3:=hid hs3; replace htb:=hid htb; replace hρj:=hid hρj; replace htQ:=hid htQ
          go_wp2_with (first | (go_at_call 49; refine htg.out.mono ?_; rintro e w1 ⟨rfl,hbw⟩; have hT3:=hT.out.below hbw; have u1:=hT3.sn.cell hj; have u2:=hT3.sn.free j; obtain ⟨u3,⟨uu,u4⟩,hT4⟩:=hT3.found hj a; have hG4:=h.out.below hT4.bel; obtain ⟨-,-,-,-,y5⟩:=hG4.fields hn0; have x5:=hG4.own.cell hj; rw [hρj.out] at x5; rw [seen_add] at hT4; obtain ⟨vn,w2,hap,hT5⟩:=hT4.add j htQ.out (b:=w1.heap.size) (by simp) 29; replace hap:=hid hap; replace hT5:=hid hT5; replace hT3:=hid hT3; replace hT4:=hid hT4; replace hG4:=hid hG4) | (at_builtin; refine wpList_append_shut rfl (.tmp 91) (.tmp 93) rfl rfl rfl hap.out ?_))
          go_roundg (g.n - (j+1))
          case measure=>omega
          case rel=>exact ⟨j+1,rfl,rfl,by omega,hl2,hid (hT2.out _ _ hT5.out)⟩
      ·have q1:decide ((j:Int) < (g.n:Int))=false:=decide_eq_false (by omega)
       have hjn:j=g.n:=by omega
       subst hjn; have h7:=hb2.out; rw [if_neg (by rw [hl.out]; decide)] at h7; have h8:=hlen2.out g.n; have h9:=hlen.out; have h10:=hlq.out; have hBn:=hid (Pl.inn_ok g.n ⟨s.pre,s.T,q,-1⟩ (Nat.le_refl _) hB2.out haT.out).1; have hrel2:=hid (show (Pl.inn g r c fx a g.n ⟨s.pre,s.T,q,-1⟩).Q.length+g.n≤k+1+(Pl.inn g r c fx a g.n ⟨s.pre,s.T,q,-1⟩).T.length∧(Pl.inn g r c fx a g.n ⟨s.pre,s.T,q,-1⟩).Q.length≤(Pl.inn g r c fx a g.n ⟨s.pre,s.T,q,-1⟩).T.length+1 from ⟨by omega,by omega⟩); replace h7:=hid h7; clear h8 h9 h10
       go_wp2_with fail
       go_roundg k
       case measure=>omega
       case rel=>exact ⟨_,rfl,hrel2.out.1,hrel2.out.2,hl,h7,hBn,hT⟩
  case rest =>
   obtain ⟨rfl,hI,hB⟩:=hcut; have hG:=h.out.below hB.out; rcases hFB.out.las with hl | ⟨x,T2,hl,hTx,hox⟩
   ·have hF:Pl.turnF g r c fx=(false,g.own):=by
     unfold Pl.turnF; rw [if_neg (by rw [hρ.out]; exact q0'')]; show (if (Pl.bfs g r c fx (g.n+1) ⟨fun _=>0,[],[c],-1⟩).last < 0 then _ else _)=_; rw [← hFIN.out,hl,if_pos (by decide)]
    rw [hl]; replace hF:=hid hF; replace hl:=hid hl; replace hG:=hid hG
    go_wp2_with fail
    rw [Exit.noGoto_ret]; go_ret; exact ⟨by rw [hF.out]; rfl,by rw [hF.out]; exact hG.out,Fr.of_below hB.out _⟩
   ·obtain ⟨hTI,hxn,hxc,hxf,hlt⟩:=Pl.ti_start hg.out hc hFB.out hTx hox
    have hF:Pl.turnF g r c fx=(true,Pl.upd (Pl.rot FIN.pre c (g.n+2) g.own x) c (r:Int)):=by
     unfold Pl.turnF; rw [if_neg (by rw [hρ.out]; exact q0'')]; show (if (Pl.bfs g r c fx (g.n+1) ⟨fun _=>0,[],[c],-1⟩).last < 0 then _ else (true,Pl.upd (Pl.rot (Pl.bfs g r c fx (g.n+1) ⟨fun _=>0,[],[c],-1⟩).pre c (g.n+2) g.own (Pl.bfs g r c fx (g.n+1) ⟨fun _=>0,[],[c],-1⟩).last.toNat) c (r:Int)))=_; rw [← hFIN.out,hl,if_neg (by omega)]; rfl
    rw [hl]; obtain ⟨RES,hRES⟩:∃ R,R=Pl.rot FIN.pre c (g.n+2) g.own x:=⟨_,rfl⟩; rw [← hRES] at hF; have q6:decide ((x:Int) < 0)=false:=decide_eq_false (by omega); have hst:=hid (show GM G (Pl.withOwn g g.own) wc∧IB fb g.n FIN.pre wc∧Fr (fun k=>k=G.ob) w wc from ⟨hG,hI.out,Fr.of_below hB.out _⟩)
    have hlt2:T2.length+(if x=c then 0 else 1) < g.n+2:=by split <;> omega
    have hob:fb≠G.ob:=by have:=h.out.own.lt; have:=hfb.out; omega
    replace hRES:=hid hRES; replace hF:=hid hF; replace hl:=hid hl; replace hTI:=hid hTI; replace hTx:=hid hTx; replace hox:=hid hox; replace hlt:=hid hlt; replace hG:=hid hG
    go_wp2_with fail
    go_loopg [12] (g.n+2) (fun f v12 wr=>∃ (p:Nat) (T:List Nat) (ow:Nat→Int),v12=iv p∧T.length+(if p=c then 0 else 1) < f∧Hid (Pl.rot FIN.pre c f ow p=RES)∧Hid (Pl.TI g r c FIN.pre ow p T)∧Hid (GM G (Pl.withOwn g ow) wr∧IB fb g.n FIN.pre wr∧Fr (fun k=>k=G.ob) w wr))
    case atStart=>exact ⟨x,T2,g.own,rfl,hlt2,hid hRES.out.symm,hTI,hst⟩
    case round =>
     obtain ⟨p,T,ow,rfl,hlT,hrot,hTI2,hM⟩:=hrel; clear hst; obtain ⟨k,rfl⟩:∃ k,gk=k+1:=⟨gk - 1,by omega⟩; have hro:=hrot.out; rw [Pl.rot] at hro; have hGm:=hM.out.1; obtain ⟨y0,-,-,-,y4⟩:=hGm.fields hn0; replace y0:wr.cell? ⟨G.gb,0,none⟩=some (iv g.n):=y0; replace y4:wr.cell? ⟨G.gb,4,none⟩=some (.slice (some ⟨G.ob,0,none⟩) g.n G.oc):=y4; have hpn:p < g.n:=hTI2.out.pn; by_cases hpc:p=c
     ·subst hpc
      rw [if_pos rfl] at hro; have e0:((p:Int) == (p:Int))=true:=beq_self_eq_true _
      have e1:((p:Int) != (p:Int))=false:=by simp
      have x5:=hGm.own.cell (show p < (Pl.withOwn g ow).n from hpn); have x6:=hGm.own.free p; replace x5:wr.cell? ⟨G.ob,p,none⟩=some (iv (ow p)):=x5; obtain ⟨op,hop⟩:∃ o,o=ow p:=⟨_,rfl⟩; rw [← hop] at x5; have hGn:=hid (hGm.setOwn (show p < (Pl.withOwn g ow).n from hpn) (r:Int)); have hFn:=hid (hM.out.2.2.setCell (p:=⟨G.ob,p,none⟩) (Or.inl rfl) (iv (r:Int))); replace hro:=hid hro; replace hop:=hid hop; replace hGm:=hid hGm
      go_wp2_with fail
      go_ret; exact ⟨by rw [hF.out]; rfl,by rw [hF.out,← hro.out]; exact hGn.out,hFn.out⟩
     ·rw [if_neg hpc] at hro
      obtain ⟨d,T3,s1,s2,-,-,s5,s6⟩:=Pl.rot_step hTI2.out hpc; rw [s1,show ((d:Nat):Int).toNat=d from rfl] at hro
      have e0:((p:Int) == (c:Int))=false:=by simp; omega
      have e1:((p:Int) != (c:Int))=true:=by simp; omega
      have e2:¬ ((p:Int)=(c:Int)):=by omega
      have e3:decide ((p:Int)=(c:Int))=false:=decide_eq_false e2
      have k4:=fun kd W=>ib_idx (g:=fb) (n:=g.n) (cap:=g.n) hpn kd W
      have k5:=fun kd W=>ib_idx (g:=G.ob) (n:=g.n) (cap:=G.oc) hpn kd W
      have k6:=fun kd W=>ib_idx (g:=G.ob) (n:=g.n) (cap:=G.oc) s2 kd W
      have c1:=hM.out.2.1.cell hpn; rw [s1] at c1; have x5:=hGm.own.cell (show p < (Pl.withOwn g ow).n from hpn); have x6:=hGm.own.free p; have x7:=hGm.own.cell (show d < (Pl.withOwn g ow).n from s2); replace x5:wr.cell? ⟨G.ob,p,none⟩=some (iv (ow p)):=x5; replace x7:wr.cell? ⟨G.ob,d,none⟩=some (iv (ow d)):=x7; obtain ⟨od,hod⟩:∃ o,o=ow d:=⟨_,rfl⟩; rw [← hod] at x7 hro s5; have hGn:=hGm.setOwn (show p < (Pl.withOwn g ow).n from hpn) od; have hFn:=hM.out.2.2.setCell (p:=⟨G.ob,p,none⟩) (Or.inl rfl) (iv od); have hIn:IB fb g.n FIN.pre (wr.setCell ⟨G.ob,p,none⟩ (iv od)):=hM.out.2.1.keep (heap_setCell_other _ hob)
      have hMn:=hid (show GM G (Pl.withOwn g (Pl.upd ow p od)) (wr.setCell ⟨G.ob,p,none⟩ (iv od)).drew∧IB fb g.n FIN.pre (wr.setCell ⟨G.ob,p,none⟩ (iv od)).drew∧Fr (fun k=>k=G.ob) w (wr.setCell ⟨G.ob,p,none⟩ (iv od)).drew from ⟨hGn.below (below_drewM (Below.refl _ _) 1),hIn.below (below_drewM (Below.refl _ _) 1),hFn.drew⟩)
      have s6':T3.length+(if d=c then 0 else 1) < k:=by rw [if_neg hpc] at hlT; omega
      have c8:=hIn.cell hpn; rw [s1] at c8; replace hro:=hid hro; replace s5:=hid s5; replace hod:=hid hod; replace hGm:=hid hGm; replace s1:=hid s1; clear s6 hGn hFn hIn
      go_upto_region 24 with (fail)
      go_region
      generalize (wr.setCell ⟨G.ob,p,none⟩ (iv od)).drew=W9 at hMn ⊢; have c9:=hMn.out.2.1.cell hpn; rw [s1.out] at c9
      go_wp2_with fail
      go_roundg k
      case measure=>omega
      case rel=>exact ⟨d,T3,_,rfl,s6',hro,s5,hMn⟩
end Go.Proofs.YtfejagpjahoibaaGreatDoor
