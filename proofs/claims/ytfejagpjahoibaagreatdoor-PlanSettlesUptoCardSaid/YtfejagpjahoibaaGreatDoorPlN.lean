/- plan, walks: newGrid. -/
import Derived.Test.YtfejagpjahoibaaGreatDoorPlO
set_option linter.unusedVariables false
set_option linter.unusedSimpArgs false
namespace Go.Proofs.YtfejagpjahoibaaGreatDoor
open Go.RowKit
open Go.Lib (hid)
theorem IB.sl {b n cap:Nat} {f:Nat→Int} {w:World} {S:Foot} (h:IB b n f w) (hS:S b) (hc:n≤cap):SlR 1 IntR S w ((List.range n).map f) (.slice (some ⟨b,0,none⟩) n cap):=by
 refine ⟨some ⟨b,0,none⟩,cap,b,0,fun i=>[iv (f i)],by simp,by simpa using hc,fun _=>⟨rfl,hS,h.lt⟩,fun i hi j u hu=>?_,fun i x hx=>?_⟩
 ·have hin:i < n:=by simpa using hi
  rcases j with _ | j
  ·injection hu with hu; subst hu
   simpa using h.cell hin
  ·cases hu
 ·have hin:i < n:=by have:=(List.getElem?_eq_some_iff.1 hx).1; simpa using this
  rw [line_at hin] at hx; injection hx with hx; subst hx; rfl
/-- the grid's memory while its lines are made -/
structure NM (n:Nat) (V:Nat→Nat→Int) (w0:World) (gb rb kb:Nat) (rc ro:Nat) (va vo:Value) (S:Foot) (w:World):Prop where
 blk:w.heap[gb]? = some (.cells #[iv n,va,.slice (some ⟨rb,0,none⟩) n n,.slice (some ⟨kb,0,none⟩) n n,vo] 61 (0,0))
 rows:IB rb n (fun _=>0) w
 cols:IB kb n (fun _=>0) w
 cel:OwnR 29 1 RowI S w ((List.range rc).map fun ρ=>(List.range n).map (V ρ)) va
 own:w.ownsRow 0 3 1 vo ro (List.replicate ro (iv (-1)))
 bel:Below w0.heap.size w0 w
 ge:w0.heap.size≤gb∧w0.heap.size≤rb∧w0.heap.size≤kb
 ne:rb≠kb∧gb≠rb∧gb≠kb
 sep:∀ k,S k→w0.heap.size≤k∧k < w.heap.size∧k≠gb∧k≠rb∧k≠kb∧vo.ownBlock≠some k
 ow:∀ k,vo.ownBlock=some k→w0.heap.size≤k∧k≠gb∧k≠rb∧k≠kb
theorem NM.below {n:Nat} {V:Nat→Nat→Int} {w0:World} {gb rb kb rc ro:Nat} {va vo:Value} {S:Foot} {w w':World} (h:NM n V w0 gb rb kb rc ro va vo S w) (hb:Below w.heap.size w w'):NM n V w0 gb rb kb rc ro va vo S w' :=
 ⟨(hb.block _ (lt_of_heap h.blk)).trans h.blk,h.rows.below hb,h.cols.below hb,h.cel.below goodRowI hb,owns_move h.own (fun k hk=>hb.block k (h.own.lt k hk).2) (fun _ _=>Nat.zero_le _),h.bel.trans (hb.mono h.bel.size),h.ge,h.ne,fun k hk=>⟨(h.sep k hk).1,Nat.lt_of_lt_of_le (h.sep k hk).2.1 hb.size,(h.sep k hk).2.2⟩,h.ow⟩
theorem nm_two (n:Nat) (V:Nat→Nat→Int) (w wc:World) (hB:Below w.heap.size w wc) (rb kb:Nat) (hrk:(rb=wc.heap.size∧kb=wc.heap.size+1)∨(rb=wc.heap.size+1∧kb=wc.heap.size)) :
  NM n V w (wc.heap.size+1+1) rb kb 0 0 (.slice none 0 0) (.slice none 0 0) (fun _=>False)
   (((wc.alloc (.cells (Array.replicate n (iv 0)) 3 (0,0))).alloc (.cells (Array.replicate n (iv 0)) 3 (0,0))).alloc (.cells #[iv n,.slice none 0 0,.slice (some ⟨rb,0,none⟩) n n,.slice (some ⟨kb,0,none⟩) n n,.slice none 0 0] 61 (0,0))).drew:=by
 have hs:=hB.size; have b1:Below wc.heap.size wc (wc.alloc (.cells (Array.replicate n (iv 0)) 3 (0,0))):=(Below.refl _ _).alloc (Nat.le_refl _) _; have i1:=ib_made wc n
 have s1:(wc.alloc (.cells (Array.replicate n (iv 0)) 3 (0,0))).heap.size=wc.heap.size+1:=by simp
 generalize wc.alloc (.cells (Array.replicate n (iv 0)) 3 (0,0))=W1 at *; have b2:Below W1.heap.size W1 (W1.alloc (.cells (Array.replicate n (iv 0)) 3 (0,0))):=(Below.refl _ _).alloc (Nat.le_refl _) _; have i2:=ib_made W1 n
 have s2:(W1.alloc (.cells (Array.replicate n (iv 0)) 3 (0,0))).heap.size=wc.heap.size+1+1:=by simp; omega
 rw [s1] at i2; generalize W1.alloc (.cells (Array.replicate n (iv 0)) 3 (0,0))=W2 at *
 have b3:∀ o,Below W2.heap.size W2 (W2.alloc o):=fun o=>(Below.refl _ _).alloc (Nat.le_refl _) _
 have i1':=i1.below b2
 have hk3:=fun o=>heap_alloc_new' W2 o
 rw [s2] at hk3
 have hB3:∀ o,Below w.heap.size w (W2.alloc o):=fun o=>((hB.trans (b1.mono hs)).trans (b2.mono (by omega))).trans ((b3 o).mono (by omega))
 have hdr:∀ W:World,Below W.heap.size W W.drew:=fun W=>below_drewM (Below.refl _ _) 1
 have R1:∀ o,IB rb n (fun _=>0) (W2.alloc o):=fun o=>by
  rcases hrk with ⟨e,-⟩ | ⟨e,-⟩
  ·rw [e]; exact i1'.below (b3 o)
  ·rw [e]; exact i2.below (b3 o)
 have R2:∀ o,IB kb n (fun _=>0) (W2.alloc o):=fun o=>by
  rcases hrk with ⟨-,e⟩ | ⟨-,e⟩
  ·rw [e]; exact i2.below (b3 o)
  ·rw [e]; exact i1'.below (b3 o)
 exact NM.below ⟨hk3 _,R1 _,R2 _,OwnR.nil _ _ _ _ _,World.ownsRow_nil _ _ _ _,hB3 _,⟨by omega,by omega,by omega⟩,⟨by omega,by omega,by omega⟩,fun k hk=>absurd hk id,fun k hk=>by simp [Value.ownBlock] at hk⟩ (hdr _)
/-- the line's own cells are set -/
theorem NM.setL {n:Nat} {V:Nat→Nat→Int} {w0:World} {gb rb kb rc ro:Nat} {va vo:Value} {S:Foot} {w:World} (h:NM n V w0 gb rb kb rc ro va vo S w) {lb i:Nat} (h0:w0.heap.size≤lb) (h1:lb≠gb∧lb≠rb∧lb≠kb) (h2:¬ S lb) (h3:vo.ownBlock≠some lb) (v:Value):NM n V w0 gb rb kb rc ro va vo S (w.setCell ⟨lb,i,none⟩ v) :=
 ⟨(heap_setCell_other _ h1.1.symm).trans h.blk,h.rows.keep (heap_setCell_other _ h1.2.1.symm),h.cols.keep (heap_setCell_other _ h1.2.2.symm),h.cel.move goodRowI fun k hk hs=>⟨hs,heap_setCell_other _ (fun e=>h2 (e ▸ hs))⟩,owns_move h.own (fun k hk=>heap_setCell_other _ (fun e=>h3 (e ▸ hk))) (fun _ _=>Nat.zero_le _),below_set h.bel h0 _,h.ge,h.ne,fun k hk=>by rw [World.size_setCell]; exact h.sep k hk,h.ow⟩
theorem infoRowP:(Tryz.prog.info? 29).map (fun i=>(i.zero,i.size,i.bytes))=some (some (.slice none 0 0),1,24):=by kernel_rfl
theorem range_succ_map {α:Type} (f:Nat→α) (r:Nat):(List.range (r+1)).map f=(List.range r).map f++[f r]:=by rw [List.range_succ,List.map_append]; rfl
/-- a line behind the lines -/
theorem NM.addLine {n:Nat} {V:Nat→Nat→Int} {w0:World} {gb rb kb rc ro:Nat} {va vo:Value} {S:Foot} {w:World} (h:NM n V w0 gb rb kb rc ro va vo S w) {lb b:Nat} (hl:IB lb n (V rc) w) (h0:w0.heap.size≤lb) (h1:lb≠gb∧lb≠rb∧lb≠kb) (h2:¬ S lb) (h3:vo.ownBlock≠some lb) (hr:rc≤1048576) (hb:b=w.heap.size) (ty:Nat) :
  ∃ v' w2 S2,AppRun Tryz.prog 59 59 ty va (.slice (some ⟨b,0,none⟩) 1 1) v' (w.alloc (.cells #[.slice (some ⟨lb,0,none⟩) n n] 29 (0,0))) w2∧(∃ u,w2.cell? ⟨gb,1,none⟩=some u)∧w2.frozen? ⟨gb,1,none⟩=false∧NM n V w0 gb rb kb (rc+1) ro v' vo S2 (w2.setCell ⟨gb,1,none⟩ v'):=by
 subst hb; obtain ⟨i0,hi,hz0,hz1,hz2⟩:=info_partsP infoRowP; have hab:Below w.heap.size w (w.alloc (.cells #[.slice (some ⟨lb,0,none⟩) n n] 29 (0,0))):=(Below.refl _ _).alloc (Nat.le_refl _) _
 have hsz:(w.alloc (.cells #[.slice (some ⟨lb,0,none⟩) n n] 29 (0,0))).heap.size=w.heap.size+1:=by simp
 have hnew:=heap_alloc_new' w (.cells #[.slice (some ⟨lb,0,none⟩) n n] 29 (0,0)); have hA:=h.below hab; have hlA:=hl.below hab; have hlw:=hl.lt; generalize w.alloc (.cells #[.slice (some ⟨lb,0,none⟩) n n] 29 (0,0))=W at *
 -- the lines' row,where new blocks may come
 have hown:OwnR 29 1 RowI (fun k=>(S k∨k=lb)∨W.heap.size≤k) W ((List.range rc).map fun ρ=>(List.range n).map (V ρ)) va:=hA.cel.mono goodRowI fun k _ hs=>Or.inl (Or.inl hs)
 have hva:va.ownBlock≠some lb:=fun e=>by
  obtain ⟨xs,z1,z2,z3⟩:=h.cel; exact h2 (z2 lb e)
 obtain ⟨v',w2,hap,hown2,hfr⟩:=OwnR.append1 (t:=59) (ty:=ty) (x:=(List.range n).map (V rc)) goodRowI (by kernel_rfl) hi hz0 hz1 hz2 rfl (by decide) hown (row_of_block (cs:=[.slice (some ⟨lb,0,none⟩) n n]) hnew rfl) ⟨_,rfl,hlA.sl ⟨Or.inl (Or.inr rfl),hva⟩ (Nat.le_refl _)⟩ (by unfold maxLen; simp; omega) (by simp; omega) (fun k hk=>Or.inr hk)
 have hfix:∀ k,k < W.heap.size→¬ S k→k≠lb→w2.heap[k]? = W.heap[k]?:=fun k hk hs hl2=>hfr.block k hk (by rintro ((h9 | h9) | h9); exact hs h9; exact hl2 h9; omega)
 have hgbW:gb < W.heap.size:=lt_of_heap hA.blk
 have hSg:∀ k,k=gb∨k=rb∨k=kb→¬ S k:=fun k hk hs=>by have:=h.sep k hs; omega
 have hblk2:=(hfix gb hgbW (hSg gb (Or.inl rfl)) (fun e=>h1.1 e.symm)).trans hA.blk; refine ⟨v',w2,fun k=>((S k∨k=lb)∨W.heap.size≤k)∧k < w2.heap.size,hap,⟨_,(cell_of hblk2).trans rfl⟩,free_of hblk2,?_⟩
 have hcel:OwnR 29 1 RowI (fun k=>((S k∨k=lb)∨W.heap.size≤k)∧k < w2.heap.size) w2 ((List.range (rc+1)).map fun ρ=>(List.range n).map (V ρ)) v':=by
  rw [range_succ_map]; exact hown2.mono goodRowI fun k hk hs=>⟨hs,hk⟩
 have hgbT:¬ (((S gb∨gb=lb)∨W.heap.size≤gb)∧gb < w2.heap.size):=fun e=>by
  rcases e.1 with (h9 | h9) | h9
  ·exact hSg gb (Or.inl rfl) h9
  ·exact h1.1 h9.symm
  ·omega
 have hvo:∀ k,vo.ownBlock=some k→k < W.heap.size∧¬ S k∧k≠lb:=fun k hk=>⟨(hA.own.lt k hk).2,fun hs=>(h.sep k hs).2.2.2.2.2 hk,fun e=>h3 (e ▸ hk)⟩
 have hge:=h.ge; have hne:=h.ne; have hBw:=h.bel.size; refine ⟨?_,?_,?_,hcel.move goodRowI fun k hk hs=>⟨hs,heap_setCell_other _ (fun e=>hgbT (e ▸ hs))⟩,?_,?_,h.ge,h.ne,fun k hk=>?_,h.ow⟩
 ·have:=heap_setCell_same (i:=1) hblk2 v'
  exact this
 ·exact (hA.rows.keep (hfix rb hA.rows.lt (hSg rb (Or.inr (Or.inl rfl))) (fun e=>h1.2.1 e.symm))).keep (heap_setCell_other _ hne.2.1.symm)
 ·exact (hA.cols.keep (hfix kb hA.cols.lt (hSg kb (Or.inr (Or.inr rfl))) (fun e=>h1.2.2 e.symm))).keep (heap_setCell_other _ hne.2.2.symm)
 ·exact owns_move hA.own (fun k hk=>(heap_setCell_other _ (h.ow k hk).2.1).trans (hfix k (hvo k hk).1 (hvo k hk).2.1 (hvo k hk).2.2)) (fun _ _=>Nat.zero_le _)
 ·refine below_set (hA.bel.trans (hfr.to_below (by omega) (fun k hk e=>?_))) hge.1 _
  rcases e with (h9 | h9) | h9
  ·have:=(h.sep k h9).1; omega
  ·omega
  ·omega
 ·rw [World.size_setCell]
  obtain ⟨hk1,hk2⟩:=hk; have hrl:=hA.rows.lt; have hkl:=hA.cols.lt; rcases hk1 with (h9 | h9) | h9
  ·have:=h.sep k h9; exact ⟨this.1,hk2,this.2.2⟩
  ·subst h9; exact ⟨h0,hk2,h1.1,h1.2.1,h1.2.2,h3⟩
  ·exact ⟨by omega,hk2,by omega,by omega,by omega,fun e=>by have:=(hvo k e).1; omega⟩
set_option maxRecDepth 100000 in
/-- an owner behind the owners -/
theorem NM.addOwn {n:Nat} {V:Nat→Nat→Int} {w0:World} {gb rb kb rc ro:Nat} {va vo:Value} {S:Foot} {w:World} (h:NM n V w0 gb rb kb rc ro va vo S w) {b:Nat} (hr:ro≤1048576) (hb:b=w.heap.size) (ty:Nat) :
  ∃ v' w2,AppRun Tryz.prog 29 29 ty vo (.slice (some ⟨b,0,none⟩) 1 1) v' (w.alloc (.cells #[iv (-1)] 3 (0,0))) w2∧(∃ u,w2.cell? ⟨gb,4,none⟩=some u)∧w2.frozen? ⟨gb,4,none⟩=false∧NM n V w0 gb rb kb rc (ro+1) va v' S (w2.setCell ⟨gb,4,none⟩ v'):=by
 subst hb; obtain ⟨i0,hi,hz0,hz1,hz2⟩:=info_partsP infoIntP; have hab:Below w.heap.size w (w.alloc (.cells #[iv (-1)] 3 (0,0))):=(Below.refl _ _).alloc (Nat.le_refl _) _
 have hsz:(w.alloc (.cells #[iv (-1)] 3 (0,0))).heap.size=w.heap.size+1:=by simp
 have hA:=h.below hab
 obtain ⟨v',w2,hrun,hown',hgrow,-,hor⟩:=run_append_own_at (P:=Tryz.prog) (w.alloc (.cells #[iv (-1)] 3 (0,0))) 0 29 ty 3 i0 (iv 0) 1 8 (by kernel_rfl) hi hz0 hz1 hz2 rfl (by decide) vo ro _ hA.own ⟨w.heap.size,0,none⟩ 1 1 [iv (-1)] rfl (fun j u hu=>by
   rcases j with _ | j
   ·injection hu with hu; subst hu; exact cell_of (heap_alloc_new' w (.cells #[iv (-1)] 3 (0,0)))
   ·cases hu) (one1 rfl) (by unfold maxLen; omega) (by omega) (Nat.zero_le _)
 generalize w.alloc (.cells #[iv (-1)] 3 (0,0))=W at *; have hge:=h.ge; have hne:=h.ne; have hBw:=h.bel.size
 have hfix:∀ k,k < W.heap.size→vo.ownBlock≠some k→w2.heap[k]? = W.heap[k]?:=fun k hk hs=>hgrow.block k hk (fun e=>hs e.symm)
 have hvg:vo.ownBlock≠some gb:=fun e=>(h.ow gb e).2.1 rfl
 have hvr:vo.ownBlock≠some rb:=fun e=>(h.ow rb e).2.2.1 rfl
 have hvk:vo.ownBlock≠some kb:=fun e=>(h.ow kb e).2.2.2 rfl
 have hblk2:=(hfix gb (lt_of_heap hA.blk) hvg).trans hA.blk; have hrl:=hA.rows.lt; have hkl:=hA.cols.lt; have hgl:=lt_of_heap hA.blk
 have hv':∀ k,v'.ownBlock=some k→vo.ownBlock=some k∨k=W.heap.size:=fun k hk=>by
  rcases hor with e | e
  ·exact Or.inl (e ▸ hk)
  ·rw [hk] at e; injection e with e; exact Or.inr e
 have how:∀ k,v'.ownBlock=some k→w0.heap.size≤k∧k≠gb∧k≠rb∧k≠kb:=fun k hk=>by
  rcases hv' k hk with e | e
  ·exact h.ow k e
  ·subst e; exact ⟨by omega,by omega,by omega,by omega⟩
 refine ⟨v',w2,⟨hrun⟩,⟨_,(cell_of hblk2).trans rfl⟩,free_of hblk2,?_,?_,?_,?_,?_,?_,h.ge,h.ne,fun k hk=>?_,how⟩
 ·exact heap_setCell_same (i:=4) hblk2 v'
 ·exact (hA.rows.keep (hfix rb hrl hvr)).keep (heap_setCell_other _ hne.2.1.symm)
 ·exact (hA.cols.keep (hfix kb hkl hvk)).keep (heap_setCell_other _ hne.2.2.symm)
 ·exact hA.cel.move goodRowI fun k hk hs=>⟨hs,(heap_setCell_other _ (by have:=h.sep k hs; omega)).trans (hfix k hk (h.sep k hs).2.2.2.2.2)⟩
 ·have:List.replicate (ro+1) (iv (-1))=List.replicate ro (iv (-1))++[iv (-1)]:=List.replicate_succ'
  rw [this]; exact owns_move hown' (fun k hk=>heap_setCell_other _ (how k hk).2.1) (fun _ _=>Nat.zero_le _)
 ·exact below_set (((Fr.refl (fun k=>vo.ownBlock=some k) W).grown hgrow (fun k hk=>Or.inl hk)).to_below (by omega) (fun k hk e=>by have:=(h.ow k e).1; omega) |> hA.bel.trans) hge.1 _
 ·rw [World.size_setCell]
  have h5:=h.sep k hk; have h6:=(hA.sep k hk).2.1; refine ⟨h5.1,Nat.lt_of_lt_of_le h6 hgrow.size,h5.2.2.1,h5.2.2.2.1,h5.2.2.2.2.1,fun e=>?_⟩; rcases hv' k e with e2 | e2
  ·exact h5.2.2.2.2.2 e2
  ·omega
set_option maxHeartbeats 40000000 in
set_option maxRecDepth 100000 in
theorem newGrid_any (X:XB) (x:Stl) (w:World) (h:StM X x w) (hF:∀ k,X.F k→k < w.heap.size) :
  Calls Tryz.prog 16 #[pt X.xb] w fun e w'=>∃ G,e=.returned (pt G.gb)∧GM G ⟨x.undo.length+x.do.length,x.op.cell,fun _=>0,fun _=>0,fun _=>-1⟩ w'∧G.Low w'.heap.size∧(w.heap.size≤G.gb∧w.heap.size≤G.rb∧w.heap.size≤G.kb∧w.heap.size≤G.ob∧∀ k,G.C k→w.heap.size≤k)∧Below w.heap.size w w'∧G.rc=x.undo.length+x.do.length∧G.kc=x.undo.length+x.do.length:=by
 obtain ⟨f0,f1,f2,f3,f4,f5,f6⟩:=h.fields; have hul:=h.ul; have hkl:=h.kl; have hA:=hid (fun n=>below_drewM (Below.refl w.heap.size w) n); obtain ⟨m,hm⟩:∃ m,m=x.undo.length:=⟨_,rfl⟩
 obtain ⟨k,hk⟩:∃ k,k=x.do.length:=⟨_,rfl⟩
 rw [← hm] at f0 hul; rw [← hk] at f1 hkl; rw [← hm,← hk]; obtain ⟨n,hn⟩:∃ n,n=m+k:=⟨_,rfl⟩
 have w1:IntKind.i64.wrap ((m:Int)+(k:Int))=(n:Int):=by rw [IntKind.wrap_i64]; omega
 have m1:=fun W=>pmkInts n (by omega) W
 have hn64:n≤64:=by omega
 rw [← hn]; replace hn:=hid hn; replace h:=hid h; replace hm:=hid hm; replace hk:=hid hk; replace hF:=hid hF; clear f2 f3 f4 f5 f6
 go_enter Tryz.func16,Tryz.ntmps16
 go_upto_region 1 with (fail)
 go_cut [3,4] (fun v3 v4 wx=>v3=iv m∧v4=iv k∧Hid (Below w.heap.size w wx))
 case first =>
  go_quiet (fail)
  go_wp2_with fail
  go_meet
  case rel=>exact ⟨rfl,rfl,hid (hA.out _)⟩
 case rest =>
  obtain ⟨rfl,rfl,hB⟩:=hcut
  go_upto_region 2 with (fail)
  go_cut [5] (fun v5 wx=>∃ gb rb kb,v5=pt gb∧Hid (NM n x.op.cell w gb rb kb 0 0 (.slice none 0 0) (.slice none 0 0) (fun _=>False) wx))
  case first =>
   go_region
   all_goals go_wp2_with fail
   all_goals go_meet
   ·exact ⟨_,_,_,rfl,hid (nm_two n x.op.cell w wc hB.out _ _ (Or.inl ⟨rfl,rfl⟩))⟩
   ·exact ⟨_,_,_,rfl,hid (nm_two n x.op.cell w wc hB.out _ _ (Or.inr ⟨rfl,rfl⟩))⟩
  case rest =>
   obtain ⟨gb,rb,kb,rfl,hM⟩:=hcut; have c0:wc.cell? ⟨gb,0,none⟩=some (iv n):=(cell_of hM.out.blk).trans rfl; clear hB f0 f1 w1; have hcell:=hid (fun (r c:Nat) (W:World) (hW:Below w.heap.size w W) (hr:r < n) (hc:c < n)=>cell_any X x r c m k W (h.out.keep fun q hq hs=>hW.block q (hF.out q hs)) hm.out hk.out (by have:=hn.out; omega) (by have:=hn.out; omega))
   go_wp2_with fail
   go_loopg [36] n (fun f v36 wr=>∃ (r:Nat) (va vo:Value) (S:Foot),v36=iv r∧r+f=n∧Hid (NM n x.op.cell w gb rb kb r r va vo S wr))
   case atStart=>exact ⟨0,_,_,_,rfl,by omega,hM⟩
   case round =>
    obtain ⟨r,va,vo,S,rfl,hrf,hR⟩:=hrel; clear hM c0; by_cases hrn:r < n
    ·have q1:decide ((r:Int) < (n:Int))=true:=decide_eq_true (by omega)
     have q2:IntKind.i64.wrap ((r:Int)+1)=((r+1:Nat):Int):=by rw [IntKind.wrap_i64]; omega
     have c0:wr.cell? ⟨gb,0,none⟩=some (iv n):=(cell_of hR.out.blk).trans rfl; have hab:Below wr.heap.size wr (wr.alloc (.cells (Array.replicate n (iv 0)) 3 (0,0))):=(Below.refl _ _).alloc (Nat.le_refl _) _; have i1:=hid (ib_made wr n); have hR1:=hid (hR.out.below hab); obtain ⟨lb,hlb⟩:∃ b,b=wr.heap.size:=⟨_,rfl⟩
     have hl0:w.heap.size≤lb:=by rw [hlb]; exact hR.out.bel.size
     have hl1:lb≠gb∧lb≠rb∧lb≠kb:=by
      have h1:=lt_of_heap hR.out.blk; have h2:=hR.out.rows.lt; have h3:=hR.out.cols.lt; omega
     have hl2:¬ S lb:=fun e=>by have:=(hR.out.sep lb e).2.1; omega
     have hl3:vo.ownBlock≠some lb:=fun e=>by have:=(hR.out.own.lt lb e).2; omega
     have m1':=m1 wr; rw [← hlb] at m1' i1; replace hlb:=hid hlb; replace hl0:=hid hl0; replace hl1:=hid hl1; replace hl2:=hid hl2; replace hl3:=hid hl3; generalize wr.alloc (.cells (Array.replicate n (iv 0)) 3 (0,0))=W1 at hR1 i1 m1'; clear hab m1
     go_wp2_with fail
     go_loopg [46] n (fun f v46 wr2=>∃ (c:Nat) (fv:Nat→Int),v46=iv c∧c+f=n∧Hid (∀ i,i < c→fv i=x.op.cell r i)∧Hid (IB lb n fv wr2)∧Hid (NM n x.op.cell w gb rb kb r r va vo S wr2))
     case atStart=>exact ⟨0,_,rfl,by omega,hid (fun i hi=>by omega),i1,hR1⟩
     case round =>
      obtain ⟨c,fv,rfl,hcf,hfv,hI,hN⟩:=hrel; clear hR1 i1 m1' c0; by_cases hcn:c < n
      ·have q3:decide ((c:Int) < (n:Int))=true:=decide_eq_true (by omega)
       have q4:IntKind.i64.wrap ((c:Int)+1)=((c+1:Nat):Int):=by rw [IntKind.wrap_i64]; omega
       have k1:=fun kd W=>ib_idx (g:=lb) (n:=n) (cap:=n) hcn kd W
       have hc1:=hid (hcell.out r c _ hN.out.bel hrn hcn); have hv:=hfv.out
       go_wp2_with (go_at_call 46; refine hc1.out.mono ?_; rintro e w1 ⟨rfl,hbw⟩; have hI1:=hI.out.below hbw; have hN1:=hN.out.below hbw; have u1:=hI1.cell hcn; have u2:=hI1.free c; have hI2:=hid (hI1.set hcn (x.op.cell r c)); have hN2:=hid (hN1.setL (i:=c) hl0.out hl1.out hl2.out hl3.out (iv (x.op.cell r c))); replace hI1:=hid hI1; replace hN1:=hid hN1)
       go_roundg (n - (c+1))
       case measure=>omega
       case rel=>exact ⟨c+1,_,rfl,by omega,hid (fun i hi=>by
        by_cases e:i=c
        ·rw [e,Pl.upd_same]
        ·rw [Pl.upd_other _ _ e]; exact hfv.out i (by omega)),hI2,hN2⟩
      ·have q3:decide ((c:Int) < (n:Int))=false:=decide_eq_false (by omega)
       have hcn2:c=n:=by omega
       subst hcn2; have hI3:IB lb c (x.op.cell r) wr:=hI.out.congr hfv.out; obtain ⟨v1,w2,S2,hap,⟨u,hu⟩,hfz,hN2⟩:=hN.out.addLine hI3 hl0.out hl1.out hl2.out hl3.out (by omega) rfl 59; obtain ⟨la1,lc1,hv1,-⟩:=hN2.cel.slice; rw [List.length_map,List.length_range] at hv1; subst hv1; obtain ⟨v2,w4,hap2,⟨u2,hu2⟩,hfz2,hN3⟩:=hN2.addOwn (b:=w2.heap.size) (by omega) (World.size_setCell ..).symm 29; obtain ⟨la2,lc2,rfl,-⟩:=owns_form hN3.own; have c1:wr.cell? ⟨gb,1,none⟩=some va:=(cell_of hN.out.blk).trans rfl; have c4:(w2.setCell ⟨gb,1,none⟩ (.slice la1 (r+1) lc1)).cell? ⟨gb,4,none⟩=some vo:=(cell_of hN2.blk).trans rfl; replace hap:=hid hap; replace hap2:=hid hap2; replace hN2:=hid hN2; replace hN3:=hid hN3; replace hI3:=hid hI3
       go_wp2_with (first | (at_builtin; refine wpList_append_shut rfl (.tmp 63) (.tmp 65) rfl rfl rfl hap.out ?_) | (at_builtin; refine wpList_append_shut rfl (.tmp 73) (.tmp 74) rfl rfl rfl hap2.out ?_))
       go_roundg (c - (r+1))
       case measure=>omega
       case rel=>exact ⟨r+1,_,_,_,rfl,by omega,hN3⟩
    ·have q1:decide ((r:Int) < (n:Int))=false:=decide_eq_false (by omega)
     have hrn2:r=n:=by omega
     subst hrn2; have hR':=hR.out; have hsl:=hR'.cel.sl goodRowI; obtain ⟨ca,cc,hva,-⟩:=hsl.slice; rw [List.length_map,List.length_range] at hva; obtain ⟨oa,oc,hvo,hoc,-⟩:=owns_form hR'.own
     obtain ⟨ob,hob1,hob2,hob3,hob4,hob5⟩:∃ ob,(0 < r→oa=some ⟨ob,0,none⟩)∧IB ob r (fun _=>-1) wr∧(0 < r→rb≠ob∧kb≠ob)∧(gb≠ob∧w.heap.size≤ob∧ob < wr.heap.size)∧(∀ k,S k→k≠ob):=by
      have hge:=hR'.ge; have hne:=hR'.ne; rcases hR'.own.2 with ⟨e1,e2⟩ | ⟨g,cap,cur,e1,-,e2,e3,e4,e5,e6⟩
      ·obtain ⟨cur,hc1,-⟩:=hR'.rows
       have hrl:=hR'.rows.lt
       have hr0:r=0:=by first | exact e2 | omega
       exact ⟨rb,fun hh=>by omega,⟨cur,hc1,fun i hi=>by omega⟩,fun hh=>by omega,⟨hne.2.1,hge.2.1,hrl⟩,fun k hk=>(hR'.sep k hk).2.2.2.1⟩
      ·rw [e1] at hvo
       injection hvo with z1 z2 z3; have how:=hR'.ow g (by rw [e1]; rfl); refine ⟨g,fun _=>z1.symm,⟨cur,e2,fun i hi=>?_⟩,fun _=>⟨fun e=>how.2.2.1 e.symm,fun e=>how.2.2.2 e.symm⟩,⟨fun e=>how.2.1 e.symm,how.1,lt_of_heap e2⟩,fun k hk e=>(hR'.sep k hk).2.2.2.2.2 (by rw [e1,e]; rfl)⟩
       have h7:(cur.toList.take (r * 1))[i]? = some (iv (-1)):=by rw [e6]; rw [List.getElem?_replicate,if_pos hi]
       rw [List.getElem?_take_of_lt (by omega)] at h7; simpa using h7
     have hblk:wr.heap[gb]? = some (.cells #[iv r,.slice ca r cc,.slice (some ⟨rb,0,none⟩) r r,.slice (some ⟨kb,0,none⟩) r r,.slice oa r oc] 61 (0,0)):=by rw [← hva,← hvo]; exact hR'.blk
     have hge:=hR'.ge; have hne:=hR'.ne; have hrl:=hR'.rows.lt; have hkl':=hR'.cols.lt; have hgl:=lt_of_heap hR'.blk; have hcw:=hR'.bel; have hsep:=hR'.sep; have hG:=hid (show GM ⟨gb,ca,cc,S,rb,r,kb,r,ob,oa,oc⟩ ⟨r,x.op.cell,fun _=>0,fun _=>0,fun _=>-1⟩ wr from ⟨hblk,hva ▸ hsl,hR'.rows,hR'.cols,hob2,hne.1,fun hh=>(hob3 hh).1,fun hh=>(hob3 hh).2,⟨hne.2.1,hne.2.2,hob4.1⟩,hob1,fun k hk=>⟨(hsep k hk).2.2.1,(hsep k hk).2.2.2.1,(hsep k hk).2.2.2.2.1,hob5 k hk⟩⟩); have hL:=hid (show GB.Low ⟨gb,ca,cc,S,rb,r,kb,r,ob,oa,oc⟩ wr.heap.size from ⟨hgl,hrl,hkl',hob4.2.2,fun k hk=>(hsep k hk).2.1⟩)
     have hP:=hid (show w.heap.size≤gb∧w.heap.size≤rb∧w.heap.size≤kb∧w.heap.size≤ob∧∀ k,S k→w.heap.size≤k from ⟨hge.1,hge.2.1,hge.2.2,hob4.2.1,fun k hk=>(hsep k hk).1⟩); replace hcw:=hid hcw; clear hva hvo hoc hob1 hob2 hob3 hob4 hob5 hblk hge hne hrl hkl' hgl hsl hR' hsep
     go_wp2_with fail
     go_ret; exact ⟨⟨gb,ca,cc,S,rb,r,kb,r,ob,oa,oc⟩,rfl,hG.out,hL.out,hP.out,hcw.out,rfl,rfl⟩
end Go.Proofs.YtfejagpjahoibaaGreatDoor
