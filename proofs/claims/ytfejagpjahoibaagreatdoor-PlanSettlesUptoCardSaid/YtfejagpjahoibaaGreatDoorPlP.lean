/- plan, walks: place. -/
import Derived.Test.YtfejagpjahoibaaGreatDoorPlG
import Derived.Deep.CutBlock
import Derived.Deep.CutRange
import Derived.Deep.RegionHeld3
set_option linter.unusedVariables false
set_option linter.unusedSimpArgs false
namespace Go.Proofs.YtfejagpjahoibaaGreatDoor
open Go.RowKit
open Go.Lib (hid)
theorem infoBoolP:(Tryz.prog.info? 4).map (fun i=>(i.zero,i.size,i.bytes))=some (some (.bool false),1,1):=by kernel_rfl
theorem infoIntP:(Tryz.prog.info? 3).map (fun i=>(i.zero,i.size,i.bytes))=some (some (iv 0),1,8):=by kernel_rfl
theorem info_partsP {t:TypeId} {z:Value} {sz by_:Nat} (h:(Tryz.prog.info? t).map (fun i=>(i.zero,i.size,i.bytes))=some (some z,sz,by_)):∃ i,Tryz.prog.info? t=some i∧i.zero=some z∧i.size=sz∧i.bytes=by_:=by
 rw [Option.map_eq_some_iff] at h; obtain ⟨i,h1,h2⟩:=h; simp only [Prod.mk.injEq] at h2; exact ⟨i,h1,h2.1,h2.2.1,h2.2.2⟩
set_option maxRecDepth 100000 in
theorem pmkBools (n:Nat) (hn:n≤1048576) (W:World):(Instr.makeSlice 107 (.int .i64 (n:Int)) (.int .i64 (n:Int))).run Tryz.prog W=.ok (.slice (some ⟨W.heap.size,0,none⟩) n n) (W.alloc (.cells (Array.replicate n (.bool false)) 4 (0,0))):=by
 obtain ⟨i0,hi,hz0,hz1,hz2⟩:=info_partsP infoBoolP; have h:=run_make (P:=Tryz.prog) W 107 4 i0 _ (by kernel_rfl) hi hz0 .i64 .i64 (n:Int) (n:Int) (by omega) (Int.le_refl _) (by rw [hz2]; omega) (by omega); rw [h,Int.toNat_natCast,hz1,Nat.mul_one]
 congr 3
 apply Array.ext_getElem?; intro j; by_cases hj:j < n
 ·simp [madeCells,hj,Value.cells,Nat.mod_one]
 ·rw [Array.getElem?_eq_none (by simp [madeCells]; omega),Array.getElem?_eq_none (by simp; omega)]
set_option maxRecDepth 100000 in
theorem pmkInts (n:Nat) (hn:n≤1048576) (W:World):(Instr.makeSlice 29 (.int .i64 (n:Int)) (.int .i64 (n:Int))).run Tryz.prog W=.ok (.slice (some ⟨W.heap.size,0,none⟩) n n) (W.alloc (.cells (Array.replicate n (iv 0)) 3 (0,0))):=by
 obtain ⟨i0,hi,hz0,hz1,hz2⟩:=info_partsP infoIntP; have h:=run_make (P:=Tryz.prog) W 29 3 i0 _ (by kernel_rfl) hi hz0 .i64 .i64 (n:Int) (n:Int) (by omega) (Int.le_refl _) (by rw [hz2]; omega) (by omega); rw [h,Int.toNat_natCast,hz1,Nat.mul_one]
 congr 3
 apply Array.ext_getElem?; intro j; by_cases hj:j < n
 ·simp [madeCells,hj,Value.cells,Nat.mod_one]
 ·rw [Array.getElem?_eq_none (by simp [madeCells]; omega),Array.getElem?_eq_none (by simp; omega)]
theorem ib_made (W:World) (n:Nat):IB W.heap.size n (fun _=>0) (W.alloc (.cells (Array.replicate n (iv 0)) 3 (0,0))):=⟨_,heap_alloc_new' W _,fun i hi=>by rw [Array.getElem?_replicate,if_pos hi]⟩
theorem bb_made (W:World) (n:Nat):BB W.heap.size n (fun _=>false) (W.alloc (.cells (Array.replicate n (.bool false)) 4 (0,0))):=⟨_,heap_alloc_new' W _,fun i hi=>by rw [Array.getElem?_replicate,if_pos hi]⟩
/-- the search's memory: the grid as it was, three rows of the call's own -/
structure SM (G:GB) (g:Pl.Gr) (w0:World) (db fb eb:Nat) (dist pre:Nat→Int) (done:Nat→Bool) (w:World):Prop where
 di:IB db g.n dist w
 fr:IB fb g.n pre w
 dn:BB eb g.n done w
 bel:Below w0.heap.size w0 w
 ge:w0.heap.size≤db∧db < fb∧fb < eb
theorem SM.below {G:GB} {g:Pl.Gr} {w0:World} {db fb eb:Nat} {dist pre:Nat→Int} {done:Nat→Bool} {w w':World} (h:SM G g w0 db fb eb dist pre done w) (hb:Below w.heap.size w w'):SM G g w0 db fb eb dist pre done w' :=
 ⟨h.di.below hb,h.fr.below hb,h.dn.below hb,h.bel.trans (hb.mono h.bel.size),h.ge⟩
theorem below_set {w0 w:World} (h:Below w0.heap.size w0 w) {b i:Nat} (hb:w0.heap.size≤b) (v:Value):Below w0.heap.size w0 (w.setCell ⟨b,i,none⟩ v) :=
 h.trans (((Fr.refl (one b) w).setCell (p:=⟨b,i,none⟩) (Or.inl rfl) v).to_below h.size (fun k hk e=>by unfold one at e; omega))
theorem SM.setD {G:GB} {g:Pl.Gr} {w0:World} {db fb eb:Nat} {dist pre:Nat→Int} {done:Nat→Bool} {w:World} (h:SM G g w0 db fb eb dist pre done w) {i:Nat} (hi:i < g.n) (v:Int):SM G g w0 db fb eb (Pl.upd dist i v) pre done (w.setCell ⟨db,i,none⟩ (iv v)) :=
 have h1:=h.ge
 ⟨h.di.set hi v,h.fr.keep (heap_setCell_other _ (by omega)),h.dn.keep (heap_setCell_other _ (by omega)),below_set h.bel h1.1 _,h.ge⟩
theorem SM.setF {G:GB} {g:Pl.Gr} {w0:World} {db fb eb:Nat} {dist pre:Nat→Int} {done:Nat→Bool} {w:World} (h:SM G g w0 db fb eb dist pre done w) {i:Nat} (hi:i < g.n) (v:Int):SM G g w0 db fb eb dist (Pl.upd pre i v) done (w.setCell ⟨fb,i,none⟩ (iv v)) :=
 have h1:=h.ge
 ⟨h.di.keep (heap_setCell_other _ (by omega)),h.fr.set hi v,h.dn.keep (heap_setCell_other _ (by omega)),below_set h.bel (by omega) _,h.ge⟩
theorem SM.setE {G:GB} {g:Pl.Gr} {w0:World} {db fb eb:Nat} {dist pre:Nat→Int} {done:Nat→Bool} {w:World} (h:SM G g w0 db fb eb dist pre done w) {i:Nat} (hi:i < g.n) (v:Bool):SM G g w0 db fb eb dist pre (Pl.upd done i v) (w.setCell ⟨eb,i,none⟩ (.bool v)) :=
 have h1:=h.ge
 ⟨h.di.keep (heap_setCell_other _ (by omega)),h.fr.keep (heap_setCell_other _ (by omega)),h.dn.set hi v,below_set h.bel (by omega) _,h.ge⟩
theorem SM.congr {G:GB} {g:Pl.Gr} {w0:World} {db fb eb:Nat} {dist pre dist' pre':Nat→Int} {done done':Nat→Bool} {w:World} (h:SM G g w0 db fb eb dist pre done w) (h1:∀ i,i < g.n→dist i=dist' i) (h2:∀ i,i < g.n→pre i=pre' i) (h3:done=done'):SM G g w0 db fb eb dist' pre' done' w :=
 ⟨h.di.congr h1,h.fr.congr h2,h3 ▸ h.dn,h.bel,h.ge⟩
/-- the memory after the search: the grid as it is now, the call's own rows -/
structure QM (G:GB) (g:Pl.Gr) (w0:World) (db fb eb:Nat) (dist pre:Nat→Int) (done:Nat→Bool) (w:World):Prop where
 gm:GM G g w
 di:IB db g.n dist w
 fr:IB fb g.n pre w
 dn:BB eb g.n done w
 f:Fr (fun k=>k=G.rb∨k=G.kb∨k=G.ob) w0 w
 ge:w0.heap.size≤db∧w0.heap.size≤fb∧w0.heap.size≤eb
 lt:G.rb < w0.heap.size∧G.kb < w0.heap.size∧G.ob < w0.heap.size
theorem QM.drewN {G:GB} {g:Pl.Gr} {w0:World} {db fb eb:Nat} {dist pre:Nat→Int} {done:Nat→Bool} {w:World} (h:QM G g w0 db fb eb dist pre done w) (q:Nat):QM G g w0 db fb eb dist pre done (w.drewN q) :=
 have hb:=below_drewM (Below.refl w.heap.size w) q
 ⟨h.gm.below hb,h.di.below hb,h.fr.below hb,h.dn.below hb,h.f.drewN q,h.ge,h.lt⟩
theorem QM.setRow {G:GB} {g:Pl.Gr} {w0:World} {db fb eb:Nat} {dist pre:Nat→Int} {done:Nat→Bool} {w:World} (h:QM G g w0 db fb eb dist pre done w) {i:Nat} (hi:i < g.n) (v:Int):QM G { g with rows:=Pl.upd g.rows i v } w0 db fb eb dist pre done (w.setCell ⟨G.rb,i,none⟩ (iv v)) :=
 have a:=h.ge; have b:=h.lt
 ⟨h.gm.setRow hi v,h.di.keep (heap_setCell_other _ (by omega)),h.fr.keep (heap_setCell_other _ (by omega)),h.dn.keep (heap_setCell_other _ (by omega)),h.f.setCell (p:=⟨G.rb,i,none⟩) (Or.inl (Or.inl rfl)) _,a,b⟩
theorem QM.setCol {G:GB} {g:Pl.Gr} {w0:World} {db fb eb:Nat} {dist pre:Nat→Int} {done:Nat→Bool} {w:World} (h:QM G g w0 db fb eb dist pre done w) {i:Nat} (hi:i < g.n) (v:Int):QM G { g with cols:=Pl.upd g.cols i v } w0 db fb eb dist pre done (w.setCell ⟨G.kb,i,none⟩ (iv v)) :=
 have a:=h.ge; have b:=h.lt
 ⟨h.gm.setCol hi v,h.di.keep (heap_setCell_other _ (by omega)),h.fr.keep (heap_setCell_other _ (by omega)),h.dn.keep (heap_setCell_other _ (by omega)),h.f.setCell (p:=⟨G.kb,i,none⟩) (Or.inl (Or.inr (Or.inl rfl))) _,a,b⟩
theorem QM.setOwn {G:GB} {g:Pl.Gr} {w0:World} {db fb eb:Nat} {dist pre:Nat→Int} {done:Nat→Bool} {w:World} (h:QM G g w0 db fb eb dist pre done w) {i:Nat} (hi:i < g.n) (v:Int):QM G { g with own:=Pl.upd g.own i v } w0 db fb eb dist pre done (w.setCell ⟨G.ob,i,none⟩ (iv v)) :=
 have a:=h.ge; have b:=h.lt
 ⟨h.gm.setOwn hi v,h.di.keep (heap_setCell_other _ (by omega)),h.fr.keep (heap_setCell_other _ (by omega)),h.dn.keep (heap_setCell_other _ (by omega)),h.f.setCell (p:=⟨G.ob,i,none⟩) (Or.inl (Or.inr (Or.inr rfl))) _,a,b⟩
theorem SM.qm {G:GB} {g:Pl.Gr} {w0:World} {db fb eb:Nat} {dist pre:Nat→Int} {done:Nat→Bool} {w:World} (h:SM G g w0 db fb eb dist pre done w) (hg:GM G g w0):QM G g w0 db fb eb dist pre done w :=
 have a:=h.ge
 ⟨hg.below h.bel,h.di,h.fr,h.dn,Fr.of_below h.bel _,⟨by omega,by omega,by omega⟩,hg.rows.lt,hg.cols.lt,hg.own.lt⟩
theorem wrapJ {z:Int} (h1:-9223372036854775808≤z) (h2:z≤9223372036854775807):wrap64 z=z:=by unfold wrap64; omega
theorem SM.step2 {G:GB} {g:Pl.Gr} {w0:World} {db fb eb:Nat} {dist pre:Nat→Int} {done:Nat→Bool} {w:World} (h:SM G g w0 db fb eb dist pre done w) {i:Nat} (hi:i < g.n) (v u:Int) (q:Nat) :
  ((w.drewN q).setCell ⟨db,i,none⟩ (iv v)).frozen? ⟨fb,i,none⟩=false∧SM G g w0 db fb eb (Pl.upd dist i v) (Pl.upd pre i u) done (((w.drewN q).setCell ⟨db,i,none⟩ (iv v)).setCell ⟨fb,i,none⟩ (iv u)):=by
 have h1:=(h.below (below_drewM (Below.refl _ _) q)).setD hi v; exact ⟨h1.fr.free i,h1.setF hi u⟩
set_option maxHeartbeats 40000000 in
set_option maxRecDepth 100000 in
theorem place_any (G:GB) (g:Pl.Gr) (r:Nat) (B:Int) (w:World) (h:GM G g w) (hg:Pl.GI g r) (hr:r < g.n) (hn:g.n≤64) (hV:∀ ρ c,ρ < g.n→c < g.n→-1≤g.V ρ c∧g.V ρ c≤1099511627776) (σ:Nat→Nat) (hσ:Pl.Perf g σ) (hB:Pl.PB g B) (hB0:0≤B) (hBM:B+g.n * 1099511627776≤1125899906842624) :
  Calls Tryz.prog 17 #[pt G.gb,iv r] w fun e w'=>e=.returned (.tuple #[])∧GM G (Pl.placeF g r) w'∧Fr (fun k=>k=G.rb∨k=G.kb∨k=G.ob) w w':=by
 have hn0:0 < g.n:=by omega
 obtain ⟨f0,f1,f2,f3,f4⟩:=h.fields hn0; obtain ⟨dist,pre,D,b,hs,hfs⟩:=Pl.search_spec g r 1099511627776 hg hr (by decide) (fun ρ c h1 h2=>(hV ρ c h1 h2).2) σ hσ.val hσ.inj (g.n+1) _ _ _ _ _ _ (Pl.start_si g r 1099511627776) (by simp); have h1b:Below w.heap.size w (w.alloc (.cells (Array.replicate g.n (iv 0)) 3 (0,0))):=(Below.refl _ w).alloc (Nat.le_refl _) _
 have s1:(w.alloc (.cells (Array.replicate g.n (iv 0)) 3 (0,0))).heap.size=w.heap.size+1:=by simp
 obtain ⟨W1,hW1⟩:∃ W,W=w.alloc (.cells (Array.replicate g.n (iv 0)) 3 (0,0)):=⟨_,rfl⟩; have i1:=ib_made w g.n; rw [← hW1] at h1b s1 i1; have h2b:Below W1.heap.size W1 (W1.alloc (.cells (Array.replicate g.n (iv 0)) 3 (0,0))):=(Below.refl _ W1).alloc (Nat.le_refl _) _
 have s2:(W1.alloc (.cells (Array.replicate g.n (iv 0)) 3 (0,0))).heap.size=W1.heap.size+1:=by simp
 have i2:=ib_made W1 g.n; obtain ⟨W2,hW2⟩:∃ W,W=W1.alloc (.cells (Array.replicate g.n (iv 0)) 3 (0,0)):=⟨_,rfl⟩; rw [← hW2] at h2b s2 i2; have h3b:Below W2.heap.size W2 (W2.alloc (.cells (Array.replicate g.n (.bool false)) 4 (0,0))):=(Below.refl _ W2).alloc (Nat.le_refl _) _; have i3:=bb_made W2 g.n; obtain ⟨W3,hW3⟩:∃ W,W=W2.alloc (.cells (Array.replicate g.n (.bool false)) 4 (0,0)):=⟨_,rfl⟩; rw [← hW3] at h3b i3; obtain ⟨a0,a1,a2,a3,a4⟩:=(h.below h1b).fields hn0; obtain ⟨b0,b1,b2,b3,b4⟩:=((h.below h1b).below h2b).fields hn0; have hS0:SM G g w w.heap.size W1.heap.size W2.heap.size (fun _=>0) (fun _=>0) (fun _=>false) W3:=⟨(i1.below h2b).below h3b,i2.below h3b,i3,(h1b.trans (h2b.mono h1b.size)).trans (h3b.mono (by omega)),Nat.le_refl _,by omega,by omega⟩
 obtain ⟨db,hdb⟩:∃ x,x=w.heap.size:=⟨_,rfl⟩; obtain ⟨fb,hfb⟩:∃ x,x=W1.heap.size:=⟨_,rfl⟩; obtain ⟨eb,heb⟩:∃ x,x=W2.heap.size:=⟨_,rfl⟩; rw [← hfb,← heb] at hS0; replace hS0:=hid (show SM G g w db fb eb (fun _=>0) (fun _=>0) (fun _=>false) W3 from by rw [hdb]; exact hS0); have m1:=pmkInts g.n (by omega) w; have m2:=pmkInts g.n (by omega) W1; have m3:=pmkBools g.n (by omega) W2; rw [← hW1,← hdb] at m1; rw [← hW2,← hfb] at m2; rw [← hW3,← heb] at m3; replace hW1:=hid hW1; replace hW2:=hid hW2; replace hW3:=hid hW3; replace hdb:=hid hdb; replace hfb:=hid hfb; replace heb:=hid heb; replace h:=hid h; replace hg:=hid hg; replace hs:=hid hs; replace hfs:=hid hfs; replace hσ:=hid hσ; replace hB:=hid hB; replace hV:=hid hV; clear h1b h2b h3b i1 i2 i3 s1 s2
 go_enter Tryz.func17,Tryz.ntmps17
 go_wp2_with fail
 go_step3
 go_wp2_with fail
 go_loopg [34] g.n (fun f v34 wr=>∃ (j:Nat) (d p:Nat→Int),v34=iv j∧j+f=g.n∧Hid (∀ i,i < j→d i = -1∧p i = -1)∧Hid (SM G g w db fb eb d p (fun _=>false) wr))
 case atStart=>exact ⟨0,_,_,rfl,by omega,hid fun i hi=>by omega,hS0⟩
 case round =>
  obtain ⟨j,d,p,rfl,hjf,hm,hS⟩:=hrel; clear hS0; by_cases hj:j < g.n
  ·have q1:decide ((j:Int) < (g.n:Int))=true:=decide_eq_true (by omega)
   have q3:IntKind.i64.wrap ((j:Int)+1)=((j+1:Nat):Int):=by rw [IntKind.wrap_i64]; omega
   have c1:=hS.out.di.cell hj; have c2:=hS.out.di.free j; have hS1:=hS.out.setD hj (-1); have c3:=hS1.fr.cell hj; have c4:=hS1.fr.free j; have hS2:=hid (hS1.setF hj (-1))
   have k1:=fun kd W=>ib_idx (g:=db) (n:=g.n) (cap:=g.n) hj kd W
   have k2:=fun kd W=>ib_idx (g:=fb) (n:=g.n) (cap:=g.n) hj kd W
   clear hS1
   go_wp2_with fail
   go_roundg (g.n - (j+1))
   case measure=>omega
   case rel=>exact ⟨j+1,_,_,rfl,by omega,hid fun i hi=>by
    by_cases e:i=j
    ·rw [e,Pl.upd_same,Pl.upd_same]; exact ⟨rfl,rfl⟩
    ·rw [Pl.upd_other _ _ e,Pl.upd_other _ _ e]; exact hm.out i (by omega),hS2⟩
  ·have q1:decide ((j:Int) < (g.n:Int))=false:=decide_eq_false (by omega)
   have hjn:j=g.n:=by omega
   subst hjn; have hSa:=hid (hS.out.congr (dist':=fun _=>-1) (pre':=fun _=>-1) (done':=fun c=>decide (c∈([]:List Nat))) (fun i hi=>(hm.out i hi).1) (fun i hi=>(hm.out i hi).2) (by funext c; simp)); have hSI0:=hid (Pl.start_si g r 1099511627776); clear hS hm hjf q1
   go_wp2_with fail
   go_step3
   go_upto_block 2 with (fail)
   go_cut [9,10] (fun v9 v10 wx=>v9=iv b∧v10=iv (dist b)∧Hid (SM G g w db fb eb dist pre (fun c=>decide (c∈D)) wx))
   case first =>
    go_wp2_with fail
    go_loopg [8,9,10] (g.n+1) (fun f v8 v9 v10 wr2=>∃ (d2 p2:Nat→Int) (D2:List Nat) (row:Nat) (last len:Int),v8=iv row∧v9=iv last∧v10=iv len∧Hid (Pl.search g f d2 p2 D2 row last len=some (dist,pre,D,b))∧Hid (Pl.SI g r 1099511627776 d2 p2 D2 row last len)∧Hid (SM G g w db fb eb d2 p2 (fun c=>decide (c∈D2)) wr2))
    case atStart=>exact ⟨_,_,_,_,_,_,rfl,rfl,rfl,hs,hSI0,hSa⟩
    case round =>
     obtain ⟨d2,p2,D2,row,last,len,rfl,rfl,rfl,hse,hSI,hS⟩:=hrel; clear hSa hSI0
     obtain ⟨k,rfl⟩:∃ k,gk=k+1:=by
      cases gk with
      | zero=>have:=hse.out; rw [Pl.search] at this; cases this
      | succ k=>exact ⟨k,rfl⟩
     have hrow:row < g.n:=(Pl.Tree.cur hSI.out).lt hg.out hr hSI.out.lt; have hl0:=hSI.out.len0
     have hlD:(D2.length:Int)≤64:=by
      have:=List.Nodup.length_le_of_subset hSI.out.nod (l₂:=List.range g.n) fun c hc=>List.mem_range.2 (hSI.out.lt c hc).1
      rw [List.length_range] at this; omega
     have hdm:∀ c,c < g.n→0≤d2 c→d2 c≤2251799813685248:=fun c hc h0=>by
      have h1:=hSI.out.bnd c hc h0; have h2:=hB.out.cols c hc; have h3:=hB.out.rows r; omega
     have hl1:len≤2251799813685248:=by
      rcases hSI.out.cur with ⟨_,_,_,h3⟩ | ⟨d,D',hD,_,_,h3⟩
      ·omega
      ·have hd:d∈D2:=by rw [hD]; simp
       have:=hdm d (hSI.out.lt d hd).1 (hSI.out.le d hd).1; omega
     obtain ⟨bb,n1,n2,n3,n4,n5,n6⟩:=Pl.si_step g r 1099511627776 hg.out hr (by decide) (fun ρ c h1 h2=>(hV.out ρ c h1 h2).2) σ hσ.out.val hσ.out.inj hSI.out; have hsp:=hid (Pl.scan_spec g row last len D2 d2 p2); replace n1:=hid n1; replace n2:=hid n2; replace n3:=hid n3; replace n4:=hid n4; replace n5:=hid n5; replace n6:=hid n6; replace hdm:=hid hdm; replace hlD:=hid hlD; have hG:=hS.out.bel; obtain ⟨y0,y1,y2,y3,y4⟩:=(h.out.below hG).fields hn0; clear y1 y2 y3 y4 hG
     go_wp2_with fail
     go_loopg [11,49] g.n (fun f v11 v49 wr3=>∃ (j:Nat) (bs:Int),v11=iv bs∧v49=iv j∧j+f=g.n∧Hid (bs=(Pl.scan g row last len D2 ⟨d2,p2,-1⟩ j).best)∧Hid (SM G g w db fb eb (Pl.scan g row last len D2 ⟨d2,p2,-1⟩ j).dist (Pl.scan g row last len D2 ⟨d2,p2,-1⟩ j).pre (fun c=>decide (c∈D2)) wr3))
     case atStart=>exact ⟨0,-1,rfl,rfl,by omega,hid rfl,hS⟩
     case round =>
      obtain ⟨j,bs,rfl,rfl,hjf,hbs,hT⟩:=hrel; clear hS; obtain ⟨s,hsd⟩:∃ s,s=Pl.scan g row last len D2 ⟨d2,p2,-1⟩ j:=⟨_,rfl⟩; rw [← hsd] at hbs hT; by_cases hj:j < g.n
      ·have q1:decide ((j:Int) < (g.n:Int))=true:=decide_eq_true (by omega)
       have q3:IntKind.i64.wrap ((j:Int)+1)=((j+1:Nat):Int):=by rw [IntKind.wrap_i64]; omega
       have hstep:Pl.scan g row last len D2 ⟨d2,p2,-1⟩ (j+1)=Pl.look g row last len D2 j s:=by rw [hsd]; rfl
       have hb3:bs = -1∨∃ b3:Nat,bs=b3∧b3 < j:=by
        rcases (hsp.out j).2.2 with ⟨e,_⟩ | ⟨b3,e,h3,_⟩
        ·exact Or.inl (by rw [hbs.out,hsd]; exact e)
        ·exact Or.inr ⟨b3,by rw [hbs.out,hsd]; exact e,h3⟩
       have hds:∀ c,c < g.n→0≤s.dist c→c∈D2∨j≤c→s.dist c=d2 c:=fun c hc _ h3=>by
        rw [hsd,(hsp.out j).1 c,if_neg (fun h4=>by rcases h3 with h5 | h5; exact h4.2 h5; omega)]
       have hdj:s.dist j=d2 j:=by rw [hsd,(hsp.out j).1 j,if_neg (by omega)]
       have k1:=fun kd W=>bb_idx (g:=eb) (n:=g.n) (cap:=g.n) hj kd W
       have c1:=hT.out.dn.cell hj; replace hsd:=hid hsd; obtain ⟨dn,hdn⟩:∃ x,x=decide (j∈D2):=⟨_,rfl⟩; rw [← hdn] at c1
       cases dn with
       | true =>
        have hin:j∈D2:=of_decide_eq_true hdn.symm
        have hlk:Pl.look g row last len D2 j s=s:=by unfold Pl.look; rw [if_pos hin]
        rw [hlk] at hstep; have hT2:=hid (show SM G g w db fb eb (Pl.scan g row last len D2 ⟨d2,p2,-1⟩ (j+1)).dist (Pl.scan g row last len D2 ⟨d2,p2,-1⟩ (j+1)).pre (fun c=>decide (c∈D2)) _ from by rw [hstep]; exact hT.out); have hbs2:=hid (show bs=(Pl.scan g row last len D2 ⟨d2,p2,-1⟩ (j+1)).best from by rw [hstep]; exact hbs.out); replace hstep:=hid hstep; replace hlk:=hid hlk; replace hdn:=hid hdn; replace hin:=hid hin; replace hdj:=hid hdj; replace hds:=hid hds
        go_wp2_with fail
        go_roundg (g.n - (j+1))
        case measure=>omega
        case rel=>exact ⟨j+1,bs,rfl,rfl,by omega,hbs2,hT2⟩
       | false =>
        have hout:j ∉ D2:=of_decide_eq_false hdn.symm
        have hlk:Pl.look g row last len D2 j s=⟨if Pl.better g row len s.dist j then Pl.upd s.dist j (Pl.red g row len j) else s.dist,if Pl.better g row len s.dist j then Pl.upd s.pre j last else s.pre,if 0≤(if Pl.better g row len s.dist j then Pl.upd s.dist j (Pl.red g row len j) else s.dist) j∧(s.best < 0∨(if Pl.better g row len s.dist j then Pl.upd s.dist j (Pl.red g row len j) else s.dist) j < (if Pl.better g row len s.dist j then Pl.upd s.dist j (Pl.red g row len j) else s.dist) s.best.toNat) then (j:Int) else s.best⟩:=by unfold Pl.look; rw [if_neg hout]
        rw [hlk] at hstep
        obtain ⟨d3,hd3⟩:∃ x,x=if Pl.better g row len s.dist j then Pl.upd s.dist j (Pl.red g row len j) else s.dist:=⟨_,rfl⟩
        obtain ⟨p3,hp3⟩:∃ x,x=if Pl.better g row len s.dist j then Pl.upd s.pre j last else s.pre:=⟨_,rfl⟩
        rw [← hd3,← hp3,← hbs.out] at hstep; have hG:=h.out.below hT.out.bel; obtain ⟨y0,y1,y2,y3,-⟩:=hG.fields hn0; obtain ⟨g1,o1,a,cp,g2,o2,i1,e1,i2,e2⟩:=hG.val hrow hj; have x1:=hG.rows.cell hrow; have x2:=hG.cols.cell hj
        have j1:=fun kd W=>ib_idx (g:=G.rb) (n:=g.n) (cap:=G.rc) hrow kd W
        have j2:=fun kd W=>ib_idx (g:=G.kb) (n:=g.n) (cap:=G.kc) hj kd W
        have k2:=fun kd W=>ib_idx (g:=db) (n:=g.n) (cap:=g.n) hj kd W
        have k3:=fun kd W=>ib_idx (g:=fb) (n:=g.n) (cap:=g.n) hj kd W
        have c2:=hT.out.di.cell hj; have c3:=hT.out.di.free j; have bd1:=hV.out row j hrow hj; have bd2:=hB.out.rows row; have bd3:=hB.out.cols j hj
        have bd4:0≤s.dist j→s.dist j≤2251799813685248:=fun h0=>by rw [hdj] at h0 ⊢; exact hdm.out j hj h0
        have hrd:Pl.red g row len j=len+g.V row j - g.rows row - g.cols j:=rfl; have hbt:Pl.better g row len s.dist j=(decide (0≤g.V row j) && (decide (s.dist j < 0) || decide (len+g.V row j - g.rows row - g.cols j < s.dist j))):=rfl; obtain ⟨v,hve⟩:∃ v,v=g.V row j:=⟨_,rfl⟩; obtain ⟨ro,hro⟩:∃ v,v=g.rows row:=⟨_,rfl⟩; obtain ⟨co,hco⟩:∃ v,v=g.cols j:=⟨_,rfl⟩; obtain ⟨x,hx⟩:∃ v,v=s.dist j:=⟨_,rfl⟩; rw [← hve,← hro,← hco,← hx] at hbt; rw [← hve,← hro,← hco] at hrd; rw [← hve] at e2 bd1; rw [← hro] at x1 bd2; rw [← hco] at x2 bd3; rw [← hx] at c2 bd4; have w1:IntKind.i64.wrap (len+v)=len+v:=wrapI (by omega) (by omega); have w2:IntKind.i64.wrap (len+v - ro)=len+v - ro:=wrapI (by omega) (by omega)
        have w3:IntKind.i64.wrap (len+v - ro - co)=len+v - ro - co:=wrapI (by omega) (by omega); obtain ⟨dd,hdd⟩:∃ z,z=len+v - ro - co:=⟨_,rfl⟩; rw [← hdd] at hrd hbt; rw [hrd,hbt] at hd3; rw [hbt] at hp3; have hT2:=hid (fun q=>(hT.out.step2 hj dd last q).2)
        have w4:wrap64 (len+v - ro - co)=dd:=by rw [hdd]; exact wrapJ (by omega) (by omega)
        have hstep':=hid hstep; replace hrd:=hid hrd; replace hbt:=hid hbt; replace hd3:=hid hd3; replace hp3:=hid hp3; replace hve:=hid hve; replace hro:=hid hro; replace hco:=hid hco; replace hx:=hid hx; replace hdd:=hid hdd; replace hlk:=hid hlk; replace hdn:=hid hdn; replace hout:=hid hout; replace hdj:=hid hdj; replace hds:=hid hds; replace hb3:=hid hb3; clear hstep hG bd1 bd2 bd3 w3
        go_upto_if 67 with (fail)
        go_cut [14,49] from 49 to 129 (fun v14 v49 wx=>v49=iv j∧Hid (SM G g w db fb eb d3 p3 (fun c=>decide (c∈D2)) wx))
        case first =>
         by_cases h0:0≤v
         ·have r0:decide (v < 0)=false:=decide_eq_false (by omega)
          have r1:decide (0≤v)=true:=decide_eq_true h0; by_cases h1:x < 0
          ·have r2:decide (x < 0)=true:=decide_eq_true h1
           have hT3:=hid (fun q=>(show SM G g w db fb eb d3 p3 (fun c=>decide (c∈D2)) _ from by
            rw [hd3.out,hp3.out,r1,r2]; exact hT2.out q))
           clear bd4
           go_wp2_with fail
           go_quiet (fail)
           obtain ⟨Wq,hWq⟩:∃ W,W=wr.drewN nq:=⟨_,rfl⟩; have hTq:=hT.out.below (below_drewM (Below.refl _ _) nq); have hT4:=hT3.out nq; rw [← hWq] at hTq hT4 ⊢; have u0:=hTq.di.cell hj; rw [← hx.out] at u0; have u1:=hTq.di.free j; have u2:=(hTq.setD hj dd).fr.free j; have u3:=(hTq.setD hj dd).fr.cell hj; replace hTq:=hid hTq; replace hT4:=hid hT4; replace hWq:=hid hWq; rw [w4]
           go_wp2_with fail
           go_meet
           case rel=>exact ⟨rfl,hT4⟩
          ·have r2:decide (x < 0)=false:=decide_eq_false h1
           by_cases h2:dd < x
           ·have r3:decide (dd < x)=true:=decide_eq_true h2
            have hT3:=hid (fun q=>(show SM G g w db fb eb d3 p3 (fun c=>decide (c∈D2)) _ from by
             rw [hd3.out,hp3.out,r1,r2,r3]; exact hT2.out q))
            clear bd4
            go_wp2_with fail
            go_quiet (fail)
            obtain ⟨Wq,hWq⟩:∃ W,W=wr.drewN nq:=⟨_,rfl⟩; have hTq:=hT.out.below (below_drewM (Below.refl _ _) nq); have hT4:=hT3.out nq; rw [← hWq] at hTq hT4 ⊢; have u0:=hTq.di.cell hj; rw [← hx.out] at u0; have u1:=hTq.di.free j; have u2:=(hTq.setD hj dd).fr.free j; have u3:=(hTq.setD hj dd).fr.cell hj; replace hTq:=hid hTq; replace hT4:=hid hT4; replace hWq:=hid hWq; rw [w4]
            go_wp2_with fail
            go_meet
            case rel=>exact ⟨rfl,hT4⟩
           ·have r3:decide (dd < x)=false:=decide_eq_false h2
            have hT3:=hid (fun q=>(show SM G g w db fb eb d3 p3 (fun c=>decide (c∈D2)) _ from by
             rw [hd3.out,hp3.out,r1,r2,r3]; exact hT.out.below (below_drewM (Below.refl _ _) q)))
            clear bd4
            go_wp2_with fail
            go_quiet (fail)
            go_wp2_with fail
            go_meet
            case rel=>exact ⟨rfl,hid (hT3.out _)⟩
         ·have r0:decide (v < 0)=true:=decide_eq_true (by omega)
          have r1:decide (0≤v)=false:=decide_eq_false h0
          have hT3:=hid (show SM G g w db fb eb d3 p3 (fun c=>decide (c∈D2)) _ from by
             rw [hd3.out,hp3.out,r1]; exact hT.out)
          clear bd4
          go_wp2_with fail
          go_meet
          case rel=>exact ⟨rfl,hT3⟩
        case rest =>
         obtain ⟨rfl,hT4⟩:=hcut; clear c1 c2 c3 x1 x2 y0 y1 y2 y3 i1 e1 i2 e2 w1 w2 w4 bd4 hT2 hT; obtain ⟨z,hz⟩:∃ z,z=d3 j:=⟨_,rfl⟩; have c2:=hT4.out.di.cell hj; rw [← hz] at c2; have hT5:=hid (fun q=>hT4.out.below (below_drewM (Below.refl _ wc) q)); have hstep:=hstep'.out; rw [← hz] at hstep; by_cases h0:z < 0
         ·have r0:decide (z < 0)=true:=decide_eq_true h0
          have r1:decide (0≤z)=false:=decide_eq_false (by omega); rw [if_neg (fun h=>by have:=h.1; omega)] at hstep; replace hstep:=hid hstep; replace hz:=hid hz
          go_wp2_with fail
          go_quiet (fail)
          go_wp2_with fail
          go_roundg (g.n - (j+1))
          case measure=>omega
          case rel=>exact ⟨j+1,bs,rfl,rfl,by omega,hid (by rw [hstep.out]),hid (by rw [hstep.out]; exact hT5.out _)⟩
         ·have r0:decide (z < 0)=false:=decide_eq_false h0
          have r1:decide (0≤z)=true:=decide_eq_true (by omega); rcases hb3.out with hbm | ⟨b3,hbm,hb3j⟩
          ·rw [if_pos ⟨by omega,Or.inl (by omega)⟩] at hstep
           replace hstep:=hid hstep; replace hz:=hid hz; subst hbm
           go_wp2_with fail
           go_quiet (fail)
           go_wp2_with fail
           go_roundg (g.n - (j+1))
           case measure=>omega
           case rel=>exact ⟨j+1,j,rfl,rfl,by omega,hid (by rw [hstep.out]),hid (by rw [hstep.out]; exact hT5.out _)⟩
          ·subst hbm
           have k4:=fun kd W=>ib_idx (g:=db) (n:=g.n) (cap:=g.n) (show b3 < g.n from by omega) kd W
           obtain ⟨y,hy⟩:∃ z,z=d3 b3:=⟨_,rfl⟩; have c3:=hT4.out.di.cell (show b3 < g.n from by omega); rw [← hy] at c3; rw [show ((b3:Nat):Int).toNat=b3 from rfl,← hy] at hstep; have r2:decide ((b3:Int) < 0)=false:=decide_eq_false (by omega); by_cases h2:z < y
           ·have r3:decide (z < y)=true:=decide_eq_true h2
            rw [if_pos ⟨by omega,Or.inr h2⟩] at hstep; replace hstep:=hid hstep; replace hz:=hid hz; replace hy:=hid hy
            go_wp2_with fail
            go_quiet (fail)
            go_wp2_with fail
            go_roundg (g.n - (j+1))
            case measure=>omega
            case rel=>exact ⟨j+1,j,rfl,rfl,by omega,hid (by rw [hstep.out]),hid (by rw [hstep.out]; exact hT5.out _)⟩
           ·have r3:decide (z < y)=false:=decide_eq_false h2
            rw [if_neg (fun h=>by rcases h.2 with h4 | h4 <;> omega)] at hstep; replace hstep:=hid hstep; replace hz:=hid hz; replace hy:=hid hy
            go_wp2_with fail
            go_quiet (fail)
            go_wp2_with fail
            go_roundg (g.n - (j+1))
            case measure=>omega
            case rel=>exact ⟨j+1,b3,rfl,rfl,by omega,hid (by rw [hstep.out]),hid (by rw [hstep.out]; exact hT5.out _)⟩
      ·have q1:decide ((j:Int) < (g.n:Int))=false:=decide_eq_false (by omega)
       have hjn:j=g.n:=by omega
       subst hjn; have n1':=n1.out; have n4':=n4.out; rw [← hsd] at n1' n4'; have hbb:bs=(bb:Int):=hbs.out.trans n1'; subst hbb; have r1:decide ((bb:Int) < 0)=false:=decide_eq_false (by omega); have hbn:bb < g.n:=n2.out
       have k2:=fun kd W=>ib_idx (g:=db) (n:=g.n) (cap:=g.n) hbn kd W
       have k3:=fun kd W=>ib_idx (g:=G.ob) (n:=g.n) (cap:=G.oc) hbn kd W
       have k5:=fun kd W=>bb_idx (g:=eb) (n:=g.n) (cap:=g.n) hbn kd W
       obtain ⟨lb,hlb⟩:∃ z,z=s.dist bb:=⟨_,rfl⟩; have hse':=hse.out
       have hbt:(Pl.scan g row last len D2 ⟨d2,p2,-1⟩ g.n).best.toNat=bb:=by rw [← hsd,n1']; rfl
       rw [Pl.search] at hse'; rw [hbt,← hsd,if_neg (by rw [n1']; omega),n1'] at hse'; have hG:=h.out.below hT.out.bel; obtain ⟨y0,y1,y2,y3,y4⟩:=hG.fields hn0; have x1:=hG.own.cell hbn; have c1:=hT.out.di.cell hbn; have c2:=hT.out.dn.cell hbn; have c3:=hT.out.dn.free bb; have hTq:=hid (fun q=>hT.out.below (below_drewM (Below.refl _ _) q)); have n5':=n5.out; have n6':=n6.out; rw [← hsd] at n5' n6'; rw [← hlb] at c1; by_cases ho:g.own bb < 0
       ·rw [if_pos ho] at hse'
        injection hse' with hse'; simp only [Prod.mk.injEq] at hse'; obtain ⟨z1,z2,z3,z4⟩:=hse'
        have z5:iv lb=iv (dist b):=by rw [hlb,z1,z4]
        have z6:iv (bb:Int)=iv (b:Int):=by rw [z4]
        have hTz:=hid (fun q=>(show SM G g w db fb eb dist pre (fun c=>decide (c∈D)) _ from by rw [← z1,← z2,← z3]; exact hTq.out q)); replace z5:=hid z5; replace z6:=hid z6; have r2:decide (g.own bb < 0)=true:=decide_eq_true ho; obtain ⟨ow,how⟩:∃ z,z=g.own bb:=⟨_,rfl⟩; rw [← how] at x1 r2; replace hlb:=hid hlb; replace how:=hid how; clear z1 z2 z3 z4 n1' n4' n5' n6' hbt; replace hsd:=hid hsd
        go_wp2_with fail
        go_quiet (fail)
        go_wp2_with fail
        go_meet
        case rel=>exact ⟨z6.out,z5.out,hid (hTz.out _)⟩
       ·rw [if_neg ho] at hse'
        have hS2:=hid (n6' (by omega)); have r2:decide (g.own bb < 0)=false:=decide_eq_false ho; obtain ⟨ow,how⟩:∃ z:Nat,(z:Int)=g.own bb:=⟨(g.own bb).toNat,by omega⟩
        have how2:(g.own bb).toNat=ow:=by omega
        rw [how2] at hS2; rw [how2] at hse'; rw [← how] at x1 r2; subst hlb; clear n1' n4' n5' n6' hbt; replace hsd:=hid hsd; replace how2:=hid how2; replace hse':=hid hse'
        go_wp2_with fail
        go_quiet (fail)
        obtain ⟨Wq,hWq⟩:∃ W,W=wr.drewN nq:=⟨_,rfl⟩; have hTr:=hTq.out nq; rw [← hWq] at hTr ⊢; have hG3:=h.out.below hTr.bel; obtain ⟨-,-,-,-,z4⟩:=hG3.fields hn0; have z5:=hG3.own.cell hbn; have u2:=hTr.dn.cell hbn; have u3:=hTr.dn.free bb; have hU:=hTr.setE hbn true; have hG2:=h.out.below hU.bel; obtain ⟨-,-,-,-,y4⟩:=hG2.fields hn0; have z6:=hG2.own.cell hbn; rw [← how] at z5 z6; replace how:=hid how
        have hU2:=hid (hU.congr (dist':=s.dist) (pre':=s.pre) (done':=fun c=>decide (c∈bb::D2)) (fun _ _=>rfl) (fun _ _=>rfl) (by
         funext c
         by_cases e:c=bb
         ·subst e; rw [Pl.upd_same]; simp
         ·rw [Pl.upd_other _ _ e]; simp [e]))
        replace hTr:=hid hTr; replace hWq:=hid hWq; clear hG2 hU hG3
        go_wp2_with fail
        go_roundg k
        case measure=>omega
        case rel=>exact ⟨s.dist,s.pre,bb::D2,ow,bb,s.dist bb,rfl,rfl,rfl,hse',hS2,hU2⟩
   case rest =>
    obtain ⟨rfl,rfl,hS1⟩:=hcut; have hQ:=hS1.out.qm h.out
    have hlD:(D.length:Int)+1≤64:=by
     have:=List.Nodup.length_le_of_subset (List.nodup_cons.2 ⟨hfs.out.bn.2.1,hfs.out.nod⟩) (l₂:=List.range g.n) fun c hc=>by
      rcases List.mem_cons.1 hc with rfl | hc
      ·exact List.mem_range.2 hfs.out.bn.1
      ·exact List.mem_range.2 (hfs.out.lt c hc).1
     rw [List.length_range,List.length_cons] at this; omega
    have hlen:dist b≤70368744177664:=by have:=hfs.out.bnd; omega
    have hlen0:=hfs.out.bn.2.2.2; have hdi:∀ c∈D,0≤dist c∧dist c≤dist b:=hfs.out.le; have hai:=Pl.place_ai g r 1099511627776 hg.out hfs.out
    have hDi:∀ c d,c∈D→d∈D→g.own c=g.own d→c=d:=fun c d hc hd e=>hg.out.inj c d (hfs.out.lt c hc).1 (hfs.out.lt d hd).1 (hfs.out.lt c hc).2 e
    have hps:=Pl.price_spec g.own dist (dist b) D g.n hfs.out.lt hDi (Pl.upd g.rows r (g.rows r+dist b)) g.cols
    have hpl:Pl.placeF g r=⟨g.n,g.V,(Pl.price g.own dist (dist b) D g.n (Pl.upd g.rows r (g.rows r+dist b),g.cols)).1,(Pl.price g.own dist (dist b) D g.n (Pl.upd g.rows r (g.rows r+dist b),g.cols)).2,Pl.aug pre r (g.n+1) g.own b⟩:=by unfold Pl.placeF; rw [hs.out]
    obtain ⟨L,hL⟩:∃ L,L=dist b:=⟨_,rfl⟩; obtain ⟨y0,y1,y2,y3,y4⟩:=hQ.gm.fields hn0; have x1:=hQ.gm.rows.cell hr; have x2:=hQ.gm.rows.free r
    have j1:=fun kd W=>ib_idx (g:=G.rb) (n:=g.n) (cap:=G.rc) hr kd W
    have bd1:=hB.out.rows r; obtain ⟨ro,hro⟩:∃ v,v=g.rows r:=⟨_,rfl⟩; have hQ1:=hid (hQ.setRow hr (g.rows r+L)); rw [← hro] at x1 bd1 hQ1; rw [← hL] at hlen hlen0; have w1:IntKind.i64.wrap (ro+L)=ro+L:=wrapI (by omega) (by omega); rw [← hL]; have hG1:=hQ1.out.gm; obtain ⟨z0,z1,z2,z3,z4⟩:=hG1.fields hn0; replace hL:=hid hL; replace hro:=hid hro; replace hdi:=hid hdi; replace hai:=hid hai; replace hDi:=hid hDi; replace hps:=hid hps; replace hpl:=hid hpl; replace hlD:=hid hlD; have hQs:=hid (show QM G ⟨g.n,g.V,Pl.upd g.rows r (g.rows r+dist b),g.cols,g.own⟩ w db fb eb dist pre (fun c=>decide (c∈D)) _ from by rw [← hL.out,← hro.out]; exact hQ1.out); clear hG1 hQ
    go_wp2_with fail
    go_loopg [169] g.n (fun f v169 wr=>∃ (j:Nat) (Rw Cl:Nat→Int),v169=iv j∧j+f=g.n∧Hid ((Rw,Cl)=Pl.price g.own dist (dist b) D j (Pl.upd g.rows r (g.rows r+dist b),g.cols))∧Hid (QM G ⟨g.n,g.V,Rw,Cl,g.own⟩ w db fb eb dist pre (fun c=>decide (c∈D)) wr))
    case atStart=>exact ⟨0,_,_,rfl,by omega,hid rfl,hQs⟩
    case round =>
     obtain ⟨j,Rw,Cl,rfl,hjf,hpr,hQ⟩:=hrel; clear hQs hQ1 z0 z1 z2 z3 z4 y0 y1 y2 y3 y4 x1 x2; by_cases hj:j < g.n
     ·have q1:decide ((j:Int) < (g.n:Int))=true:=decide_eq_true (by omega)
      have q3:IntKind.i64.wrap ((j:Int)+1)=((j+1:Nat):Int):=by rw [IntKind.wrap_i64]; omega
      have hstep:Pl.price g.own dist (dist b) D (j+1) (Pl.upd g.rows r (g.rows r+dist b),g.cols)=if j∈D then (Pl.upd Rw (g.own j).toNat (Rw (g.own j).toNat+(dist b - dist j)),Pl.upd Cl j (Cl j - (dist b - dist j))) else (Rw,Cl):=by rw [Pl.price,← hpr.out]
      have k1:=fun kd W=>bb_idx (g:=eb) (n:=g.n) (cap:=g.n) hj kd W
      have c1:=hQ.out.dn.cell (show j < (⟨g.n,g.V,Rw,Cl,g.own⟩:Pl.Gr).n from hj); obtain ⟨dn,hdn⟩:∃ x,x=decide (j∈D):=⟨_,rfl⟩; rw [← hdn] at c1
      cases dn with
      | false =>
       rw [if_neg (of_decide_eq_false hdn.symm)] at hstep; replace hstep:=hid hstep; replace hdn:=hid hdn
       go_wp2_with fail
       go_roundg (g.n - (j+1))
       case measure=>omega
       case rel=>exact ⟨j+1,Rw,Cl,rfl,by omega,hid hstep.out.symm,hQ⟩
      | true =>
       have hin:=of_decide_eq_true hdn.symm; rw [if_pos hin] at hstep
       obtain ⟨ρ,how,hρ⟩:∃ ρ:Nat,g.own j=ρ∧ρ < r:=by
        rcases hg.out.rng j hj with h9 | h9
        ·have:=(hfs.out.lt j hin).2; omega
        ·exact h9
       rw [how,show ((ρ:Nat):Int).toNat=ρ from rfl] at hstep; have hps1:=hps.out j (by omega); rw [← hpr.out] at hps1
       have hR1:Rw ρ=g.rows ρ:=by
        rw [show Rw ρ=(Rw,Cl).1 ρ from rfl,hps1.2.1 ρ fun c hc hcd e=>by
         have:=hDi.out c j hcd hin (by rw [e,how]); omega,Pl.upd_other _ _ (by omega)]
       have hC1:Cl j=g.cols j:=by
        rw [show Cl j=(Rw,Cl).2 j from rfl,hps1.2.2 j,if_neg (by omega)]
       have b1:=hB.out.rows ρ; have b2:=hB.out.cols j hj; have b3:=hdi.out j hin; rw [← hL.out] at b3 hstep; rw [← hR1] at b1; rw [← hC1] at b2; have hG:=hQ.out.gm; obtain ⟨y0,y1,y2,y3,y4⟩:=hG.fields hn0
       have hρn:ρ < g.n:=by omega
       have j1:=fun kd W=>ib_idx (g:=G.rb) (n:=g.n) (cap:=G.rc) hρn kd W
       have j2:=fun kd W=>ib_idx (g:=G.kb) (n:=g.n) (cap:=G.kc) hj kd W
       have j3:=fun kd W=>ib_idx (g:=G.ob) (n:=g.n) (cap:=G.oc) hj kd W
       have j4:=fun kd W=>ib_idx (g:=db) (n:=g.n) (cap:=g.n) hj kd W
       have x1:=hG.rows.cell (show ρ < (⟨g.n,g.V,Rw,Cl,g.own⟩:Pl.Gr).n from hρn); have x2:=hG.rows.free ρ; have x3:=hG.own.cell (show j < (⟨g.n,g.V,Rw,Cl,g.own⟩:Pl.Gr).n from hj); have x4:=hQ.out.di.cell (show j < (⟨g.n,g.V,Rw,Cl,g.own⟩:Pl.Gr).n from hj)
       dsimp only at y0 y1 y2 y3 y4 x1 x3 x4
       rw [how] at x3; obtain ⟨dj,hdj⟩:∃ z,z=dist j:=⟨_,rfl⟩; obtain ⟨ra,hra⟩:∃ z,z=Rw ρ:=⟨_,rfl⟩; obtain ⟨ca,hca⟩:∃ z,z=Cl j:=⟨_,rfl⟩; rw [← hdj] at x4 b3 hstep; rw [← hra] at x1 b1 hstep; rw [← hca] at b2 hstep; have w2:IntKind.i64.wrap (L - dj)=L - dj:=wrapI (by omega) (by omega); have w3:IntKind.i64.wrap (ra+(L - dj))=ra+(L - dj):=wrapI (by omega) (by omega); have w4:IntKind.i64.wrap (ca - (L - dj))=ca - (L - dj):=wrapI (by omega) (by omega); have w5:wrap64 (ra+(L - dj))=ra+(L - dj):=wrapJ (by omega) (by omega); have w6:wrap64 (ca - (L - dj))=ca - (L - dj):=wrapJ (by omega) (by omega); have hQr:=hid ((hQ.out.setRow (show ρ < (⟨g.n,g.V,Rw,Cl,g.own⟩:Pl.Gr).n from hρn) (ra+(L - dj))).drewN 1); clear hG hC1 hR1 hps1 b1 b2 b3; replace how:=hid how
       replace hstep:=hid hstep; replace hra:=hid hra; replace hca:=hid hca; replace hdj:=hid hdj; replace hdn:=hid hdn; replace hin:=hid hin
       go_upto_region 32 with (fail)
       go_region
       obtain ⟨W1,hW1⟩:∃ W,W=(wr.setCell ⟨G.rb,ρ,none⟩ (iv (ra+(L - dj)))).drew:=⟨_,rfl⟩; replace hQr:=hid (show QM G ⟨g.n,g.V,Pl.upd Rw ρ (ra+(L - dj)),Cl,g.own⟩ w db fb eb dist pre (fun c=>decide (c∈D)) W1 from by rw [hW1]; exact hQr.out); rw [← hW1]; replace hW1:=hid hW1; have hG:=hQr.out.gm; obtain ⟨y0,y1,y2,y3,y4⟩:=hG.fields hn0; have x5:=hG.cols.cell (show j < (⟨g.n,g.V,Rw,Cl,g.own⟩:Pl.Gr).n from hj); have x6:=hG.cols.free j; have x7:=hQr.out.di.cell (show j < (⟨g.n,g.V,Rw,Cl,g.own⟩:Pl.Gr).n from hj)
       dsimp only at y0 y1 y2 y3 y4 x5 x7
       rw [← hdj.out] at x7; rw [← hca.out] at x5; have hQc:=hid ((hQr.out.setCol (show j < (⟨g.n,g.V,Rw,Cl,g.own⟩:Pl.Gr).n from hj) (ca - (L - dj))).drewN 1); clear hG
       go_upto_region 33 with (fail)
       go_region
       obtain ⟨W2,hW2⟩:∃ W,W=(W1.setCell ⟨G.kb,j,none⟩ (iv (ca - (L - dj)))).drew:=⟨_,rfl⟩; replace hQc:=hid (show QM G ⟨g.n,g.V,Pl.upd Rw ρ (ra+(L - dj)),Pl.upd Cl j (ca - (L - dj)),g.own⟩ w db fb eb dist pre (fun c=>decide (c∈D)) W2 from by rw [hW2]; exact hQc.out); rw [← hW2]; replace hW2:=hid hW2
       go_wp2_with fail
       go_roundg (g.n - (j+1))
       case measure=>omega
       case rel=>exact ⟨j+1,_,_,rfl,by omega,hid (by have:=hstep.out; rw [hL.out] at this ⊢; exact this.symm),hQc⟩
     ·have q1:decide ((j:Int) < (g.n:Int))=false:=decide_eq_false (by omega)
      have hjn:j=g.n:=by omega
      subst hjn; have hpl':=hpl.out; rw [← hpr.out] at hpl'; have hai':=hai.out; rw [← hpr.out] at hai'
      dsimp only at hpl' hai'
      have hQn:=hid hQ.out; replace hai:=hid hai'; replace hpl:=hid hpl'; obtain ⟨FIN,hFIN⟩:∃ x,x=Pl.aug pre r (g.n+1) g.own b:=⟨_,rfl⟩; replace hFIN:=hid hFIN
      have hDl:D.length < g.n+1:=by have:=hlD.out; have:=List.Nodup.length_le_of_subset hfs.out.nod (l₂:=List.range g.n) fun c hc=>List.mem_range.2 (hfs.out.lt c hc).1; rw [List.length_range] at this; omega
      clear hps hpl' hai' hjf q1
      go_wp2_with fail
      go_loopg [9] (g.n+1) (fun f v9 wr=>∃ (last:Int) (ow:Nat→Int),v9=iv last∧Hid ((last = -1∧ow=FIN)∨∃ (p:Nat) (T:List Nat),last=(p:Int)∧Pl.aug pre r f ow p=FIN∧Pl.AI g r dist pre Rw Cl ow p T∧T.length < f)∧Hid (QM G ⟨g.n,g.V,Rw,Cl,ow⟩ w db fb eb dist pre (fun c=>decide (c∈D)) wr))
      case atStart=>exact ⟨b,g.own,rfl,hid (Or.inr ⟨b,D,rfl,hFIN.out.symm,hai.out,hDl⟩),hQn⟩
      case round =>
       obtain ⟨last,ow,rfl,hst,hQ⟩:=hrel; clear hQn; rcases hst.out with ⟨e1,e2⟩ | ⟨p,T,e1,e2,e3,e4⟩
       ·subst e1 e2
        have hQe:=hid (show GM G (Pl.placeF g r) wr∧Fr (fun k=>k=G.rb∨k=G.kb∨k=G.ob) w wr from ⟨by rw [hpl.out,← hFIN.out]; exact hQ.out.gm,hQ.out.f⟩); have r0:decide ((0:Int)≤-1)=false:=rfl
        go_wp2_with fail
        exact bodyPost_end (results_none (by rfl) _ _ _) rfl ⟨rfl,hQe.out⟩
       ·subst e1
        have r0:decide ((0:Int)≤(p:Int))=true:=decide_eq_true (by omega); obtain ⟨kf,rfl⟩:∃ k,gk=k+1:=⟨gk - 1,by omega⟩; have hpn:=e3.pn
        have k1:=fun kd W=>ib_idx (g:=fb) (n:=g.n) (cap:=g.n) hpn kd W
        have k2:=fun kd W=>ib_idx (g:=G.ob) (n:=g.n) (cap:=G.oc) hpn kd W
        have c1:=hQ.out.fr.cell (show p < (⟨g.n,g.V,Rw,Cl,ow⟩:Pl.Gr).n from hpn); have hG:=hQ.out.gm; obtain ⟨y0,y1,y2,y3,y4⟩:=hG.fields hn0; have x1:=hG.own.cell (show p < (⟨g.n,g.V,Rw,Cl,ow⟩:Pl.Gr).n from hpn); have x2:=hG.own.free p
        dsimp only at y0 y1 y2 y3 y4 x1
        rw [Pl.aug] at e2; rcases Pl.aug_step e3 with h9 | ⟨d,T2,s1,s2,s3,s4⟩
        ·rw [h9] at c1
         rw [if_pos (by omega)] at e2; have hQ2:=hid (show QM G ⟨g.n,g.V,Rw,Cl,FIN⟩ w db fb eb dist pre (fun c=>decide (c∈D)) _ from by rw [← e2]; exact hQ.out.setOwn (show p < (⟨g.n,g.V,Rw,Cl,ow⟩:Pl.Gr).n from hpn) (r:Int)); clear e3 e2 hG
         go_wp2_with fail
         go_roundg kf
         case measure=>omega
         case rel=>exact ⟨-1,FIN,rfl,hid (Or.inl ⟨rfl,rfl⟩),hQ2⟩
        ·rw [s1] at c1
         rw [if_neg (by omega),s1,show ((d:Nat):Int).toNat=d from rfl] at e2
         have k3:=fun kd W=>ib_idx (g:=G.ob) (n:=g.n) (cap:=G.oc) s2 kd W
         have x3:=hG.own.cell (show d < (⟨g.n,g.V,Rw,Cl,ow⟩:Pl.Gr).n from s2)
         dsimp only at x3
         obtain ⟨od,hod⟩:∃ z,z=ow d:=⟨_,rfl⟩; rw [← hod] at x3 e2 s4; have hQ2:=hid ((hQ.out.setOwn (show p < (⟨g.n,g.V,Rw,Cl,ow⟩:Pl.Gr).n from hpn) od).drewN 1); have r1:decide ((d:Int) < 0)=false:=decide_eq_false (by omega); have hrl:=hid (show T2.length < kf∧Pl.AI g r dist pre Rw Cl (Pl.upd ow p od) d T2∧Pl.aug pre r kf (Pl.upd ow p od) d=FIN from ⟨by omega,s4,e2⟩); clear e3 e2 s4 hG s1; replace hod:=hid hod
         go_upto_region 39 with (fail)
         go_region
         obtain ⟨W2,hW2⟩:∃ W,W=(wr.setCell ⟨G.ob,p,none⟩ (iv od)).drew:=⟨_,rfl⟩; replace hQ2:=hid (show QM G ⟨g.n,g.V,Rw,Cl,Pl.upd ow p od⟩ w db fb eb dist pre (fun c=>decide (c∈D)) W2 from by rw [hW2]; exact hQ2.out); rw [← hW2]; replace hW2:=hid hW2
         go_wp2_with fail
         go_roundg kf
         case measure=>omega
         case rel=>exact ⟨d,_,rfl,hid (Or.inr ⟨d,T2,rfl,hrl.out.2.2,hrl.out.2.1,hrl.out.1⟩),hQ2⟩
end Go.Proofs.YtfejagpjahoibaaGreatDoor
