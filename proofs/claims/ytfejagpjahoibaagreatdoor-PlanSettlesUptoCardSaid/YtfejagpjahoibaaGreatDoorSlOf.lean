/- SlOf: PmV, SlOf, in one text. -/
import Derived.Test.YtfejagpjahoibaaGreatDoorPlE
import Derived.Test.YtfejagpjahoibaaGreatDoorRel
set_option linter.unusedVariables false
set_option linter.unusedSimpArgs false
namespace Go.Proofs.YtfejagpjahoibaaGreatDoor
open Go.RowKit
open Go.Lib (hid itoa)
set_option maxRecDepth 100000 in
theorem isType_nil (w:World):Calls Tryz.prog 75 #[sv []] w fun e w'=>e=.returned (.bool false)∧w'=w:=by
 go_enter Tryz.func75,Tryz.ntmps75
 go_wp2_with fail
 go_ret; exact ⟨rfl,rfl⟩
set_option maxRecDepth 100000 in
theorem inRange_small (n:Int) (h0:0≤n) (h1:n≤1000000) (w:World):Calls Tryz.prog 76 #[iv n] w fun e w'=>e=.returned (.bool true)∧w'=w:=by
 have q1:decide ((-9007199254740992:Int)≤n)=true:=decide_eq_true (by omega); have q2:decide (n≤(9007199254740992:Int))=true:=decide_eq_true (by omega)
 go_enter Tryz.func76,Tryz.ntmps76
 go_wp2_with fail
 go_ret; exact ⟨rfl,rfl⟩
abbrev intCs (n:Int) (a:Option Addr) (k:Nat):Array Value:=#[iv 3,sv [],iv n,iv 0,sv [],.slice a 0 k]
set_option maxHeartbeats 4000000 in
set_option maxRecDepth 100000 in
theorem nodeI_any (n:Int) (h0:0≤n) (h1:n≤1000000) (a:Option Addr) (k:Nat) (w:World):Calls Tryz.prog 59 #[.agg (intCs n a k)] w fun e w'=>e=.returned (.bool true)∧Below w.heap.size w w':=by
 have hc1:=hid (fun W=>isType_nil W); have hc2:=hid (fun W=>inRange_small n h0 h1 W); have hb:=hid (fun o=>(Below.refl w.heap.size w).alloc (Nat.le_refl _) o)
 go_enter Tryz.func59,Tryz.ntmps59
 go_wp2_with (first | (go_at_call 75; refine (hc1.out _).mono ?_; rintro e w2 ⟨rfl,rfl⟩) | (go_at_call 76; refine (hc2.out _).mono ?_; rintro e w2 ⟨rfl,rfl⟩))
 go_ret; exact ⟨rfl,hb.out _⟩
set_option maxHeartbeats 4000000 in
set_option maxRecDepth 100000 in
theorem plain1_any (n:Int) (h0:0≤n) (h1:n≤1000000) (a:Option Addr) (k:Nat) (w:World):Calls Tryz.prog 58 #[.agg (intCs n a k)] w fun e w'=>e=.returned (.bool true)∧Below w.heap.size w w':=by
 have hc1:=hid (fun W=>nodeI_any n h0 h1 a k W); have hb:=hid (fun o=>(Below.refl w.heap.size w).alloc (Nat.le_refl _) o)
 go_enter Tryz.func58,Tryz.ntmps58
 go_wp2_with (go_at_call 59; refine (hc1.out _).mono ?_; rintro e w2 ⟨rfl,hb2⟩)
 go_ret; exact ⟨rfl,(hb.out _).trans (hb2.mono (hb.out _).size)⟩
set_option maxHeartbeats 4000000 in
set_option maxRecDepth 100000 in
theorem validI_any (n:Int) (h0:0≤n) (h1:n≤1000000) (a:Option Addr) (k L B:Nat) (w:World) (hL:w.heap[L]? = some (.cells #[iv 16384] 3 (0,0))) (hB:B≤L):Calls Tryz.prog 57 #[.agg (intCs n a k),pt L,.func (Fn.func 58) #[] #[]] w fun e w'=>e=.returned (.bool true)∧Below B w w':=by
 have hc1:=hid (fun W=>plain1_any n h0 h1 a k W); have hLw:=lt_of_heap hL; have b1:Below w.heap.size w (w.alloc (.cells (intCs n a k) 47 (0,0))):=(Below.refl _ w).alloc (Nat.le_refl _) _; have r1:=heap_alloc_new' w (.cells (intCs n a k) 47 (0,0)); obtain ⟨W1,hW1⟩:∃ W,W=w.alloc (.cells (intCs n a k) 47 (0,0)):=⟨_,rfl⟩; rw [← hW1] at b1 r1; have l1:=(b1.block L hLw).trans hL; have y0:=(cell_of (i:=0) l1).trans rfl; replace l1:=hid l1; replace b1:=hid b1; replace r1:=hid r1; replace hW1:=hid hW1
 go_enter Tryz.func57,Tryz.ntmps57
 go_upto_region 1 with (fail)
 rw [← hW1.out]; have x0:=(cell_of (i:=0) r1.out).trans rfl; have x1:=(cell_of (i:=1) r1.out).trans rfl; have x2:=(cell_of (i:=2) r1.out).trans rfl; have x3:=(cell_of (i:=3) r1.out).trans rfl; have x4:=(cell_of (i:=4) r1.out).trans rfl; have x5:=(cell_of (i:=5) r1.out).trans rfl
 go_wp2_with fail
 refine (hc1.out _).mono ?_; rintro e w2 ⟨rfl,hb2⟩; have l2:=(hb2.block L (lt_of_heap l1.out)).trans l1.out; have r2:=(hb2.block w.heap.size (lt_of_heap r1.out)).trans r1.out; have y0:=(cell_of (i:=0) l2).trans rfl
 have y1:=fun i=>free_of (i:=i) l2
 have x5:=(cell_of (i:=5) r2).trans rfl
 have hne:L≠w.heap.size:=by omega
 have hw2:=hid (b1.out.trans (hb2.mono b1.out.size)); have hBB:=hid hB; replace l2:=hid l2; replace r2:=hid r2; clear hb2 hc1 hB; have hbf:=hid (fun v=>((hw2.out.mono (Nat.le_trans hBB.out (Nat.le_of_lt hLw)):Below B w w2).setCell (p:=⟨L,0,none⟩) hBB.out v))
 go_wp2_with fail
 go_loopg [27] 0 (fun f v27 wr=>v27=iv 0∧Below B w wr)
 case atStart=>exact ⟨rfl,hbf.out _⟩
 case round =>
  obtain ⟨rfl,hB⟩:=hrel
  go_wp2_with fail
  go_ret; exact ⟨rfl,hB⟩
set_option maxHeartbeats 4000000 in
set_option maxRecDepth 100000 in
theorem isPlainI_any (n:Int) (h0:0≤n) (h1:n≤1000000) (a:Option Addr) (k:Nat) (w:World):Calls Tryz.prog 32 #[.agg (intCs n a k)] w fun e w'=>e=.returned (.bool true)∧Below w.heap.size w w':=by
 have hc1:=hid (fun L W h=>validI_any n h0 h1 a k L w.heap.size W h); have b1:Below w.heap.size w (w.alloc (.cells (intCs n a k) 47 (0,0))):=(Below.refl _ w).alloc (Nat.le_refl _) _; obtain ⟨W1,hW1⟩:∃ W,W=w.alloc (.cells (intCs n a k) 47 (0,0)):=⟨_,rfl⟩; have r1:=heap_alloc_new' w (.cells (intCs n a k) 47 (0,0)); rw [← hW1] at b1 r1; have s1:w.heap.size≤W1.heap.size:=b1.size; have b2:=hid (b1.alloc b1.size (.cells #[iv 16384] 3 (0,0))); have l2:=hid (heap_alloc_new' W1 (.cells #[iv 16384] 3 (0,0))); have k2:Below W1.heap.size W1 (W1.alloc (.cells #[iv 16384] 3 (0,0))):=(Below.refl _ _).alloc (Nat.le_refl _) _; have r2:=(k2.block w.heap.size (lt_of_heap r1)).trans r1; have x0:=(cell_of (i:=0) r2).trans rfl; have x1:=(cell_of (i:=1) r2).trans rfl
 have x2:=(cell_of (i:=2) r2).trans rfl; have x3:=(cell_of (i:=3) r2).trans rfl; have x4:=(cell_of (i:=4) r2).trans rfl; have x5:=(cell_of (i:=5) r2).trans rfl; replace hW1:=hid hW1; clear b1 r1 k2 r2
 go_enter Tryz.func32,Tryz.ntmps32
 go_upto_region 1 with (fail)
 rw [← hW1.out]
 go_wp2_with fail
 refine (hc1.out _ _ l2.out s1).mono ?_; rintro e w2 ⟨rfl,hb2⟩; have hfin:=hid (b2.out.trans hb2); clear hb2 hc1
 go_wp2_with fail
 go_ret; exact ⟨rfl,hfin.out⟩
set_option maxHeartbeats 4000000 in
set_option maxRecDepth 100000 in
theorem writeI_any (n:Int) (h0:0≤n) (h1:n≤1000000) (a:Option Addr) (k B bb:Nat) (w:World) (hb:BldF (from_ B) bb [] w) (hB:B≤w.heap.size) (ht:Hid (Tab w)):Calls Tryz.prog 33 #[pt bb,.agg (intCs n a k)] w fun e w'=>e=.returned (.tuple #[])∧BldF (from_ B) bb (itoa n) w'∧Below B w w':=by
 have b1:Below w.heap.size w (w.alloc (.cells (intCs n a k) 47 (0,0))):=(Below.refl _ w).alloc (Nat.le_refl _) _; have r1:=heap_alloc_new' w (.cells (intCs n a k) 47 (0,0)); obtain ⟨W1,hW1⟩:∃ W,W=w.alloc (.cells (intCs n a k) 47 (0,0)):=⟨_,rfl⟩; rw [← hW1] at b1 r1; have hc1:=hid (ntext_any n W1 (by omega) (by omega) (hid (ht.out.below b1))); have x0:=(cell_of (i:=0) r1).trans rfl; have x2:=(cell_of (i:=2) r1).trans rfl; replace hb:=hid hb; replace b1:=hid b1; replace r1:=hid r1; replace hW1:=hid hW1; have hsz:=hid hB; clear hB
 go_enter Tryz.func33,Tryz.ntmps33
 go_upto_region 1 with (fail)
 rw [← hW1.out]
 go_wp2_with fail
 refine hc1.out.mono ?_; rintro e w2 ⟨rfl,hb2⟩; have hw2:=b1.out.trans (hb2.mono b1.out.size); have hbd:=hb.out.below hw2; have hle:=Lib.itoa_length_le n (by omega) (by omega); have hws:=bldF_write (from_ B) B bb [] (itoa n) w2 hbd (fun k hk=>Nat.le_trans hsz.out (Nat.le_trans hw2.size hk)) (fun k hk=>hk) (fun k h1 _ h2=>absurd h1 h2) (Nat.le_trans hsz.out hw2.size) (by simp; omega); replace hws:=hid hws; replace hw2:=hid hw2; clear hb2 hc1 hbd; obtain ⟨T,hT⟩:∃ T,T=itoa n:=⟨_,rfl⟩; rw [← hT] at hws hle ⊢; replace hT:=hid hT
 go_wp2_with fail
 refine hws.out.mono ?_; rintro e w3 ⟨rfl,hb3,hf3⟩; have hfin:=hid ((hw2.out.mono hsz.out:Below B w w2).trans (hf3.to_below (Nat.le_trans hsz.out hw2.out.size) fun q hq hF=>absurd hF (by show ¬ B≤q; omega))); replace hb3:=hid hb3; clear hws hf3
 go_wp2_with fail
 refine bodyPost_end (results_none (by rfl) _ _ _) rfl ⟨rfl,?_,hfin.out⟩; rw [← hT.out]; exact hb3.out
set_option maxHeartbeats 4000000 in
set_option maxRecDepth 100000 in
theorem showI_any (n:Int) (h0:0≤n) (h1:n≤1000000) (a:Option Addr) (k:Nat) (w:World) (ht:Hid (Tab w)):Calls Tryz.prog 12 #[.agg (intCs n a k)] w fun e w'=>e=.returned (sv (itoa n))∧Below w.heap.size w w':=by
 have hc1:=hid (fun W=>isPlainI_any n h0 h1 a k W); have b1:Below w.heap.size w (w.alloc (.cells (intCs n a k) 47 (0,0))):=(Below.refl _ w).alloc (Nat.le_refl _) _; have r1:=heap_alloc_new' w (.cells (intCs n a k) 47 (0,0)); obtain ⟨W1,hW1⟩:∃ W,W=w.alloc (.cells (intCs n a k) 47 (0,0)):=⟨_,rfl⟩; rw [← hW1] at b1 r1; have x0:=(cell_of (i:=0) r1).trans rfl; have x1:=(cell_of (i:=1) r1).trans rfl; have x2:=(cell_of (i:=2) r1).trans rfl; have x3:=(cell_of (i:=3) r1).trans rfl; have x4:=(cell_of (i:=4) r1).trans rfl; have x5:=(cell_of (i:=5) r1).trans rfl; obtain ⟨T,hT⟩:∃ T,T=itoa n:=⟨_,rfl⟩; rw [← hT]; replace hT:=hid hT; replace b1:=hid b1; replace r1:=hid r1; replace hW1:=hid hW1
 go_enter Tryz.func12,Tryz.ntmps12
 go_upto_region 1 with (fail)
 rw [← hW1.out]
 go_wp2_with fail
 refine (hc1.out _).mono ?_; rintro e w2 ⟨rfl,hb2⟩; have r2:=(hb2.block w.heap.size (lt_of_heap r1.out)).trans r1.out; have b2:=hid (b1.out.trans (hb2.mono b1.out.size)); have a3:Below w2.heap.size w2 (w2.alloc (.cells #[.pointer none,.slice none 0 0] 83)):=(Below.refl _ w2).alloc (Nat.le_refl _) _; have hbld:=hid (BldF.new (from_ w2.heap.size) w2 (Nat.le_refl _)); obtain ⟨W3,hW3⟩:∃ W,W=w2.alloc (.cells #[.pointer none,.slice none 0 0] 83):=⟨_,rfl⟩; rw [← hW3] at a3 hbld; have r3:=(a3.block w.heap.size (lt_of_heap r2)).trans r2; have x0:=(cell_of (i:=0) r3).trans rfl; have x1:=(cell_of (i:=1) r3).trans rfl; have x2:=(cell_of (i:=2) r3).trans rfl; have x3:=(cell_of (i:=3) r3).trans rfl; have x4:=(cell_of (i:=4) r3).trans rfl; have x5:=(cell_of (i:=5) r3).trans rfl
 have hwr:=hid (writeI_any n h0 h1 a k w2.heap.size w2.heap.size W3 hbld.out a3.size (hid ((ht.out.below (b2.out.trans (a3.mono b2.out.size)))))); have b3:=hid (b2.out.trans (a3.mono b2.out.size)); replace a3:=hid a3; replace r2:=hid r2; replace r3:=hid r3; replace hW3:=hid hW3; clear hb2 hc1
 go_upto_region 4 with (fail)
 rw [← hW3.out]
 go_wp2_with fail
 refine hwr.out.mono ?_; rintro e w4 ⟨rfl,hb4,hf4⟩; have hst:=hid (bldString w2.heap.size w2.heap.size (itoa n) w4 hb4.bld (Nat.le_trans a3.out.size hf4.size)); rw [← hT.out] at hst; have b4:=hid (b2.out.trans ((a3.out.trans hf4).mono b2.out.size)); clear hwr hb4 hf4
 go_wp2_with fail
 refine hst.out.mono ?_; rintro e w5 ⟨rfl,hb5⟩; have b5:=hid (b4.out.trans (hb5.mono b2.out.size)); clear hst hb5
 go_wp2_with fail
 go_ret; exact ⟨rfl,b5.out⟩
end Go.Proofs.YtfejagpjahoibaaGreatDoor
namespace Go.Proofs.YtfejagpjahoibaaGreatDoor
open Go.RowKit
theorem flatten_at {α:Type} {sz:Nat}:∀ (css:List (List α)) (i j:Nat) (cs:List α),(∀ cs∈css,cs.length=sz)→css[i]? = some cs→j < sz→css.flatten[i * sz+j]? = cs[j]?
 | [],i,j,cs,_,h,_=>by simp at h
 | c::css,0,j,cs,hs,h,hj=>by
  simp at h; subst h; have:=hs c List.mem_cons_self; rw [List.flatten_cons,Nat.zero_mul,Nat.zero_add,List.getElem?_append_left (by omega)]
 | c::css,i+1,j,cs,hs,h,hj=>by
  have hc:=hs c List.mem_cons_self; rw [List.flatten_cons,List.getElem?_append_right (by rw [hc,Nat.succ_mul]; omega),hc,show (i+1) * sz+j - sz=i * sz+j by rw [Nat.succ_mul]; omega]; exact flatten_at css i j cs (fun x hx=>hs x (List.mem_cons_of_mem _ hx)) (by simpa using h) hj
theorem SlR.of_block {α:Type} {sz:Nat} {R:Rel α} {S:Foot} {W:World} {l:List α} {b:Nat} {css:List (List Value)} {E:TypeId} {fr:Nat × Nat} (hlen:css.length=l.length) (hs:∀ cs∈css,cs.length=sz)
  (h:W.heap[b]? = some (.cells css.flatten.toArray E fr)) (hS:S b) (hR:∀ (i:Nat) x cs,l[i]? = some x→css[i]? = some cs→R S W x cs):SlR sz R S W l (.slice (some ⟨b,0,none⟩) l.length l.length):=by
 refine ⟨_,_,b,0,fun i=>css.getD i [],rfl,Nat.le_refl _,fun _=>⟨rfl,hS,lt_of_some h⟩,fun i hi j u hu=>?_,fun i x hx=>?_⟩
 ·have hi2:i < css.length:=by omega
  have hci:css[i]? = some css[i]:=List.getElem?_eq_getElem hi2; simp only [List.getD_eq_getElem?_getD,hci,Option.getD_some] at hu
  have hj:j < sz:=by
   have:=(List.getElem?_eq_some_iff.1 hu).1; rw [hs _ (List.getElem_mem hi2)] at this; exact this
  rw [Nat.zero_add]; refine (cell_of h).trans ?_; rw [List.getElem?_toArray,flatten_at css i j _ hs hci hj]; exact hu
 ·have hi2:i < css.length:=by have:=(List.getElem?_eq_some_iff.1 hx).1; omega
  have hci:css[i]? = some css[i]:=List.getElem?_eq_getElem hi2; simp only [List.getD_eq_getElem?_getD,hci,Option.getD_some]; exact hR i x _ hx hci
end Go.Proofs.YtfejagpjahoibaaGreatDoor
