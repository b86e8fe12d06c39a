/- PlG: PlI, PlG, in one text. -/
import Derived.Test.YtfejagpjahoibaaGreatDoorChecked
import Derived.Test.YtfejagpjahoibaaGreatDoorRel
import Derived.Lib.ItoaMem
import Derived.Deep.LoopGhost
import Derived.StillTailTactics
import Derived.BigQuiet
import Derived.BigRegion
import Derived.Deep.QuietTactic
import Derived.Test.YtfejagpjahoibaaGreatDoorPlanE
set_option linter.unusedVariables false
set_option linter.unusedSimpArgs false
namespace Go.Proofs.YtfejagpjahoibaaGreatDoor
open Go.RowKit
open Go.Lib (hid)
/-- the block b holds the ints f 0 .. f (n - 1) -/
def IB (b n:Nat) (f:Nat→Int) (w:World):Prop:=∃ cur:Array Value,w.heap[b]? = some (.cells cur 3 (0,0))∧∀ i,i < n→cur[i]? = some (iv (f i))
theorem IB.cell {b n i:Nat} {f:Nat→Int} {w:World} (h:IB b n f w) (hi:i < n):w.cell? ⟨b,i,none⟩=some (iv (f i)):=by
 obtain ⟨cur,h1,h2⟩:=h; exact (cell_of h1).trans (h2 i hi)
theorem IB.free {b n:Nat} {f:Nat→Int} {w:World} (h:IB b n f w) (i:Nat):w.frozen? ⟨b,i,none⟩=false:=by
 obtain ⟨cur,h1,h2⟩:=h; exact free_of h1
theorem IB.lt {b n:Nat} {f:Nat→Int} {w:World} (h:IB b n f w):b < w.heap.size:=by
 obtain ⟨cur,h1,h2⟩:=h; exact lt_of_some h1
theorem IB.keep {b n:Nat} {f:Nat→Int} {w w':World} (h:IB b n f w) (hb:w'.heap[b]? = w.heap[b]?):IB b n f w':=by
 obtain ⟨cur,h1,h2⟩:=h; exact ⟨cur,hb.trans h1,h2⟩
theorem IB.below {b n:Nat} {f:Nat→Int} {w w':World} (h:IB b n f w) (hb:Below w.heap.size w w'):IB b n f w':=h.keep (hb.block b h.lt)
theorem IB.set {b n i:Nat} {f:Nat→Int} {w:World} (h:IB b n f w) (hi:i < n) (v:Int):IB b n (Pl.upd f i v) (w.setCell ⟨b,i,none⟩ (iv v)):=by
 obtain ⟨cur,h1,h2⟩:=h; have hlt:i < cur.size:=(Array.getElem?_eq_some_iff.1 (h2 i hi)).1; refine ⟨_,heap_setCell_same h1 (iv v),fun j hj=>?_⟩; by_cases e:j=i
 ·subst e; rw [Pl.upd_same,Array.getElem?_setIfInBounds_self_of_lt hlt]
 ·rw [Pl.upd_other _ _ e,Array.getElem?_setIfInBounds_ne (fun e2=>e e2.symm)]; exact h2 j hj
theorem IB.congr {b n:Nat} {f g:Nat→Int} {w:World} (h:IB b n f w) (he:∀ i,i < n→f i=g i):IB b n g w:=by
 obtain ⟨cur,h1,h2⟩:=h; exact ⟨cur,h1,fun i hi=>by rw [← he i hi]; exact h2 i hi⟩
/-- the block b holds the bools f 0 .. f (n - 1) -/
def BB (b n:Nat) (f:Nat→Bool) (w:World):Prop:=∃ cur:Array Value,w.heap[b]? = some (.cells cur 4 (0,0))∧∀ i,i < n→cur[i]? = some (.bool (f i))
theorem BB.cell {b n i:Nat} {f:Nat→Bool} {w:World} (h:BB b n f w) (hi:i < n):w.cell? ⟨b,i,none⟩=some (.bool (f i)):=by
 obtain ⟨cur,h1,h2⟩:=h; exact (cell_of h1).trans (h2 i hi)
theorem BB.free {b n:Nat} {f:Nat→Bool} {w:World} (h:BB b n f w) (i:Nat):w.frozen? ⟨b,i,none⟩=false:=by
 obtain ⟨cur,h1,h2⟩:=h; exact free_of h1
theorem BB.lt {b n:Nat} {f:Nat→Bool} {w:World} (h:BB b n f w):b < w.heap.size:=by
 obtain ⟨cur,h1,h2⟩:=h; exact lt_of_some h1
theorem BB.keep {b n:Nat} {f:Nat→Bool} {w w':World} (h:BB b n f w) (hb:w'.heap[b]? = w.heap[b]?):BB b n f w':=by
 obtain ⟨cur,h1,h2⟩:=h; exact ⟨cur,hb.trans h1,h2⟩
theorem BB.below {b n:Nat} {f:Nat→Bool} {w w':World} (h:BB b n f w) (hb:Below w.heap.size w w'):BB b n f w':=h.keep (hb.block b h.lt)
theorem BB.set {b n i:Nat} {f:Nat→Bool} {w:World} (h:BB b n f w) (hi:i < n) (v:Bool):BB b n (Pl.upd f i v) (w.setCell ⟨b,i,none⟩ (.bool v)):=by
 obtain ⟨cur,h1,h2⟩:=h; have hlt:i < cur.size:=(Array.getElem?_eq_some_iff.1 (h2 i hi)).1; refine ⟨_,heap_setCell_same h1 (.bool v),fun j hj=>?_⟩; by_cases e:j=i
 ·subst e; rw [Pl.upd_same,Array.getElem?_setIfInBounds_self_of_lt hlt]
 ·rw [Pl.upd_other _ _ e,Array.getElem?_setIfInBounds_ne (fun e2=>e e2.symm)]; exact h2 j hj
theorem ib_idx {g n cap i:Nat} (hi:i < n) (kd:IntKind) (W:World):(Instr.indexAt 29 (.slice (some ⟨g,0,none⟩) n cap) (.int kd i)).run Tryz.prog W=.ok (.pointer (some ⟨g,i,none⟩)) W:=by
 have:=row_idx (P:=Tryz.prog) (t:=29) (sz:=1) (b:=g) (off:=0) (a:=some ⟨g,0,none⟩) (by kernel_rfl) (fun _=>by kernel_rfl) rfl n cap i hi kd W; simpa using this
theorem bb_idx {g n cap i:Nat} (hi:i < n) (kd:IntKind) (W:World):(Instr.indexAt 107 (.slice (some ⟨g,0,none⟩) n cap) (.int kd i)).run Tryz.prog W=.ok (.pointer (some ⟨g,i,none⟩)) W:=by
 have:=row_idx (P:=Tryz.prog) (t:=107) (sz:=1) (b:=g) (off:=0) (a:=some ⟨g,0,none⟩) (by kernel_rfl) (fun _=>by kernel_rfl) rfl n cap i hi kd W; simpa using this
/-- a row of ints as a cell of [][]int -/
def RowI:Rel (List Int):=fun S w l cs=>∃ v,cs=[v]∧SlR 1 IntR S w l v
theorem goodRowI:Good 1 RowI:=by
 refine ⟨fun h=>by obtain ⟨v,rfl,-⟩:=h; rfl,fun h=>?_,fun h hm=>?_⟩
 ·obtain ⟨v,rfl,hv⟩:=h
  obtain ⟨a,c,rfl,-⟩:=hv.slice; exact one1 rfl
 ·obtain ⟨v,rfl,hv⟩:=h
  exact ⟨v,rfl,hv.move goodInt hm⟩
end Go.Proofs.YtfejagpjahoibaaGreatDoor
set_option linter.unusedSimpArgs false
namespace Go.Proofs.YtfejagpjahoibaaGreatDoor
open Go.RowKit
open Go.Lib (hid)
/-- where a grid lies: its block, the slice of its lines (memory C), the rows of prices and owners -/
structure GB where
 gb:Nat
 ca:Option Addr
 cc:Nat
 C:Foot
 rb:Nat
 rc:Nat
 kb:Nat
 kc:Nat
 ob:Nat
 oa:Option Addr
 oc:Nat
def GB.cells (G:GB) (n:Nat):Array Value:=#[iv n,.slice G.ca n G.cc,.slice (some ⟨G.rb,0,none⟩) n G.rc,.slice (some ⟨G.kb,0,none⟩) n G.kc,.slice G.oa n G.oc]
def linesOf (n:Nat) (V:Nat→Nat→Int):List (List Int):=(List.range n).map fun r=>(List.range n).map (V r)
theorem lines_at {n r:Nat} {V:Nat→Nat→Int} (h:r < n):(linesOf n V)[r]? = some ((List.range n).map (V r)):=by
 unfold linesOf; rw [List.getElem?_map,List.getElem?_range h]; rfl
theorem line_at {n c:Nat} {f:Nat→Int} (h:c < n):((List.range n).map f)[c]? = some (f c):=by rw [List.getElem?_map,List.getElem?_range h]; rfl
/-- a grid of side n in memory -/
structure GM (G:GB) (g:Pl.Gr) (w:World):Prop where
 blk:w.heap[G.gb]? = some (.cells (G.cells g.n) 61 (0,0))
 cel:SlR 1 RowI G.C w (linesOf g.n g.V) (.slice G.ca g.n G.cc)
 rows:IB G.rb g.n g.rows w
 cols:IB G.kb g.n g.cols w
 own:IB G.ob g.n g.own w
 d1:G.rb≠G.kb
 d2:0 < g.n→G.rb≠G.ob
 d3:0 < g.n→G.kb≠G.ob
 d4:G.gb≠G.rb∧G.gb≠G.kb∧G.gb≠G.ob
 oa:0 < g.n→G.oa=some ⟨G.ob,0,none⟩
 d5:∀ k,G.C k→k≠G.gb∧k≠G.rb∧k≠G.kb∧k≠G.ob
theorem GM.below {G:GB} {g:Pl.Gr} {w w':World} (h:GM G g w) (hb:Below w.heap.size w w'):GM G g w' :=
 ⟨(hb.block _ (lt_of_heap h.blk)).trans h.blk,h.cel.below goodRowI hb,h.rows.below hb,h.cols.below hb,h.own.below hb,h.d1,h.d2,h.d3,h.d4,h.oa,h.d5⟩
theorem GM.fr {G:GB} {g:Pl.Gr} {w w':World} (h:GM G g w) {F:Foot} (hf:Fr F w w') (h1:¬ F G.gb) (h2:¬ F G.rb) (h3:¬ F G.kb) (h4:¬ F G.ob) (h5:∀ k,G.C k→¬ F k):GM G g w' :=
 ⟨(hf.block _ (lt_of_heap h.blk) h1).trans h.blk,h.cel.fr goodRowI hf h5,h.rows.keep (hf.block _ h.rows.lt h2),h.cols.keep (hf.block _ h.cols.lt h3),h.own.keep (hf.block _ h.own.lt h4),h.d1,h.d2,h.d3,h.d4,h.oa,h.d5⟩
theorem GM.setRow {G:GB} {g:Pl.Gr} {w:World} (h:GM G g w) {i:Nat} (hi:i < g.n) (v:Int):GM G { g with rows:=Pl.upd g.rows i v } (w.setCell ⟨G.rb,i,none⟩ (iv v)) :=
 ⟨(heap_setCell_other _ h.d4.1).trans h.blk,h.cel.move goodRowI fun k hk hs=>⟨hs,heap_setCell_other _ (h.d5 k hs).2.1⟩,h.rows.set hi v,h.cols.keep (heap_setCell_other _ h.d1.symm),h.own.keep (heap_setCell_other _ (h.d2 (by omega)).symm),h.d1,h.d2,h.d3,h.d4,h.oa,h.d5⟩
theorem GM.setCol {G:GB} {g:Pl.Gr} {w:World} (h:GM G g w) {i:Nat} (hi:i < g.n) (v:Int):GM G { g with cols:=Pl.upd g.cols i v } (w.setCell ⟨G.kb,i,none⟩ (iv v)) :=
 ⟨(heap_setCell_other _ h.d4.2.1).trans h.blk,h.cel.move goodRowI fun k hk hs=>⟨hs,heap_setCell_other _ (h.d5 k hs).2.2.1⟩,h.rows.keep (heap_setCell_other _ h.d1),h.cols.set hi v,h.own.keep (heap_setCell_other _ (h.d3 (by omega)).symm),h.d1,h.d2,h.d3,h.d4,h.oa,h.d5⟩
theorem GM.setOwn {G:GB} {g:Pl.Gr} {w:World} (h:GM G g w) {i:Nat} (hi:i < g.n) (v:Int):GM G { g with own:=Pl.upd g.own i v } (w.setCell ⟨G.ob,i,none⟩ (iv v)) :=
 ⟨(heap_setCell_other _ h.d4.2.2).trans h.blk,h.cel.move goodRowI fun k hk hs=>⟨hs,heap_setCell_other _ (h.d5 k hs).2.2.2⟩,h.rows.keep (heap_setCell_other _ (h.d2 (by omega))),h.cols.keep (heap_setCell_other _ (h.d3 (by omega))),h.own.set hi v,h.d1,h.d2,h.d3,h.d4,h.oa,h.d5⟩
theorem GM.fields0 {G:GB} {g:Pl.Gr} {w:World} (h:GM G g w):w.cell? ⟨G.gb,0,none⟩=some (iv g.n)∧w.cell? ⟨G.gb,1,none⟩=some (.slice G.ca g.n G.cc)∧w.cell? ⟨G.gb,2,none⟩=some (.slice (some ⟨G.rb,0,none⟩) g.n G.rc)∧w.cell? ⟨G.gb,3,none⟩=some (.slice (some ⟨G.kb,0,none⟩) g.n G.kc)∧w.cell? ⟨G.gb,4,none⟩=some (.slice G.oa g.n G.oc) :=
 ⟨(cell_of h.blk).trans rfl,(cell_of h.blk).trans rfl,(cell_of h.blk).trans rfl,(cell_of h.blk).trans rfl,(cell_of h.blk).trans rfl⟩
theorem GM.fields {G:GB} {g:Pl.Gr} {w:World} (h:GM G g w) (hn:0 < g.n):w.cell? ⟨G.gb,0,none⟩=some (iv g.n)∧w.cell? ⟨G.gb,1,none⟩=some (.slice G.ca g.n G.cc)∧w.cell? ⟨G.gb,2,none⟩=some (.slice (some ⟨G.rb,0,none⟩) g.n G.rc)∧w.cell? ⟨G.gb,3,none⟩=some (.slice (some ⟨G.kb,0,none⟩) g.n G.kc)∧w.cell? ⟨G.gb,4,none⟩=some (.slice (some ⟨G.ob,0,none⟩) g.n G.oc):=by
 rw [← h.oa hn]; exact h.fields0
/-- the value of a cell: where it lies -/
theorem GM.val {G:GB} {g:Pl.Gr} {w:World} (h:GM G g w) {r c:Nat} (hr:r < g.n) (hc:c < g.n) :
  ∃ g1 o1 a cp g2 o2,(∀ kd W,(Instr.indexAt 59 (.slice G.ca g.n G.cc) (.int kd r)).run Tryz.prog W=.ok (.pointer (some ⟨g1,o1,none⟩)) W)∧w.cell? ⟨g1,o1,none⟩=some (.slice a g.n cp) ∧
   (∀ kd W,(Instr.indexAt 29 (.slice a g.n cp) (.int kd c)).run Tryz.prog W=.ok (.pointer (some ⟨g2,o2,none⟩)) W)∧w.cell? ⟨g2,o2,none⟩=some (iv (g.V r c)):=by
 obtain ⟨g1,o1,cs,h1,h2,h3,h4,v,rfl,h5⟩:=h.cel.at (P:=Tryz.prog) (t:=59) (by kernel_rfl) (fun _=>by kernel_rfl) (lines_at hr); obtain ⟨a,cp,rfl,-⟩:=h5.slice; rw [List.length_map,List.length_range] at h5 h4; obtain ⟨g2,o2,cs2,k1,k2,k3,k4,k5⟩:=h5.at (P:=Tryz.prog) (t:=29) (by kernel_rfl) (fun _=>by kernel_rfl) (line_at hc); have e1:=h4 0 _ rfl; have e2:=k4 0 (iv (g.V r c)) (by rw [show cs2=[iv (g.V r c)] from k5]; rfl); rw [Nat.add_zero] at e1 e2; exact ⟨g1,o1,a,cp,g2,o2,h1,e1,k1,e2⟩
/-- numbers far from the ends -/
structure GN (g:Pl.Gr):Prop where
 n:g.n≤64
 V:∀ r c,r < g.n→c < g.n→-1≤g.V r c∧g.V r c≤1099511627776
 rows:∀ r,-1125899906842624≤g.rows r∧g.rows r≤1125899906842624
 cols:∀ c,c < g.n→-1125899906842624≤g.cols c∧g.cols c≤1125899906842624
theorem wrapI {z:Int} (h1:-9223372036854775808≤z) (h2:z≤9223372036854775807):IntKind.i64.wrap z=z:=by rw [IntKind.wrap_i64]; omega
set_option maxHeartbeats 4000000 in
set_option maxRecDepth 100000 in
theorem tight_any (G:GB) (g:Pl.Gr) (r c:Nat) (w:World) (h:GM G g w) (hn:GN g) (hr:r < g.n) (hc:c < g.n) :
  Calls Tryz.prog 49 #[pt G.gb,iv r,iv c] w fun e w'=>e=.returned (.bool (Pl.tightB g r c))∧Below w.heap.size w w':=by
 obtain ⟨R,hR⟩:∃ R,R=Pl.tightB g r c:=⟨_,rfl⟩; rw [← hR]; obtain ⟨f0,f1,f2,f3,f4⟩:=h.fields (by omega); obtain ⟨g1,o1,a,cp,g2,o2,i1,e1,i2,e2⟩:=h.val hr hc; have x1:=h.rows.cell hr; have x2:=h.cols.cell hc
 have j1:=fun kd W=>ib_idx (g:=G.rb) (n:=g.n) (cap:=G.rc) hr kd W
 have j2:=fun kd W=>ib_idx (g:=G.kb) (n:=g.n) (cap:=G.kc) hc kd W
 have hv:=hn.V r c hr hc; have hw:IntKind.i64.wrap (g.rows r+g.cols c)=g.rows r+g.cols c:=wrapI (by have:=hn.rows r; have:=hn.cols c hc; omega) (by have:=hn.rows r; have:=hn.cols c hc; omega); obtain ⟨v,hve⟩:∃ v,v=g.V r c:=⟨_,rfl⟩; obtain ⟨p,hp⟩:∃ p,p=g.rows r:=⟨_,rfl⟩; obtain ⟨q,hq⟩:∃ q,q=g.cols c:=⟨_,rfl⟩; rw [← hve] at e2 hv; rw [← hp] at x1 hw; rw [← hq] at x2 hw; have hA:=hid (fun n=>below_drewM (Below.refl w.heap.size w) n)
 have hRv:R=(decide (0≤v) && decide (p+q=v)):=by rw [hR,hve,hp,hq]; rfl
 by_cases h0:0≤v
 ·have q0:decide (v < 0)=false:=decide_eq_false (by omega)
  have q1:decide (0≤v)=true:=decide_eq_true h0; have hR2:=hid (show R=(p+q == v) from by rw [hRv,q1]; exact (Bool.eq_iff_iff.2 (by simp))); replace hR:=hid hR; replace hRv:=hid hRv; replace hve:=hid hve; replace hp:=hid hp; replace hq:=hid hq; replace h:=hid h; replace hn:=hid hn
  go_enter Tryz.func49,Tryz.ntmps49
  go_wp2_with fail
  go_quiet (fail)
  all_goals go_wp2_with fail
  all_goals go_ret
  all_goals exact ⟨by rw [hR2.out]; rfl,hA.out _⟩
 ·have q0:decide (v < 0)=true:=decide_eq_true (by omega)
  have q1:decide (0≤v)=false:=decide_eq_false h0; have hR2:=hid (show R=false from by rw [hRv,q1]; rfl); replace hR:=hid hR; replace hRv:=hid hRv; replace hve:=hid hve; replace hp:=hid hp; replace hq:=hid hq; replace h:=hid h; replace hn:=hid hn
  go_enter Tryz.func49,Tryz.ntmps49
  go_wp2_with fail
  go_quiet (fail)
  all_goals go_wp2_with fail
  all_goals go_ret
  all_goals exact ⟨by rw [hR2.out]; rfl,hA.out _⟩
end Go.Proofs.YtfejagpjahoibaaGreatDoor
