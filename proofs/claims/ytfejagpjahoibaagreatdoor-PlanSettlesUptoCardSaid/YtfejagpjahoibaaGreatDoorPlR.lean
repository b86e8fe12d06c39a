/- plan, prepare's memory: the settlement while its options are found. -/
import Derived.Test.YtfejagpjahoibaaGreatDoorPlJ
set_option linter.unusedVariables false
set_option linter.unusedSimpArgs false
namespace Go.Proofs.YtfejagpjahoibaaGreatDoor
open Go.RowKit
open Go.Lib (hid)
/-- a row of options of its own -/
def OO (w:World) (l:List Opt) (v:Value):Prop:=OwnR 102 3 OptR (fun k=>v.ownBlock=some k) w l v
theorem infoOptP:(Tryz.prog.info? 102).map (fun i=>(i.zero,i.size,i.bytes))=some (some (.agg #[.int .i64 0,.int .i64 0,.int .i64 0]),3,24):=by kernel_rfl
theorem OO.keep {w w':World} {l:List Opt} {v:Value} (h:OO w l v) (hb:∀ k,v.ownBlock=some k→w'.heap[k]? = w.heap[k]?):OO w' l v:=OwnR.move goodOpt h fun k _ hs=>⟨hs,hb k hs⟩
theorem OO.lt {w:World} {l:List Opt} {v:Value} (h:OO w l v) {k:Nat} (hk:v.ownBlock=some k):k < w.heap.size:=OwnR.lt h hk
theorem OO.sl {w:World} {l:List Opt} {v:Value} (h:OO w l v) {S:Foot} (hs:∀ k,v.ownBlock=some k→S k):SlR 3 OptR S w l v:=(OwnR.sl goodOpt h).mono goodOpt fun k _ hk=>hs k hk
theorem OO.nil (w:World):OO w [] (.slice none 0 0):=OwnR.nil _ _ _ _ _
theorem OO.push {w:World} {l:List Opt} {v:Value} (h:OO w l v) (o:Opt) (hl:l.length≤1048576) (ty:Nat) :
  ∃ v' w2,AppRun Tryz.prog 96 96 ty v (.slice (some ⟨w.heap.size,0,none⟩) 1 1) v' (w.alloc (.cells #[iv o.kind,iv o.cost,iv o.weight] 102 (0,0))) w2∧OO w2 (l++[o]) v'∧(∀ k,v'.ownBlock=some k→v.ownBlock=some k∨w.heap.size≤k)∧Fr (fun k=>v.ownBlock=some k) w w2:=by
 obtain ⟨i0,hi,hz0,hz1,hz2⟩:=info_parts infoOptP; have hab:Below w.heap.size w (w.alloc (.cells #[iv o.kind,iv o.cost,iv o.weight] 102 (0,0))):=(Below.refl _ _).alloc (Nat.le_refl _) _
 have hsz:(w.alloc (.cells #[iv o.kind,iv o.cost,iv o.weight] 102 (0,0))).heap.size=w.heap.size+1:=by simp
 have hnew:=heap_alloc_new' w (.cells #[iv o.kind,iv o.cost,iv o.weight] 102 (0,0))
 have hA:OO _ l v:=h.keep fun k hk=>hab.block k (h.lt hk)
 generalize w.alloc (.cells #[iv o.kind,iv o.cost,iv o.weight] 102 (0,0))=W at *
 have hown:OwnR 102 3 OptR (fun k=>v.ownBlock=some k∨W.heap.size≤k) W l v:=OwnR.mono goodOpt hA fun k _ hs=>Or.inl hs
 obtain ⟨v',w2,hap,hown2,hfr⟩:=OwnR.append1 (t:=96) (ty:=ty) (x:=o) goodOpt (by kernel_rfl) hi hz0 hz1 hz2 rfl (by decide) hown (row_of_block (cs:=[iv o.kind,iv o.cost,iv o.weight]) hnew rfl) rfl (by unfold maxLen; omega) (by omega) (fun k hk=>Or.inr hk); obtain ⟨xs,h1,h2,h3⟩:=hown2; refine ⟨v',w2,hap,⟨xs,h1,fun k hk=>hk,fun i x hx=>?_⟩,fun k hk=>?_,(Fr.of_below hab _).trans' hfr (fun _ x=>x) (fun i hi hs=>by rcases hs with h9 | h9; exact h9; omega)⟩
 ·obtain ⟨cs,h4,h5⟩:=h3 i x hx
  exact ⟨cs,h4,h5⟩
 ·rcases h2 k hk with e | e
  ·exact Or.inl e
  ·right; omega
structure PrM (w0:World) (xb rb mb:Nat) (ua da:Option Addr) (uc dc m k:Nat) (turn:Int) (R:List (List UInt8)) (dr gv:List Opt) (va vg:Value) (M:Nat) (A:Int→Int→Option Opt) (K:List (Nat × Obj)) (w:World):Prop where
 blk:w.heap[xb]? = some (.cells #[.slice ua m uc,.slice da k dc,iv turn,.map (some rb),va,vg,.map (some mb)] 98 (0,0))
 set:SetM rb R w
 am:AmM mb M A w
 pa:OO w dr va
 pg:OO w gv vg
 bel:Below w0.heap.size w0 w
 ge:w0.heap.size≤xb∧w0.heap.size≤rb∧w0.heap.size≤mb
 ne:xb≠rb∧xb≠mb∧rb≠mb
 oa:∀ q,va.ownBlock=some q→w0.heap.size≤q∧q≠xb∧q≠rb∧q≠mb∧vg.ownBlock≠some q
 og:∀ q,vg.ownBlock=some q→w0.heap.size≤q∧q≠xb∧q≠rb∧q≠mb
 kp:∀ p∈K,w.heap[p.1]? = some p.2∧w0.heap.size≤p.1∧p.1≠xb∧p.1≠rb∧p.1≠mb∧va.ownBlock≠some p.1∧vg.ownBlock≠some p.1
section
variable {w0:World} {xb rb mb:Nat} {ua da:Option Addr} {uc dc m k:Nat} {turn:Int} {R:List (List UInt8)} {dr gv:List Opt} {va vg:Value} {M:Nat} {A:Int→Int→Option Opt} {K:List (Nat × Obj)} {w w':World}
/-- a step that leaves the settlement alone -/
theorem PrM.fr (h:PrM w0 xb rb mb ua da uc dc m k turn R dr gv va vg M A K w) {F:Foot} (hf:Fr F w w') (h0:∀ q,F q→w0.heap.size≤q) (h1:¬ F xb) (h2:¬ F rb) (h3:¬ F mb) (h4:∀ q,va.ownBlock=some q→¬ F q) (h5:∀ q,vg.ownBlock=some q→¬ F q) (h6:∀ p∈K,¬ F p.1):PrM w0 xb rb mb ua da uc dc m k turn R dr gv va vg M A K w' :=
 ⟨(hf.block _ (lt_of_heap h.blk) h1).trans h.blk,h.set.fr hf h2,h.am.same (hf.block _ h.am.lt h3),h.pa.keep fun q hq=>hf.block q (h.pa.lt hq) (h4 q hq),h.pg.keep fun q hq=>hf.block q (h.pg.lt hq) (h5 q hq),h.bel.trans (hf.to_below h.bel.size fun q hq hF=>by have:=h0 q hF; omega),h.ge,h.ne,h.oa,h.og,fun p hp=>⟨(hf.block _ (lt_of_some (h.kp p hp).1) (h6 p hp)).trans (h.kp p hp).1,(h.kp p hp).2⟩⟩
theorem PrM.below (h:PrM w0 xb rb mb ua da uc dc m k turn R dr gv va vg M A K w) (hb:Below w.heap.size w w'):PrM w0 xb rb mb ua da uc dc m k turn R dr gv va vg M A K w' :=
 h.fr (Fr.of_below hb (fun _=>False)) (fun _ h=>absurd h id) id id id (fun _ _=>id) (fun _ _=>id) (fun _ _=>id)
theorem PrM.alloc (h:PrM w0 xb rb mb ua da uc dc m k turn R dr gv va vg M A K w) (o:Obj):PrM w0 xb rb mb ua da uc dc m k turn R dr gv va vg M A ((w.heap.size,o)::K) (w.alloc o):=by
 have h1:=h.below ((Below.refl _ w).alloc (Nat.le_refl _) o); refine ⟨h1.blk,h1.set,h1.am,h1.pa,h1.pg,h1.bel,h1.ge,h1.ne,h1.oa,h1.og,fun p hp=>?_⟩; rcases List.mem_cons.1 hp with rfl | hp
 ·have a:=lt_of_heap h.blk
  have b:=h.set.lt; have c:=h.am.lt; exact ⟨heap_alloc_new' w o,h.bel.size,by show w.heap.size≠xb; omega,by show w.heap.size≠rb; omega,by show w.heap.size≠mb; omega,fun e=>by have:=h.pa.lt e; simp at this,fun e=>by have:=h.pg.lt e; simp at this⟩
 ·exact h1.kp p hp
theorem PrM.less (h:PrM w0 xb rb mb ua da uc dc m k turn R dr gv va vg M A K w) {K':List (Nat × Obj)} (hs:∀ p∈K',p∈K):PrM w0 xb rb mb ua da uc dc m k turn R dr gv va vg M A K' w :=
 ⟨h.blk,h.set,h.am,h.pa,h.pg,h.bel,h.ge,h.ne,h.oa,h.og,fun p hp=>h.kp p (hs p hp)⟩
set_option maxRecDepth 100000 in
/-- a refused key -/
theorem PrM.putR (h:PrM w0 xb rb mb ua da uc dc m k turn R dr gv va vg M A K w) {s:List UInt8} (hs:s.length≤1048576) (hR:R.length≤1048576) :
  ∃ w',(Instr.mapUpdate 94 (.map (some rb)) (sv s) (.bool true)).run Tryz.prog w=.ok () w'∧PrM w0 xb rb mb ua da uc dc m k turn (s::R) dr gv va vg M A K w':=by
 obtain ⟨w',e1,e2,e3⟩:=h.set.put hs hR; have hf:Fr (fun q=>q=rb) w w':=(Fr.refl (fun q=>q=rb) w).grown e3 (fun q hq=>Or.inl (by injection hq with hq; exact hq.symm)); have hne:=h.ne; exact ⟨w',e1,⟨(hf.block _ (lt_of_heap h.blk) hne.1).trans h.blk,e2,h.am.same (hf.block _ h.am.lt (fun e=>hne.2.2 e.symm)),h.pa.keep fun q hq=>hf.block q (h.pa.lt hq) (h.oa q hq).2.2.1,h.pg.keep fun q hq=>hf.block q (h.pg.lt hq) (h.og q hq).2.2.1,h.bel.trans (hf.to_below h.bel.size fun q hq e=>by have:=h.ge; omega),h.ge,hne,h.oa,h.og,fun p hp=>⟨(hf.block _ (lt_of_some (h.kp p hp).1) (h.kp p hp).2.2.2.1).trans (h.kp p hp).1,(h.kp p hp).2⟩⟩⟩
theorem PrM.perm (h:PrM w0 xb rb mb ua da uc dc m k turn R dr gv va vg M A K w) {T:List (List UInt8)} (hp:R.Perm T):PrM w0 xb rb mb ua da uc dc m k turn T dr gv va vg M A K w :=
 ⟨h.blk,h.set.perm hp,h.am,h.pa,h.pg,h.bel,h.ge,h.ne,h.oa,h.og,h.kp⟩
theorem PrM.congr (h:PrM w0 xb rb mb ua da uc dc m k turn R dr gv va vg M A K w) {B:Int→Int→Option Opt} (he:∀ r c,I64 r→I64 c→B r c=A r c):PrM w0 xb rb mb ua da uc dc m k turn R dr gv va vg M B K w :=
 ⟨h.blk,h.set,h.am.congr he,h.pa,h.pg,h.bel,h.ge,h.ne,h.oa,h.og,h.kp⟩
set_option maxRecDepth 100000 in
/-- an amendment that is possible -/
theorem PrM.putA (h:PrM w0 xb rb mb ua da uc dc m k turn R dr gv va vg M A K w) {r c:Int} (hr:I64 r) (hc:I64 c) (o:Opt) (hM:M < 1048576) :
  ∃ w',(Instr.mapUpdate 95 (.map (some mb)) (.agg #[iv r,iv c]) (optV o)).run Tryz.prog w=.ok () w'∧PrM w0 xb rb mb ua da uc dc m k turn R dr gv va vg (M+1) (fun r' c'=>if r'=r∧c'=c then some o else A r' c') K w':=by
 obtain ⟨w',e1,e2,e3⟩:=h.am.put hr hc o hM; have hf:Fr (fun q=>q=mb) w w':=(Fr.refl (fun q=>q=mb) w).grown e3 (fun q hq=>Or.inl (by injection hq with hq; exact hq.symm)); have hne:=h.ne; exact ⟨w',e1,⟨(hf.block _ (lt_of_heap h.blk) hne.2.1).trans h.blk,h.set.fr hf hne.2.2,e2,h.pa.keep fun q hq=>hf.block q (h.pa.lt hq) (h.oa q hq).2.2.2.1,h.pg.keep fun q hq=>hf.block q (h.pg.lt hq) (h.og q hq).2.2.2,h.bel.trans (hf.to_below h.bel.size fun q hq e=>by have:=h.ge; omega),h.ge,hne,h.oa,h.og,fun p hp=>⟨(hf.block _ (lt_of_some (h.kp p hp).1) (h.kp p hp).2.2.2.2.1).trans (h.kp p hp).1,(h.kp p hp).2⟩⟩⟩
/-- what happens to one more effect to undo -/
theorem PrM.pushA (h:PrM w0 xb rb mb ua da uc dc m k turn R dr gv va vg M A K w) (o:Opt) (hl:dr.length≤1048576) (ty:Nat) :
  ∃ a' c' w2,AppRun Tryz.prog 96 96 ty va (.slice (some ⟨w.heap.size,0,none⟩) 1 1) (.slice a' (dr.length+1) c') (w.alloc (.cells #[iv o.kind,iv o.cost,iv o.weight] 102 (0,0))) w2∧(∃ u,w2.cell? ⟨xb,4,none⟩=some u)∧w2.frozen? ⟨xb,4,none⟩=false ∧
   PrM w0 xb rb mb ua da uc dc m k turn R (dr++[o]) gv (.slice a' (dr.length+1) c') vg M A K (w2.setCell ⟨xb,4,none⟩ (.slice a' (dr.length+1) c')):=by
 obtain ⟨v',w2,hap,hO,hown,hf⟩:=h.pa.push o hl ty; obtain ⟨a',c',hv',-⟩:=OwnR.slice hO; rw [List.length_append] at hv'; replace hv':v'=.slice a' (dr.length+1) c':=hv'; subst hv'; have hxb:=lt_of_heap h.blk; have hrl:=h.set.lt; have hml:=h.am.lt; have hblk2:=(hf.block xb hxb (fun e=>(h.oa _ e).2.1 rfl)).trans h.blk; have hne:=h.ne; have hge:=h.ge; have hbs:=h.bel.size
 have hown':∀ q,(Value.slice a' (dr.length+1) c').ownBlock=some q→w0.heap.size≤q∧q≠xb∧q≠rb∧q≠mb∧vg.ownBlock≠some q:=fun q hq=>by
  rcases hown q hq with e | e
  ·exact h.oa q e
  ·exact ⟨by omega,by omega,by omega,by omega,fun e2=>by have:=h.pg.lt e2; omega⟩
 refine ⟨a',c',w2,hap,⟨_,(cell_of hblk2).trans rfl⟩,free_of hblk2,heap_setCell_same (i:=4) hblk2 _,?_,?_,?_,?_,?_,hge,hne,hown',h.og,fun p hp=>?_⟩
 ·exact (h.set.fr hf (fun e=>(h.oa _ e).2.2.1 rfl)).same (heap_setCell_other _ hne.1.symm)
 ·exact (h.am.same (hf.block _ hml (fun e=>(h.oa _ e).2.2.2.1 rfl))).same (heap_setCell_other _ hne.2.1.symm)
 ·exact hO.keep fun q hq=>heap_setCell_other _ (hown' q hq).2.1
 ·exact h.pg.keep fun q hq=>(heap_setCell_other _ (h.og q hq).2.1).trans (hf.block q (h.pg.lt hq) (fun e=>(h.oa q e).2.2.2.2 hq))
 ·exact below_set (h.bel.trans (hf.to_below hbs fun q hq e=>by have:=(h.oa q e).1; omega)) hge.1 _
 ·have hp':=h.kp p hp
  refine ⟨((heap_setCell_other _ hp'.2.2.1).trans (hf.block _ (lt_of_some hp'.1) hp'.2.2.2.2.2.1)).trans hp'.1,hp'.2.1,hp'.2.2.1,hp'.2.2.2.1,hp'.2.2.2.2.1,fun e=>?_,hp'.2.2.2.2.2.2⟩; rcases hown _ e with e2 | e2
  ·exact hp'.2.2.2.2.2.1 e2
  ·have:=lt_of_some hp'.1; omega
/-- what happens to one more effect to perform -/
theorem PrM.pushG (h:PrM w0 xb rb mb ua da uc dc m k turn R dr gv va vg M A K w) (o:Opt) (hl:gv.length≤1048576) (ty:Nat) :
  ∃ a' c' w2,AppRun Tryz.prog 96 96 ty vg (.slice (some ⟨w.heap.size,0,none⟩) 1 1) (.slice a' (gv.length+1) c') (w.alloc (.cells #[iv o.kind,iv o.cost,iv o.weight] 102 (0,0))) w2∧(∃ u,w2.cell? ⟨xb,5,none⟩=some u)∧w2.frozen? ⟨xb,5,none⟩=false ∧
   PrM w0 xb rb mb ua da uc dc m k turn R dr (gv++[o]) va (.slice a' (gv.length+1) c') M A K (w2.setCell ⟨xb,5,none⟩ (.slice a' (gv.length+1) c')):=by
 obtain ⟨v',w2,hap,hO,hown,hf⟩:=h.pg.push o hl ty; obtain ⟨a',c',hv',-⟩:=OwnR.slice hO; rw [List.length_append] at hv'; replace hv':v'=.slice a' (gv.length+1) c':=hv'; subst hv'; have hxb:=lt_of_heap h.blk; have hrl:=h.set.lt; have hml:=h.am.lt; have hblk2:=(hf.block xb hxb (fun e=>(h.og _ e).2.1 rfl)).trans h.blk; have hne:=h.ne; have hge:=h.ge; have hbs:=h.bel.size
 have hown':∀ q,(Value.slice a' (gv.length+1) c').ownBlock=some q→w0.heap.size≤q∧q≠xb∧q≠rb∧q≠mb:=fun q hq=>by
  rcases hown q hq with e | e
  ·exact h.og q e
  ·exact ⟨by omega,by omega,by omega,by omega⟩
 refine ⟨a',c',w2,hap,⟨_,(cell_of hblk2).trans rfl⟩,free_of hblk2,heap_setCell_same (i:=5) hblk2 _,?_,?_,?_,?_,?_,hge,hne,fun q hq=>?_,hown',fun p hp=>?_⟩
 ·exact (h.set.fr hf (fun e=>(h.og _ e).2.2.1 rfl)).same (heap_setCell_other _ hne.1.symm)
 ·exact (h.am.same (hf.block _ hml (fun e=>(h.og _ e).2.2.2 rfl))).same (heap_setCell_other _ hne.2.1.symm)
 ·exact h.pa.keep fun q hq=>(heap_setCell_other _ (h.oa q hq).2.1).trans (hf.block q (h.pa.lt hq) (fun e=>(h.oa q hq).2.2.2.2 e))
 ·exact hO.keep fun q hq=>heap_setCell_other _ (hown' q hq).2.1
 ·exact below_set (h.bel.trans (hf.to_below hbs fun q hq e=>by have:=(h.og q e).1; omega)) hge.1 _
 ·have ho:=h.oa q hq
  refine ⟨ho.1,ho.2.1,ho.2.2.1,ho.2.2.2.1,fun e=>?_⟩; rcases hown q e with e2 | e2
  ·exact ho.2.2.2.2 e2
  ·have:=h.pa.lt hq; omega
 ·have hp':=h.kp p hp
  refine ⟨((heap_setCell_other _ hp'.2.2.1).trans (hf.block _ (lt_of_some hp'.1) hp'.2.2.2.2.2.2)).trans hp'.1,hp'.2.1,hp'.2.2.1,hp'.2.2.2.1,hp'.2.2.2.2.1,hp'.2.2.2.2.2.1,fun e=>?_⟩; rcases hown _ e with e2 | e2
  ·exact hp'.2.2.2.2.2.2 e2
  ·have:=lt_of_some hp'.1; omega
theorem PrM.xa (h:PrM w0 xb rb mb ua da uc dc m k turn R dr gv va vg M A K w):XA xb rb turn R w:=⟨(cell_of h.blk).trans rfl,(cell_of h.blk).trans rfl,h.set,lt_of_heap h.blk⟩
/-- a kept option is stored anew -/
theorem PrM.setK (h:PrM w0 xb rb mb ua da uc dc m k turn R dr gv va vg M A K w) {b:Nat} {o0:Opt} (hb:(b,Obj.cells (optCs o0).toArray 102 (0,0))∈K) (o:Opt):PrM w0 xb rb mb ua da uc dc m k turn R dr gv va vg M A [(b,Obj.cells (optCs o).toArray 102 (0,0))] (setOpt w b o):=by
 obtain ⟨k1,k2,k3,k4,k5,k6,k7⟩:=h.kp _ hb; have hf:Fr (one b) w (setOpt w b o):=(((Fr.refl (one b) w).setCell (p:=⟨b,0,none⟩) (Or.inl rfl) _).setCell (p:=⟨b,1,none⟩) (Or.inl rfl) _).setCell (p:=⟨b,2,none⟩) (Or.inl rfl) _; have h1:=(h.less (K':=[]) (fun p hp=>by cases hp)).fr hf (fun q hq=>by unfold one at hq; subst hq; exact k2) (fun e=>k3 e.symm) (fun e=>k4 e.symm) (fun e=>k5 e.symm) (fun q hq e=>by unfold one at e; subst e; exact k6 hq) (fun q hq e=>by unfold one at e; subst e; exact k7 hq) (fun p hp=>by cases hp); refine ⟨h1.blk,h1.set,h1.am,h1.pa,h1.pg,h1.bel,h1.ge,h1.ne,h1.oa,h1.og,fun p hp=>?_⟩; rw [List.mem_singleton] at hp; subst hp; exact ⟨opt_set k1 o,k2,k3,k4,k5,k6,k7⟩
/-- the settlement, complete -/
theorem PrM.done {x:Stl} (h:PrM w0 xb rb mb ua da uc dc x.undo.length x.do.length x.turn x.refused x.drop x.give va vg M (amG x.amend x.undo.length x.do.length) K w) (hm:x.undo.length≤32) (hk:x.do.length≤32) (hM:M≤1048576) (hd:x.drop.length=x.undo.length) (hg:x.give.length=x.do.length) {S:Foot} (hu:SlR 5 OutR S w0 x.undo (.slice ua x.undo.length uc)) (hdo:SlR 5 OutR S w0 x.do (.slice da x.do.length dc)) :
  ∃ X:XB,X.xb=xb∧StM X x w∧(∀ q,X.F q→(S q∨w0.heap.size≤q)∧q < w.heap.size):=by
 obtain ⟨pa,pc,e1,-⟩:=OwnR.slice h.pa; obtain ⟨ga,gc,e2,-⟩:=OwnR.slice h.pg; rw [hd] at e1; rw [hg] at e2
 have hF:∀ q,q < w.heap.size→(S q∨w0.heap.size≤q)→((S q∨w0.heap.size≤q)∧q < w.heap.size):=fun q h1 h2=>⟨h2,h1⟩
 have hb:=h.bel.size; refine ⟨⟨xb,ua,uc,da,dc,rb,pa,pc,ga,gc,mb,fun q=>(S q∨w0.heap.size≤q)∧q < w.heap.size⟩,rfl,⟨by show w.heap[xb]? = some (.cells #[.slice ua x.undo.length uc,.slice da x.do.length dc,iv x.turn,.map (some rb),.slice pa x.undo.length pc,.slice ga x.do.length gc,.map (some mb)] 98 (0,0)); rw [← e1,← e2]; exact h.blk,hu.move goodOut fun q hq hs=>⟨⟨Or.inl hs,by omega⟩,h.bel.block q hq⟩,hdo.move goodOut fun q hq hs=>⟨⟨Or.inl hs,by omega⟩,h.bel.block q hq⟩,?_,?_,h.set,h.am.mono hM,hd,hg,hm,hk,⟨⟨Or.inr h.ge.1,lt_of_heap h.blk⟩,⟨Or.inr h.ge.2.1,h.set.lt⟩,⟨Or.inr h.ge.2.2,h.am.lt⟩⟩⟩,fun q hq=>hq⟩
 ·show SlR 3 OptR _ w x.drop (.slice pa x.undo.length pc)
  rw [← e1]; exact h.pa.sl fun q hq=>⟨Or.inr (h.oa q hq).1,h.pa.lt hq⟩
 ·show SlR 3 OptR _ w x.give (.slice ga x.do.length gc)
  rw [← e2]; exact h.pg.sl fun q hq=>⟨Or.inr (h.og q hq).1,h.pg.lt hq⟩
end
end Go.Proofs.YtfejagpjahoibaaGreatDoor
