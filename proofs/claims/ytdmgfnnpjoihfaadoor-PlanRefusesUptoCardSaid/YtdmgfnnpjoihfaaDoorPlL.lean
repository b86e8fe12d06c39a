/- plan, the plan's memory while it is made. -/
import Derived.Test.YtdmgfnnpjoihfaaDoorPlZ
set_option linter.unusedVariables false
set_option linter.unusedSimpArgs false
namespace Go.Proofs.YtdmgfnnpjoihfaaDoor
open Go.RowKit
open Go.Lib (hid)
theorem infoCmdP:(Tryd.prog.info? 41).map (fun i=>(i.zero,i.size,i.bytes))=some (some (.agg #[.string .empty,.int .i64 0,.string .empty,.string .empty,.string .empty,.slice none 0 0]),6,96):=by kernel_rfl
theorem infoStrP:(Tryd.prog.info? 9).map (fun i=>(i.zero,i.size,i.bytes))=some (some (.string .empty),1,16):=by kernel_rfl
abbrev CmdO (S:Foot) (w:World) (l:List Cmd) (v:Value):Prop:=OwnR 41 6 CmdR S w l v
abbrev StrO (w:World) (l:List (List UInt8)) (v:Value):Prop:=OwnR 9 1 StrR (fun k=>v.ownBlock=some k) w l v
structure PLM (w0:World) (pb:Nat) (st un:List Cmd) (re:List (List UInt8)) (co:Int) (vs vu vr:Value) (S1 S2:Foot) (w:World):Prop where
 blk:w.heap[pb]? = some (.cells #[vs,vr,iv co,.slice none 0 0,.slice none 0 0] 28 (0,0))
 s:CmdO S1 w st vs
 u:CmdO S2 w un vu
 r:StrO w re vr
 bel:Below w0.heap.size w0 w
 ge:w0.heap.size≤pb
 f1:∀ q,S1 q→w0.heap.size≤q∧q < w.heap.size∧q≠pb∧vr.ownBlock≠some q∧¬ S2 q
 f2:∀ q,S2 q→w0.heap.size≤q∧q < w.heap.size∧q≠pb∧vr.ownBlock≠some q
 f3:∀ q,vr.ownBlock=some q→w0.heap.size≤q∧q≠pb
section
variable {w0 w w':World} {pb:Nat} {st un:List Cmd} {re:List (List UInt8)} {co:Int} {vs vu vr:Value} {S1 S2:Foot}
theorem PLM.below (h:PLM w0 pb st un re co vs vu vr S1 S2 w) (hb:Below w.heap.size w w'):PLM w0 pb st un re co vs vu vr S1 S2 w' :=
 ⟨(hb.block _ (lt_of_heap h.blk)).trans h.blk,h.s.below goodCmd hb,h.u.below goodCmd hb,h.r.below goodStr hb,h.bel.trans (hb.mono h.bel.size),h.ge,fun q hq=>⟨(h.f1 q hq).1,Nat.lt_of_lt_of_le (h.f1 q hq).2.1 hb.size,(h.f1 q hq).2.2⟩,fun q hq=>⟨(h.f2 q hq).1,Nat.lt_of_lt_of_le (h.f2 q hq).2.1 hb.size,(h.f2 q hq).2.2⟩,h.f3⟩
theorem PLM.start (w:World):PLM w w.heap.size [] [] [] 0 (.slice none 0 0) (.slice none 0 0) (.slice none 0 0) (fun _=>False) (fun _=>False) (w.alloc (.cells #[.slice none 0 0,.slice none 0 0,iv 0,.slice none 0 0,.slice none 0 0] 28 (0,0))) :=
 ⟨heap_alloc_new' _ _,OwnR.nil _ _ _ _ _,OwnR.nil _ _ _ _ _,OwnR.nil _ _ _ _ _,(Below.refl _ w).alloc (Nat.le_refl _) _,Nat.le_refl _,fun q hq=>absurd hq id,fun q hq=>absurd hq id,fun q hq=>by simp [Value.ownBlock] at hq⟩
/-- the cost -/
theorem PLM.cost (h:PLM w0 pb st un re co vs vu vr S1 S2 w) (c:Int):PLM w0 pb st un re c vs vu vr S1 S2 (w.setCell ⟨pb,2,none⟩ (iv c)) :=
 ⟨heap_setCell_same (i:=2) h.blk _,h.s.move goodCmd fun q hq hs=>⟨hs,heap_setCell_other _ (h.f1 q hs).2.2.1⟩,h.u.move goodCmd fun q hq hs=>⟨hs,heap_setCell_other _ (h.f2 q hs).2.2.1⟩,h.r.move goodStr fun q hq hs=>⟨hs,heap_setCell_other _ (h.f3 q hs).2⟩,below_set h.bel h.ge _,h.ge,fun q hq=>by rw [World.size_setCell]; exact h.f1 q hq,fun q hq=>by rw [World.size_setCell]; exact h.f2 q hq,h.f3⟩
/-- a key behind the rest -/
theorem PLM.rest (h:PLM w0 pb st un re co vs vu vr S1 S2 w) (k:List UInt8) (hl:re.length≤1048576) (ty:Nat) :
  ∃ a' c' w2,AppRun Tryd.prog 24 24 ty vr (.slice (some ⟨w.heap.size,0,none⟩) 1 1) (.slice a' (re.length+1) c') (w.alloc (.cells #[sv k] 9 (0,0))) w2∧(∃ u,w2.cell? ⟨pb,1,none⟩=some u)∧w2.frozen? ⟨pb,1,none⟩=false ∧
   PLM w0 pb st un (re++[k]) co vs vu (.slice a' (re.length+1) c') S1 S2 (w2.setCell ⟨pb,1,none⟩ (.slice a' (re.length+1) c'))∧Below w0.heap.size w0 w2:=by
 obtain ⟨i0,hi,hz0,hz1,hz2⟩:=info_parts infoStrP; have hab:Below w.heap.size w (w.alloc (.cells #[sv k] 9 (0,0))):=(Below.refl _ _).alloc (Nat.le_refl _) _
 have hsz:(w.alloc (.cells #[sv k] 9 (0,0))).heap.size=w.heap.size+1:=by simp
 have hnew:=heap_alloc_new' w (.cells #[sv k] 9 (0,0)); have hA:=h.below hab; generalize w.alloc (.cells #[sv k] 9 (0,0))=W at *
 have hown:OwnR 9 1 StrR (fun q=>vr.ownBlock=some q∨W.heap.size≤q) W re vr:=OwnR.mono goodStr hA.r fun q _ hs=>Or.inl hs
 obtain ⟨v',w2,hap,hown2,hfr⟩:=OwnR.append1 (t:=24) (ty:=ty) (x:=k) goodStr (by kernel_rfl) hi hz0 hz1 hz2 rfl (by decide) hown (row_of_block (cs:=[sv k]) hnew rfl) rfl (by unfold maxLen; omega) (by omega) (fun q hq=>Or.inr hq); obtain ⟨xs,h1,h2,h3⟩:=hown2; have hO:StrO w2 (re++[k]) v':=⟨xs,h1,fun q hq=>hq,fun i x hx=>by obtain ⟨cs,h4,h5⟩:=h3 i x hx; exact ⟨cs,h4,h5⟩⟩; obtain ⟨a',c',hv',-⟩:=OwnR.slice hO; rw [List.length_append] at hv'; replace hv':v'=.slice a' (re.length+1) c':=hv'; subst hv'; have hpl:=lt_of_heap hA.blk; have hpb:=lt_of_heap h.blk; have hblk2:=(hfr.block pb hpl (fun e=>by rcases e with e | e; exact (h.f3 _ e).2 rfl; omega)).trans hA.blk; have hge:=h.ge; have hbs:=h.bel.size
 have hfw:∀ q,q < w.heap.size→vr.ownBlock≠some q→w2.heap[q]? = W.heap[q]?:=fun q hq hn=>hfr.block q (by omega) (fun e=>by rcases e with e | e; exact hn e; omega)
 have hnew2:∀ q,(Value.slice a' (re.length+1) c').ownBlock=some q→(vr.ownBlock=some q∨W.heap.size≤q):=h2; have hB2:=hA.bel.trans (hfr.to_below (by omega) fun q hq e=>by rcases e with e | e; have:=(h.f3 q e).1; omega; omega); refine ⟨a',c',w2,hap,⟨_,(cell_of hblk2).trans rfl⟩,free_of hblk2,⟨heap_setCell_same (i:=1) hblk2 _,?_,?_,?_,?_,hge,fun q hq=>?_,fun q hq=>?_,fun q hq=>?_⟩,hB2⟩
 ·exact hA.s.move goodCmd fun q hq hs=>⟨hs,(heap_setCell_other _ (h.f1 q hs).2.2.1).trans (hfw q (h.f1 q hs).2.1 (h.f1 q hs).2.2.2.1)⟩
 ·exact hA.u.move goodCmd fun q hq hs=>⟨hs,(heap_setCell_other _ (h.f2 q hs).2.2.1).trans (hfw q (h.f2 q hs).2.1 (h.f2 q hs).2.2.2)⟩
 ·refine OwnR.move goodStr hO fun q hq hs=>⟨hs,heap_setCell_other _ ?_⟩
  rcases hnew2 q hs with e | e
  ·exact (h.f3 q e).2
  ·omega
 ·exact below_set (hA.bel.trans (hfr.to_below (by omega) fun q hq e=>by rcases e with e | e; have:=(h.f3 q e).1; omega; omega)) hge _
 ·rw [World.size_setCell]
  have h5:=h.f1 q hq; refine ⟨h5.1,by have:=hfr.size; omega,h5.2.2.1,fun e=>?_,h5.2.2.2.2⟩; rcases hnew2 q e with e | e
  ·exact h5.2.2.2.1 e
  ·omega
 ·rw [World.size_setCell]
  have h5:=h.f2 q hq; refine ⟨h5.1,by have:=hfr.size; omega,h5.2.2.1,fun e=>?_⟩; rcases hnew2 q e with e | e
  ·exact h5.2.2.2 e
  ·omega
 ·rcases hnew2 q hq with e | e
  ·exact h.f3 q e
  ·exact ⟨by omega,by omega⟩
/-- a command behind a row of commands -/
theorem cmd_push {B:Nat} {l:List Cmd} {v:Value} {S:Foot} (h:CmdO S w l v) {c:Cmd} {va:Value} (ha:ValsR (fun q=>B≤q∧q < w.heap.size) w c.args va) (hv:∀ q,v.ownBlock=some q→q < B) (hS:∀ q,S q→q < w.heap.size) (hB:B≤w.heap.size) (hl:l.length≤1048576) (ty:Nat) {b:Nat} (hb:b=w.heap.size) :
  ∃ v' w2,AppRun Tryd.prog 25 25 ty v (.slice (some ⟨b,0,none⟩) 1 1) v' (w.alloc (.cells #[sv c.key,iv c.kind,sv c.of,sv c.new,sv c.name,va] 41 (0,0))) w2∧CmdO (fun q=>(S q∨B≤q)∧q < w2.heap.size) w2 (l++[c]) v'∧Fr S w w2:=by
 subst hb; obtain ⟨i0,hi,hz0,hz1,hz2⟩:=info_parts infoCmdP; have hab:Below w.heap.size w (w.alloc (.cells #[sv c.key,iv c.kind,sv c.of,sv c.new,sv c.name,va] 41 (0,0))):=(Below.refl _ _).alloc (Nat.le_refl _) _
 have hsz:(w.alloc (.cells #[sv c.key,iv c.kind,sv c.of,sv c.new,sv c.name,va] 41 (0,0))).heap.size=w.heap.size+1:=by simp
 have hnew:=heap_alloc_new' w (.cells #[sv c.key,iv c.kind,sv c.of,sv c.new,sv c.name,va] 41 (0,0)); have hA:=h.below goodCmd hab; have haA:=ha.below goodVal hab; generalize w.alloc (.cells #[sv c.key,iv c.kind,sv c.of,sv c.new,sv c.name,va] 41 (0,0))=W at *
 have hSW:∀ q,v.ownBlock=some q→S q:=fun q hq=>by obtain ⟨xs,z1,z2,z3⟩:=h; exact z2 q hq
 obtain ⟨xs,z1,z2,z3⟩:=hA; obtain ⟨a1,c1,hva,-⟩:=haA.slice; subst hva
 -- the precise frame: the row's own block alone
 obtain ⟨v',w2,hrun,hown,hg,hvv⟩:=append_row W 0 25 ty 41 i0 _ 6 96 (by kernel_rfl) hi hz0 hz1 hz2 rfl (by decide) v l.length xs z1 _ _ 1 _ (row_of_block (cs:=cmdCs c (.slice a1 c.args.length c1)) hnew rfl) (fun u hu=>by
  simp only [List.mem_cons,List.not_mem_nil,or_false] at hu
  rcases hu with rfl | rfl | rfl | rfl | rfl | rfl <;> rfl) (by unfold maxLen; omega) (by omega) (Nat.zero_le _)
 have hfr:Fr (fun q=>v.ownBlock=some q) W w2:=(Fr.refl _ W).grown hg (fun q hq=>Or.inl hq); have hpush:=OwnR.push (T:=fun q=>S q∨B≤q) (x:=c) (v':=v') (cs:=cmdCs c (.slice a1 c.args.length c1)) goodCmd (⟨xs,z1,z2,z3⟩:CmdO S W l v) (w':=w2) (fun ys hys=>?_) hg hvv (fun q hq=>?_) ?_ ?_
 ·refine ⟨v',w2,⟨hrun⟩,hpush.mono goodCmd fun q hq hs=>⟨hs,hq⟩,?_⟩
  refine (Fr.of_below hab (fun q=>S q)).trans' hfr (fun _ x=>x) (fun i hi2 hs=>hSW i hs)
 ·have:=append_row W 0 25 ty 41 i0 _ 6 96 (by kernel_rfl) hi hz0 hz1 hz2 rfl (by decide) v l.length ys hys _ _ 1 _ (row_of_block (cs:=cmdCs c (.slice a1 c.args.length c1)) hnew rfl) (fun u hu=>by
   simp only [List.mem_cons,List.not_mem_nil,or_false] at hu
   rcases hu with rfl | rfl | rfl | rfl | rfl | rfl <;> rfl) (by unfold maxLen; omega) (by omega) (Nat.zero_le _)
  obtain ⟨v2,w3,hr3,ho3,-,-⟩:=this; rw [hrun] at hr3; injection hr3 with e1 e2; subst e1 e2; exact ho3
 ·exact Or.inl hq
 ·exact Or.inr (by omega)
 ·exact cmdR_shut (haA.mono goodVal fun q hq hs=>⟨Or.inr hs.1,fun e=>by have:=hv q e; omega,hq⟩)
/-- a command behind the undone ones -/
theorem PLM.undo {W:World} (h:PLM w0 pb st un re co vs vu vr S1 S2 w) (hb:Below w.heap.size w W) {c:Cmd} {va:Value} (ha:ValsR (fun q=>w.heap.size≤q∧q < W.heap.size) W c.args va) (hl:un.length≤1048576) (ty:Nat) {b:Nat} (hbb:b=W.heap.size) :
  ∃ v' w2 S3,AppRun Tryd.prog 25 25 ty vu (.slice (some ⟨b,0,none⟩) 1 1) v' (W.alloc (.cells #[sv c.key,iv c.kind,sv c.of,sv c.new,sv c.name,va] 41 (0,0))) w2∧PLM w0 pb st (un++[c]) re co vs v' vr S1 S3 w2∧Fr S2 W w2:=by
 have hW:=h.below hb; have hbs:=h.bel.size; have hws:=hb.size; obtain ⟨v',w2,hap,hO,hf⟩:=cmd_push hW.u ha (fun q hq=>by obtain ⟨xs,z1,z2,z3⟩:=h.u; exact (h.f2 q (z2 q hq)).2.1) (fun q hq=>(hW.f2 q hq).2.1) hws hl ty hbb; have hpl:=lt_of_heap h.blk
 have hnot:∀ q,q < w.heap.size→S1 q→¬ S2 q:=fun q _ h1 h2=>(h.f1 q h1).2.2.2.2 h2
 refine ⟨v',w2,_,hap,⟨(hf.block pb (by omega) (fun e=>(h.f2 _ e).2.2.1 rfl)).trans hW.blk,hW.s.fr goodCmd hf (fun q hq=>(h.f1 q hq).2.2.2.2),hO,hW.r.fr goodStr hf (fun q hq e=>(h.f2 q e).2.2.2 hq),hW.bel.trans (hf.to_below (by omega) fun q hq e=>by have:=(h.f2 q e).1; omega),h.ge,fun q hq=>?_,fun q hq=>?_,h.f3⟩,hf⟩
 ·have h5:=h.f1 q hq
  exact ⟨h5.1,by have:=hf.size; omega,h5.2.2.1,h5.2.2.2.1,fun e=>by rcases e.1 with e | e; exact h5.2.2.2.2 e; omega⟩
 ·rcases hq.1 with e | e
  ·have h5:=h.f2 q e
   exact ⟨h5.1,hq.2,h5.2.2⟩
  ·exact ⟨by omega,hq.2,by omega,fun e2=>by have:=OwnR.lt h.r e2; omega⟩
/-- a command behind the steps -/
theorem PLM.step {W:World} (h:PLM w0 pb st un re co vs vu vr S1 S2 w) (hb:Below w.heap.size w W) {c:Cmd} {va:Value} (ha:ValsR (fun q=>w.heap.size≤q∧q < W.heap.size) W c.args va) (hl:st.length≤1048576) (ty:Nat) {b:Nat} (hbb:b=W.heap.size) :
  ∃ a' c' w2 S3,AppRun Tryd.prog 25 25 ty vs (.slice (some ⟨b,0,none⟩) 1 1) (.slice a' (st.length+1) c') (W.alloc (.cells #[sv c.key,iv c.kind,sv c.of,sv c.new,sv c.name,va] 41 (0,0))) w2∧(∃ u,w2.cell? ⟨pb,0,none⟩=some u)∧w2.frozen? ⟨pb,0,none⟩=false ∧
   PLM w0 pb (st++[c]) un re co (.slice a' (st.length+1) c') vu vr S3 S2 (w2.setCell ⟨pb,0,none⟩ (.slice a' (st.length+1) c'))∧Fr S1 W w2∧Below w0.heap.size w0 w2:=by
 have hW:=h.below hb; have hbs:=h.bel.size; have hws:=hb.size; obtain ⟨v',w2,hap,hO,hf⟩:=cmd_push hW.s ha (fun q hq=>by obtain ⟨xs,z1,z2,z3⟩:=h.s; exact (h.f1 q (z2 q hq)).2.1) (fun q hq=>(hW.f1 q hq).2.1) hws hl ty hbb; obtain ⟨a',c',hv',-⟩:=OwnR.slice hO; rw [List.length_append] at hv'; replace hv':v'=.slice a' (st.length+1) c':=hv'; subst hv'; have hpl:=lt_of_heap h.blk; have hblk2:=(hf.block pb (by omega) (fun e=>(h.f1 _ e).2.2.1 rfl)).trans hW.blk; have hfs:=hf.size; refine ⟨a',c',w2,_,hap,⟨_,(cell_of hblk2).trans rfl⟩,free_of hblk2,⟨heap_setCell_same (i:=0) hblk2 _,hO.move goodCmd fun q hq hs=>⟨hs,heap_setCell_other _ ?_⟩,?_,?_,?_,h.ge,fun q hq=>?_,fun q hq=>?_,h.f3⟩,hf,hW.bel.trans (hf.to_below (by omega) fun q hq e=>by have:=(h.f1 q e).1; omega)⟩
 ·rcases hs.1 with e | e
  ·exact (h.f1 q e).2.2.1
  ·omega
 ·exact hW.u.move goodCmd fun q hq hs=>⟨hs,(heap_setCell_other _ (h.f2 q hs).2.2.1).trans (hf.block q hq (fun e=>(h.f1 q e).2.2.2.2 hs))⟩
 ·exact hW.r.move goodStr fun q hq hs=>⟨hs,(heap_setCell_other _ (h.f3 q hs).2).trans (hf.block q hq (fun e=>(h.f1 q e).2.2.2.1 hs))⟩
 ·exact below_set (hW.bel.trans (hf.to_below (by omega) fun q hq e=>by have:=(h.f1 q e).1; omega)) h.ge _
 ·rw [World.size_setCell]
  rcases hq.1 with e | e
  ·have h5:=h.f1 q e
   exact ⟨h5.1,hq.2,h5.2.2⟩
  ·exact ⟨by omega,hq.2,by omega,fun e2=>by have:=OwnR.lt h.r e2; omega,fun e2=>by have:=(h.f2 q e2).2.1; omega⟩
 ·rw [World.size_setCell]
  have h5:=h.f2 q hq; exact ⟨h5.1,by omega,h5.2.2⟩
set_option maxRecDepth 100000 in
/-- the undone ones behind the steps -/
theorem PLM.join (h:PLM w0 pb st un re co vs vu vr S1 S2 w) (hl:st.length≤1000) (hu:un.length≤1000) (ty:Nat) :
  ∃ a' c' w2 S3,AppRun Tryd.prog 25 25 ty vs vu (.slice a' (st.length+un.length) c') w w2∧(∃ u,w2.cell? ⟨pb,0,none⟩=some u)∧w2.frozen? ⟨pb,0,none⟩=false ∧
   PLM w0 pb (st++un) [] re co (.slice a' (st.length+un.length) c') (.slice none 0 0) vr S3 (fun _=>False) (w2.setCell ⟨pb,0,none⟩ (.slice a' (st.length+un.length) c')):=by
 obtain ⟨i0,hi,hz0,hz1,hz2⟩:=info_parts infoCmdP; have hus:=h.u; obtain ⟨xu,u1,u2,u3⟩:=hus; have hrow:Row w.heap.size w 6 vu un.length xu:=Row.of_owns u1
 have hs0:CmdO (fun q=>S1 q∨S2 q∨w.heap.size≤q) w st vs:=h.s.mono goodCmd fun q _ hq=>Or.inl hq
 obtain ⟨v',w2,hap,hO,hf⟩:=OwnR.appendN (t:=25) (ty:=ty) (m:=un) goodCmd (by kernel_rfl) hi hz0 hz1 hz2 rfl (by decide) hs0 hrow (fun u hu=>by
  obtain ⟨p,hp⟩:=List.getElem?_of_mem hu; have hpl:=(List.getElem?_eq_some_iff.1 hp).1; rw [u1.1] at hpl
  have hin:p / 6 < un.length:=by omega
  obtain ⟨cs,h4,h5⟩:=u3 (p / 6) _ (List.getElem?_eq_getElem hin); have hcl:=goodCmd.len h5; obtain ⟨u',hu'⟩:∃ u',cs[p % 6]? = some u':=⟨_,List.getElem?_eq_getElem (by omega)⟩; have h6:=h4 _ _ hu'; rw [show p / 6 * 6+p % 6=p by omega,hp] at h6; injection h6 with h6; rw [h6]
  exact goodCmd.one h5 u' (List.mem_of_getElem? hu')) (fun n y hy=>by
  obtain ⟨cs,h4,h5⟩:=u3 n y hy
  exact ⟨cs,h4,goodCmd.mono h5 fun q _ hq=>⟨Or.inr (Or.inl hq.1),fun e=>by
   obtain ⟨xs,z1,z2,z3⟩:=h.s
   exact (h.f1 q (z2 q e)).2.2.2.2 hq.1⟩⟩) (by unfold maxLen; omega) (by omega) (fun q hq=>Or.inr (Or.inr hq))
 obtain ⟨a',c',hv',-⟩:=OwnR.slice hO; rw [List.length_append] at hv'; subst hv'; have hpl:=lt_of_heap h.blk; have hblk2:=(hf.block pb hpl (fun e=>by rcases e with e | e | e; exact (h.f1 _ e).2.2.1 rfl; exact (h.f2 _ e).2.2.1 rfl; omega)).trans h.blk; have hfs:=hf.size; have hbs:=h.bel.size
 have hO2:CmdO (fun q=>(S1 q∨S2 q∨w.heap.size≤q)∧q < w2.heap.size) w2 (st++un) (.slice a' (st.length+un.length) c'):=hO.mono goodCmd fun q hq hs=>⟨hs,hq⟩
 have hge:=h.ge; refine ⟨a',c',w2,_,hap,⟨_,(cell_of hblk2).trans rfl⟩,free_of hblk2,heap_setCell_same (i:=0) hblk2 _,hO2.move goodCmd fun q hq hs=>⟨hs,heap_setCell_other _ ?_⟩,OwnR.nil _ _ _ _ _,?_,?_,hge,fun q hq=>?_,fun q hq=>absurd hq id,h.f3⟩
 ·rcases hs.1 with e | e | e
  ·exact (h.f1 q e).2.2.1
  ·exact (h.f2 q e).2.2.1
  ·omega
 ·exact h.r.move goodStr fun q hq hs=>⟨hs,(heap_setCell_other _ (h.f3 q hs).2).trans (hf.block q hq (fun e=>by rcases e with e | e | e; exact (h.f1 q e).2.2.2.1 hs; exact (h.f2 q e).2.2.2 hs; omega))⟩
 ·exact below_set (h.bel.trans (hf.to_below (by omega) fun q hq e=>by rcases e with e | e | e; have:=(h.f1 q e).1; omega; have:=(h.f2 q e).1; omega; omega)) hge _
 ·rw [World.size_setCell]
  rcases hq.1 with e | e | e
  ·have h5:=h.f1 q e
   exact ⟨h5.1,hq.2,h5.2.2.1,h5.2.2.2.1,id⟩
  ·have h5:=h.f2 q e
   exact ⟨h5.1,hq.2,h5.2.2.1,h5.2.2.2,id⟩
  ·exact ⟨by omega,hq.2,by omega,fun e2=>by have:=OwnR.lt h.r e2; omega,id⟩
end
end Go.Proofs.YtdmgfnnpjoihfaaDoor
