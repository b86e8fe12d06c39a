/- PlM: PlL, PlM, in one text. -/
import Derived.Test.YtfejagpjahoibaaGreatDoorPlZ
set_option linter.unusedVariables false
set_option linter.unusedSimpArgs false
namespace Go.Proofs.YtfejagpjahoibaaGreatDoor
open Go.RowKit
open Go.Lib (hid)
theorem infoCmdP:(Tryz.prog.info? 41).map (fun i=>(i.zero,i.size,i.bytes))=some (some (.agg #[.string .empty,.int .i64 0,.string .empty,.string .empty,.string .empty,.slice none 0 0]),6,96):=by kernel_rfl
theorem infoStrP:(Tryz.prog.info? 9).map (fun i=>(i.zero,i.size,i.bytes))=some (some (.string .empty),1,16):=by kernel_rfl
abbrev CmdO (S:Foot) (w:World) (l:List Cmd) (v:Value):Prop:=OwnR 41 6 CmdR S w l v
abbrev StrO (w:World) (l:List (List UInt8)) (v:Value):Prop:=OwnR 9 1 StrR (fun k=>v.ownBlock=some k) w l v
structure PLM (w0:World) (pb:Nat) (st un:List Cmd) (re:List (List UInt8)) (co:Int) (vs vu vr:Value) (S1 S2:Foot) (w:World):Prop where
 blk:w.heap[pb]? = some (.cells #[vs,vr,iv co,.slice none 0 0,.slice none 0 0] 31 (0,0))
 s:CmdO S1 w st vs
 u:CmdO S2 w un vu
 r:StrO w re vr
 bel:Below w0.heap.size w0 w
 ge:w0.heap.size≤pb
 f1:∀ q,S1 q→w0.heap.size≤q∧q < w.heap.size∧q≠pb∧vr.ownBlock≠some q∧¬ S2 q
 f2:∀ q,S2 q→w0.heap.size≤q∧q < w.heap.size∧q≠pb∧vr.ownBlock≠some q
 f3:∀ q,vr.ownBlock=some q→w0.heap.size≤q∧q≠pb
section
variable {w0 w w':World} {pb:Nat} {st un:List Cmd} {re:List (List UInt8)} {co:Int} {vs vu vr:Value} {S1 S2:Foot}
theorem PLM.below (h:PLM w0 pb st un re co vs vu vr S1 S2 w) (hb:Below w.heap.size w w'):PLM w0 pb st un re co vs vu vr S1 S2 w' :=
 ⟨(hb.block _ (lt_of_heap h.blk)).trans h.blk,h.s.below goodCmd hb,h.u.below goodCmd hb,h.r.below goodStr hb,h.bel.trans (hb.mono h.bel.size),h.ge,fun q hq=>⟨(h.f1 q hq).1,Nat.lt_of_lt_of_le (h.f1 q hq).2.1 hb.size,(h.f1 q hq).2.2⟩,fun q hq=>⟨(h.f2 q hq).1,Nat.lt_of_lt_of_le (h.f2 q hq).2.1 hb.size,(h.f2 q hq).2.2⟩,h.f3⟩
theorem PLM.start (w:World):PLM w w.heap.size [] [] [] 0 (.slice none 0 0) (.slice none 0 0) (.slice none 0 0) (fun _=>False) (fun _=>False) (w.alloc (.cells #[.slice none 0 0,.slice none 0 0,iv 0,.slice none 0 0,.slice none 0 0] 31 (0,0))) :=
 ⟨heap_alloc_new' _ _,OwnR.nil _ _ _ _ _,OwnR.nil _ _ _ _ _,OwnR.nil _ _ _ _ _,(Below.refl _ w).alloc (Nat.le_refl _) _,Nat.le_refl _,fun q hq=>absurd hq id,fun q hq=>absurd hq id,fun q hq=>by simp [Value.ownBlock] at hq⟩
/-- the cost -/
theorem PLM.cost (h:PLM w0 pb st un re co vs vu vr S1 S2 w) (c:Int):PLM w0 pb st un re c vs vu vr S1 S2 (w.setCell ⟨pb,2,none⟩ (iv c)) :=
 ⟨heap_setCell_same (i:=2) h.blk _,h.s.move goodCmd fun q hq hs=>⟨hs,heap_setCell_other _ (h.f1 q hs).2.2.1⟩,h.u.move goodCmd fun q hq hs=>⟨hs,heap_setCell_other _ (h.f2 q hs).2.2.1⟩,h.r.move goodStr fun q hq hs=>⟨hs,heap_setCell_other _ (h.f3 q hs).2⟩,below_set h.bel h.ge _,h.ge,fun q hq=>by rw [World.size_setCell]; exact h.f1 q hq,fun q hq=>by rw [World.size_setCell]; exact h.f2 q hq,h.f3⟩
/-- a key behind the rest -/
theorem PLM.rest (h:PLM w0 pb st un re co vs vu vr S1 S2 w) (k:List UInt8) (hl:re.length≤1048576) (ty:Nat) :
  ∃ a' c' w2,AppRun Tryz.prog 24 24 ty vr (.slice (some ⟨w.heap.size,0,none⟩) 1 1) (.slice a' (re.length+1) c') (w.alloc (.cells #[sv k] 9 (0,0))) w2∧(∃ u,w2.cell? ⟨pb,1,none⟩=some u)∧w2.frozen? ⟨pb,1,none⟩=false ∧
   PLM w0 pb st un (re++[k]) co vs vu (.slice a' (re.length+1) c') S1 S2 (w2.setCell ⟨pb,1,none⟩ (.slice a' (re.length+1) c'))∧Below w0.heap.size w0 w2:=by
 obtain ⟨i0,hi,hz0,hz1,hz2⟩:=info_parts infoStrP; have hab:Below w.heap.size w (w.alloc (.cells #[sv k] 9 (0,0))):=(Below.refl _ _).alloc (Nat.le_refl _) _
 have hsz:(w.alloc (.cells #[sv k] 9 (0,0))).heap.size=w.heap.size+1:=by simp
 have hnew:=heap_alloc_new' w (.cells #[sv k] 9 (0,0)); have hA:=h.below hab; generalize w.alloc (.cells #[sv k] 9 (0,0))=W at *
 have hown:OwnR 9 1 StrR (fun q=>vr.ownBlock=some q∨W.heap.size≤q) W re vr:=OwnR.mono goodStr hA.r fun q _ hs=>Or.inl hs
 obtain ⟨v',w2,hap,hown2,hfr⟩:=OwnR.append1 (t:=24) (ty:=ty) (x:=k) goodStr (by kernel_rfl) hi hz0 hz1 hz2 rfl (by decide) hown (row_of_block (cs:=[sv k]) hnew rfl) rfl (by unfold maxLen; omega) (by omega) (fun q hq=>Or.inr hq); obtain ⟨xs,h1,h2,h3⟩:=hown2; have hO:StrO w2 (re++[k]) v':=⟨xs,h1,fun q hq=>hq,fun i x hx=>by obtain ⟨cs,h4,h5⟩:=h3 i x hx; exact ⟨cs,h4,h5⟩⟩; obtain ⟨a',c',hv',-⟩:=OwnR.slice hO; rw [List.length_append] at hv'; replace hv':v'=.slice a' (re.length+1) c':=hv'; subst hv'; have hpl:=lt_of_heap hA.blk; have hpb:=lt_of_heap h.blk; have hblk2:=(hfr.block pb hpl (fun e=>by rcases e with e | e; exact (h.f3 _ e).2 rfl; omega)).trans hA.blk; have hge:=h.ge; have hbs:=h.bel.size
 have hfw:∀ q,q < w.heap.size→vr.ownBlock≠some q→w2.heap[q]? = W.heap[q]?:=fun q hq hn=>hfr.block q (by omega) (fun e=>by rcases e with e | e; exact hn e; omega)
 have hnew2:∀ q,(Value.slice a' (re.length+1) c').ownBlock=some q→(vr.ownBlock=some q∨W.heap.size≤q):=h2; have hB2:=hA.bel.trans (hfr.to_below (by omega) fun q hq e=>by rcases e with e | e; have:=(h.f3 q e).1; omega; omega); refine ⟨a',c',w2,hap,⟨_,(cell_of hblk2).trans rfl⟩,free_of hblk2,⟨heap_setCell_same (i:=1) hblk2 _,?_,?_,?_,?_,hge,fun q hq=>?_,fun q hq=>?_,fun q hq=>?_⟩,hB2⟩
 ·exact hA.s.move goodCmd fun q hq hs=>⟨hs,(heap_setCell_other _ (h.f1 q hs).2.2.1).trans (hfw q (h.f1 q hs).2.1 (h.f1 q hs).2.2.2.1)⟩
 ·exact hA.u.move goodCmd fun q hq hs=>⟨hs,(heap_setCell_other _ (h.f2 q hs).2.2.1).trans (hfw q (h.f2 q hs).2.1 (h.f2 q hs).2.2.2)⟩
 ·refine OwnR.move goodStr hO fun q hq hs=>⟨hs,heap_setCell_other _ ?_⟩
  rcases hnew2 q hs with e | e
  ·exact (h.f3 q e).2
  ·omega
 ·exact below_set (hA.bel.trans (hfr.to_below (by omega) fun q hq e=>by rcases e with e | e; have:=(h.f3 q e).1; omega; omega)) hge _
 ·rw [World.size_setCell]
  have h5:=h.f1 q hq; refine ⟨h5.1,by have:=hfr.size; omega,h5.2.2.1,fun e=>?_,h5.2.2.2.2⟩; rcases hnew2 q e with e | e
  ·exact h5.2.2.2.1 e
  ·omega
 ·rw [World.size_setCell]
  have h5:=h.f2 q hq; refine ⟨h5.1,by have:=hfr.size; omega,h5.2.2.1,fun e=>?_⟩; rcases hnew2 q e with e | e
  ·exact h5.2.2.2 e
  ·omega
 ·rcases hnew2 q hq with e | e
  ·exact h.f3 q e
  ·exact ⟨by omega,by omega⟩
/-- a command behind a row of commands -/
theorem cmd_push {B:Nat} {l:List Cmd} {v:Value} {S:Foot} (h:CmdO S w l v) {c:Cmd} {va:Value} (ha:ValsR (fun q=>B≤q∧q < w.heap.size) w c.args va) (hv:∀ q,v.ownBlock=some q→q < B) (hS:∀ q,S q→q < w.heap.size) (hB:B≤w.heap.size) (hl:l.length≤1048576) (ty:Nat) {b:Nat} (hb:b=w.heap.size) :
  ∃ v' w2,AppRun Tryz.prog 28 28 ty v (.slice (some ⟨b,0,none⟩) 1 1) v' (w.alloc (.cells #[sv c.key,iv c.kind,sv c.of,sv c.new,sv c.name,va] 41 (0,0))) w2∧CmdO (fun q=>(S q∨B≤q)∧q < w2.heap.size) w2 (l++[c]) v'∧Fr S w w2:=by
 subst hb; obtain ⟨i0,hi,hz0,hz1,hz2⟩:=info_parts infoCmdP; have hab:Below w.heap.size w (w.alloc (.cells #[sv c.key,iv c.kind,sv c.of,sv c.new,sv c.name,va] 41 (0,0))):=(Below.refl _ _).alloc (Nat.le_refl _) _
 have hsz:(w.alloc (.cells #[sv c.key,iv c.kind,sv c.of,sv c.new,sv c.name,va] 41 (0,0))).heap.size=w.heap.size+1:=by simp
 have hnew:=heap_alloc_new' w (.cells #[sv c.key,iv c.kind,sv c.of,sv c.new,sv c.name,va] 41 (0,0)); have hA:=h.below goodCmd hab; have haA:=ha.below goodVal hab; generalize w.alloc (.cells #[sv c.key,iv c.kind,sv c.of,sv c.new,sv c.name,va] 41 (0,0))=W at *
 have hSW:∀ q,v.ownBlock=some q→S q:=fun q hq=>by obtain ⟨xs,z1,z2,z3⟩:=h; exact z2 q hq
 obtain ⟨xs,z1,z2,z3⟩:=hA; obtain ⟨a1,c1,hva,-⟩:=haA.slice; subst hva
 -- the precise frame: the row's own block alone
 obtain ⟨v',w2,hrun,hown,hg,hvv⟩:=append_row W 0 28 ty 41 i0 _ 6 96 (by kernel_rfl) hi hz0 hz1 hz2 rfl (by decide) v l.length xs z1 _ _ 1 _ (row_of_block (cs:=cmdCs c (.slice a1 c.args.length c1)) hnew rfl) (fun u hu=>by
  simp only [List.mem_cons,List.not_mem_nil,or_false] at hu
  rcases hu with rfl | rfl | rfl | rfl | rfl | rfl <;> rfl) (by unfold maxLen; omega) (by omega) (Nat.zero_le _)
 have hfr:Fr (fun q=>v.ownBlock=some q) W w2:=(Fr.refl _ W).grown hg (fun q hq=>Or.inl hq); have hpush:=OwnR.push (T:=fun q=>S q∨B≤q) (x:=c) (v':=v') (cs:=cmdCs c (.slice a1 c.args.length c1)) goodCmd (⟨xs,z1,z2,z3⟩:CmdO S W l v) (w':=w2) (fun ys hys=>?_) hg hvv (fun q hq=>?_) ?_ ?_
 ·refine ⟨v',w2,⟨hrun⟩,hpush.mono goodCmd fun q hq hs=>⟨hs,hq⟩,?_⟩
  refine (Fr.of_below hab (fun q=>S q)).trans' hfr (fun _ x=>x) (fun i hi2 hs=>hSW i hs)
 ·have:=append_row W 0 28 ty 41 i0 _ 6 96 (by kernel_rfl) hi hz0 hz1 hz2 rfl (by decide) v l.length ys hys _ _ 1 _ (row_of_block (cs:=cmdCs c (.slice a1 c.args.length c1)) hnew rfl) (fun u hu=>by
   simp only [List.mem_cons,List.not_mem_nil,or_false] at hu
   rcases hu with rfl | rfl | rfl | rfl | rfl | rfl <;> rfl) (by unfold maxLen; omega) (by omega) (Nat.zero_le _)
  obtain ⟨v2,w3,hr3,ho3,-,-⟩:=this; rw [hrun] at hr3; injection hr3 with e1 e2; subst e1 e2; exact ho3
 ·exact Or.inl hq
 ·exact Or.inr (by omega)
 ·exact cmdR_shut (haA.mono goodVal fun q hq hs=>⟨Or.inr hs.1,fun e=>by have:=hv q e; omega,hq⟩)
/-- a command behind the undone ones -/
theorem PLM.undo {W:World} (h:PLM w0 pb st un re co vs vu vr S1 S2 w) (hb:Below w.heap.size w W) {c:Cmd} {va:Value} (ha:ValsR (fun q=>w.heap.size≤q∧q < W.heap.size) W c.args va) (hl:un.length≤1048576) (ty:Nat) {b:Nat} (hbb:b=W.heap.size) :
  ∃ v' w2 S3,AppRun Tryz.prog 28 28 ty vu (.slice (some ⟨b,0,none⟩) 1 1) v' (W.alloc (.cells #[sv c.key,iv c.kind,sv c.of,sv c.new,sv c.name,va] 41 (0,0))) w2∧PLM w0 pb st (un++[c]) re co vs v' vr S1 S3 w2∧Fr S2 W w2:=by
 have hW:=h.below hb; have hbs:=h.bel.size; have hws:=hb.size; obtain ⟨v',w2,hap,hO,hf⟩:=cmd_push hW.u ha (fun q hq=>by obtain ⟨xs,z1,z2,z3⟩:=h.u; exact (h.f2 q (z2 q hq)).2.1) (fun q hq=>(hW.f2 q hq).2.1) hws hl ty hbb; have hpl:=lt_of_heap h.blk
 have hnot:∀ q,q < w.heap.size→S1 q→¬ S2 q:=fun q _ h1 h2=>(h.f1 q h1).2.2.2.2 h2
 refine ⟨v',w2,_,hap,⟨(hf.block pb (by omega) (fun e=>(h.f2 _ e).2.2.1 rfl)).trans hW.blk,hW.s.fr goodCmd hf (fun q hq=>(h.f1 q hq).2.2.2.2),hO,hW.r.fr goodStr hf (fun q hq e=>(h.f2 q e).2.2.2 hq),hW.bel.trans (hf.to_below (by omega) fun q hq e=>by have:=(h.f2 q e).1; omega),h.ge,fun q hq=>?_,fun q hq=>?_,h.f3⟩,hf⟩
 ·have h5:=h.f1 q hq
  exact ⟨h5.1,by have:=hf.size; omega,h5.2.2.1,h5.2.2.2.1,fun e=>by rcases e.1 with e | e; exact h5.2.2.2.2 e; omega⟩
 ·rcases hq.1 with e | e
  ·have h5:=h.f2 q e
   exact ⟨h5.1,hq.2,h5.2.2⟩
  ·exact ⟨by omega,hq.2,by omega,fun e2=>by have:=OwnR.lt h.r e2; omega⟩
/-- a command behind the steps -/
theorem PLM.step {W:World} (h:PLM w0 pb st un re co vs vu vr S1 S2 w) (hb:Below w.heap.size w W) {c:Cmd} {va:Value} (ha:ValsR (fun q=>w.heap.size≤q∧q < W.heap.size) W c.args va) (hl:st.length≤1048576) (ty:Nat) {b:Nat} (hbb:b=W.heap.size) :
  ∃ a' c' w2 S3,AppRun Tryz.prog 28 28 ty vs (.slice (some ⟨b,0,none⟩) 1 1) (.slice a' (st.length+1) c') (W.alloc (.cells #[sv c.key,iv c.kind,sv c.of,sv c.new,sv c.name,va] 41 (0,0))) w2∧(∃ u,w2.cell? ⟨pb,0,none⟩=some u)∧w2.frozen? ⟨pb,0,none⟩=false ∧
   PLM w0 pb (st++[c]) un re co (.slice a' (st.length+1) c') vu vr S3 S2 (w2.setCell ⟨pb,0,none⟩ (.slice a' (st.length+1) c'))∧Fr S1 W w2∧Below w0.heap.size w0 w2:=by
 have hW:=h.below hb; have hbs:=h.bel.size; have hws:=hb.size; obtain ⟨v',w2,hap,hO,hf⟩:=cmd_push hW.s ha (fun q hq=>by obtain ⟨xs,z1,z2,z3⟩:=h.s; exact (h.f1 q (z2 q hq)).2.1) (fun q hq=>(hW.f1 q hq).2.1) hws hl ty hbb; obtain ⟨a',c',hv',-⟩:=OwnR.slice hO; rw [List.length_append] at hv'; replace hv':v'=.slice a' (st.length+1) c':=hv'; subst hv'; have hpl:=lt_of_heap h.blk; have hblk2:=(hf.block pb (by omega) (fun e=>(h.f1 _ e).2.2.1 rfl)).trans hW.blk; have hfs:=hf.size; refine ⟨a',c',w2,_,hap,⟨_,(cell_of hblk2).trans rfl⟩,free_of hblk2,⟨heap_setCell_same (i:=0) hblk2 _,hO.move goodCmd fun q hq hs=>⟨hs,heap_setCell_other _ ?_⟩,?_,?_,?_,h.ge,fun q hq=>?_,fun q hq=>?_,h.f3⟩,hf,hW.bel.trans (hf.to_below (by omega) fun q hq e=>by have:=(h.f1 q e).1; omega)⟩
 ·rcases hs.1 with e | e
  ·exact (h.f1 q e).2.2.1
  ·omega
 ·exact hW.u.move goodCmd fun q hq hs=>⟨hs,(heap_setCell_other _ (h.f2 q hs).2.2.1).trans (hf.block q hq (fun e=>(h.f1 q e).2.2.2.2 hs))⟩
 ·exact hW.r.move goodStr fun q hq hs=>⟨hs,(heap_setCell_other _ (h.f3 q hs).2).trans (hf.block q hq (fun e=>(h.f1 q e).2.2.2.1 hs))⟩
 ·exact below_set (hW.bel.trans (hf.to_below (by omega) fun q hq e=>by have:=(h.f1 q e).1; omega)) h.ge _
 ·rw [World.size_setCell]
  rcases hq.1 with e | e
  ·have h5:=h.f1 q e
   exact ⟨h5.1,hq.2,h5.2.2⟩
  ·exact ⟨by omega,hq.2,by omega,fun e2=>by have:=OwnR.lt h.r e2; omega,fun e2=>by have:=(h.f2 q e2).2.1; omega⟩
 ·rw [World.size_setCell]
  have h5:=h.f2 q hq; exact ⟨h5.1,by omega,h5.2.2⟩
set_option maxRecDepth 100000 in
/-- the undone ones behind the steps -/
theorem PLM.join (h:PLM w0 pb st un re co vs vu vr S1 S2 w) (hl:st.length≤1000) (hu:un.length≤1000) (ty:Nat) :
  ∃ a' c' w2 S3,AppRun Tryz.prog 28 28 ty vs vu (.slice a' (st.length+un.length) c') w w2∧(∃ u,w2.cell? ⟨pb,0,none⟩=some u)∧w2.frozen? ⟨pb,0,none⟩=false ∧
   PLM w0 pb (st++un) [] re co (.slice a' (st.length+un.length) c') (.slice none 0 0) vr S3 (fun _=>False) (w2.setCell ⟨pb,0,none⟩ (.slice a' (st.length+un.length) c')):=by
 obtain ⟨i0,hi,hz0,hz1,hz2⟩:=info_parts infoCmdP; have hus:=h.u; obtain ⟨xu,u1,u2,u3⟩:=hus; have hrow:Row w.heap.size w 6 vu un.length xu:=Row.of_owns u1
 have hs0:CmdO (fun q=>S1 q∨S2 q∨w.heap.size≤q) w st vs:=h.s.mono goodCmd fun q _ hq=>Or.inl hq
 obtain ⟨v',w2,hap,hO,hf⟩:=OwnR.appendN (t:=28) (ty:=ty) (m:=un) goodCmd (by kernel_rfl) hi hz0 hz1 hz2 rfl (by decide) hs0 hrow (fun u hu=>by
  obtain ⟨p,hp⟩:=List.getElem?_of_mem hu; have hpl:=(List.getElem?_eq_some_iff.1 hp).1; rw [u1.1] at hpl
  have hin:p / 6 < un.length:=by omega
  obtain ⟨cs,h4,h5⟩:=u3 (p / 6) _ (List.getElem?_eq_getElem hin); have hcl:=goodCmd.len h5; obtain ⟨u',hu'⟩:∃ u',cs[p % 6]? = some u':=⟨_,List.getElem?_eq_getElem (by omega)⟩; have h6:=h4 _ _ hu'; rw [show p / 6 * 6+p % 6=p by omega,hp] at h6; injection h6 with h6; rw [h6]
  exact goodCmd.one h5 u' (List.mem_of_getElem? hu')) (fun n y hy=>by
  obtain ⟨cs,h4,h5⟩:=u3 n y hy
  exact ⟨cs,h4,goodCmd.mono h5 fun q _ hq=>⟨Or.inr (Or.inl hq.1),fun e=>by
   obtain ⟨xs,z1,z2,z3⟩:=h.s
   exact (h.f1 q (z2 q e)).2.2.2.2 hq.1⟩⟩) (by unfold maxLen; omega) (by omega) (fun q hq=>Or.inr (Or.inr hq))
 obtain ⟨a',c',hv',-⟩:=OwnR.slice hO; rw [List.length_append] at hv'; subst hv'; have hpl:=lt_of_heap h.blk; have hblk2:=(hf.block pb hpl (fun e=>by rcases e with e | e | e; exact (h.f1 _ e).2.2.1 rfl; exact (h.f2 _ e).2.2.1 rfl; omega)).trans h.blk; have hfs:=hf.size; have hbs:=h.bel.size
 have hO2:CmdO (fun q=>(S1 q∨S2 q∨w.heap.size≤q)∧q < w2.heap.size) w2 (st++un) (.slice a' (st.length+un.length) c'):=hO.mono goodCmd fun q hq hs=>⟨hs,hq⟩
 have hge:=h.ge; refine ⟨a',c',w2,_,hap,⟨_,(cell_of hblk2).trans rfl⟩,free_of hblk2,heap_setCell_same (i:=0) hblk2 _,hO2.move goodCmd fun q hq hs=>⟨hs,heap_setCell_other _ ?_⟩,OwnR.nil _ _ _ _ _,?_,?_,hge,fun q hq=>?_,fun q hq=>absurd hq id,h.f3⟩
 ·rcases hs.1 with e | e | e
  ·exact (h.f1 q e).2.2.1
  ·exact (h.f2 q e).2.2.1
  ·omega
 ·exact h.r.move goodStr fun q hq hs=>⟨hs,(heap_setCell_other _ (h.f3 q hs).2).trans (hf.block q hq (fun e=>by rcases e with e | e | e; exact (h.f1 q e).2.2.2.1 hs; exact (h.f2 q e).2.2.2 hs; omega))⟩
 ·exact below_set (h.bel.trans (hf.to_below (by omega) fun q hq e=>by rcases e with e | e | e; have:=(h.f1 q e).1; omega; have:=(h.f2 q e).1; omega; omega)) hge _
 ·rw [World.size_setCell]
  rcases hq.1 with e | e | e
  ·have h5:=h.f1 q e
   exact ⟨h5.1,hq.2,h5.2.2.1,h5.2.2.2.1,id⟩
  ·have h5:=h.f2 q e
   exact ⟨h5.1,hq.2,h5.2.2.1,h5.2.2.2,id⟩
  ·exact ⟨by omega,hq.2,by omega,fun e2=>by have:=OwnR.lt h.r e2; omega,id⟩
end
end Go.Proofs.YtfejagpjahoibaaGreatDoor
set_option linter.unusedSimpArgs false
namespace Go.Proofs.YtfejagpjahoibaaGreatDoor
open Go.RowKit
open Go.Lib (hid)
def out0:Out:=⟨[],[],[],false,0⟩
/-- a plan without prices, and the commands that undo -/
structure P4 where
 st:List Cmd
 re:List (List UInt8)
 co:Int
 un:List Cmd
def uAt (x:Stl) (i:Nat):Out:=(x.undo[i]?).getD out0
def dAt (x:Stl) (j:Int):Out:=(x.do[j.toNat]?).getD out0
def p1 (x:Stl) (pick:List Int) (i:Nat) (o:Opt) (p:P4):P4 :=
 if o.kind=0 then ⟨p.st,p.re++[(uAt x i).key],p.co+o.cost,p.un⟩
 else if o.kind=4 then ⟨p.st++[cmdF x.turn 4 (uAt x i) (dAt x ((pick[i]?).getD 0))],p.re,p.co+o.cost,p.un⟩
 else ⟨p.st,p.re,p.co+o.cost,p.un++[cmdF x.turn o.kind (uAt x i) out0]⟩
def run1 (x:Stl) (pick:List Int) (dr:List Opt):Nat→P4
 | 0=>⟨[],[],0,[]⟩
 | i+1=>p1 x pick i ((dr[i]?).getD opt0) (run1 x pick dr i)
def p2 (x:Stl) (tk:Nat→Bool) (j:Nat) (o:Opt) (p:P4):P4 :=
 if tk j then p
 else if o.kind=0 then ⟨p.st,p.re++[(dAt x j).key],p.co+o.cost,p.un⟩
 else ⟨p.st++[cmdF x.turn o.kind out0 (dAt x j)],p.re,p.co+o.cost,p.un⟩
def run2 (x:Stl) (tk:Nat→Bool) (p:P4):Nat→P4
 | 0=>⟨p.st++p.un,p.re,p.co,[]⟩
 | j+1=>p2 x tk j ((x.give[j]?).getD opt0) (run2 x tk p j)
def planF (x:Stl) (pick:List Int):Option P4:=match optionsF x pick with
 | none=>none
 | some s=>some (run2 x s.2 (run1 x pick s.1 x.undo.length) x.do.length)
theorem run1_len (x:Stl) (pick:List Int) (dr:List Opt):∀ i,(run1 x pick dr i).st.length≤i∧(run1 x pick dr i).re.length≤i∧(run1 x pick dr i).un.length≤i
 | 0=>⟨Nat.le_refl _,Nat.le_refl _,Nat.le_refl _⟩
 | i+1=>by
  have h:=run1_len x pick dr i; show (p1 x pick i ((dr[i]?).getD opt0) (run1 x pick dr i)).st.length≤_∧(p1 x pick i ((dr[i]?).getD opt0) (run1 x pick dr i)).re.length≤_∧(p1 x pick i ((dr[i]?).getD opt0) (run1 x pick dr i)).un.length≤_; unfold p1; split
  ·simp; omega
  ·split <;> simp <;> omega
theorem run2_len (x:Stl) (tk:Nat→Bool) (p:P4):∀ j,(run2 x tk p j).st.length≤p.st.length+p.un.length+j∧(run2 x tk p j).re.length≤p.re.length+j
 | 0=>by simp [run2]
 | j+1=>by
  have h:=run2_len x tk p j; show (p2 x tk j ((x.give[j]?).getD opt0) (run2 x tk p j)).st.length≤_∧(p2 x tk j ((x.give[j]?).getD opt0) (run2 x tk p j)).re.length≤_; unfold p2; split
  ·omega
  ·split <;> simp <;> omega
/-- the kinds of options -/
structure StlK (x:Stl):Prop where
 d:∀ o∈x.drop,o.kind=0∨o.kind=2∨o.kind=3
 g:∀ o∈x.give,o.kind=0∨o.kind=1
 a:∀ r c o,x.amend r c=some o→o.kind=4
/-- what was chosen for an effect -/
def Chosen (x:Stl) (i:Nat) (j:Int) (o:Opt):Prop:=(j = -1∧o=(x.drop[i]?).getD opt0)∨amG x.amend x.undo.length x.do.length i j=some o
theorem optsF_at {x:Stl}:∀ (pick:List Int) (i:Nat) (s t:OpS),optsF x i pick s=some t→s.1.length=i→(∀ n j,pick[n]? = some j→∃ o,t.1[i+n]? = some o∧Chosen x (i+n) j o)∧∀ n,n < i→t.1[n]? = s.1[n]?
 | [],i,s,t,h,hs=>by
  injection h with h; subst h; exact ⟨fun n j hn=>by simp at hn,fun n _=>rfl⟩
 | j::r,i,s,t,h,hs=>by
  replace h:(match stepO x i j s with | none=>none | some s'=>optsF x (i+1) r s')=some t:=h
  cases e:stepO x i j s with
  | none=>rw [e] at h; cases h
  | some s' =>
   rw [e] at h
   have hst:∃ o,s'.1=s.1++[o]∧Chosen x i j o:=by
    unfold stepO at e; by_cases hj:j = -1
    ·rw [if_pos hj] at e
     injection e with e; subst e; exact ⟨_,rfl,Or.inl ⟨hj,rfl⟩⟩
    ·rw [if_neg hj] at e
     cases ha:amG x.amend x.undo.length x.do.length i j with
     | none=>rw [ha] at e; cases e
     | some o =>
      rw [ha] at e; replace e:(if s.2 j.toNat then none else some (s.1++[o],Pl.upd s.2 j.toNat true))=some s':=e; split at e
      ·cases e
      ·injection e with e
       subst e; exact ⟨o,rfl,Or.inr ha⟩
   obtain ⟨o,ho,hc⟩:=hst
   have hl:s'.1.length=i+1:=by rw [ho]; simp [hs]
   obtain ⟨h1,h2⟩:=optsF_at r (i+1) s' t h hl; refine ⟨fun n j' hn=>?_,fun n hn=>?_⟩
   ·cases n with
    | zero =>
     simp at hn; subst hn; refine ⟨o,?_,hc⟩; rw [Nat.add_zero,h2 i (by omega),ho,← hs]; simp
    | succ n =>
     have:=h1 n j' (by simpa using hn); rw [show i+(n+1)=i+1+n by omega]; exact this
   ·rw [h2 n (by omega),ho,List.getElem?_append_left (by omega)]
theorem optionsF_at {x:Stl} {pick:List Int} {s:OpS} (h:optionsF x pick=some s) {i:Nat} (hi:i < x.undo.length):∃ j o,pick[i]? = some j∧s.1[i]? = some o∧Chosen x i j o:=by
 unfold optionsF at h; by_cases e:pick.length=x.undo.length
 ·rw [if_pos e] at h
  obtain ⟨j,hj⟩:∃ j,pick[i]? = some j:=⟨_,List.getElem?_eq_getElem (by omega)⟩; obtain ⟨o,ho,hc⟩:=(optsF_at pick 0 _ s h rfl).1 i j hj; rw [Nat.zero_add] at ho hc; exact ⟨j,o,hj,ho,hc⟩
 ·rw [if_neg e] at h; cases h
theorem results_pln {fn:Func} {p u:Tmp} (h:fn.results=#[.cell p 31,.tmp u]) (tmps:Array Value) (w:World) (R:Nat) (a b c d e:Value) (x:Bool) (hp:tmps.getD p undef=.pointer (some ⟨R,0,none⟩)) (hu:tmps.getD u undef=.bool x) (hR:w.heap[R]? = some (.cells #[a,b,c,d,e] 31 (0,0))) :
  (results fn tmps).run Tryz.prog w=.ok (.tuple #[.agg #[a,b,c,d,e],.bool x]) w:=by
 rw [results_cell_tmp h,hp,hu]; simp only [asAddr,Sem.run_pure,Result.andThen_ok]; rw [run_loadVar_row w R 31 31 _ (0,0) _ hR Tryz.underlying31 rfl (by kernel_rfl)]; rfl
abbrev set5 (w:World) (R:Nat) (a b c d e:Value):World:=((((w.setCell ⟨R,0,none⟩ a).setCell ⟨R,1,none⟩ b).setCell ⟨R,2,none⟩ c).setCell ⟨R,3,none⟩ d).setCell ⟨R,4,none⟩ e
theorem pln_set {w:World} {R:Nat} {a0 a1 a2 a3 a4:Value} (h:w.heap[R]? = some (.cells #[a0,a1,a2,a3,a4] 31 (0,0))) (a b c d e:Value):(set5 w R a b c d e).heap[R]? = some (.cells #[a,b,c,d,e] 31 (0,0)):=by
 have b0:=heap_setCell_same h (i:=0) a; have b1:=heap_setCell_same b0 (i:=1) b; have b2:=heap_setCell_same b1 (i:=2) c; have b3:=heap_setCell_same b2 (i:=3) d; have b4:=heap_setCell_same b3 (i:=4) e; simpa using b4
theorem below_set5 {R:Nat} {a0 w:World} (h:Below a0.heap.size a0 w) (hR:a0.heap.size≤R) (a b c d e:Value):Below a0.heap.size a0 (set5 w R a b c d e) :=
 below_set (below_set (below_set (below_set (below_set h hR _) hR _) hR _) hR _) hR _
theorem set5_other {w:World} {R q:Nat} (h:q≠R) (a b c d e:Value):(set5 w R a b c d e).heap[q]? = w.heap[q]?:=by
 unfold set5; rw [heap_setCell_other _ h,heap_setCell_other _ h,heap_setCell_other _ h,heap_setCell_other _ h,heap_setCell_other _ h]
/-- what the method plan answers -/
def PlPost (x:Stl) (pick:List Int) (w:World) (e:Ending) (w':World):Prop:=Below w.heap.size w w' ∧
 ((planF x pick=none∧e=.returned (.tuple #[.agg #[.slice none 0 0,.slice none 0 0,iv 0,.slice none 0 0,.slice none 0 0],.bool false])) ∨
  ∃ p vs vr,planF x pick=some p∧e=.returned (.tuple #[.agg #[vs,vr,iv p.co,.slice none 0 0,.slice none 0 0],.bool true])∧SlR 6 CmdR (fun q=>w.heap.size≤q∧q < w'.heap.size) w' p.st vs∧SlR 1 StrR (fun q=>w.heap.size≤q∧q < w'.heap.size) w' p.re vr)
set_option maxHeartbeats 40000000 in
set_option maxRecDepth 100000 in
theorem plan_any (X:XB) (x:Stl) (pick:List Int) (S:Foot) (v:Value) (w:World) (h:StM X x w) (hB:StlB x) (hK:StlK x) (hp:SlR 1 IntR S w pick v) (hpl:pick.length≤1048576) (hpr:∀ j∈pick,I64 j) (ht:Hid (Tabs w))
  (huk:∀ o∈x.undo,o.key.length≤1000) (hdk:∀ o∈x.do,o.key.length≤1000∧ValsB o.args) :
  Calls Tryz.prog 18 #[pt X.xb,v] w (PlPost x pick w):=by
 obtain ⟨pa,pc,rfl,-⟩:=hp.slice; have hul:=h.ul; have hkl:=h.kl; have b1:Below w.heap.size w (w.alloc (.cells #[.slice none 0 0,.slice none 0 0,.int .i64 0,.slice none 0 0,.slice none 0 0] 31 (0,0))):=(Below.refl _ w).alloc (Nat.le_refl _) _; have r1:=heap_alloc_new' w (.cells #[.slice none 0 0,.slice none 0 0,.int .i64 0,.slice none 0 0,.slice none 0 0] 31 (0,0))
 have s1:(w.alloc (.cells #[.slice none 0 0,.slice none 0 0,.int .i64 0,.slice none 0 0,.slice none 0 0] 31 (0,0))).heap.size=w.heap.size+1:=by simp
 obtain ⟨W1,hW1⟩:∃ W,W=w.alloc (.cells #[.slice none 0 0,.slice none 0 0,.int .i64 0,.slice none 0 0,.slice none 0 0] 31 (0,0)):=⟨_,rfl⟩; rw [← hW1] at b1 r1 s1; have ho:=hid (options_any X x pick S _ W1 (h.below b1) (hp.below goodInt b1) hpl hpr); generalize hPQ:PlPost x pick w=PQ; replace hPQ:=hid hPQ; replace h:=hid h; replace hp:=hid hp; replace hB:=hid hB; replace hK:=hid hK; replace huk:=hid huk; replace hdk:=hid hdk; replace hpr:=hid hpr; replace b1:=hid b1; replace r1:=hid r1; have s1':=hid s1; replace hW1:=hid hW1; clear s1
 go_enter Tryz.func18,Tryz.ntmps18
 go_wp2_with fail
 rw [← hW1.out]; refine ho.out.mono ?_; rintro e w1 (⟨hn,rfl,hb⟩ | ⟨s,va,tb,hs,rfl,hM⟩)
 ·have hpn:planF x pick=none:=by unfold planF; rw [hn]
  have hbw:=b1.out.trans (hb.mono b1.out.size); have hr:=(hb.block w.heap.size (by rw [s1'.out]; omega)).trans r1.out; obtain ⟨z0,z1,z2,z3,z4⟩:=cells5 hr
  have zz:=fun i=>free_of (i:=i) hr
  have hpost:Hid (∀ W,Below w.heap.size w W→PQ (.returned (.tuple #[.agg #[.slice none 0 0,.slice none 0 0,iv 0,.slice none 0 0,.slice none 0 0],.bool false])) W):=hid fun W hW=>by rw [← hPQ.out]; exact ⟨hW,Or.inl ⟨hpn,rfl⟩⟩
  replace hbw:=hid hbw; replace hr:=hid hr; replace hb:=hid hb; replace hn:=hid hn; clear ho hpn
  go_wp2_with fail
  refine bodyPost_ret (results_pln (by rfl) _ _ w.heap.size _ _ _ _ _ false (by rfl) (by rfl) (pln_set hr.out (.slice none 0 0) (.slice none 0 0) (iv 0) (.slice none 0 0) (.slice none 0 0))) rfl (hpost.out _ (below_set5 hbw.out (Nat.le_refl _) _ _ _ _ _))
 ·obtain ⟨-,hsl,-⟩:=optionsF_ok hB.out hs
  have hsb:=(optionsF_ok hB.out hs).1; have hw1s:Below w.heap.size w w1:=b1.out.trans (hM.bel.mono b1.out.size); have hr:=(hM.bel.block w.heap.size (by rw [s1'.out]; omega)).trans r1.out
  have hplan:planF x pick=some (run2 x s.2 (run1 x pick s.1 x.undo.length) x.do.length):=by unfold planF; rw [hs]
  obtain ⟨va',vc,hva,-⟩:=OwnR.slice hM.row; subst hva; have hrow:=hM.row.sl (S:=fun q=>q < w1.heap.size) (fun q hq=>hM.row.lt hq); obtain ⟨m,hm⟩:∃ m,m=x.undo.length:=⟨_,rfl⟩
  obtain ⟨k,hk⟩:∃ k,k=x.do.length:=⟨_,rfl⟩
  rw [hsl,← hm] at hrow ⊢; rw [← hm] at hul hplan; rw [← hk] at hM hkl hplan ⊢; have hX1:=h.out.below hw1s; have hps:=PLM.start w1; obtain ⟨pb,hpb⟩:∃ q,q=w1.heap.size:=⟨_,rfl⟩; obtain ⟨W2,hW2⟩:∃ W,W=w1.alloc (.cells #[.slice none 0 0,.slice none 0 0,.int .i64 0,.slice none 0 0,.slice none 0 0] 31 (0,0)):=⟨_,rfl⟩
  replace hps:PLM w1 pb [] [] [] 0 (.slice none 0 0) (.slice none 0 0) (.slice none 0 0) (fun _=>False) (fun _=>False) W2:=by rw [hpb,hW2]; exact hps
  replace hps:=hid hps; have htk:=hid hM.tk; have hpbw:=hid (show w1.heap.size≤pb by omega); replace hX1:=hid hX1; replace hrow:=hid hrow; replace hsb:=hid hsb; replace hplan:=hid hplan; replace hr:=hid hr; replace hw1s:=hid hw1s; replace hs:=hid hs; replace hm:=hid hm; replace hk:=hid hk; replace hW2:=hid hW2; replace hpb:=hid hpb; clear ho hM hsl
  go_upto_region 6 with (fail)
  rw [← hW2.out,← hpb.out]
  go_wp2_with fail
  go_loopg [10,27] m (fun f v10 v27 wr=>∃ (i:Nat) (vs vr:Value) (S1 S2:Foot),v27=iv i∧i+f=m∧Hid (PLM w1 pb (run1 x pick s.1 i).st (run1 x pick s.1 i).un (run1 x pick s.1 i).re (run1 x pick s.1 i).co vs v10 vr S1 S2 wr)∧Hid (0≤(run1 x pick s.1 i).co∧(run1 x pick s.1 i).co≤i * 1048576))
  case atStart=>exact ⟨0,_,_,_,_,rfl,by omega,hps,hid ⟨Int.le_refl _,by show (0:Int)≤(0:Nat) * 1048576; simp⟩⟩
  case round =>
   obtain ⟨i,vs,vr,S1,S2,rfl,hif,hP,hco⟩:=hrel; clear hps; obtain ⟨Q,hQ⟩:∃ Q,Q=run1 x pick s.1 i:=⟨_,rfl⟩; have hQl:=run1_len x pick s.1 i; rw [← hQ] at hP hQl hco; obtain ⟨st,re,co,un⟩:=Q; replace hP:Hid (PLM w1 pb st un re co vs u10 vr S1 S2 wr):=hP; by_cases hin:i < m
   ·have q1:decide ((i:Int) < (m:Int))=true:=decide_eq_true (by omega)
    have q1':decide (i < m)=true:=decide_eq_true hin; obtain ⟨j,y,hj,hy,hch⟩:=optionsF_at hs.out (i:=i) (by rw [← hm.out]; exact hin); have hyb:=hsb.out y (List.mem_of_getElem? hy); obtain ⟨g,o,cs,hidx,hS',hg,hc,hRy⟩:=(hrow.out.below goodOpt hP.out.bel).at (P:=Tryz.prog) (t:=96) (by kernel_rfl) (fun _=>by kernel_rfl) hy; have hcs:cs=optCs y:=hRy; subst hcs
    have hnext:run1 x pick s.1 (i+1)=p1 x pick i y ⟨st,re,co,un⟩:=by show p1 x pick i ((s.1[i]?).getD opt0) (run1 x pick s.1 i)=_; rw [hy,← hQ]; rfl
    have hkd:y.kind=0∨y.kind=4∨y.kind=2∨y.kind=3:=by
     rcases hch with ⟨-,e⟩ | e
     ·rcases hd:x.drop[i]? with _ | z
      ·rw [hd] at e; left; rw [e]; rfl
      ·rw [hd] at e
       replace e:y=z:=e; have:=hK.out.d z (List.mem_of_getElem? hd); rw [← e] at this; omega
     ·right; left
      unfold amG at e; split at e
      ·exact hK.out.a _ _ _ e
      ·cases e
    have hcj:y.kind=4→∃ c:Nat,j=c∧c < k:=fun e4=>by
     rcases hch with ⟨-,e⟩ | e
     ·rcases hd:x.drop[i]? with _ | z
      ·rw [hd] at e; rw [e] at e4; cases e4
      ·rw [hd] at e
       replace e:y=z:=e; have:=hK.out.d z (List.mem_of_getElem? hd); rw [← e] at this; omega
     ·obtain ⟨-,-,h0,h1⟩:=amG_some e
      exact ⟨j.toNat,by omega,by rw [hk.out]; omega⟩
    obtain ⟨kd,cs,wt⟩:=y; have c0:=hc 0 _ rfl; have c1:=hc 1 _ rfl; have c2:=hc 2 _ rfl; rw [Nat.add_zero] at c0; replace c0:wr.cell? ⟨g,o,none⟩=some (iv kd):=c0; replace c1:wr.cell? ⟨g,o+1,none⟩=some (iv cs):=c1; replace c2:wr.cell? ⟨g,o+2,none⟩=some (iv wt):=c2; replace hkd:kd=0∨kd=4∨kd=2∨kd=3:=hkd; replace hcj:kd=4→∃ c:Nat,j=c∧c < k:=hcj; have hcb:0≤cs∧cs≤1048576:=⟨hyb.2.2.1,hyb.2.2.2.1⟩; have hco1:0≤co∧co≤i * 1048576:=hco.out; have hw:IntKind.i64.wrap (co+cs)=co+cs:=wrapI (by omega) (by omega)
    -- the effect to undo
    obtain ⟨u,hu⟩:∃ u,x.undo[i]? = some u:=⟨_,List.getElem?_eq_getElem (by rw [← hm.out]; exact hin)⟩
    have hua:uAt x i=u:=by unfold uAt; rw [hu]; rfl
    have hukl:=huk.out u (List.mem_of_getElem? hu); obtain ⟨ug,uo,ucs,uidx,uF,ult,uc,huR⟩:=hX1.out.undo.at (P:=Tryz.prog) (t:=23) (by kernel_rfl) (fun _=>by kernel_rfl) hu; obtain ⟨uk,uN,ua,up,ut⟩:=u; obtain ⟨a1,k1,rfl,-⟩:=huR; replace hukl:uk.length≤1000:=hukl; rw [← hm.out] at uidx
    have x0:w1.cell? ⟨X.xb,0,none⟩=some (.slice X.ua m X.uc):=by rw [hm.out]; exact hX1.out.fields.1
    have x1:w1.cell? ⟨X.xb,1,none⟩=some (.slice X.da k X.dc):=by rw [hk.out]; exact hX1.out.fields.2.1
    have hxl:=lt_of_heap hX1.out.blk; have v0:=uc 0 _ rfl; have v1:=uc 1 _ rfl; have v2:=uc 2 _ rfl; have v3:=uc 3 _ rfl; have v4:=uc 4 _ rfl; rw [Nat.add_zero] at v0; replace v0:w1.cell? ⟨ug,uo,none⟩=some (sv uk):=v0; replace v1:w1.cell? ⟨ug,uo+1,none⟩=some (sv uN):=v1; replace v2:w1.cell? ⟨ug,uo+2,none⟩=some (.slice a1 ua.length k1):=v2; replace v3:w1.cell? ⟨ug,uo+3,none⟩=some (.bool up):=v3; replace v4:w1.cell? ⟨ug,uo+4,none⟩=some (iv ut):=v4
    -- the option's copy,the cost
    have hb3:Below wr.heap.size wr (wr.alloc (.cells #[iv kd,iv cs,iv wt] 102 (0,0))):=(Below.refl _ wr).alloc (Nat.le_refl _) _; have hP3:=hP.out.below hb3; have ro3:=heap_alloc_new' wr (.cells #[iv kd,iv cs,iv wt] 102 (0,0)); obtain ⟨ob,hob⟩:∃ q,q=wr.heap.size:=⟨_,rfl⟩
    have hobp:pb < ob:=by rw [hob]; exact lt_of_heap hP.out.blk
    have hobS:¬ S1 ob∧¬ S2 ob:=⟨fun e=>by have:=(hP.out.f1 ob e).2.1; omega,fun e=>by have:=(hP.out.f2 ob e).2.1; omega⟩; obtain ⟨W3,hW3⟩:∃ W,W=wr.alloc (.cells #[iv kd,iv cs,iv wt] 102 (0,0)):=⟨_,rfl⟩; rw [← hW3] at hP3 ro3; rw [← hob] at ro3; have p2:W3.cell? ⟨pb,2,none⟩=some (iv co):=(cell_of hP3.blk).trans rfl; have pz:=free_of (i:=2) hP3.blk; have o1:W3.cell? ⟨ob,1,none⟩=some (iv cs):=(cell_of ro3).trans rfl; have hP4:=hP3.cost (co+cs); have ro4:(W3.setCell ⟨pb,2,none⟩ (iv (co+cs))).heap[ob]? = some (.cells #[iv kd,iv cs,iv wt] 102 (0,0)):=(heap_setCell_other _ (by omega)).trans ro3; obtain ⟨W4,hW4⟩:∃ W,W=W3.setCell ⟨pb,2,none⟩ (iv (co+cs)):=⟨_,rfl⟩; rw [← hW4] at hP4 ro4
    have o0:W4.cell? ⟨ob,0,none⟩=some (iv kd):=(cell_of ro4).trans rfl; replace hP4:=hid hP4; replace ro4:=hid ro4; replace hnext:=hid hnext; replace hua:=hid hua; replace hQ:=hid hQ; replace hQl:=hid hQl; have hco2:=hid (show 0≤co+cs∧co+cs≤((i+1:Nat):Int) * 1048576 by omega); replace hobS:=hid hobS; replace hj:=hid hj; rw [hW3] at p2 pz o1; rw [hob] at o1; rw [hW4,hW3,hob] at o0; have hWe:=hid (show W4=(wr.alloc (.cells #[iv kd,iv cs,iv wt] 102 (0,0))).setCell ⟨pb,2,none⟩ (iv (co+cs)) from by rw [hW4,hW3]); have hobh:=hid hob; clear hc hRy hS' hg hy hch hu uc uF hyb hW4 hW3 hob hb3 hP3 ro3 hco hP; rcases hkd with rfl | rfl | hk23
    ·clear hcj
     go_upto_region 13 with (fail)
     rw [← hobh.out,← hWe.out]
     have hS:Hid (∀ W,Below w1.heap.size w1 W→(W.cell? ⟨X.xb,0,none⟩=some (.slice X.ua m X.uc)∧W.cell? ⟨ug,uo,none⟩=some (sv uk))):=hid fun W hW=>⟨(hW.cell (p:=⟨X.xb,0,none⟩) hxl).trans x0,(hW.cell (p:=⟨ug,uo,none⟩) ult).trans v0⟩
     have hn0:run1 x pick s.1 (i+1)=⟨st,re++[uk],co+cs,un⟩:=by rw [hnext.out]; unfold p1; rw [if_pos rfl,hua.out]
     have hcn:Hid (0≤(run1 x pick s.1 (i+1)).co∧(run1 x pick s.1 (i+1)).co≤((i+1:Nat):Int) * 1048576):=hid (by rw [hn0]; exact hco2.out); replace hn0:=hid hn0
     have hrl:re.length≤1048576:=by have:=hQl.out.2.1; simp only at this; omega
     have hPd:=hid (hP4.out.below ((Below.refl _ W4).drew:Below W4.heap.size W4 W4.drew)); obtain ⟨a',c',W6,hap,⟨u6,hu6⟩,hfz,hP6,hB6⟩:=hPd.out.rest uk hrl 24; have kz:Below W4.drew.heap.size W4.drew (W4.drew.alloc (.cells #[sv uk] 9 (0,0))):=(Below.refl _ _).alloc (Nat.le_refl _) _; have BA:=hid (hPd.out.bel.trans (kz.mono hPd.out.bel.size)); have o4:=(cell_of (i:=1) hPd.out.blk).trans rfl; have j4:=(cell_of (i:=1) ((kz.block pb (lt_of_heap hPd.out.blk)).trans hPd.out.blk)).trans rfl; have sD:=hS.out _ hPd.out.bel; have sA:=hS.out _ BA.out; have s6:=hS.out _ hB6; have sF:=hS.out _ hP6.bel; replace hP6:=hid hP6; clear kz hB6
     go_wp2_with fail
     refine wp_region_held_drew (S:=fun w'=>w'.cell? ⟨X.xb,0,none⟩=some (.slice X.ua m X.uc)∧w'.cell? ⟨ug,uo,none⟩=some (sv uk)) (by kernel_rfl) ?_ (fun hHeld=>?_)
     ·exact sD
     generalize W4.drew=Wd at *; refine wTk (i:=0) (v:=?_) rfl ?hy ?_
     case hy =>
      intro w hSw; obtain ⟨s0,s1⟩:=hSw; go_simp
      all_goals with_reducible rfl
     try simp only [Act.put,sI,sZ,sS]
     refine wTk (i:=2) (v:=?_) rfl ?hy ?_
     case hy =>
      intro w hSw; obtain ⟨s0,s1⟩:=hSw; go_simp
      all_goals with_reducible rfl
     try simp only [Act.put,sI,sZ,sS]
     refine wTk (i:=3) (v:=?_) rfl ?hy ?_
     case hy =>
      intro w hSw; obtain ⟨s0,s1⟩:=hSw; go_simp
      all_goals with_reducible rfl
     try simp only [Act.put,sI,sZ,sS]
     refine wTk (i:=4) (v:=?_) rfl ?hy ?_
     case hy =>
      intro w hSw; obtain ⟨s0,s1⟩:=hSw; go_simp
      all_goals with_reducible rfl
     try simp only [Act.put,sI,sZ,sS]
     refine wTk (i:=5) (v:=?_) rfl ?hy ?_
     case hy =>
      intro w hSw; obtain ⟨s0,s1⟩:=hSw; go_simp
      all_goals with_reducible rfl
     try simp only [Act.put,sI,sZ,sS]
     refine wTk (i:=6) (v:=?_) rfl ?hy ?_
     case hy =>
      intro w hSw; obtain ⟨s0,s1⟩:=hSw; go_simp
      all_goals with_reducible rfl
     try simp only [Act.put,sI,sZ,sS]
     refine wTk (i:=7) (v:=?_) rfl ?hy ?_
     case hy =>
      intro w hSw; obtain ⟨s0,s1⟩:=hSw; go_simp
      all_goals with_reducible rfl
     try simp only [Act.put,sI,sZ,sS]
     refine wTk (i:=8) (v:=?_) rfl ?hy ?_
     case hy =>
      intro w hSw; obtain ⟨s0,s1⟩:=hSw; go_simp
      all_goals with_reducible rfl
     try simp only [Act.put,sI,sZ,sS]
     refine wTk (i:=9) (v:=?_) rfl ?hy ?_
     case hy =>
      intro w hSw; obtain ⟨s0,s1⟩:=hSw; go_simp
      all_goals with_reducible rfl
     try simp only [Act.put,sI,sZ,sS]
     refine wpAnyH_ready (rs:=[1,10]) (by as_aux_lemma=>kernel_rfl) (by simp) ?_; refine AllReadyH.cons (o:=⟨_,_,_,_,_,_⟩) rfl (fun KK hKK=>?_) (AllReadyH.cons (o:=⟨_,_,_,_,_,_⟩) rfl (fun KK hKK=>?_) AllReadyH.nil)
     all_goals clear hHeld
     ·go_simp
      skip
      refine hKK.out _ _ ?_ (fun hHeld2=>?_)
      ·exact sD
      clear hKK KK; have hHeld:=hHeld2; clear hHeld2
      try simp only [Act.put,sI,sZ,sS]
      refine wpAnyH_ready (rs:=[10]) (by as_aux_lemma=>kernel_rfl) (by simp) ?_; refine rdY rfl (fun K hK=>?_); go_simp
      skip
      refine hK.out _ _ ?_ (fun hHeld2=>?_)
      ·exact sA
      clear hK K; clear hHeld; have hHeld:=hHeld2; clear hHeld2
      try simp only [Act.put,sI,sZ,sS]
      refine wpAnyH_ready (rs:=[11]) (by as_aux_lemma=>kernel_rfl) (by simp) ?_; refine rdY rfl (fun K hK=>?_); refine step_append_shut (by rfl) (.tmp 58) (.tmp 67) (by rfl) (by rfl) (by rfl) hap ?_; refine hK.out _ _ ?_ (fun hHeld2=>?_)
      ·exact s6
      clear hK K hHeld; have hHeld:=hHeld2; clear hHeld2
      try simp only [Act.put,sI,sZ,sS]
      refine wTk (i:=12) (v:=?_) rfl ?hy ?_
      case hy =>
       intro w hSw; obtain ⟨s0,s1⟩:=hSw; go_simp
       all_goals with_reducible rfl
      try simp only [Act.put,sI,sZ,sS]
      refine wpAnyH_ready (rs:=[13]) (by as_aux_lemma=>kernel_rfl) (by simp) ?_; refine rdY rfl (fun K hK=>?_); go_simp
      skip
      refine hK.out _ _ ?_ (fun hHeld2=>?_)
      ·exact sF
      clear hK K; clear hHeld; have hHeld:=hHeld2; clear hHeld2
      try simp only [Act.put,sI,sZ,sS]
      refine wpAnyH_done (by as_aux_lemma=>kernel_rfl) ?_ _
      go_wp2_with fail
      go_roundg (m - (i+1))
      case measure=>omega
      case rel=>exact ⟨i+1,_,_,_,_,by go_num,by omega,(hid (by rw [hn0.out]; exact hP6.out)),hcn⟩
     ·go_simp
      skip
      refine hKK.out _ _ ?_ (fun hHeld2=>?_)
      ·exact sA
      clear hKK KK; have hHeld:=hHeld2; clear hHeld2
      try simp only [Act.put,sI,sZ,sS]
      refine wpAnyH_ready (rs:=[1]) (by as_aux_lemma=>kernel_rfl) (by simp) ?_; refine rdY rfl (fun K hK=>?_); go_simp
      skip
      refine hK.out _ _ ?_ (fun hHeld2=>?_)
      ·exact sA
      clear hK K; clear hHeld; have hHeld:=hHeld2; clear hHeld2
      try simp only [Act.put,sI,sZ,sS]
      refine wpAnyH_ready (rs:=[11]) (by as_aux_lemma=>kernel_rfl) (by simp) ?_; refine rdY rfl (fun K hK=>?_); refine step_append_shut (by rfl) (.tmp 58) (.tmp 67) (by rfl) (by rfl) (by rfl) hap ?_; refine hK.out _ _ ?_ (fun hHeld2=>?_)
      ·exact s6
      clear hK K hHeld; have hHeld:=hHeld2; clear hHeld2
      try simp only [Act.put,sI,sZ,sS]
      refine wTk (i:=12) (v:=?_) rfl ?hy ?_
      case hy =>
       intro w hSw; obtain ⟨s0,s1⟩:=hSw; go_simp
       all_goals with_reducible rfl
      try simp only [Act.put,sI,sZ,sS]
      refine wpAnyH_ready (rs:=[13]) (by as_aux_lemma=>kernel_rfl) (by simp) ?_; refine rdY rfl (fun K hK=>?_); go_simp
      skip
      refine hK.out _ _ ?_ (fun hHeld2=>?_)
      ·exact sF
      clear hK K; clear hHeld; have hHeld:=hHeld2; clear hHeld2
      try simp only [Act.put,sI,sZ,sS]
      refine wpAnyH_done (by as_aux_lemma=>kernel_rfl) ?_ _
      go_wp2_with fail
      go_roundg (m - (i+1))
      case measure=>omega
      case rel=>exact ⟨i+1,_,_,_,_,by go_num,by omega,(hid (by rw [hn0.out]; exact hP6.out)),hcn⟩
    ·go_upto_region 15 with (fail)
     rw [← hobh.out,← hWe.out]; obtain ⟨c,hjc,hck⟩:=hcj rfl; subst hjc; obtain ⟨pg,po,pcs,pidx,pF,plt,pcc,pR⟩:=(hp.out.below goodInt hw1s.out).at (P:=Tryz.prog) (t:=29) (by kernel_rfl) (fun _=>by kernel_rfl) hj.out; have hpcs:pcs=[iv c]:=pR; subst hpcs; have pj:=pcc 0 _ rfl; rw [Nat.add_zero] at pj
     obtain ⟨d,hd⟩:∃ d,x.do[c]? = some d:=⟨_,List.getElem?_eq_getElem (by rw [← hk.out]; exact hck)⟩
     have hda:dAt x c=d:=by unfold dAt; rw [show ((c:Nat):Int).toNat=c from rfl,hd]; rfl
     have hdkl:=hdk.out d (List.mem_of_getElem? hd)
     obtain ⟨dg,dO,dcs,didx,dF,dlt,dcc,hdR⟩:=hX1.out.do.at (P:=Tryz.prog) (t:=23) (by kernel_rfl) (fun _=>by kernel_rfl) hd
     obtain ⟨dk,dn,da,dp,dt⟩:=d; obtain ⟨a2,k2,rfl,hdv⟩:=hdR; replace hdkl:dk.length≤1000∧ValsB da:=hdkl; rw [← hk.out] at didx; have w0:=dcc 0 _ rfl; have w1':=dcc 1 _ rfl; have w2':=dcc 2 _ rfl; have w3':=dcc 3 _ rfl; have w4':=dcc 4 _ rfl; rw [Nat.add_zero] at w0; replace w0:w1.cell? ⟨dg,dO,none⟩=some (sv dk):=w0; replace w1':w1.cell? ⟨dg,dO+1,none⟩=some (sv dn):=w1'; replace w2':w1.cell? ⟨dg,dO+2,none⟩=some (.slice a2 da.length k2):=w2'; replace w3':w1.cell? ⟨dg,dO+3,none⟩=some (.bool dp):=w3'; replace w4':w1.cell? ⟨dg,dO+4,none⟩=some (iv dt):=w4'
     have hS:Hid (∀ W,Below w1.heap.size w1 W→W.heap[ob]? = some (.cells #[iv 4,iv cs,iv wt] 102 (0,0))→(W.cell? ⟨X.xb,0,none⟩=some (.slice X.ua m X.uc)∧W.cell? ⟨X.xb,1,none⟩=some (.slice X.da k X.dc)∧W.cell? ⟨ug,uo,none⟩=some (sv uk)∧W.cell? ⟨ug,uo+1,none⟩=some (sv uN)∧W.cell? ⟨ug,uo+2,none⟩=some (.slice a1 ua.length k1)∧W.cell? ⟨ug,uo+3,none⟩=some (.bool up)∧W.cell? ⟨ug,uo+4,none⟩=some (iv ut)∧W.cell? ⟨pg,po,none⟩=some (iv c)∧W.cell? ⟨dg,dO,none⟩=some (sv dk)∧W.cell? ⟨dg,dO+1,none⟩=some (sv dn)∧W.cell? ⟨dg,dO+2,none⟩=some (.slice a2 da.length k2)∧W.cell? ⟨dg,dO+3,none⟩=some (.bool dp)∧W.cell? ⟨dg,dO+4,none⟩=some (iv dt)∧W.heap[ob]? = some (.cells #[iv 4,iv cs,iv wt] 102 (0,0)))):=hid fun W hW hO=>⟨(hW.cell (p:=⟨X.xb,0,none⟩) hxl).trans x0,(hW.cell (p:=⟨X.xb,1,none⟩) hxl).trans x1,(hW.cell (p:=⟨ug,uo,none⟩) ult).trans v0,(hW.cell (p:=⟨ug,uo+1,none⟩) ult).trans v1,(hW.cell (p:=⟨ug,uo+2,none⟩) ult).trans v2,(hW.cell (p:=⟨ug,uo+3,none⟩) ult).trans v3,(hW.cell (p:=⟨ug,uo+4,none⟩) ult).trans v4,(hW.cell (p:=⟨pg,po,none⟩) plt).trans pj,(hW.cell (p:=⟨dg,dO,none⟩) dlt).trans w0,(hW.cell (p:=⟨dg,dO+1,none⟩) dlt).trans w1',(hW.cell (p:=⟨dg,dO+2,none⟩) dlt).trans w2',(hW.cell (p:=⟨dg,dO+3,none⟩) dlt).trans w3',(hW.cell (p:=⟨dg,dO+4,none⟩) dlt).trans w4',hO⟩
     have hn0:run1 x pick s.1 (i+1)=⟨st++[cmdF x.turn 4 ⟨uk,uN,ua,up,ut⟩ ⟨dk,dn,da,dp,dt⟩],re,co+cs,un⟩:=by
      rw [hnext.out]; unfold p1; rw [if_neg (show ¬ (4:Int)=0 by decide),if_pos rfl,hua.out,hj.out]; show (⟨st++[cmdF x.turn 4 ⟨uk,uN,ua,up,ut⟩ (dAt x c)],re,co+cs,un⟩:P4)=_; rw [hda]
     have hcn:Hid (0≤(run1 x pick s.1 (i+1)).co∧(run1 x pick s.1 (i+1)).co≤((i+1:Nat):Int) * 1048576):=hid (by rw [hn0]; exact hco2.out); replace hn0:=hid hn0
     have hrl:st.length≤1048576:=by have:=hQl.out.1; simp only at this; omega
     have x2:=hX1.out.fields.2.2.1; have hdvh:=hid hdv; clear pcc pR dcc hd hda dF pF hdv; have hPd:=hid (hP4.out.below ((Below.refl _ W4).drew:Below W4.heap.size W4 W4.drew)); have hr4:W4.drew.heap[ob]? = some (.cells #[iv 4,iv cs,iv wt] 102 (0,0)):=ro4.out; have o4:=(cell_of (i:=0) hPd.out.blk).trans rfl; have sD:=hS.out _ hPd.out.bel hr4; have hcmd:=command_any X.xb x.turn 4 uk uN ua up ut dk dn da dp dt (.slice a1 ua.length k1) (.slice a2 da.length k2) X.F W4.drew ((hPd.out.bel.cell (p:=⟨X.xb,2,none⟩) hxl).trans x2) (Nat.lt_of_lt_of_le hxl hPd.out.bel.size) (hid (ht.out.below (hw1s.out.trans (hPd.out.bel.mono hw1s.out.size)))) (by omega) hukl hdkl.1 (hdvh.out.below goodVal hPd.out.bel) hdkl.2; obtain ⟨C,hC⟩:∃ C,C=cmdF x.turn 4 ⟨uk,uN,ua,up,ut⟩ ⟨dk,dn,da,dp,dt⟩:=⟨_,rfl⟩; rw [← hC] at hcmd
     obtain ⟨ck,ckd,cof,cnw,cnm,car⟩:=C; replace hcmd:=hid (hcmd.mono fun e w' (h:CPost ⟨ck,ckd,cof,cnw,cnm,car⟩ W4.drew e w')=>(show ∃ v,e=.returned (.agg #[sv ck,iv ckd,sv cof,sv cnw,sv cnm,v])∧ValsR (fun q=>W4.drew.heap.size≤q∧q < w'.heap.size) w' car v∧Below W4.drew.heap.size W4.drew w' from h))
     go_wp2_with fail
     refine wp_region_held_drew (S:=fun w'=>w'.cell? ⟨X.xb,0,none⟩=some (.slice X.ua m X.uc)∧w'.cell? ⟨X.xb,1,none⟩=some (.slice X.da k X.dc)∧w'.cell? ⟨ug,uo,none⟩=some (sv uk)∧w'.cell? ⟨ug,uo+1,none⟩=some (sv uN)∧w'.cell? ⟨ug,uo+2,none⟩=some (.slice a1 ua.length k1)∧w'.cell? ⟨ug,uo+3,none⟩=some (.bool up)∧w'.cell? ⟨ug,uo+4,none⟩=some (iv ut)∧w'.cell? ⟨pg,po,none⟩=some (iv c)∧w'.cell? ⟨dg,dO,none⟩=some (sv dk)∧w'.cell? ⟨dg,dO+1,none⟩=some (sv dn)∧w'.cell? ⟨dg,dO+2,none⟩=some (.slice a2 da.length k2)∧w'.cell? ⟨dg,dO+3,none⟩=some (.bool dp)∧w'.cell? ⟨dg,dO+4,none⟩=some (iv dt)∧w'.heap[ob]? = some (.cells #[iv 4,iv cs,iv wt] 102 (0,0))) (by kernel_rfl) ?_ (fun hHeld=>?_)
     ·exact sD
     generalize W4.drew=Wd at *; refine wTk (i:=0) (v:=?_) rfl ?hy ?_
     case hy =>
      intro w hSw; obtain ⟨s0,s1,s2,s3,s4,s5,s6,s7,s8,s9,s10,s11,s12,sO⟩:=hSw; have so0:=(cell_of (i:=0) sO).trans rfl; go_simp
      all_goals with_reducible rfl
     try simp only [Act.put,sI,sZ,sS]
     refine wTk (i:=2) (v:=?_) rfl ?hy ?_
     case hy =>
      intro w hSw; obtain ⟨s0,s1,s2,s3,s4,s5,s6,s7,s8,s9,s10,s11,s12,sO⟩:=hSw; have so0:=(cell_of (i:=0) sO).trans rfl; go_simp
      all_goals with_reducible rfl
     try simp only [Act.put,sI,sZ,sS]
     refine wTk (i:=3) (v:=?_) rfl ?hy ?_
     case hy =>
      intro w hSw; obtain ⟨s0,s1,s2,s3,s4,s5,s6,s7,s8,s9,s10,s11,s12,sO⟩:=hSw; have so0:=(cell_of (i:=0) sO).trans rfl; go_simp
      all_goals with_reducible rfl
     try simp only [Act.put,sI,sZ,sS]
     refine wTk (i:=4) (v:=?_) rfl ?hy ?_
     case hy =>
      intro w hSw; obtain ⟨s0,s1,s2,s3,s4,s5,s6,s7,s8,s9,s10,s11,s12,sO⟩:=hSw; have so0:=(cell_of (i:=0) sO).trans rfl; go_simp
      all_goals with_reducible rfl
     try simp only [Act.put,sI,sZ,sS]
     refine wTk (i:=5) (v:=?_) rfl ?hy ?_
     case hy =>
      intro w hSw; obtain ⟨s0,s1,s2,s3,s4,s5,s6,s7,s8,s9,s10,s11,s12,sO⟩:=hSw; have so0:=(cell_of (i:=0) sO).trans rfl; go_simp
      all_goals with_reducible rfl
     try simp only [Act.put,sI,sZ,sS]
     refine wTk (i:=6) (v:=?_) rfl ?hy ?_
     case hy =>
      intro w hSw; obtain ⟨s0,s1,s2,s3,s4,s5,s6,s7,s8,s9,s10,s11,s12,sO⟩:=hSw; have so0:=(cell_of (i:=0) sO).trans rfl; go_simp
      all_goals with_reducible rfl
     try simp only [Act.put,sI,sZ,sS]
     refine wTk (i:=7) (v:=?_) rfl ?hy ?_
     case hy =>
      intro w hSw; obtain ⟨s0,s1,s2,s3,s4,s5,s6,s7,s8,s9,s10,s11,s12,sO⟩:=hSw; have so0:=(cell_of (i:=0) sO).trans rfl; go_simp
      all_goals with_reducible rfl
     try simp only [Act.put,sI,sZ,sS]
     refine wTk (i:=8) (v:=?_) rfl ?hy ?_
     case hy =>
      intro w hSw; obtain ⟨s0,s1,s2,s3,s4,s5,s6,s7,s8,s9,s10,s11,s12,sO⟩:=hSw; have so0:=(cell_of (i:=0) sO).trans rfl; go_simp
      all_goals with_reducible rfl
     try simp only [Act.put,sI,sZ,sS]
     refine wTk (i:=9) (v:=?_) rfl ?hy ?_
     case hy =>
      intro w hSw; obtain ⟨s0,s1,s2,s3,s4,s5,s6,s7,s8,s9,s10,s11,s12,sO⟩:=hSw; have so0:=(cell_of (i:=0) sO).trans rfl; go_simp
      all_goals with_reducible rfl
     try simp only [Act.put,sI,sZ,sS]
     refine wTk (i:=10) (v:=?_) rfl ?hy ?_
     case hy =>
      intro w hSw; obtain ⟨s0,s1,s2,s3,s4,s5,s6,s7,s8,s9,s10,s11,s12,sO⟩:=hSw; have so0:=(cell_of (i:=0) sO).trans rfl; go_simp
      all_goals with_reducible rfl
     try simp only [Act.put,sI,sZ,sS]
     refine wTk (i:=11) (v:=?_) rfl ?hy ?_
     case hy =>
      intro w hSw; obtain ⟨s0,s1,s2,s3,s4,s5,s6,s7,s8,s9,s10,s11,s12,sO⟩:=hSw; have so0:=(cell_of (i:=0) sO).trans rfl; go_simp
      all_goals with_reducible rfl
     try simp only [Act.put,sI,sZ,sS]
     refine wTk (i:=12) (v:=?_) rfl ?hy ?_
     case hy =>
      intro w hSw; obtain ⟨s0,s1,s2,s3,s4,s5,s6,s7,s8,s9,s10,s11,s12,sO⟩:=hSw; have so0:=(cell_of (i:=0) sO).trans rfl; go_simp
      all_goals with_reducible rfl
     try simp only [Act.put,sI,sZ,sS]
     refine wTk (i:=13) (v:=?_) rfl ?hy ?_
     case hy =>
      intro w hSw; obtain ⟨s0,s1,s2,s3,s4,s5,s6,s7,s8,s9,s10,s11,s12,sO⟩:=hSw; have so0:=(cell_of (i:=0) sO).trans rfl; go_simp
      all_goals with_reducible rfl
     try simp only [Act.put,sI,sZ,sS]
     refine wTk (i:=14) (v:=?_) rfl ?hy ?_
     case hy =>
      intro w hSw; obtain ⟨s0,s1,s2,s3,s4,s5,s6,s7,s8,s9,s10,s11,s12,sO⟩:=hSw; have so0:=(cell_of (i:=0) sO).trans rfl; go_simp
      all_goals with_reducible rfl
     try simp only [Act.put,sI,sZ,sS]
     refine wTk (i:=15) (v:=?_) rfl ?hy ?_
     case hy =>
      intro w hSw; obtain ⟨s0,s1,s2,s3,s4,s5,s6,s7,s8,s9,s10,s11,s12,sO⟩:=hSw; have so0:=(cell_of (i:=0) sO).trans rfl; go_simp
      all_goals with_reducible rfl
     try simp only [Act.put,sI,sZ,sS]
     refine wTk (i:=16) (v:=?_) rfl ?hy ?_
     case hy =>
      intro w hSw; obtain ⟨s0,s1,s2,s3,s4,s5,s6,s7,s8,s9,s10,s11,s12,sO⟩:=hSw; have so0:=(cell_of (i:=0) sO).trans rfl; go_simp
      all_goals with_reducible rfl
     try simp only [Act.put,sI,sZ,sS]
     refine wTk (i:=17) (v:=?_) rfl ?hy ?_
     case hy =>
      intro w hSw; obtain ⟨s0,s1,s2,s3,s4,s5,s6,s7,s8,s9,s10,s11,s12,sO⟩:=hSw; have so0:=(cell_of (i:=0) sO).trans rfl; go_simp
      all_goals with_reducible rfl
     try simp only [Act.put,sI,sZ,sS]
     refine wTk (i:=18) (v:=?_) rfl ?hy ?_
     case hy =>
      intro w hSw; obtain ⟨s0,s1,s2,s3,s4,s5,s6,s7,s8,s9,s10,s11,s12,sO⟩:=hSw; have so0:=(cell_of (i:=0) sO).trans rfl; go_simp
      all_goals with_reducible rfl
     try simp only [Act.put,sI,sZ,sS]
     refine wTk (i:=19) (v:=?_) rfl ?hy ?_
     case hy =>
      intro w hSw; obtain ⟨s0,s1,s2,s3,s4,s5,s6,s7,s8,s9,s10,s11,s12,sO⟩:=hSw; have so0:=(cell_of (i:=0) sO).trans rfl; go_simp
      all_goals with_reducible rfl
     try simp only [Act.put,sI,sZ,sS]
     refine wTk (i:=20) (v:=?_) rfl ?hy ?_
     case hy =>
      intro w hSw; obtain ⟨s0,s1,s2,s3,s4,s5,s6,s7,s8,s9,s10,s11,s12,sO⟩:=hSw; have so0:=(cell_of (i:=0) sO).trans rfl; go_simp
      all_goals with_reducible rfl
     try simp only [Act.put,sI,sZ,sS]
     refine wTk (i:=21) (v:=?_) rfl ?hy ?_
     case hy =>
      intro w hSw; obtain ⟨s0,s1,s2,s3,s4,s5,s6,s7,s8,s9,s10,s11,s12,sO⟩:=hSw; have so0:=(cell_of (i:=0) sO).trans rfl; go_simp
      all_goals with_reducible rfl
     try simp only [Act.put,sI,sZ,sS]
     refine wpAnyH_ready (rs:=[1,22]) (by as_aux_lemma=>kernel_rfl) (by simp) ?_; refine AllReadyH.cons (o:=⟨_,_,_,_,_,_⟩) rfl (fun KK hKK=>?_) (AllReadyH.cons (o:=⟨_,_,_,_,_,_⟩) rfl (fun KK hKK=>?_) AllReadyH.nil)
     all_goals clear hHeld
     ·go_simp
      skip
      refine hKK.out _ _ ?_ (fun hHeld2=>?_)
      ·exact sD
      clear hKK KK; have hHeld:=hHeld2; clear hHeld2
      try simp only [Act.put,sI,sZ,sS]
      refine wpAnyH_ready (rs:=[22]) (by as_aux_lemma=>kernel_rfl) (by simp) ?_; refine rdY rfl (fun K hK=>?_); go_simp
      go_at_call 48
      refine hcmd.out.mono ?_; rintro e W5 ⟨v5',rfl,hv5,hb5⟩; obtain ⟨a5,c5,hv5e,-⟩:=hv5.slice; subst hv5e; obtain ⟨a',c',W6,S3,hap,⟨u6,hu6⟩,hfz,hP6,hF6,hB6⟩:=hPd.out.step hb5 (c:=⟨ck,ckd,cof,cnw,cnm,car⟩) hv5 hrl 28 rfl
      dsimp only at hap
      have hP5:=hPd.out.below hb5; have kz:Below W5.heap.size W5 (W5.alloc (.cells #[sv ck,iv ckd,sv cof,sv cnw,sv cnm,.slice a5 car.length c5] 41 (0,0))):=(Below.refl _ _).alloc (Nat.le_refl _) _; have BA:=hP5.bel.trans (kz.mono hP5.bel.size); have r5:=(hb5.block ob (lt_of_heap hr4)).trans hr4; have rA:=(kz.block ob (lt_of_heap r5)).trans r5; have r6:=(hF6.block ob (lt_of_heap r5) hobS.out.1).trans r5; have rF:=(heap_setCell_other (i:=0) (.slice a' (st.length+1) c') (show ob≠pb by omega)).trans r6; have f4:=(cell_of (i:=0) hP5.blk).trans rfl; have j4:=(cell_of (i:=0) ((kz.block pb (lt_of_heap hP5.blk)).trans hP5.blk)).trans rfl; have s5:=hS.out _ hP5.bel r5; have sA:=hS.out _ BA rA; have s6:=hS.out _ hB6 r6; have sF:=hS.out _ hP6.bel rF; replace hP6:=hid hP6; clear kz BA hP5 hB6 hF6 hb5 hv5 r5 rA r6 rF
      refine hK.out _ _ ?_ (fun hHeld2=>?_)
      ·exact s5
      clear hK K; clear hHeld; have hHeld:=hHeld2; clear hHeld2
      try simp only [Act.put,sI,sZ,sS]
      refine wpAnyH_ready (rs:=[23]) (by as_aux_lemma=>kernel_rfl) (by simp) ?_; refine rdY rfl (fun K hK=>?_); go_simp
      skip
      refine hK.out _ _ ?_ (fun hHeld2=>?_)
      ·exact sA
      clear hK K; clear hHeld; have hHeld:=hHeld2; clear hHeld2
      try simp only [Act.put,sI,sZ,sS]
      refine wpAnyH_ready (rs:=[24]) (by as_aux_lemma=>kernel_rfl) (by simp) ?_; refine rdY rfl (fun K hK=>?_); refine step_append_shut (by rfl) (.tmp 73) (.tmp 95) (by rfl) (by rfl) (by rfl) hap ?_; refine hK.out _ _ ?_ (fun hHeld2=>?_)
      ·exact s6
      clear hK K hHeld; have hHeld:=hHeld2; clear hHeld2
      try simp only [Act.put,sI,sZ,sS]
      refine wTk (i:=25) (v:=?_) rfl ?hy ?_
      case hy =>
       intro w hSw; obtain ⟨s0,s1,s2,s3,s4,s5,s6,s7,s8,s9,s10,s11,s12,sO⟩:=hSw; have so0:=(cell_of (i:=0) sO).trans rfl; go_simp
       all_goals with_reducible rfl
      try simp only [Act.put,sI,sZ,sS]
      refine wpAnyH_ready (rs:=[26]) (by as_aux_lemma=>kernel_rfl) (by simp) ?_; refine rdY rfl (fun K hK=>?_); go_simp
      skip
      refine hK.out _ _ ?_ (fun hHeld2=>?_)
      ·exact sF
      clear hK K; clear hHeld; have hHeld:=hHeld2; clear hHeld2
      try simp only [Act.put,sI,sZ,sS]
      refine wpAnyH_done (by as_aux_lemma=>kernel_rfl) ?_ _
      go_wp2_with fail
      go_roundg (m - (i+1))
      case measure=>omega
      case rel=>exact ⟨i+1,_,_,_,_,by go_num,by omega,hid (by rw [hn0.out,← hC]; exact hP6.out),hcn⟩
     ·go_simp
      go_at_call 48
      refine hcmd.out.mono ?_; rintro e W5 ⟨v5',rfl,hv5,hb5⟩; obtain ⟨a5,c5,hv5e,-⟩:=hv5.slice; subst hv5e; obtain ⟨a',c',W6,S3,hap,⟨u6,hu6⟩,hfz,hP6,hF6,hB6⟩:=hPd.out.step hb5 (c:=⟨ck,ckd,cof,cnw,cnm,car⟩) hv5 hrl 28 rfl
      dsimp only at hap
      have hP5:=hPd.out.below hb5; have kz:Below W5.heap.size W5 (W5.alloc (.cells #[sv ck,iv ckd,sv cof,sv cnw,sv cnm,.slice a5 car.length c5] 41 (0,0))):=(Below.refl _ _).alloc (Nat.le_refl _) _; have BA:=hP5.bel.trans (kz.mono hP5.bel.size); have r5:=(hb5.block ob (lt_of_heap hr4)).trans hr4; have rA:=(kz.block ob (lt_of_heap r5)).trans r5; have r6:=(hF6.block ob (lt_of_heap r5) hobS.out.1).trans r5; have rF:=(heap_setCell_other (i:=0) (.slice a' (st.length+1) c') (show ob≠pb by omega)).trans r6; have f4:=(cell_of (i:=0) hP5.blk).trans rfl; have j4:=(cell_of (i:=0) ((kz.block pb (lt_of_heap hP5.blk)).trans hP5.blk)).trans rfl; have s5:=hS.out _ hP5.bel r5; have sA:=hS.out _ BA rA; have s6:=hS.out _ hB6 r6; have sF:=hS.out _ hP6.bel rF; replace hP6:=hid hP6; clear kz BA hP5 hB6 hF6 hb5 hv5 r5 rA r6 rF
      refine hKK.out _ _ ?_ (fun hHeld2=>?_)
      ·exact s5
      clear hKK KK; have hHeld:=hHeld2; clear hHeld2
      try simp only [Act.put,sI,sZ,sS]
      refine wpAnyH_ready (rs:=[1,23]) (by as_aux_lemma=>kernel_rfl) (by simp) ?_; refine AllReadyH.cons (o:=⟨_,_,_,_,_,_⟩) rfl (fun KK hKK=>?_) (AllReadyH.cons (o:=⟨_,_,_,_,_,_⟩) rfl (fun KK hKK=>?_) AllReadyH.nil)
      all_goals clear hHeld
      ·go_simp
       skip
       refine hKK.out _ _ ?_ (fun hHeld2=>?_)
       ·exact s5
       clear hKK KK; have hHeld:=hHeld2; clear hHeld2
       try simp only [Act.put,sI,sZ,sS]
       refine wpAnyH_ready (rs:=[23]) (by as_aux_lemma=>kernel_rfl) (by simp) ?_; refine rdY rfl (fun K hK=>?_); go_simp
       skip
       refine hK.out _ _ ?_ (fun hHeld2=>?_)
       ·exact sA
       clear hK K; clear hHeld; have hHeld:=hHeld2; clear hHeld2
       try simp only [Act.put,sI,sZ,sS]
       refine wpAnyH_ready (rs:=[24]) (by as_aux_lemma=>kernel_rfl) (by simp) ?_; refine rdY rfl (fun K hK=>?_); refine step_append_shut (by rfl) (.tmp 73) (.tmp 95) (by rfl) (by rfl) (by rfl) hap ?_; refine hK.out _ _ ?_ (fun hHeld2=>?_)
       ·exact s6
       clear hK K hHeld; have hHeld:=hHeld2; clear hHeld2
       try simp only [Act.put,sI,sZ,sS]
       refine wTk (i:=25) (v:=?_) rfl ?hy ?_
       case hy =>
        intro w hSw; obtain ⟨s0,s1,s2,s3,s4,s5,s6,s7,s8,s9,s10,s11,s12,sO⟩:=hSw; have so0:=(cell_of (i:=0) sO).trans rfl; go_simp
        all_goals with_reducible rfl
       try simp only [Act.put,sI,sZ,sS]
       refine wpAnyH_ready (rs:=[26]) (by as_aux_lemma=>kernel_rfl) (by simp) ?_; refine rdY rfl (fun K hK=>?_); go_simp
       skip
       refine hK.out _ _ ?_ (fun hHeld2=>?_)
       ·exact sF
       clear hK K; clear hHeld; have hHeld:=hHeld2; clear hHeld2
       try simp only [Act.put,sI,sZ,sS]
       refine wpAnyH_done (by as_aux_lemma=>kernel_rfl) ?_ _
       go_wp2_with fail
       go_roundg (m - (i+1))
       case measure=>omega
       case rel=>exact ⟨i+1,_,_,_,_,by go_num,by omega,hid (by rw [hn0.out,← hC]; exact hP6.out),hcn⟩
      ·go_simp
       skip
       refine hKK.out _ _ ?_ (fun hHeld2=>?_)
       ·exact sA
       clear hKK KK; have hHeld:=hHeld2; clear hHeld2
       try simp only [Act.put,sI,sZ,sS]
       refine wpAnyH_ready (rs:=[1]) (by as_aux_lemma=>kernel_rfl) (by simp) ?_; refine rdY rfl (fun K hK=>?_); go_simp
       skip
       refine hK.out _ _ ?_ (fun hHeld2=>?_)
       ·exact sA
       clear hK K; clear hHeld; have hHeld:=hHeld2; clear hHeld2
       try simp only [Act.put,sI,sZ,sS]
       refine wpAnyH_ready (rs:=[24]) (by as_aux_lemma=>kernel_rfl) (by simp) ?_; refine rdY rfl (fun K hK=>?_); refine step_append_shut (by rfl) (.tmp 73) (.tmp 95) (by rfl) (by rfl) (by rfl) hap ?_; refine hK.out _ _ ?_ (fun hHeld2=>?_)
       ·exact s6
       clear hK K hHeld; have hHeld:=hHeld2; clear hHeld2
       try simp only [Act.put,sI,sZ,sS]
       refine wTk (i:=25) (v:=?_) rfl ?hy ?_
       case hy =>
        intro w hSw; obtain ⟨s0,s1,s2,s3,s4,s5,s6,s7,s8,s9,s10,s11,s12,sO⟩:=hSw; have so0:=(cell_of (i:=0) sO).trans rfl; go_simp
        all_goals with_reducible rfl
       try simp only [Act.put,sI,sZ,sS]
       refine wpAnyH_ready (rs:=[26]) (by as_aux_lemma=>kernel_rfl) (by simp) ?_; refine rdY rfl (fun K hK=>?_); go_simp
       skip
       refine hK.out _ _ ?_ (fun hHeld2=>?_)
       ·exact sF
       clear hK K; clear hHeld; have hHeld:=hHeld2; clear hHeld2
       try simp only [Act.put,sI,sZ,sS]
       refine wpAnyH_done (by as_aux_lemma=>kernel_rfl) ?_ _
       go_wp2_with fail
       go_roundg (m - (i+1))
       case measure=>omega
       case rel=>exact ⟨i+1,_,_,_,_,by go_num,by omega,hid (by rw [hn0.out,← hC]; exact hP6.out),hcn⟩
    ·clear hcj
     have n0:(kd == 0)=false:=by simp; omega
     have n4:(kd == 4)=false:=by simp; omega
     have n0':¬ kd=0:=by omega
     have n4':¬ kd=4:=by omega
     go_upto_region 11 with (fail)
     rw [← hobh.out,← hWe.out]
     have hS:Hid (∀ W,Below w1.heap.size w1 W→W.heap[ob]? = some (.cells #[iv kd,iv cs,iv wt] 102 (0,0))→(W.cell? ⟨X.xb,0,none⟩=some (.slice X.ua m X.uc)∧W.cell? ⟨ug,uo,none⟩=some (sv uk)∧W.cell? ⟨ug,uo+1,none⟩=some (sv uN)∧W.cell? ⟨ug,uo+2,none⟩=some (.slice a1 ua.length k1)∧W.cell? ⟨ug,uo+3,none⟩=some (.bool up)∧W.cell? ⟨ug,uo+4,none⟩=some (iv ut)∧W.heap[ob]? = some (.cells #[iv kd,iv cs,iv wt] 102 (0,0)))):=hid fun W hW hO=>⟨(hW.cell (p:=⟨X.xb,0,none⟩) hxl).trans x0,(hW.cell (p:=⟨ug,uo,none⟩) ult).trans v0,(hW.cell (p:=⟨ug,uo+1,none⟩) ult).trans v1,(hW.cell (p:=⟨ug,uo+2,none⟩) ult).trans v2,(hW.cell (p:=⟨ug,uo+3,none⟩) ult).trans v3,(hW.cell (p:=⟨ug,uo+4,none⟩) ult).trans v4,hO⟩
     have hn0:run1 x pick s.1 (i+1)=⟨st,re,co+cs,un++[cmdF x.turn kd ⟨uk,uN,ua,up,ut⟩ out0]⟩:=by
      rw [hnext.out]; unfold p1; rw [if_neg n0',if_neg n4',hua.out]
     have hcn:Hid (0≤(run1 x pick s.1 (i+1)).co∧(run1 x pick s.1 (i+1)).co≤((i+1:Nat):Int) * 1048576):=hid (by rw [hn0]; exact hco2.out); replace hn0:=hid hn0
     have hrl:un.length≤1048576:=by have:=hQl.out.2.2; simp only at this; omega
     have x2:=hX1.out.fields.2.2.1; have hPd:=hid (hP4.out.below ((Below.refl _ W4).drew:Below W4.heap.size W4 W4.drew)); have hr4:W4.drew.heap[ob]? = some (.cells #[iv kd,iv cs,iv wt] 102 (0,0)):=ro4.out; have sD:=hS.out _ hPd.out.bel hr4; have hcmd:=command_any X.xb x.turn kd uk uN ua up ut [] [] [] false 0 (.slice a1 ua.length k1) (.slice none 0 0) X.F W4.drew ((hPd.out.bel.cell (p:=⟨X.xb,2,none⟩) hxl).trans x2) (Nat.lt_of_lt_of_le hxl hPd.out.bel.size) (hid (ht.out.below (hw1s.out.trans (hPd.out.bel.mono hw1s.out.size)))) (by omega) hukl (by simp) (SlR.nil _ _ _ _ 0) ⟨by simp,fun _ h=>by cases h⟩; obtain ⟨C,hC⟩:∃ C,C=cmdF x.turn kd ⟨uk,uN,ua,up,ut⟩ out0:=⟨_,rfl⟩; replace hcmd:Calls _ _ _ _ (CPost (cmdF x.turn kd ⟨uk,uN,ua,up,ut⟩ out0) W4.drew):=hcmd; rw [← hC] at hcmd
     obtain ⟨ck,ckd,cof,cnw,cnm,car⟩:=C; replace hcmd:=hid (hcmd.mono fun e w' (h:CPost ⟨ck,ckd,cof,cnw,cnm,car⟩ W4.drew e w')=>(show ∃ v,e=.returned (.agg #[sv ck,iv ckd,sv cof,sv cnw,sv cnm,v])∧ValsR (fun q=>W4.drew.heap.size≤q∧q < w'.heap.size) w' car v∧Below W4.drew.heap.size W4.drew w' from h))
     go_wp2_with fail
     refine wp_region_held_drew (S:=fun w'=>w'.cell? ⟨X.xb,0,none⟩=some (.slice X.ua m X.uc)∧w'.cell? ⟨ug,uo,none⟩=some (sv uk)∧w'.cell? ⟨ug,uo+1,none⟩=some (sv uN)∧w'.cell? ⟨ug,uo+2,none⟩=some (.slice a1 ua.length k1)∧w'.cell? ⟨ug,uo+3,none⟩=some (.bool up)∧w'.cell? ⟨ug,uo+4,none⟩=some (iv ut)∧w'.heap[ob]? = some (.cells #[iv kd,iv cs,iv wt] 102 (0,0))) (by kernel_rfl) ?_ (fun hHeld=>?_)
     ·exact sD
     generalize W4.drew=Wd at *; refine wTk (i:=0) (v:=?_) rfl ?hy ?_
     case hy =>
      intro w hSw; obtain ⟨s0,s1,s2,s3,s4,s5,sO⟩:=hSw; have so0:=(cell_of (i:=0) sO).trans rfl; go_simp
      all_goals with_reducible rfl
     try simp only [Act.put,sI,sZ,sS]
     refine wTk (i:=1) (v:=?_) rfl ?hy ?_
     case hy =>
      intro w hSw; obtain ⟨s0,s1,s2,s3,s4,s5,sO⟩:=hSw; have so0:=(cell_of (i:=0) sO).trans rfl; go_simp
      all_goals with_reducible rfl
     try simp only [Act.put,sI,sZ,sS]
     refine wTk (i:=2) (v:=?_) rfl ?hy ?_
     case hy =>
      intro w hSw; obtain ⟨s0,s1,s2,s3,s4,s5,sO⟩:=hSw; have so0:=(cell_of (i:=0) sO).trans rfl; go_simp
      all_goals with_reducible rfl
     try simp only [Act.put,sI,sZ,sS]
     refine wTk (i:=3) (v:=?_) rfl ?hy ?_
     case hy =>
      intro w hSw; obtain ⟨s0,s1,s2,s3,s4,s5,sO⟩:=hSw; have so0:=(cell_of (i:=0) sO).trans rfl; go_simp
      all_goals with_reducible rfl
     try simp only [Act.put,sI,sZ,sS]
     refine wTk (i:=4) (v:=?_) rfl ?hy ?_
     case hy =>
      intro w hSw; obtain ⟨s0,s1,s2,s3,s4,s5,sO⟩:=hSw; have so0:=(cell_of (i:=0) sO).trans rfl; go_simp
      all_goals with_reducible rfl
     try simp only [Act.put,sI,sZ,sS]
     refine wTk (i:=5) (v:=?_) rfl ?hy ?_
     case hy =>
      intro w hSw; obtain ⟨s0,s1,s2,s3,s4,s5,sO⟩:=hSw; have so0:=(cell_of (i:=0) sO).trans rfl; go_simp
      all_goals with_reducible rfl
     try simp only [Act.put,sI,sZ,sS]
     refine wTk (i:=6) (v:=?_) rfl ?hy ?_
     case hy =>
      intro w hSw; obtain ⟨s0,s1,s2,s3,s4,s5,sO⟩:=hSw; have so0:=(cell_of (i:=0) sO).trans rfl; go_simp
      all_goals with_reducible rfl
     try simp only [Act.put,sI,sZ,sS]
     refine wTk (i:=7) (v:=?_) rfl ?hy ?_
     case hy =>
      intro w hSw; obtain ⟨s0,s1,s2,s3,s4,s5,sO⟩:=hSw; have so0:=(cell_of (i:=0) sO).trans rfl; go_simp
      all_goals with_reducible rfl
     try simp only [Act.put,sI,sZ,sS]
     refine wTk (i:=8) (v:=?_) rfl ?hy ?_
     case hy =>
      intro w hSw; obtain ⟨s0,s1,s2,s3,s4,s5,sO⟩:=hSw; have so0:=(cell_of (i:=0) sO).trans rfl; go_simp
      all_goals with_reducible rfl
     try simp only [Act.put,sI,sZ,sS]
     refine wTk (i:=9) (v:=?_) rfl ?hy ?_
     case hy =>
      intro w hSw; obtain ⟨s0,s1,s2,s3,s4,s5,sO⟩:=hSw; have so0:=(cell_of (i:=0) sO).trans rfl; go_simp
      all_goals with_reducible rfl
     try simp only [Act.put,sI,sZ,sS]
     refine wTk (i:=10) (v:=?_) rfl ?hy ?_
     case hy =>
      intro w hSw; obtain ⟨s0,s1,s2,s3,s4,s5,sO⟩:=hSw; have so0:=(cell_of (i:=0) sO).trans rfl; go_simp
      all_goals with_reducible rfl
     try simp only [Act.put,sI,sZ,sS]
     refine wTk (i:=11) (v:=?_) rfl ?hy ?_
     case hy =>
      intro w hSw; obtain ⟨s0,s1,s2,s3,s4,s5,sO⟩:=hSw; have so0:=(cell_of (i:=0) sO).trans rfl; go_simp
      all_goals with_reducible rfl
     try simp only [Act.put,sI,sZ,sS]
     refine wpAnyH_ready (rs:=[12]) (by as_aux_lemma=>kernel_rfl) (by simp) ?_; refine rdY rfl (fun K hK=>?_); go_simp
     go_at_call 48
     refine hcmd.out.mono ?_; rintro e W5 ⟨v5',rfl,hv5,hb5⟩; obtain ⟨a5,c5,hv5e,-⟩:=hv5.slice; subst hv5e; obtain ⟨v6,W6,S3,hap,hP6,hF6⟩:=hPd.out.undo hb5 (c:=⟨ck,ckd,cof,cnw,cnm,car⟩) hv5 hrl 28 rfl
     dsimp only at hap
     have hP5:=hPd.out.below hb5; have kz:Below W5.heap.size W5 (W5.alloc (.cells #[sv ck,iv ckd,sv cof,sv cnw,sv cnm,.slice a5 car.length c5] 41 (0,0))):=(Below.refl _ _).alloc (Nat.le_refl _) _; have BA:=hP5.bel.trans (kz.mono hP5.bel.size); have r5:=(hb5.block ob (lt_of_heap hr4)).trans hr4; have rA:=(kz.block ob (lt_of_heap r5)).trans r5; have r6:=(hF6.block ob (lt_of_heap r5) hobS.out.2).trans r5; have s5:=hS.out _ hP5.bel r5; have sA:=hS.out _ BA rA; have s6:=hS.out _ hP6.bel r6; replace hP6:=hid hP6; clear kz BA hP5 hF6 hb5 hv5 r5 rA r6; refine hK.out _ _ ?_ (fun hHeld2=>?_)
     ·exact s5
     clear hK K; clear hHeld; have hHeld:=hHeld2; clear hHeld2
     try simp only [Act.put,sI,sZ,sS]
     refine wpAnyH_ready (rs:=[13]) (by as_aux_lemma=>kernel_rfl) (by simp) ?_; refine rdY rfl (fun K hK=>?_); go_simp
     skip
     refine hK.out _ _ ?_ (fun hHeld2=>?_)
     ·exact sA
     clear hK K; clear hHeld; have hHeld:=hHeld2; clear hHeld2
     try simp only [Act.put,sI,sZ,sS]
     refine wpAnyH_ready (rs:=[14]) (by as_aux_lemma=>kernel_rfl) (by simp) ?_; refine rdY rfl (fun K hK=>?_); refine step_append_shut (by rfl) (.tmp 40) (.tmp 53) (by rfl) (by rfl) (by rfl) hap ?_; refine hK.out _ _ ?_ (fun hHeld2=>?_)
     ·exact s6
     clear hK K hHeld; have hHeld:=hHeld2; clear hHeld2
     try simp only [Act.put,sI,sZ,sS]
     refine wTk (i:=15) (v:=?_) rfl ?hy ?_
     case hy =>
      intro w hSw; obtain ⟨s0,s1,s2,s3,s4,s5,sO⟩:=hSw; have so0:=(cell_of (i:=0) sO).trans rfl; go_simp
      all_goals with_reducible rfl
     try simp only [Act.put,sI,sZ,sS]
     refine wpAnyH_done (by as_aux_lemma=>kernel_rfl) ?_ _
     go_wp2_with fail
     go_roundg (m - (i+1))
     case measure=>omega
     case rel=>exact ⟨i+1,_,_,_,_,by go_num,by omega,hid (by rw [hn0.out,← hC]; exact hP6.out),hcn⟩
   ·have q1:decide ((i:Int) < (m:Int))=false:=decide_eq_false (by omega)
    have q1':decide (i < m)=false:=decide_eq_false hin
    have him:i=m:=by omega
    subst him; obtain ⟨a',c',w2,S3,hap,⟨u6,hu6⟩,hfz,hP6⟩:=hP.out.join (by have:=hQl.1; simp only at this; omega) (by have:=hQl.2.2; simp only at this; omega) 28; have p0:wr.cell? ⟨pb,0,none⟩=some vs:=(cell_of hP.out.blk).trans rfl
    have x5:w1.cell? ⟨X.xb,5,none⟩=some (.slice X.ga k X.gc):=by rw [hk.out]; exact hX1.out.fields.2.2.2.2.2.1
    have hxl:=lt_of_heap hX1.out.blk; have g5:=(hP6.bel.cell (p:=⟨X.xb,5,none⟩) hxl).trans x5; obtain ⟨n9,hn9⟩:∃ n,n=st.length+un.length:=⟨_,rfl⟩; rw [← hn9] at hap hP6 g5
    have hstart:PLM w1 pb (run2 x s.2 (run1 x pick s.1 i) 0).st [] (run2 x s.2 (run1 x pick s.1 i) 0).re (run2 x s.2 (run1 x pick s.1 i) 0).co (.slice a' n9 c') (.slice none 0 0) vr S3 (fun _=>False) (w2.setCell ⟨pb,0,none⟩ (.slice a' n9 c')):=by rw [← hQ]; exact hP6
    have hco0:0≤(run2 x s.2 (run1 x pick s.1 i) 0).co∧(run2 x s.2 (run1 x pick s.1 i) 0).co≤(i+(0:Nat):Nat) * 1048576:=by rw [← hQ]; exact hco.out
    replace hap:=hid hap; replace hstart:=hid hstart; replace hco0:=hid hco0; replace hn9:=hid hn9; clear hP hP6 hQ hQl hco
    go_wp2_with (first | (at_builtin; refine wpList_append_shut rfl (.tmp 100) (.tmp 101) rfl rfl rfl hap.out ?_))
    go_loopg [109] k (fun f v109 wr=>∃ (j:Nat) (vs vr:Value) (S1:Foot),v109=iv j∧j+f=k∧Hid (PLM w1 pb (run2 x s.2 (run1 x pick s.1 i) j).st [] (run2 x s.2 (run1 x pick s.1 i) j).re (run2 x s.2 (run1 x pick s.1 i) j).co vs (.slice none 0 0) vr S1 (fun _=>False) wr)∧Hid (0≤(run2 x s.2 (run1 x pick s.1 i) j).co∧(run2 x s.2 (run1 x pick s.1 i) j).co≤(i+j:Nat) * 1048576))
    case atStart=>exact ⟨0,_,_,_,rfl,by omega,hstart,hco0⟩
    case round =>
     obtain ⟨j,vs,vr,S1,rfl,hjf,hP,hco⟩:=hrel; clear hstart hco0 hap hu6 hfz p0 g5; obtain ⟨Q,hQ⟩:∃ Q,Q=run2 x s.2 (run1 x pick s.1 i) j:=⟨_,rfl⟩; have hQl:=run2_len x s.2 (run1 x pick s.1 i) j; have hQl1:=run1_len x pick s.1 i; rw [← hQ] at hP hQl hco; obtain ⟨st,re,co,un⟩:=Q; replace hP:Hid (PLM w1 pb st [] re co vs (.slice none 0 0) vr S1 (fun _=>False) wr):=hP
     replace hQl:st.length≤96∧re.length≤96:=by
      simp only at hQl; omega
     by_cases hjk:j < k
     ·have q1:decide ((j:Int) < (k:Int))=true:=decide_eq_true (by omega)
      have q1':decide (j < k)=true:=decide_eq_true hjk; obtain ⟨g,o,y,hy,hidx,c0,c1,c2⟩:=(hX1.out.below hP.out.bel).giveAt (r:=j) (by rw [← hk.out]; exact hjk); rw [← hk.out] at hidx; have hyb:=hB.out.g y (List.mem_of_getElem? hy); have hkd:=hK.out.g y (List.mem_of_getElem? hy)
      have hnext:run2 x s.2 (run1 x pick s.1 i) (j+1)=p2 x s.2 j y ⟨st,re,co,un⟩:=by show p2 x s.2 j ((x.give[j]?).getD opt0) (run2 x s.2 (run1 x pick s.1 i) j)=_; rw [hy,← hQ]; rfl
      obtain ⟨kd,cs,wt⟩:=y; replace c0:wr.cell? ⟨g,o,none⟩=some (iv kd):=c0; replace c1:wr.cell? ⟨g,o+1,none⟩=some (iv cs):=c1; replace c2:wr.cell? ⟨g,o+2,none⟩=some (iv wt):=c2; replace hkd:kd=0∨kd=1:=hkd; have hcb:0≤cs∧cs≤1048576:=⟨hyb.2.2.1,hyb.2.2.2.1⟩; have hco1:0≤co∧co≤(i+j:Nat) * 1048576:=hco.out; have hw:IntKind.i64.wrap (co+cs)=co+cs:=wrapI (by omega) (by omega); have t0:=(htk.out.below hP.out.bel).cell hjk
      have tz:=fun kd W=>bb_idx (g:=tb) (n:=k) (cap:=k) hjk kd W
      have htbl:=htk.out.lt; have hb3:Below wr.heap.size wr (wr.alloc (.cells #[iv kd,iv cs,iv wt] 102 (0,0))):=(Below.refl _ wr).alloc (Nat.le_refl _) _; have hP3:=hP.out.below hb3; have ro3:=heap_alloc_new' wr (.cells #[iv kd,iv cs,iv wt] 102 (0,0)); obtain ⟨ob,hob⟩:∃ q,q=wr.heap.size:=⟨_,rfl⟩
      have hobp:pb < ob:=by rw [hob]; exact lt_of_heap hP.out.blk
      have hobS:¬ S1 ob∧¬ False:=⟨fun e=>by have:=(hP.out.f1 ob e).2.1; omega,id⟩; obtain ⟨W3,hW3⟩:∃ W,W=wr.alloc (.cells #[iv kd,iv cs,iv wt] 102 (0,0)):=⟨_,rfl⟩; rw [← hW3] at hP3 ro3; rw [← hob] at ro3; have t1:=(htk.out.below hP3.bel).cell hjk
      cases hsj:s.2 j with
      | true =>
       have hn0:run2 x s.2 (run1 x pick s.1 i) (j+1)=⟨st,re,co,un⟩:=by rw [hnext]; unfold p2; rw [if_pos hsj]
       have hPn:=hid (show PLM w1 pb (run2 x s.2 (run1 x pick s.1 i) (j+1)).st [] (run2 x s.2 (run1 x pick s.1 i) (j+1)).re (run2 x s.2 (run1 x pick s.1 i) (j+1)).co vs (.slice none 0 0) vr S1 (fun _=>False) W3 from by rw [hn0]; exact hP3); have hcn:=hid (show 0≤(run2 x s.2 (run1 x pick s.1 i) (j+1)).co∧(run2 x s.2 (run1 x pick s.1 i) (j+1)).co≤(i+(j+1):Nat) * 1048576 from by rw [hn0]; exact ⟨hco1.1,by have:=hco1.2; show co≤_; omega⟩); rw [hsj] at t1; rw [hW3] at hPn t1; clear hP hP3 ro3 hnext hQ hW3 hy hyb hco hn0 hsj hob t0
       go_wp2_with fail
       go_roundg (k - (j+1))
       case measure=>omega
       case rel=>exact ⟨j+1,_,_,_,by go_num,by omega,hPn,hcn⟩
      | false =>
       rw [hsj] at t1; have p2':W3.cell? ⟨pb,2,none⟩=some (iv co):=(cell_of hP3.blk).trans rfl; have pz:=free_of (i:=2) hP3.blk; have o0:W3.cell? ⟨ob,0,none⟩=some (iv kd):=(cell_of ro3).trans rfl; have o1:W3.cell? ⟨ob,1,none⟩=some (iv cs):=(cell_of ro3).trans rfl; have hP4:=hP3.cost (co+cs); have ro4:(W3.setCell ⟨pb,2,none⟩ (iv (co+cs))).heap[ob]? = some (.cells #[iv kd,iv cs,iv wt] 102 (0,0)):=(heap_setCell_other _ (by omega)).trans ro3; obtain ⟨W4,hW4⟩:∃ W,W=W3.setCell ⟨pb,2,none⟩ (iv (co+cs)):=⟨_,rfl⟩; rw [← hW4] at hP4 ro4; have o0':W4.cell? ⟨ob,0,none⟩=some (iv kd):=(cell_of ro4).trans rfl
       obtain ⟨d,hd⟩:∃ d,x.do[j]? = some d:=⟨_,List.getElem?_eq_getElem (by rw [← hk.out]; exact hjk)⟩
       have hda:dAt x j=d:=by unfold dAt; rw [show ((j:Nat):Int).toNat=j from rfl,hd]; rfl
       have hdkl:=hdk.out d (List.mem_of_getElem? hd)
       obtain ⟨dg,dO,dcs,didx,dF,dlt,dcc,hdR⟩:=hX1.out.do.at (P:=Tryz.prog) (t:=23) (by kernel_rfl) (fun _=>by kernel_rfl) hd
       obtain ⟨dk,dn,da,dp,dt⟩:=d; obtain ⟨a2,k2,rfl,hdv⟩:=hdR; replace hdkl:dk.length≤1000∧ValsB da:=hdkl; rw [← hk.out] at didx; have w0:=dcc 0 _ rfl; have w1':=dcc 1 _ rfl; have w2':=dcc 2 _ rfl; have w3':=dcc 3 _ rfl; have w4':=dcc 4 _ rfl; rw [Nat.add_zero] at w0; replace w0:w1.cell? ⟨dg,dO,none⟩=some (sv dk):=w0; replace w1':w1.cell? ⟨dg,dO+1,none⟩=some (sv dn):=w1'; replace w2':w1.cell? ⟨dg,dO+2,none⟩=some (.slice a2 da.length k2):=w2'; replace w3':w1.cell? ⟨dg,dO+3,none⟩=some (.bool dp):=w3'; replace w4':w1.cell? ⟨dg,dO+4,none⟩=some (iv dt):=w4'
       have x1:w1.cell? ⟨X.xb,1,none⟩=some (.slice X.da k X.dc):=by rw [hk.out]; exact hX1.out.fields.2.1
       have hco2:=hid (show 0≤co+cs∧co+cs≤(i+(j+1):Nat) * 1048576 by omega); rw [hW3] at p2' pz o0 o1 t1; rw [hob] at o0 o1; rw [hW4,hW3,hob] at o0'; have hWe:=hid (show W4=(wr.alloc (.cells #[iv kd,iv cs,iv wt] 102 (0,0))).setCell ⟨pb,2,none⟩ (iv (co+cs)) from by rw [hW4,hW3]); have hobh:=hid hob; replace hP4:=hid hP4; replace ro4:=hid ro4; replace hnext:=hid hnext; replace hda:=hid hda; replace hobS:=hid hobS; have hsj':=hid hsj; have hdvh:=hid hdv
       have hrl:re.length≤1048576:=by omega
       have hstl:st.length≤1048576:=by omega
       clear hP hP3 ro3 hQ hW3 hW4 hob hy hyb hco t0 hd dcc dF hdv hsj hb3; rcases hkd with rfl | rfl
       ·go_upto_region 26 with (fail)
        rw [← hobh.out,← hWe.out]
        have hS:Hid (∀ W,Below w1.heap.size w1 W→(W.cell? ⟨X.xb,1,none⟩=some (.slice X.da k X.dc)∧W.cell? ⟨dg,dO,none⟩=some (sv dk))):=hid fun W hW=>⟨(hW.cell (p:=⟨X.xb,1,none⟩) hxl).trans x1,(hW.cell (p:=⟨dg,dO,none⟩) dlt).trans w0⟩
        have hn0:run2 x s.2 (run1 x pick s.1 i) (j+1)=⟨st,re++[dk],co+cs,un⟩:=by rw [hnext.out]; unfold p2; rw [if_neg (by rw [hsj'.out]; simp),if_pos rfl,hda.out]
        have hcn:Hid (0≤(run2 x s.2 (run1 x pick s.1 i) (j+1)).co∧(run2 x s.2 (run1 x pick s.1 i) (j+1)).co≤(i+(j+1):Nat) * 1048576):=hid (by rw [hn0]; exact hco2.out); replace hn0:=hid hn0; have hPd:=hid (hP4.out.below ((Below.refl _ W4).drew:Below W4.heap.size W4 W4.drew)); obtain ⟨a',c',W6,hap,⟨u6,hu6⟩,hfz,hP6,hB6⟩:=hPd.out.rest dk hrl 24; have kz:Below W4.drew.heap.size W4.drew (W4.drew.alloc (.cells #[sv dk] 9 (0,0))):=(Below.refl _ _).alloc (Nat.le_refl _) _; have BA:=hid (hPd.out.bel.trans (kz.mono hPd.out.bel.size)); have o4:=(cell_of (i:=1) hPd.out.blk).trans rfl; have j4:=(cell_of (i:=1) ((kz.block pb (lt_of_heap hPd.out.blk)).trans hPd.out.blk)).trans rfl; have sD:=hS.out _ hPd.out.bel; have sA:=hS.out _ BA.out; have s6:=hS.out _ hB6; have sF:=hS.out _ hP6.bel
        replace hP6:=hid hP6; clear kz hB6
        go_wp2_with fail
        refine wp_region_held_drew (S:=fun w'=>w'.cell? ⟨X.xb,1,none⟩=some (.slice X.da k X.dc)∧w'.cell? ⟨dg,dO,none⟩=some (sv dk)) (by kernel_rfl) ?_ (fun hHeld=>?_)
        ·exact sD
        generalize W4.drew=Wd at *; refine wTk (i:=0) (v:=?_) rfl ?hy ?_
        case hy =>
         intro w hSw; obtain ⟨s0,s1⟩:=hSw; go_simp
         all_goals with_reducible rfl
        try simp only [Act.put,sI,sZ,sS]
        refine wTk (i:=2) (v:=?_) rfl ?hy ?_
        case hy =>
         intro w hSw; obtain ⟨s0,s1⟩:=hSw; go_simp
         all_goals with_reducible rfl
        try simp only [Act.put,sI,sZ,sS]
        refine wTk (i:=3) (v:=?_) rfl ?hy ?_
        case hy =>
         intro w hSw; obtain ⟨s0,s1⟩:=hSw; go_simp
         all_goals with_reducible rfl
        try simp only [Act.put,sI,sZ,sS]
        refine wTk (i:=4) (v:=?_) rfl ?hy ?_
        case hy =>
         intro w hSw; obtain ⟨s0,s1⟩:=hSw; go_simp
         all_goals with_reducible rfl
        try simp only [Act.put,sI,sZ,sS]
        refine wTk (i:=5) (v:=?_) rfl ?hy ?_
        case hy =>
         intro w hSw; obtain ⟨s0,s1⟩:=hSw; go_simp
         all_goals with_reducible rfl
        try simp only [Act.put,sI,sZ,sS]
        refine wTk (i:=6) (v:=?_) rfl ?hy ?_
        case hy =>
         intro w hSw; obtain ⟨s0,s1⟩:=hSw; go_simp
         all_goals with_reducible rfl
        try simp only [Act.put,sI,sZ,sS]
        refine wTk (i:=7) (v:=?_) rfl ?hy ?_
        case hy =>
         intro w hSw; obtain ⟨s0,s1⟩:=hSw; go_simp
         all_goals with_reducible rfl
        try simp only [Act.put,sI,sZ,sS]
        refine wTk (i:=8) (v:=?_) rfl ?hy ?_
        case hy =>
         intro w hSw; obtain ⟨s0,s1⟩:=hSw; go_simp
         all_goals with_reducible rfl
        try simp only [Act.put,sI,sZ,sS]
        refine wTk (i:=9) (v:=?_) rfl ?hy ?_
        case hy =>
         intro w hSw; obtain ⟨s0,s1⟩:=hSw; go_simp
         all_goals with_reducible rfl
        try simp only [Act.put,sI,sZ,sS]
        refine wpAnyH_ready (rs:=[1,10]) (by as_aux_lemma=>kernel_rfl) (by simp) ?_; refine AllReadyH.cons (o:=⟨_,_,_,_,_,_⟩) rfl (fun KK hKK=>?_) (AllReadyH.cons (o:=⟨_,_,_,_,_,_⟩) rfl (fun KK hKK=>?_) AllReadyH.nil)
        all_goals clear hHeld
        ·go_simp
         skip
         refine hKK.out _ _ ?_ (fun hHeld2=>?_)
         ·exact sD
         clear hKK KK; have hHeld:=hHeld2; clear hHeld2
         try simp only [Act.put,sI,sZ,sS]
         refine wpAnyH_ready (rs:=[10]) (by as_aux_lemma=>kernel_rfl) (by simp) ?_; refine rdY rfl (fun K hK=>?_); go_simp
         skip
         refine hK.out _ _ ?_ (fun hHeld2=>?_)
         ·exact sA
         clear hK K; clear hHeld; have hHeld:=hHeld2; clear hHeld2
         try simp only [Act.put,sI,sZ,sS]
         refine wpAnyH_ready (rs:=[11]) (by as_aux_lemma=>kernel_rfl) (by simp) ?_; refine rdY rfl (fun K hK=>?_); refine step_append_shut (by rfl) (.tmp 153) (.tmp 162) (by rfl) (by rfl) (by rfl) hap ?_; refine hK.out _ _ ?_ (fun hHeld2=>?_)
         ·exact s6
         clear hK K hHeld; have hHeld:=hHeld2; clear hHeld2
         try simp only [Act.put,sI,sZ,sS]
         refine wTk (i:=12) (v:=?_) rfl ?hy ?_
         case hy =>
          intro w hSw; obtain ⟨s0,s1⟩:=hSw; go_simp
          all_goals with_reducible rfl
         try simp only [Act.put,sI,sZ,sS]
         refine wpAnyH_ready (rs:=[13]) (by as_aux_lemma=>kernel_rfl) (by simp) ?_; refine rdY rfl (fun K hK=>?_); go_simp
         skip
         refine hK.out _ _ ?_ (fun hHeld2=>?_)
         ·exact sF
         clear hK K; clear hHeld; have hHeld:=hHeld2; clear hHeld2
         try simp only [Act.put,sI,sZ,sS]
         refine wpAnyH_done (by as_aux_lemma=>kernel_rfl) ?_ _
         go_wp2_with fail
         go_roundg (k - (j+1))
         case measure=>omega
         case rel=>exact ⟨j+1,_,_,_,by go_num,by omega,(hid (by rw [hn0.out]; exact hP6.out)),hcn⟩
        ·go_simp
         skip
         refine hKK.out _ _ ?_ (fun hHeld2=>?_)
         ·exact sA
         clear hKK KK; have hHeld:=hHeld2; clear hHeld2
         try simp only [Act.put,sI,sZ,sS]
         refine wpAnyH_ready (rs:=[1]) (by as_aux_lemma=>kernel_rfl) (by simp) ?_; refine rdY rfl (fun K hK=>?_); go_simp
         skip
         refine hK.out _ _ ?_ (fun hHeld2=>?_)
         ·exact sA
         clear hK K; clear hHeld; have hHeld:=hHeld2; clear hHeld2
         try simp only [Act.put,sI,sZ,sS]
         refine wpAnyH_ready (rs:=[11]) (by as_aux_lemma=>kernel_rfl) (by simp) ?_; refine rdY rfl (fun K hK=>?_); refine step_append_shut (by rfl) (.tmp 153) (.tmp 162) (by rfl) (by rfl) (by rfl) hap ?_; refine hK.out _ _ ?_ (fun hHeld2=>?_)
         ·exact s6
         clear hK K hHeld; have hHeld:=hHeld2; clear hHeld2
         try simp only [Act.put,sI,sZ,sS]
         refine wTk (i:=12) (v:=?_) rfl ?hy ?_
         case hy =>
          intro w hSw; obtain ⟨s0,s1⟩:=hSw; go_simp
          all_goals with_reducible rfl
         try simp only [Act.put,sI,sZ,sS]
         refine wpAnyH_ready (rs:=[13]) (by as_aux_lemma=>kernel_rfl) (by simp) ?_; refine rdY rfl (fun K hK=>?_); go_simp
         skip
         refine hK.out _ _ ?_ (fun hHeld2=>?_)
         ·exact sF
         clear hK K; clear hHeld; have hHeld:=hHeld2; clear hHeld2
         try simp only [Act.put,sI,sZ,sS]
         refine wpAnyH_done (by as_aux_lemma=>kernel_rfl) ?_ _
         go_wp2_with fail
         go_roundg (k - (j+1))
         case measure=>omega
         case rel=>exact ⟨j+1,_,_,_,by go_num,by omega,(hid (by rw [hn0.out]; exact hP6.out)),hcn⟩
       ·go_upto_region 22 with (fail)
        rw [← hobh.out,← hWe.out]
        have hS:Hid (∀ W,Below w1.heap.size w1 W→W.heap[ob]? = some (.cells #[iv 1,iv cs,iv wt] 102 (0,0))→(W.cell? ⟨X.xb,1,none⟩=some (.slice X.da k X.dc)∧W.cell? ⟨dg,dO,none⟩=some (sv dk)∧W.cell? ⟨dg,dO+1,none⟩=some (sv dn)∧W.cell? ⟨dg,dO+2,none⟩=some (.slice a2 da.length k2)∧W.cell? ⟨dg,dO+3,none⟩=some (.bool dp)∧W.cell? ⟨dg,dO+4,none⟩=some (iv dt)∧W.heap[ob]? = some (.cells #[iv 1,iv cs,iv wt] 102 (0,0)))):=hid fun W hW hO=>⟨(hW.cell (p:=⟨X.xb,1,none⟩) hxl).trans x1,(hW.cell (p:=⟨dg,dO,none⟩) dlt).trans w0,(hW.cell (p:=⟨dg,dO+1,none⟩) dlt).trans w1',(hW.cell (p:=⟨dg,dO+2,none⟩) dlt).trans w2',(hW.cell (p:=⟨dg,dO+3,none⟩) dlt).trans w3',(hW.cell (p:=⟨dg,dO+4,none⟩) dlt).trans w4',hO⟩
        have hn0:run2 x s.2 (run1 x pick s.1 i) (j+1)=⟨st++[cmdF x.turn 1 out0 ⟨dk,dn,da,dp,dt⟩],re,co+cs,un⟩:=by rw [hnext.out]; unfold p2; rw [if_neg (by rw [hsj'.out]; simp),if_neg (show ¬ (1:Int)=0 by decide),hda.out]
        have hcn:Hid (0≤(run2 x s.2 (run1 x pick s.1 i) (j+1)).co∧(run2 x s.2 (run1 x pick s.1 i) (j+1)).co≤(i+(j+1):Nat) * 1048576):=hid (by rw [hn0]; exact hco2.out); replace hn0:=hid hn0; have x2:=hX1.out.fields.2.2.1; have hPd:=hid (hP4.out.below ((Below.refl _ W4).drew:Below W4.heap.size W4 W4.drew)); have hr4:W4.drew.heap[ob]? = some (.cells #[iv 1,iv cs,iv wt] 102 (0,0)):=ro4.out; have o4:=(cell_of (i:=0) hPd.out.blk).trans rfl; have sD:=hS.out _ hPd.out.bel hr4
        have hcmd:=(show Calls _ _ _ _ (CPost (cmdF x.turn 1 out0 ⟨dk,dn,da,dp,dt⟩) W4.drew) from command_any X.xb x.turn 1 [] [] [] false 0 dk dn da dp dt (.slice none 0 0) (.slice a2 da.length k2) X.F W4.drew ((hPd.out.bel.cell (p:=⟨X.xb,2,none⟩) hxl).trans x2) (Nat.lt_of_lt_of_le hxl hPd.out.bel.size) (hid (ht.out.below (hw1s.out.trans (hPd.out.bel.mono hw1s.out.size)))) (by omega) (by simp) hdkl.1 (hdvh.out.below goodVal hPd.out.bel) hdkl.2); obtain ⟨C,hC⟩:∃ C,C=cmdF x.turn 1 out0 ⟨dk,dn,da,dp,dt⟩:=⟨_,rfl⟩; rw [← hC] at hcmd; obtain ⟨ck,ckd,cof,cnw,cnm,car⟩:=C
        replace hcmd:=hid (hcmd.mono fun e w' (h:CPost ⟨ck,ckd,cof,cnw,cnm,car⟩ W4.drew e w')=>(show ∃ v,e=.returned (.agg #[sv ck,iv ckd,sv cof,sv cnw,sv cnm,v])∧ValsR (fun q=>W4.drew.heap.size≤q∧q < w'.heap.size) w' car v∧Below W4.drew.heap.size W4.drew w' from h))
        go_wp2_with fail
        refine wp_region_held_drew (S:=fun w'=>w'.cell? ⟨X.xb,1,none⟩=some (.slice X.da k X.dc)∧w'.cell? ⟨dg,dO,none⟩=some (sv dk)∧w'.cell? ⟨dg,dO+1,none⟩=some (sv dn)∧w'.cell? ⟨dg,dO+2,none⟩=some (.slice a2 da.length k2)∧w'.cell? ⟨dg,dO+3,none⟩=some (.bool dp)∧w'.cell? ⟨dg,dO+4,none⟩=some (iv dt)∧w'.heap[ob]? = some (.cells #[iv 1,iv cs,iv wt] 102 (0,0))) (by kernel_rfl) ?_ (fun hHeld=>?_)
        ·exact sD
        generalize W4.drew=Wd at *; refine wTk (i:=0) (v:=?_) rfl ?hy ?_
        case hy =>
         intro w hSw; obtain ⟨s0,s1,s2,s3,s4,s5,sO⟩:=hSw; have so0:=(cell_of (i:=0) sO).trans rfl; go_simp
         all_goals with_reducible rfl
        try simp only [Act.put,sI,sZ,sS]
        refine wTk (i:=2) (v:=?_) rfl ?hy ?_
        case hy =>
         intro w hSw; obtain ⟨s0,s1,s2,s3,s4,s5,sO⟩:=hSw; have so0:=(cell_of (i:=0) sO).trans rfl; go_simp
         all_goals with_reducible rfl
        try simp only [Act.put,sI,sZ,sS]
        refine wTk (i:=3) (v:=?_) rfl ?hy ?_
        case hy =>
         intro w hSw; obtain ⟨s0,s1,s2,s3,s4,s5,sO⟩:=hSw; have so0:=(cell_of (i:=0) sO).trans rfl; go_simp
         all_goals with_reducible rfl
        try simp only [Act.put,sI,sZ,sS]
        refine wTk (i:=4) (v:=?_) rfl ?hy ?_
        case hy =>
         intro w hSw; obtain ⟨s0,s1,s2,s3,s4,s5,sO⟩:=hSw; have so0:=(cell_of (i:=0) sO).trans rfl; go_simp
         all_goals with_reducible rfl
        try simp only [Act.put,sI,sZ,sS]
        refine wTk (i:=5) (v:=?_) rfl ?hy ?_
        case hy =>
         intro w hSw; obtain ⟨s0,s1,s2,s3,s4,s5,sO⟩:=hSw; have so0:=(cell_of (i:=0) sO).trans rfl; go_simp
         all_goals with_reducible rfl
        try simp only [Act.put,sI,sZ,sS]
        refine wTk (i:=6) (v:=?_) rfl ?hy ?_
        case hy =>
         intro w hSw; obtain ⟨s0,s1,s2,s3,s4,s5,sO⟩:=hSw; have so0:=(cell_of (i:=0) sO).trans rfl; go_simp
         all_goals with_reducible rfl
        try simp only [Act.put,sI,sZ,sS]
        refine wTk (i:=7) (v:=?_) rfl ?hy ?_
        case hy =>
         intro w hSw; obtain ⟨s0,s1,s2,s3,s4,s5,sO⟩:=hSw; have so0:=(cell_of (i:=0) sO).trans rfl; go_simp
         all_goals with_reducible rfl
        try simp only [Act.put,sI,sZ,sS]
        refine wTk (i:=8) (v:=?_) rfl ?hy ?_
        case hy =>
         intro w hSw; obtain ⟨s0,s1,s2,s3,s4,s5,sO⟩:=hSw; have so0:=(cell_of (i:=0) sO).trans rfl; go_simp
         all_goals with_reducible rfl
        try simp only [Act.put,sI,sZ,sS]
        refine wTk (i:=9) (v:=?_) rfl ?hy ?_
        case hy =>
         intro w hSw; obtain ⟨s0,s1,s2,s3,s4,s5,sO⟩:=hSw; have so0:=(cell_of (i:=0) sO).trans rfl; go_simp
         all_goals with_reducible rfl
        try simp only [Act.put,sI,sZ,sS]
        refine wTk (i:=10) (v:=?_) rfl ?hy ?_
        case hy =>
         intro w hSw; obtain ⟨s0,s1,s2,s3,s4,s5,sO⟩:=hSw; have so0:=(cell_of (i:=0) sO).trans rfl; go_simp
         all_goals with_reducible rfl
        try simp only [Act.put,sI,sZ,sS]
        refine wTk (i:=11) (v:=?_) rfl ?hy ?_
        case hy =>
         intro w hSw; obtain ⟨s0,s1,s2,s3,s4,s5,sO⟩:=hSw; have so0:=(cell_of (i:=0) sO).trans rfl; go_simp
         all_goals with_reducible rfl
        try simp only [Act.put,sI,sZ,sS]
        refine wTk (i:=12) (v:=?_) rfl ?hy ?_
        case hy =>
         intro w hSw; obtain ⟨s0,s1,s2,s3,s4,s5,sO⟩:=hSw; have so0:=(cell_of (i:=0) sO).trans rfl; go_simp
         all_goals with_reducible rfl
        try simp only [Act.put,sI,sZ,sS]
        refine wpAnyH_ready (rs:=[1,13]) (by as_aux_lemma=>kernel_rfl) (by simp) ?_; refine AllReadyH.cons (o:=⟨_,_,_,_,_,_⟩) rfl (fun KK hKK=>?_) (AllReadyH.cons (o:=⟨_,_,_,_,_,_⟩) rfl (fun KK hKK=>?_) AllReadyH.nil)
        all_goals clear hHeld
        ·go_simp
         skip
         refine hKK.out _ _ ?_ (fun hHeld2=>?_)
         ·exact sD
         clear hKK KK; have hHeld:=hHeld2; clear hHeld2
         try simp only [Act.put,sI,sZ,sS]
         refine wpAnyH_ready (rs:=[13]) (by as_aux_lemma=>kernel_rfl) (by simp) ?_; refine rdY rfl (fun K hK=>?_); go_simp
         go_at_call 48
         refine hcmd.out.mono ?_; rintro e W5 ⟨v5',rfl,hv5,hb5⟩; obtain ⟨a5,c5,hv5e,-⟩:=hv5.slice; subst hv5e; obtain ⟨a',c',W6,S3,hap,⟨u6,hu6⟩,hfz,hP6,hF6,hB6⟩:=hPd.out.step hb5 (c:=⟨ck,ckd,cof,cnw,cnm,car⟩) hv5 hstl 28 rfl
         dsimp only at hap
         have hP5:=hPd.out.below hb5; have kz:Below W5.heap.size W5 (W5.alloc (.cells #[sv ck,iv ckd,sv cof,sv cnw,sv cnm,.slice a5 car.length c5] 41 (0,0))):=(Below.refl _ _).alloc (Nat.le_refl _) _; have BA:=hP5.bel.trans (kz.mono hP5.bel.size); have r5:=(hb5.block ob (lt_of_heap hr4)).trans hr4; have rA:=(kz.block ob (lt_of_heap r5)).trans r5; have r6:=(hF6.block ob (lt_of_heap r5) hobS.out.1).trans r5; have rF:=(heap_setCell_other (i:=0) (.slice a' (st.length+1) c') (show ob≠pb by omega)).trans r6; have f4:=(cell_of (i:=0) hP5.blk).trans rfl; have j4:=(cell_of (i:=0) ((kz.block pb (lt_of_heap hP5.blk)).trans hP5.blk)).trans rfl; have s5:=hS.out _ hP5.bel r5; have sA:=hS.out _ BA rA; have s6:=hS.out _ hB6 r6; have sF:=hS.out _ hP6.bel rF; replace hP6:=hid hP6; clear kz BA hP5 hB6 hF6 hb5 hv5 r5 rA r6 rF
         refine hK.out _ _ ?_ (fun hHeld2=>?_)
         ·exact s5
         clear hK K; clear hHeld; have hHeld:=hHeld2; clear hHeld2
         try simp only [Act.put,sI,sZ,sS]
         refine wpAnyH_ready (rs:=[14]) (by as_aux_lemma=>kernel_rfl) (by simp) ?_; refine rdY rfl (fun K hK=>?_); go_simp
         skip
         refine hK.out _ _ ?_ (fun hHeld2=>?_)
         ·exact sA
         clear hK K; clear hHeld; have hHeld:=hHeld2; clear hHeld2
         try simp only [Act.put,sI,sZ,sS]
         refine wpAnyH_ready (rs:=[15]) (by as_aux_lemma=>kernel_rfl) (by simp) ?_; refine rdY rfl (fun K hK=>?_); refine step_append_shut (by rfl) (.tmp 121) (.tmp 134) (by rfl) (by rfl) (by rfl) hap ?_; refine hK.out _ _ ?_ (fun hHeld2=>?_)
         ·exact s6
         clear hK K hHeld; have hHeld:=hHeld2; clear hHeld2
         try simp only [Act.put,sI,sZ,sS]
         refine wTk (i:=16) (v:=?_) rfl ?hy ?_
         case hy =>
          intro w hSw; obtain ⟨s0,s1,s2,s3,s4,s5,sO⟩:=hSw; have so0:=(cell_of (i:=0) sO).trans rfl; go_simp
          all_goals with_reducible rfl
         try simp only [Act.put,sI,sZ,sS]
         refine wpAnyH_ready (rs:=[17]) (by as_aux_lemma=>kernel_rfl) (by simp) ?_; refine rdY rfl (fun K hK=>?_); go_simp
         skip
         refine hK.out _ _ ?_ (fun hHeld2=>?_)
         ·exact sF
         clear hK K; clear hHeld; have hHeld:=hHeld2; clear hHeld2
         try simp only [Act.put,sI,sZ,sS]
         refine wpAnyH_done (by as_aux_lemma=>kernel_rfl) ?_ _
         go_wp2_with fail
         go_roundg (k - (j+1))
         case measure=>omega
         case rel=>exact ⟨j+1,_,_,_,by go_num,by omega,(hid (by rw [hn0.out,← hC]; exact hP6.out)),hcn⟩
        ·go_simp
         go_at_call 48
         refine hcmd.out.mono ?_; rintro e W5 ⟨v5',rfl,hv5,hb5⟩; obtain ⟨a5,c5,hv5e,-⟩:=hv5.slice; subst hv5e; obtain ⟨a',c',W6,S3,hap,⟨u6,hu6⟩,hfz,hP6,hF6,hB6⟩:=hPd.out.step hb5 (c:=⟨ck,ckd,cof,cnw,cnm,car⟩) hv5 hstl 28 rfl
         dsimp only at hap
         have hP5:=hPd.out.below hb5; have kz:Below W5.heap.size W5 (W5.alloc (.cells #[sv ck,iv ckd,sv cof,sv cnw,sv cnm,.slice a5 car.length c5] 41 (0,0))):=(Below.refl _ _).alloc (Nat.le_refl _) _; have BA:=hP5.bel.trans (kz.mono hP5.bel.size); have r5:=(hb5.block ob (lt_of_heap hr4)).trans hr4; have rA:=(kz.block ob (lt_of_heap r5)).trans r5; have r6:=(hF6.block ob (lt_of_heap r5) hobS.out.1).trans r5; have rF:=(heap_setCell_other (i:=0) (.slice a' (st.length+1) c') (show ob≠pb by omega)).trans r6; have f4:=(cell_of (i:=0) hP5.blk).trans rfl; have j4:=(cell_of (i:=0) ((kz.block pb (lt_of_heap hP5.blk)).trans hP5.blk)).trans rfl; have s5:=hS.out _ hP5.bel r5; have sA:=hS.out _ BA rA; have s6:=hS.out _ hB6 r6; have sF:=hS.out _ hP6.bel rF; replace hP6:=hid hP6; clear kz BA hP5 hB6 hF6 hb5 hv5 r5 rA r6 rF
         refine hKK.out _ _ ?_ (fun hHeld2=>?_)
         ·exact s5
         clear hKK KK; have hHeld:=hHeld2; clear hHeld2
         try simp only [Act.put,sI,sZ,sS]
         refine wpAnyH_ready (rs:=[1,14]) (by as_aux_lemma=>kernel_rfl) (by simp) ?_; refine AllReadyH.cons (o:=⟨_,_,_,_,_,_⟩) rfl (fun KK hKK=>?_) (AllReadyH.cons (o:=⟨_,_,_,_,_,_⟩) rfl (fun KK hKK=>?_) AllReadyH.nil)
         all_goals clear hHeld
         ·go_simp
          skip
          refine hKK.out _ _ ?_ (fun hHeld2=>?_)
          ·exact s5
          clear hKK KK; have hHeld:=hHeld2; clear hHeld2
          try simp only [Act.put,sI,sZ,sS]
          refine wpAnyH_ready (rs:=[14]) (by as_aux_lemma=>kernel_rfl) (by simp) ?_; refine rdY rfl (fun K hK=>?_); go_simp
          skip
          refine hK.out _ _ ?_ (fun hHeld2=>?_)
          ·exact sA
          clear hK K; clear hHeld; have hHeld:=hHeld2; clear hHeld2
          try simp only [Act.put,sI,sZ,sS]
          refine wpAnyH_ready (rs:=[15]) (by as_aux_lemma=>kernel_rfl) (by simp) ?_; refine rdY rfl (fun K hK=>?_); refine step_append_shut (by rfl) (.tmp 121) (.tmp 134) (by rfl) (by rfl) (by rfl) hap ?_; refine hK.out _ _ ?_ (fun hHeld2=>?_)
          ·exact s6
          clear hK K hHeld; have hHeld:=hHeld2; clear hHeld2
          try simp only [Act.put,sI,sZ,sS]
          refine wTk (i:=16) (v:=?_) rfl ?hy ?_
          case hy =>
           intro w hSw; obtain ⟨s0,s1,s2,s3,s4,s5,sO⟩:=hSw; have so0:=(cell_of (i:=0) sO).trans rfl; go_simp
           all_goals with_reducible rfl
          try simp only [Act.put,sI,sZ,sS]
          refine wpAnyH_ready (rs:=[17]) (by as_aux_lemma=>kernel_rfl) (by simp) ?_; refine rdY rfl (fun K hK=>?_); go_simp
          skip
          refine hK.out _ _ ?_ (fun hHeld2=>?_)
          ·exact sF
          clear hK K; clear hHeld; have hHeld:=hHeld2; clear hHeld2
          try simp only [Act.put,sI,sZ,sS]
          refine wpAnyH_done (by as_aux_lemma=>kernel_rfl) ?_ _
          go_wp2_with fail
          go_roundg (k - (j+1))
          case measure=>omega
          case rel=>exact ⟨j+1,_,_,_,by go_num,by omega,(hid (by rw [hn0.out,← hC]; exact hP6.out)),hcn⟩
         ·go_simp
          skip
          refine hKK.out _ _ ?_ (fun hHeld2=>?_)
          ·exact sA
          clear hKK KK; have hHeld:=hHeld2; clear hHeld2
          try simp only [Act.put,sI,sZ,sS]
          refine wpAnyH_ready (rs:=[1]) (by as_aux_lemma=>kernel_rfl) (by simp) ?_; refine rdY rfl (fun K hK=>?_); go_simp
          skip
          refine hK.out _ _ ?_ (fun hHeld2=>?_)
          ·exact sA
          clear hK K; clear hHeld; have hHeld:=hHeld2; clear hHeld2
          try simp only [Act.put,sI,sZ,sS]
          refine wpAnyH_ready (rs:=[15]) (by as_aux_lemma=>kernel_rfl) (by simp) ?_; refine rdY rfl (fun K hK=>?_); refine step_append_shut (by rfl) (.tmp 121) (.tmp 134) (by rfl) (by rfl) (by rfl) hap ?_; refine hK.out _ _ ?_ (fun hHeld2=>?_)
          ·exact s6
          clear hK K hHeld; have hHeld:=hHeld2; clear hHeld2
          try simp only [Act.put,sI,sZ,sS]
          refine wTk (i:=16) (v:=?_) rfl ?hy ?_
          case hy =>
           intro w hSw; obtain ⟨s0,s1,s2,s3,s4,s5,sO⟩:=hSw; have so0:=(cell_of (i:=0) sO).trans rfl; go_simp
           all_goals with_reducible rfl
          try simp only [Act.put,sI,sZ,sS]
          refine wpAnyH_ready (rs:=[17]) (by as_aux_lemma=>kernel_rfl) (by simp) ?_; refine rdY rfl (fun K hK=>?_); go_simp
          skip
          refine hK.out _ _ ?_ (fun hHeld2=>?_)
          ·exact sF
          clear hK K; clear hHeld; have hHeld:=hHeld2; clear hHeld2
          try simp only [Act.put,sI,sZ,sS]
          refine wpAnyH_done (by as_aux_lemma=>kernel_rfl) ?_ _
          go_wp2_with fail
          go_roundg (k - (j+1))
          case measure=>omega
          case rel=>exact ⟨j+1,_,_,_,by go_num,by omega,(hid (by rw [hn0.out,← hC]; exact hP6.out)),hcn⟩
     ·have q1:decide ((j:Int) < (k:Int))=false:=decide_eq_false (by omega)
      have q1':decide (j < k)=false:=decide_eq_false hjk
      have hjk2:j=k:=by omega
      subst hjk2; obtain ⟨sa,sc,hvs,-⟩:=OwnR.slice hP.out.s; obtain ⟨ra,rc,hvr,-⟩:=OwnR.slice hP.out.r; subst hvs hvr; obtain ⟨y0,y1,y2,y3,y4⟩:=cells5 hP.out.blk; have hrr:=(hP.out.bel.block w.heap.size (lt_of_heap hr.out)).trans hr.out; obtain ⟨z0,z1,z2,z3,z4⟩:=cells5 hrr
      have zz:=fun i=>free_of (i:=i) hrr
      obtain ⟨n1,hn1⟩:∃ n,n=st.length:=⟨_,rfl⟩; obtain ⟨n2,hn2⟩:∃ n,n=re.length:=⟨_,rfl⟩; have hset:=pln_set hrr (.slice sa n1 sc) (.slice ra n2 rc) (iv co) (.slice none 0 0) (.slice none 0 0); have hbw:Below w.heap.size w wr:=hw1s.out.trans (hP.out.bel.mono hw1s.out.size); have hbf:=below_set5 hbw (Nat.le_refl _) (.slice sa n1 sc) (.slice ra n2 rc) (iv co) (.slice none 0 0) (.slice none 0 0); have hR0:w.heap.size < w1.heap.size:=lt_of_heap hr.out
      have hpost:Hid (PQ (.returned (.tuple #[.agg #[.slice sa n1 sc,.slice ra n2 rc,iv co,.slice none 0 0,.slice none 0 0],.bool true])) (set5 wr w.heap.size (.slice sa n1 sc) (.slice ra n2 rc) (iv co) (.slice none 0 0) (.slice none 0 0))):=hid (by
       rw [← hPQ.out]; refine ⟨hbf,Or.inr ⟨⟨st,re,co,un⟩,_,_,by rw [hplan.out,← hQ],rfl,?_,?_⟩⟩
       ·rw [hn1]
        exact (OwnR.sl goodCmd hP.out.s).move goodCmd fun q hq hs=>⟨⟨by have:=(hP.out.f1 q hs).1; omega,by simp only [World.size_setCell]; exact hq⟩,set5_other (by have:=(hP.out.f1 q hs).1; omega) _ _ _ _ _⟩
       ·rw [hn2]
        exact (OwnR.sl goodStr hP.out.r).move goodStr fun q hq hs=>⟨⟨by have:=(hP.out.f3 q hs).1; omega,by simp only [World.size_setCell]; exact hq⟩,set5_other (by have:=(hP.out.f3 q hs).1; omega) _ _ _ _ _⟩)
      rw [← hn1] at y0; rw [← hn2] at y1; replace hset:=hid hset; replace hR0:=hid hR0; clear hP hbw hbf hQ hrr hn1 hn2 hQl hQl1 hco
      go_wp2_with fail
      refine bodyPost_ret (results_pln (by rfl) _ _ w.heap.size _ _ _ _ _ true (by rfl) (by rfl) hset.out) rfl hpost.out
end Go.Proofs.YtfejagpjahoibaaGreatDoor
