/- NetS: NetD, NetS, in one text. -/
import Derived.Test.YtfejagpjahoibaaGreatDoorNetF
import Derived.Test.YtfejagpjahoibaaGreatDoorDel
import Derived.Deep.RegionLaw
import Derived.StillTailTactics
import Derived.Deep.RegionHeld3
set_option linter.unusedVariables false
namespace Go.Proofs.YtfejagpjahoibaaGreatDoor
open Go.RowKit
open Go.Lib (hid)
theorem OwnR.form {α:Type} {E:TypeId} {sz:Nat} {R:Rel α} {S:Foot} {w:World} {l:List α} {v:Value} (h:OwnR E sz R S w l v) (hl:0 < l.length):∃ g cap,v=.slice (some ⟨g,0,none⟩) l.length cap∧S g∧g < w.heap.size∧l.length≤cap∧cap≤maxLen:=by
 obtain ⟨xs,h1,h2,h3⟩:=h; rcases h1.2 with ⟨rfl,e⟩ | ⟨g,cap,cur,rfl,_,hg,hnc,hcm,_⟩
 ·omega
 ·exact ⟨g,cap,rfl,h2 g rfl,lt_of_some hg,hnc,hcm⟩
theorem OwnR.drew {α:Type} {E:TypeId} {sz:Nat} {R:Rel α} {S:Foot} {w:World} {l:List α} {v:Value} (hR:Good sz R) (h:OwnR E sz R S w l v):OwnR E sz R S w.drew l v:=h.move hR fun k hk hs=>⟨hs,rfl⟩
set_option maxHeartbeats 2000000 in
set_option maxRecDepth 100000 in
theorem deleteOut_any (l:List Out) (hl:l.length≤1048576) (k:Nat) (hk:k < l.length) (S:Foot) (v:Value) (w:World) (hr:OwnR 37 5 OutR S w l v) :
  Calls Tryz.prog 25 #[v,iv k,iv ((k:Int)+1)] w fun e w'=>∃ v',e=.returned v'∧OwnR 37 5 OutR S w' (l.eraseIdx k) v'∧Fr S w w':=by
 obtain ⟨g,cap,rfl,hS,hg,hcap,hcm⟩:=hr.form (by omega); unfold maxLen at hcm; obtain ⟨i0,hi,hz0,hz1,hz2⟩:=info_parts infoOut
 have hkI:(k:Int) < l.length:=by omega
 have hne:((k:Int) == (k:Int)+1)=false:=by simp; omega
 obtain ⟨n,hn⟩:∃ n,l.length=n+1:=⟨l.length - 1,by omega⟩
 have hkn:k≤n:=by omega
 rcases (by omega:cap=k+1∨k+1 < cap) with hc | hc
 ·obtain ⟨W1,W2,h1,h2,h3,h4⟩:=delete_own goodOut (t:=23) (ty:=23) (ty2:=0) (z:=.agg #[.string .empty,.string .empty,.slice none 0 0,.bool false,.int .i64 0]) (by kernel_rfl) hi hz1 (fun _=>by kernel_rfl) rfl (by intro u hu; simp [Value.cells] at hu; rcases hu with rfl | rfl | rfl | rfl | rfl <;> rfl) (hr.drew goodOut) hk (by decide) ⟨g,0,none⟩ (fun h=>by omega)
  obtain rfl:k=n:=by omega
  subst hc; rw [hn] at h1 h2 h3 hcap hkI ⊢; rw [Nat.sub_self,Nat.add_sub_cancel] at h1; rw [Nat.add_sub_cancel,Nat.add_sub_cancel_left] at h2; rw [Nat.add_sub_cancel] at h3; have hf:Fr S w W2:=(Fr.refl S w).drew.trans (h4.mono (fun q _ hq=>by rw [hq]; exact hS)); replace h3:=hid h3
  have k1:k≤k+1:=by omega
  have k3:(k:Int)≤(k:Int)+1:=by omega
  have k5:(0:Int)≤(k:Int)+1:=by omega
  have k9:¬ k+1=k:=by omega
  clear hr h4 hi hz0 hz1 hz2
  go_enter Tryz.func25,Tryz.ntmps25
  go_wp2_with fail
  go_region_law (refine step_append_shut (by rfl) (.tmp 22) (.tmp 25) (by rfl) (by rfl) (by rfl) h1 ?_)
  go_wp2_with fail
  go_ret; exact ⟨_,rfl,h3.out,hf⟩
 ·obtain ⟨W1,W2,h1,h2,h3,h4⟩:=delete_own goodOut (t:=23) (ty:=23) (ty2:=0) (z:=.agg #[.string .empty,.string .empty,.slice none 0 0,.bool false,.int .i64 0]) (by kernel_rfl) hi hz1 (fun _=>by kernel_rfl) rfl (by intro u hu; simp [Value.cells] at hu; rcases hu with rfl | rfl | rfl | rfl | rfl <;> rfl) (hr.drew goodOut) hk (by decide) ⟨g,(k+1) * 5,none⟩ (fun h=>rfl)
  rw [hn] at h1 h2 h3 hcap hkI ⊢; rw [show n+1 - (k+1)=n - k by omega,Nat.add_sub_cancel] at h1; rw [Nat.add_sub_cancel] at h2 h3
  have k5:(0:Int)≤(k:Int)+1:=by omega
  have k6:¬ cap=k+1:=by omega
  have k7:n+1≤cap:=hcap
  have k8:n≤cap:=by omega
  have k9:¬ cap=n:=by omega
  have hf:Fr S w W2:=(Fr.refl S w).drew.trans (h4.mono (fun q _ hq=>by rw [hq]; exact hS)); replace h3:=hid h3
  have k1:k≤cap:=by omega
  have k2:k+1≤n+1:=by omega
  have k3:(k:Int)≤(cap:Int):=by omega
  have k4:(k:Int)+1≤(n:Int)+1:=by omega
  clear hr h4 hi hz0 hz1 hz2
  go_enter Tryz.func25,Tryz.ntmps25
  go_wp2_with fail
  go_region_law (refine step_append_shut (by rfl) (.tmp 22) (.tmp 25) (by rfl) (by rfl) (by rfl) h1 ?_)
  go_wp2_with fail
  go_ret; exact ⟨_,rfl,h3.out,hf⟩
end Go.Proofs.YtfejagpjahoibaaGreatDoor
namespace Go.Proofs.YtfejagpjahoibaaGreatDoor
open Go.RowKit
open Go.Lib (hid)
/-- one cell of one element of an owned row is set -/
theorem OwnR.set1 {α:Type} {E:TypeId} {sz:Nat} {R:Rel α} {S:Foot} {w:World} {l:List α} {g n cap i j:Nat} {x y:α} {u:Value} (hR:Good sz R) (h:OwnR E sz R S w l (.slice (some ⟨g,0,none⟩) n cap)) (hi:l[i]? = some x) (hj:j < sz)
  (hx:∀ cs,R (fun k=>S k∧k≠g) w x cs→R (fun k=>S k∧k≠g) w y (cs.set j u)):OwnR E sz R S (w.setCell ⟨g,i * sz+j,none⟩ u) (l.set i y) (.slice (some ⟨g,0,none⟩) n cap):=by
 obtain ⟨xs,h1,h2,h3⟩:=h; obtain ⟨a,c,e,_,_⟩:=owns_form h1; simp only [Value.slice.injEq] at e; obtain ⟨-,rfl,-⟩:=e; have hil:=(List.getElem?_eq_some_iff.1 hi).1
 have hle:i * sz+sz≤l.length * sz:=by rw [← Nat.succ_mul]; exact Nat.mul_le_mul_right _ hil
 have hfr:∀ (q:Nat),q < w.heap.size→(S q∧(Value.slice (some ⟨g,0,none⟩) l.length cap).ownBlock≠some q)→(S q∧(Value.slice (some ⟨g,0,none⟩) l.length cap).ownBlock≠some q)∧(w.setCell ⟨g,i * sz+j,none⟩ u).heap[q]? = w.heap[q]? :=
  fun q _ hs=>⟨hs,heap_setCell_other u (fun e=>hs.2 (by rw [e]; rfl))⟩
 refine ⟨xs.set (i * sz+j) u,by rw [List.length_set]; exact (h1.stored _ u).1,h2,fun k z hz=>?_⟩; by_cases e:k=i
 ·subst e
  rw [List.getElem?_set_self hil] at hz; injection hz with hz; subst hz; obtain ⟨cs,h4,h5⟩:=h3 k x hi; have h6:=hx cs (hR.move h5 fun q hq hs=>⟨⟨hs.1,fun e=>hs.2 (by rw [e]; rfl)⟩,rfl⟩); refine ⟨cs.set j u,fun q v hv=>?_,hR.move h6 fun q hq hs=>hfr q hq ⟨hs.1,fun e=>hs.2 (by injection e with e; exact e.symm)⟩⟩; by_cases e2:q=j
  ·subst e2
   rw [List.getElem?_set_self (by rw [hR.len h5]; exact hj)] at hv; rw [List.getElem?_set_self (by rw [h1.1]; omega)]; exact hv
  ·rw [List.getElem?_set_ne (fun e3=>e2 e3.symm)] at hv
   rw [List.getElem?_set_ne (by omega)]; exact h4 q v hv
 ·rw [List.getElem?_set_ne (fun e2=>e e2.symm)] at hz
  obtain ⟨cs,h4,h5⟩:=h3 k z hz; refine ⟨cs,fun q v hv=>?_,hR.move h5 hfr⟩
  have hq:q < sz:=by have:=(List.getElem?_eq_some_iff.1 hv).1; rw [hR.len h5] at this; exact this
  have:i * sz+j≠k * sz+q:=by
   rcases Nat.lt_or_gt_of_ne e with h | h
   ·have:k * sz+sz≤i * sz:=by rw [← Nat.succ_mul]; exact Nat.mul_le_mul_right _ h
    omega
   ·have:i * sz+sz≤k * sz:=by rw [← Nat.succ_mul]; exact Nat.mul_le_mul_right _ h
    omega
  rw [List.getElem?_set_ne this]; exact h4 q v hv
theorem OwnR.there {α:Type} {E:TypeId} {sz:Nat} {R:Rel α} {S:Foot} {w:World} {l:List α} {g n cap i j:Nat} (h:OwnR E sz R S w l (.slice (some ⟨g,0,none⟩) n cap)) (hi:i < l.length) (hj:j < sz):(∃ u,w.cell? ⟨g,i * sz+j,none⟩=some u)∧w.frozen? ⟨g,i * sz+j,none⟩=false:=by
 obtain ⟨xs,h1,_⟩:=h; obtain ⟨a,c,e,_,_⟩:=owns_form h1; simp only [Value.slice.injEq] at e; obtain ⟨-,rfl,-⟩:=e
 have hle:i * sz+sz≤l.length * sz:=by rw [← Nat.succ_mul]; exact Nat.mul_le_mul_right _ hi
 refine ⟨?_,h1.frozenAt _⟩; rw [h1.cellAt _ (by omega)]; exact ⟨_,List.getElem?_eq_getElem (by rw [h1.1]; omega)⟩
/-- a field's cell of element i -/
theorem OwnR.field {α:Type} {E:TypeId} {sz:Nat} {R:Rel α} {S:Foot} {w:World} {l:List α} {g n cap i:Nat} {x:α} (hR:Good sz R) (h:OwnR E sz R S w l (.slice (some ⟨g,0,none⟩) n cap)) (hi:l[i]? = some x):∃ cs,R S w x cs∧∀ j u,cs[j]? = some u→w.cell? ⟨g,i * sz+j,none⟩=some u:=by
 obtain ⟨xs,h1,h2,h3⟩:=h; obtain ⟨a,c,e,_,_⟩:=owns_form h1; simp only [Value.slice.injEq] at e; obtain ⟨-,rfl,-⟩:=e; obtain ⟨cs,h4,h5⟩:=h3 i x hi; refine ⟨cs,hR.mono h5 fun _ _ h=>h.1,fun j u hu=>?_⟩; have hil:=(List.getElem?_eq_some_iff.1 hi).1
 have hj:j < sz:=by have:=(List.getElem?_eq_some_iff.1 hu).1; rw [hR.len h5] at this; exact this
 have hle:i * sz+sz≤l.length * sz:=by rw [← Nat.succ_mul]; exact Nat.mul_le_mul_right _ hil
 rw [h1.cellAt _ (by omega)]; exact h4 j u hu
/-- the effect that a command makes -/
def outOf (c:Cmd):Out:=⟨c.new,c.name,c.args,false,0⟩
/-- the error, and the effects then in force -/
def stepF (l:List Out) (c:Cmd):Int × List Out :=
 if c.kind=2 then (if findO l c.of < 0 then (5,[]) else (0,l.eraseIdx (findO l c.of).toNat))
 else if c.kind=3 then (if findO l c.of < 0 then (5,[]) else if ((l[(findO l c.of).toNat]?).map Out.part).getD false then (16,[]) else (0,l.modify (findO l c.of).toNat (fun o=>{ o with part:=true })))
 else if c.kind=4 then (if findO l c.of < 0 then (5,[]) else if c.new=[] then (1,[]) else if c.new≠c.of∧0≤findO l c.new then (4,[]) else (0,l.set (findO l c.of).toNat (outOf c)))
 else if c.kind=1 then (if c.new=[] then (1,[]) else if 0≤findO l c.new then (4,[]) else (0,l++[outOf c]))
 else (1,[])
abbrev StepP (S:Foot) (w:World) (r:Int × List Out) (e:Ending) (w':World):Prop:=∃ v',e=.returned (.tuple #[v',iv r.1])∧OwnR 37 5 OutR S w' r.2 v'∧Fr S w w'
abbrev STEP:FuncId:=21

set_option maxHeartbeats 4000000 in
set_option maxRecDepth 100000 in
theorem step_undo (key of new name:List UInt8) (args:List Val) (l:List Out) (hl:l.length≤1048576) (hc:ValsB args) (S T:Foot) (v:Value) (w:World) (hr:OwnR 37 5 OutR S w l v) (cs:List Value) (hcr:CmdR T w ⟨key,2,of,new,name,args⟩ cs) (hST:∀ k,T k→¬ S k) (hS:∀ k,w.heap.size≤k→S k) :
  Calls Tryz.prog STEP #[v,.agg cs.toArray] w (StepP S w (stepF l ⟨key,2,of,new,name,args⟩)):=by
 obtain ⟨a1,k1,rfl,hvs⟩:=hcr; have hb:Below w.heap.size w (w.alloc (.cells #[sv key,iv 2,sv of,sv new,sv name,.slice a1 args.length k1] 41)):=(Below.refl _ w).alloc (Nat.le_refl _) _; have hf1:Fr S w (w.alloc (.cells #[sv key,iv 2,sv of,sv new,sv name,.slice a1 args.length k1] 41)):=(Fr.refl S w).alloc _; have hr1:=(hr.mono goodOut (T:=fun q=>S q∧q≠w.heap.size) (fun q hq h=>⟨h,by omega⟩)).below goodOut hb; have hvs1:=hvs.below goodVal hb; have hcell:=heap_alloc_new' w (.cells #[sv key,iv 2,sv of,sv new,sv name,.slice a1 args.length k1] 41); have hfind:=hid (find_any l hl of _ v _ (hr1.sl goodOut))
 have hS1:∀ k,(w.alloc (.cells #[sv key,iv 2,sv of,sv new,sv name,.slice a1 args.length k1] 41)).heap.size≤k→S k∧k≠w.heap.size:=fun k hk=>by simp at hk; exact ⟨hS k (by omega),by omega⟩
 have hA:w.heap.size < (w.alloc (.cells #[sv key,iv 2,sv of,sv new,sv name,.slice a1 args.length k1] 41)).heap.size:=by simp
 replace hS1:=hid hS1; replace hST:=hid hST; obtain ⟨va,vc,rfl,-,-⟩:=hr.slice; generalize hres:stepF l ⟨key,2,of,new,name,args⟩=res; replace hres:=hid hres; replace hvs1:=hid hvs1; replace hcell:=hid hcell; replace hf1:=hid hf1; replace hb:=hid hb; replace hr1:=hid hr1; clear hr hvs; rcases idxF_bounds (keyP of) l with hx | ⟨k,o,hx,hkl,hok,hp,hpn⟩
 ·have hx2:findO l of = -1:=hx
  replace hres:=hid (hres.out.symm.trans (show stepF l ⟨key,2,of,new,name,args⟩=(5,[]) by simp [stepF,hx2])); replace hx:=hid hx2
  go_enter Tryz.func21,Tryz.ntmps21
  go_wp2_with fail
  refine hfind.out.mono ?_; rintro e w2 ⟨rfl,hb2⟩; rw [hx.out]
  go_wp2
  go_ret2
  exact ⟨_,by rw [hres.out]; rfl,by rw [hres.out]; exact OwnR.nil _ _ _ _ _,hf1.out.trans (Fr.of_below hb2 S)⟩
 ·have hx2:findO l of=(k:Int):=hx
  replace hx:=hid hx2; replace hres:=hid (hres.out.symm.trans (show stepF l ⟨key,2,of,new,name,args⟩=(0,l.eraseIdx k) by simp [stepF,hx2]))
  have hk63:(k:Int)≤1048576:=by omega
  have hw1:IntKind.i64.wrap ((k:Int)+1)=(k:Int)+1:=by rw [IntKind.wrap_i64]; omega
  go_enter Tryz.func21,Tryz.ntmps21
  go_wp2_with fail
  refine hfind.out.mono ?_; rintro e w2 ⟨rfl,hb2⟩; have hdel:=hid (deleteOut_any l hl k hkl _ _ _ (hr1.out.below goodOut hb2)); have c1:=(hb2.cell (p:=⟨w.heap.size,1,none⟩) hA).trans ((cell_of hcell.out).trans rfl); rw [hx.out]
  go_wp2_with fail
  refine hdel.out.mono ?_; rintro e w3 ⟨v',rfl,hO,hf3⟩; replace hO:=hid hO
  go_wp2
  go_ret2
  exact ⟨_,by rw [hres.out]; rfl,by rw [hres.out]; exact hO.out.mono goodOut (fun _ _ h=>h.1),(hf1.out.trans (Fr.of_below hb2 S)).trans (hf3.mono (fun _ _ h=>h.1))⟩

set_option maxHeartbeats 4000000 in
set_option maxRecDepth 100000 in
theorem step_part (key of new name:List UInt8) (args:List Val) (l:List Out) (hl:l.length≤1048576) (hc:ValsB args) (S T:Foot) (v:Value) (w:World) (hr:OwnR 37 5 OutR S w l v) (cs:List Value) (hcr:CmdR T w ⟨key,3,of,new,name,args⟩ cs) (hST:∀ k,T k→¬ S k) (hS:∀ k,w.heap.size≤k→S k) :
  Calls Tryz.prog STEP #[v,.agg cs.toArray] w (StepP S w (stepF l ⟨key,3,of,new,name,args⟩)):=by
 obtain ⟨a1,k1,rfl,hvs⟩:=hcr; have hb:Below w.heap.size w (w.alloc (.cells #[sv key,iv 3,sv of,sv new,sv name,.slice a1 args.length k1] 41)):=(Below.refl _ w).alloc (Nat.le_refl _) _; have hf1:Fr S w (w.alloc (.cells #[sv key,iv 3,sv of,sv new,sv name,.slice a1 args.length k1] 41)):=(Fr.refl S w).alloc _; have hr1:=(hr.mono goodOut (T:=fun q=>S q∧q≠w.heap.size) (fun q hq h=>⟨h,by omega⟩)).below goodOut hb; have hvs1:=hvs.below goodVal hb; have hcell:=heap_alloc_new' w (.cells #[sv key,iv 3,sv of,sv new,sv name,.slice a1 args.length k1] 41); have hfind:=hid (find_any l hl of _ v _ (hr1.sl goodOut))
 have hS1:∀ k,(w.alloc (.cells #[sv key,iv 3,sv of,sv new,sv name,.slice a1 args.length k1] 41)).heap.size≤k→S k∧k≠w.heap.size:=fun k hk=>by simp at hk; exact ⟨hS k (by omega),by omega⟩
 have hA:w.heap.size < (w.alloc (.cells #[sv key,iv 3,sv of,sv new,sv name,.slice a1 args.length k1] 41)).heap.size:=by simp
 replace hS1:=hid hS1; replace hST:=hid hST; obtain ⟨va,vc,rfl,-,-⟩:=hr.slice; generalize hres:stepF l ⟨key,3,of,new,name,args⟩=res; replace hres:=hid hres; replace hvs1:=hid hvs1; replace hcell:=hid hcell; replace hf1:=hid hf1; replace hb:=hid hb; replace hr1:=hid hr1; clear hr hvs; rcases idxF_bounds (keyP of) l with hx | ⟨k,o,hx,hkl,hok,hp,hpn⟩
 ·have hx2:findO l of = -1:=hx
  replace hres:=hid (hres.out.symm.trans (show stepF l ⟨key,3,of,new,name,args⟩=(5,[]) by simp [stepF,hx2])); replace hx:=hid hx2
  go_enter Tryz.func21,Tryz.ntmps21
  go_wp2_with fail
  refine hfind.out.mono ?_; rintro e w2 ⟨rfl,hb2⟩; rw [hx.out]
  go_wp2
  go_ret2
  exact ⟨_,by rw [hres.out]; rfl,by rw [hres.out]; exact OwnR.nil _ _ _ _ _,hf1.out.trans (Fr.of_below hb2 S)⟩
 ·have hx2:findO l of=(k:Int):=hx
  replace hx:=hid hx2; obtain ⟨g,cap,hv,hSg,hg,hcap,-⟩:=hr1.out.form (by omega); simp only [Value.slice.injEq] at hv; obtain ⟨rfl,-,rfl⟩:=hv
  have hidx:∀ kd W,(Instr.indexAt 23 (.slice (some ⟨g,0,none⟩) l.length vc) (.int kd k)).run Tryz.prog W=.ok (.pointer (some ⟨g,k * 5,none⟩)) W:=fun kd W=>by
   have:=row_idx (P:=Tryz.prog) (t:=23) (sz:=5) (by kernel_rfl) (fun _=>by kernel_rfl) (rfl:(some ⟨g,0,none⟩:Option Addr)=some ⟨g,0,none⟩) l.length vc k hkl kd W; simpa using this
  cases hpt:o.part with
  | true =>
   replace hres:=hid (hres.out.symm.trans (show stepF l ⟨key,3,of,new,name,args⟩=(16,[]) by simp [stepF,hx2,hok,hpt]))
   go_enter Tryz.func21,Tryz.ntmps21
   go_wp2_with fail
   refine hfind.out.mono ?_; rintro e w2 ⟨rfl,hb2⟩; have hr2:=hr1.out.below goodOut hb2; obtain ⟨cs,hR,hcc⟩:=hr2.field goodOut hok; obtain ⟨a2,k2,rfl,-⟩:=hR; have d3:=hcc 3 _ rfl; rw [hpt] at d3; have c1:=(hb2.cell (p:=⟨w.heap.size,1,none⟩) hA).trans ((cell_of hcell.out).trans rfl); rw [hx.out]; clear hcc hr2 hpt
   go_wp2
   go_ret2
   exact ⟨_,by rw [hres.out]; rfl,by rw [hres.out]; exact OwnR.nil _ _ _ _ _,hf1.out.trans (Fr.of_below hb2 S)⟩
  | false =>
   have hmod:l.modify k (fun o=>{ o with part:=true })=l.set k { o with part:=true }:=by
    apply List.ext_getElem?; intro i; rw [List.getElem?_modify,List.getElem?_set]; by_cases e:k=i
    ·subst e; rw [hok]; simp [hkl]
    ·simp [e]
   replace hres:=hid (hres.out.symm.trans (show stepF l ⟨key,3,of,new,name,args⟩=(0,l.set k { o with part:=true }) by simp [stepF,hx2,hok,hpt,hmod])); clear hmod
   go_enter Tryz.func21,Tryz.ntmps21
   go_wp2_with fail
   refine hfind.out.mono ?_; rintro e w2 ⟨rfl,hb2⟩; have hr2:=hr1.out.below goodOut hb2; obtain ⟨cs,hR,hcc⟩:=hr2.field goodOut hok; obtain ⟨a2,k2,rfl,-⟩:=hR; have d3:=hcc 3 _ rfl; rw [hpt] at d3; have f3:=(hr2.there (j:=3) hkl (by decide)).2; have hset:=hid (hr2.set1 (i:=k) (j:=3) (x:=o) (y:={ o with part:=true }) (u:=.bool true) goodOut hok (by decide) (fun cs hcs=>by obtain ⟨a3,k3,rfl,h9⟩:=hcs; exact ⟨a3,k3,rfl,h9⟩)); have c1:=(hb2.cell (p:=⟨w.heap.size,1,none⟩) hA).trans ((cell_of hcell.out).trans rfl); rw [hx.out]; clear hcc hr2 hpt
   go_wp2
   go_ret2
   exact ⟨_,by rw [hres.out]; rfl,by rw [hres.out]; exact hset.out.mono goodOut (fun _ _ h=>h.1),(hf1.out.trans (Fr.of_below hb2 S)).setCell (Or.inl hSg.1) _⟩

set_option maxHeartbeats 4000000 in
set_option maxRecDepth 100000 in
theorem step_other (key of new name:List UInt8) (args:List Val) (kd:Int) (l:List Out) (hl:l.length≤1048576) (hc:ValsB args) (S T:Foot) (v:Value) (w:World) (hr:OwnR 37 5 OutR S w l v) (cs:List Value) (hcr:CmdR T w ⟨key,kd,of,new,name,args⟩ cs) (hST:∀ k,T k→¬ S k) (hS:∀ k,w.heap.size≤k→S k) (h1:kd≠1) (h2:kd≠2) (h3:kd≠3) (h4:kd≠4) :
  Calls Tryz.prog STEP #[v,.agg cs.toArray] w (StepP S w (stepF l ⟨key,kd,of,new,name,args⟩)):=by
 obtain ⟨a1,k1,rfl,hvs⟩:=hcr; have hb:Below w.heap.size w (w.alloc (.cells #[sv key,iv kd,sv of,sv new,sv name,.slice a1 args.length k1] 41)):=(Below.refl _ w).alloc (Nat.le_refl _) _; have hf1:Fr S w (w.alloc (.cells #[sv key,iv kd,sv of,sv new,sv name,.slice a1 args.length k1] 41)):=(Fr.refl S w).alloc _; have hr1:=(hr.mono goodOut (T:=fun q=>S q∧q≠w.heap.size) (fun q hq h=>⟨h,by omega⟩)).below goodOut hb; have hvs1:=hvs.below goodVal hb; have hcell:=heap_alloc_new' w (.cells #[sv key,iv kd,sv of,sv new,sv name,.slice a1 args.length k1] 41); have hfind:=hid (find_any l hl of _ v _ (hr1.sl goodOut))
 have hS1:∀ k,(w.alloc (.cells #[sv key,iv kd,sv of,sv new,sv name,.slice a1 args.length k1] 41)).heap.size≤k→S k∧k≠w.heap.size:=fun k hk=>by simp at hk; exact ⟨hS k (by omega),by omega⟩
 have hA:w.heap.size < (w.alloc (.cells #[sv key,iv kd,sv of,sv new,sv name,.slice a1 args.length k1] 41)).heap.size:=by simp
 replace hS1:=hid hS1; replace hST:=hid hST; obtain ⟨va,vc,rfl,-,-⟩:=hr.slice; generalize hres:stepF l ⟨key,kd,of,new,name,args⟩=res; replace hres:=hid hres; replace hvs1:=hid hvs1; replace hcell:=hid hcell; replace hf1:=hid hf1; replace hb:=hid hb; replace hr1:=hid hr1; clear hr hvs; replace hres:=hid (hres.out.symm.trans (show stepF l ⟨key,kd,of,new,name,args⟩=(1,[]) by simp [stepF,h1,h2,h3,h4]))
 have q1:(kd == 1)=false:=by simpa using h1
 have q2:(kd == 2)=false:=by simpa using h2
 have q3:(kd == 3)=false:=by simpa using h3
 have q4:(kd == 4)=false:=by simpa using h4
 go_enter Tryz.func21,Tryz.ntmps21
 go_wp2_with fail
 go_ret2
 exact ⟨_,by rw [hres.out]; rfl,by rw [hres.out]; exact OwnR.nil _ _ _ _ _,hf1.out⟩

set_option maxHeartbeats 4000000 in
set_option maxRecDepth 100000 in
theorem step_do (key of new name:List UInt8) (args:List Val) (l:List Out) (hl:l.length≤1048576) (hc:ValsB args) (S T:Foot) (v:Value) (w:World) (hr:OwnR 37 5 OutR S w l v) (cs:List Value) (hcr:CmdR T w ⟨key,1,of,new,name,args⟩ cs) (hST:∀ k,T k→¬ S k) (hS:∀ k,w.heap.size≤k→S k) :
  Calls Tryz.prog STEP #[v,.agg cs.toArray] w (StepP S w (stepF l ⟨key,1,of,new,name,args⟩)):=by
 obtain ⟨a1,k1,rfl,hvs⟩:=hcr; have hb:Below w.heap.size w (w.alloc (.cells #[sv key,iv 1,sv of,sv new,sv name,.slice a1 args.length k1] 41)):=(Below.refl _ w).alloc (Nat.le_refl _) _; have hf1:Fr S w (w.alloc (.cells #[sv key,iv 1,sv of,sv new,sv name,.slice a1 args.length k1] 41)):=(Fr.refl S w).alloc _; have hr1:=(hr.mono goodOut (T:=fun q=>S q∧q≠w.heap.size) (fun q hq h=>⟨h,by omega⟩)).below goodOut hb; have hvs1:=hvs.below goodVal hb; have hcell:=heap_alloc_new' w (.cells #[sv key,iv 1,sv of,sv new,sv name,.slice a1 args.length k1] 41); have hfind:=hid (find_any l hl of _ v _ (hr1.sl goodOut))
 have hS1:∀ k,(w.alloc (.cells #[sv key,iv 1,sv of,sv new,sv name,.slice a1 args.length k1] 41)).heap.size≤k→S k∧k≠w.heap.size:=fun k hk=>by simp at hk; exact ⟨hS k (by omega),by omega⟩
 have hA:w.heap.size < (w.alloc (.cells #[sv key,iv 1,sv of,sv new,sv name,.slice a1 args.length k1] 41)).heap.size:=by simp
 replace hS1:=hid hS1; replace hST:=hid hST; obtain ⟨va,vc,rfl,-,-⟩:=hr.slice; generalize hres:stepF l ⟨key,1,of,new,name,args⟩=res; replace hres:=hid hres; replace hvs1:=hid hvs1; replace hcell:=hid hcell; replace hf1:=hid hf1; replace hb:=hid hb; replace hr1:=hid hr1; clear hr hvs; have hnew2:=hid (fun W (hW:Below (w.alloc (.cells #[sv key,iv 1,sv of,sv new,sv name,.slice a1 args.length k1] 41)).heap.size (w.alloc (.cells #[sv key,iv 1,sv of,sv new,sv name,.slice a1 args.length k1] 41)) W)=>find_any l hl new _ _ W ((hr1.out.below goodOut hW).sl goodOut)); clear hfind; rcases new with _ | ⟨nc,nr⟩
 ·replace hres:=hid (hres.out.symm.trans (show stepF l ⟨key,1,of,[],name,args⟩=(1,[]) by simp [stepF]))
  go_enter Tryz.func21,Tryz.ntmps21
  go_wp2_with fail
  go_ret2
  exact ⟨_,by rw [hres.out]; rfl,by rw [hres.out]; exact OwnR.nil _ _ _ _ _,hf1.out⟩
 ·rcases idxF_bounds (keyP (nc::nr)) l with hx | ⟨k,o,hx,hkl,hok,hp,hpn⟩
  ·have hx2:findO l (nc::nr) = -1:=hx
   replace hx:=hid hx2; replace hres:=hid (hres.out.symm.trans (show stepF l ⟨key,1,of,nc::nr,name,args⟩=(0,l++[outOf ⟨key,1,of,nc::nr,name,args⟩]) by simp [stepF,hx2])); obtain ⟨i0,hi,hz0,hz1,hz2⟩:=info_parts infoOut
   go_enter Tryz.func21,Tryz.ntmps21
   go_wp2_with fail
   refine (hnew2.out _ (Below.refl _ _)).mono ?_; rintro e w3 ⟨rfl,hb3⟩; rw [hx.out]; have hz:=heap_alloc_new' w3 (.cells #[.string .empty,.string .empty,.slice none 0 0,.bool false,.int .i64 0] 37); have hb4:Below w3.heap.size w3 (w3.alloc (.cells #[.string .empty,.string .empty,.slice none 0 0,.bool false,.int .i64 0] 37)):=(Below.refl _ _).alloc (Nat.le_refl _) _; have hr4:=(hr1.out.below goodOut hb3).below goodOut hb4
   obtain ⟨v4,WL,hap,hOL,hfL⟩:=OwnR.append1 (t:=23) (ty:=23) (x:=(⟨[],[],[],false,0⟩:Out)) goodOut (by kernel_rfl) hi hz0 hz1 hz2 rfl (by decide) hr4 (row_of_block (cs:=[.string .empty,.string .empty,.slice none 0 0,.bool false,.int .i64 0]) hz rfl) (outR_shut (o:=⟨[],[],[],false,0⟩) (SlR.nil _ _ _ _ _)) (by unfold maxLen; omega) (by omega) (fun q hq=>hS1.out q (by have:=hb3.size; simp at hq ⊢; simp at this; omega)); obtain ⟨g,cap,hv4,hgS,-,-,-⟩:=hOL.form (by simp); have hgne:¬ g=w.heap.size:=hgS.2
   have hgne2:¬ w.heap.size=g:=fun e=>hgS.2 e.symm
   replace hgS:=hgS.1; have F1:Fr (fun q=>S q∧q≠w.heap.size) (w.alloc (.cells #[sv key,iv 1,sv of,sv (nc::nr),sv name,.slice a1 args.length k1] 41)) WL:=((Fr.of_below hb3 _).trans (Fr.of_below hb4 _)).trans hfL; have hbox3:=(Fr.of_below hb3 (fun _=>False)).keep hcell.out (fun h=>h); have hbx:w3.cell? ⟨w.heap.size,3,none⟩=some (sv (nc::nr)):=(cell_of hbox3).trans rfl; have hbl:w.heap.size < w3.heap.size:=lt_of_some hbox3; rw [hv4] at hap hOL; simp only [List.length_append,List.length_singleton] at hap hOL; replace F1:=hid F1; replace hOL:=hid hOL; clear hb3 hb4 hr4 hz hi hz0 hz1 hz2 hfL hv4 hbox3
   go_wp2_with (first | (at_builtin; refine wpList_append_shut rfl (.tmp 78) (.tmp 80) rfl rfl rfl hap ?_))
   replace F1:=F1.out; replace hOL:=hOL.out; have hbox:=F1.keep hcell.out (fun h=>h.2 rfl); have c3:WL.cell? ⟨w.heap.size,3,none⟩=some (sv (nc::nr)):=(cell_of hbox).trans rfl; have c4:WL.cell? ⟨w.heap.size,4,none⟩=some (sv name):=(cell_of hbox).trans rfl; have c5:WL.cell? ⟨w.heap.size,5,none⟩=some (.slice a1 args.length k1):=(cell_of hbox).trans rfl; have hclone:=hid (cloneVals_any args hc T _ WL.drew ((hvs1.out.fr goodVal F1 (fun q h h2=>hST.out q h h2.1)).below goodVal ((Below.refl _ _).drew)))
   have hidx:∀ kd W,(Instr.indexAt 23 (.slice (some ⟨g,0,none⟩) (l.length+1) cap) (.int kd l.length)).run Tryz.prog W=.ok (.pointer (some ⟨g,l.length * 5,none⟩)) W:=fun kd W=>by
    have:=row_idx (P:=Tryz.prog) (t:=23) (sz:=5) (by kernel_rfl) (fun _=>by kernel_rfl) (rfl:(some ⟨g,0,none⟩:Option Addr)=some ⟨g,0,none⟩) (l.length+1) cap l.length (by omega) kd W; simpa using this
   have hgL:g < WL.heap.size:=hOL.lt rfl; have hsL:=F1.size; have hbL:w.heap.size < WL.heap.size:=lt_of_some hbox; clear hbox; replace hOL:=hid hOL
   go_wp2_with fail
   go_region_held3 (fun w'=>w'.cell? ⟨w.heap.size,3,none⟩=some (sv (nc::nr))∧w'.cell? ⟨w.heap.size,4,none⟩=some (sv name)∧w'.cell? ⟨w.heap.size,5,none⟩=some (.slice a1 args.length k1)) (first | with_reducible exact ⟨q3,q4,q5⟩ | go_keep) ((go_at_call 54; refine hclone.out.mono ?_; rintro e w5 ⟨vn,rfl,hN,hb5⟩; obtain ⟨an,kn,rfl,-,-⟩:=hN.slice; have q3:=(hb5.cell (p:=⟨w.heap.size,3,none⟩) hbL).trans c3; have q4:=(hb5.cell (p:=⟨w.heap.size,4,none⟩) hbL).trans c4; have q5:=(hb5.cell (p:=⟨w.heap.size,5,none⟩) hbL).trans c5; have hOL5:=(hOL.out.drew goodOut).below goodOut hb5; obtain ⟨⟨u0,d0⟩,f0⟩:=hOL5.there (i:=l.length) (j:=0) (by simp) (by decide); obtain ⟨⟨u1,d1⟩,f1⟩:=hOL5.there (i:=l.length) (j:=1) (by simp) (by decide); obtain ⟨⟨u2,d2⟩,f2⟩:=hOL5.there (i:=l.length) (j:=2) (by simp) (by decide); obtain ⟨⟨u3,d3⟩,f3⟩:=hOL5.there (i:=l.length) (j:=3) (by simp) (by decide); obtain ⟨⟨u4,d4⟩,f4⟩:=hOL5.there (i:=l.length) (j:=4) (by simp) (by decide); rw [Nat.add_zero] at d0 f0))
   have hNv:=(hN.sl goodVal).mono goodVal (T:=fun q=>(S q∧q≠w.heap.size)∧q≠g) (fun q _ hq=>by
    have h9:WL.heap.size≤q:=hq
    exact ⟨hS1.out q (Nat.le_trans hsL h9),by omega⟩)
   have hset:=(OwnR.set (i:=l.length) goodOut hOL5 (by simp) (x:=outOf ⟨key,1,of,nc::nr,name,args⟩) (outR_shut (o:=outOf ⟨key,1,of,nc::nr,name,args⟩) hNv)); have hfin:=hid ((hf1.out.trans (F1.mono (fun _ _ h=>h.1))).trans ((Fr.refl S WL).drew.trans (Fr.of_below hb5 S))); clear hOL5 hN hNv hb5 hclone; rw [show (l++[(⟨[],[],[],false,0⟩:Out)]).set l.length (outOf ⟨key,1,of,nc::nr,name,args⟩)=l++[outOf ⟨key,1,of,nc::nr,name,args⟩] by rw [List.set_append_right _ _ (Nat.le_refl _),Nat.sub_self]; rfl] at hset; have hset2:=hid (hset.mono goodOut (T:=S) (fun _ _ h=>h.1)); have hfin2:=hid (Fr.setCells (outCs (outOf ⟨key,1,of,nc::nr,name,args⟩) (.slice an args.length kn)) (l.length * 5) hfin.out (b:=g) (Or.inl hgS)); clear hset hfin
   go_wp2
   go_ret2
   exact ⟨_,by rw [hres.out]; rfl,by rw [hres.out]; exact hset2.out,hfin2.out⟩
  ·have hx2:findO l (nc::nr)=(k:Int):=hx
   replace hx:=hid hx2; replace hres:=hid (hres.out.symm.trans (show stepF l ⟨key,1,of,nc::nr,name,args⟩=(4,[]) by simp [stepF,hx2]))
   go_enter Tryz.func21,Tryz.ntmps21
   go_wp2_with fail
   refine (hnew2.out _ (Below.refl _ _)).mono ?_; rintro e w3 ⟨rfl,hb3⟩; rw [hx.out]
   go_wp2
   go_ret2
   exact ⟨_,by rw [hres.out]; rfl,by rw [hres.out]; exact OwnR.nil _ _ _ _ _,hf1.out.trans (Fr.of_below hb3 S)⟩

set_option maxHeartbeats 4000000 in
set_option maxRecDepth 100000 in
theorem step_amend (key of new name:List UInt8) (args:List Val) (l:List Out) (hl:l.length≤1048576) (hc:ValsB args) (S T:Foot) (v:Value) (w:World) (hr:OwnR 37 5 OutR S w l v) (cs:List Value) (hcr:CmdR T w ⟨key,4,of,new,name,args⟩ cs) (hST:∀ k,T k→¬ S k) (hS:∀ k,w.heap.size≤k→S k) :
  Calls Tryz.prog STEP #[v,.agg cs.toArray] w (StepP S w (stepF l ⟨key,4,of,new,name,args⟩)):=by
 obtain ⟨a1,k1,rfl,hvs⟩:=hcr; have hb:Below w.heap.size w (w.alloc (.cells #[sv key,iv 4,sv of,sv new,sv name,.slice a1 args.length k1] 41)):=(Below.refl _ w).alloc (Nat.le_refl _) _; have hf1:Fr S w (w.alloc (.cells #[sv key,iv 4,sv of,sv new,sv name,.slice a1 args.length k1] 41)):=(Fr.refl S w).alloc _; have hr1:=(hr.mono goodOut (T:=fun q=>S q∧q≠w.heap.size) (fun q hq h=>⟨h,by omega⟩)).below goodOut hb; have hvs1:=hvs.below goodVal hb; have hcell:=heap_alloc_new' w (.cells #[sv key,iv 4,sv of,sv new,sv name,.slice a1 args.length k1] 41); have hfind:=hid (find_any l hl of _ v _ (hr1.sl goodOut))
 have hS1:∀ k,(w.alloc (.cells #[sv key,iv 4,sv of,sv new,sv name,.slice a1 args.length k1] 41)).heap.size≤k→S k∧k≠w.heap.size:=fun k hk=>by simp at hk; exact ⟨hS k (by omega),by omega⟩
 have hA:w.heap.size < (w.alloc (.cells #[sv key,iv 4,sv of,sv new,sv name,.slice a1 args.length k1] 41)).heap.size:=by simp
 replace hS1:=hid hS1; replace hST:=hid hST; obtain ⟨va,vc,rfl,-,-⟩:=hr.slice; generalize hres:stepF l ⟨key,4,of,new,name,args⟩=res; replace hres:=hid hres; replace hvs1:=hid hvs1; replace hcell:=hid hcell; replace hf1:=hid hf1; replace hb:=hid hb; replace hr1:=hid hr1; clear hr hvs; have hnew2:=hid (fun W (hW:Below (w.alloc (.cells #[sv key,iv 4,sv of,sv new,sv name,.slice a1 args.length k1] 41)).heap.size (w.alloc (.cells #[sv key,iv 4,sv of,sv new,sv name,.slice a1 args.length k1] 41)) W)=>find_any l hl new _ _ W ((hr1.out.below goodOut hW).sl goodOut)); rcases idxF_bounds (keyP of) l with hx | ⟨k,o,hx,hkl,hok,hp,hpn⟩
 ·have hx2:findO l of = -1:=hx
  replace hres:=hid (hres.out.symm.trans (show stepF l ⟨key,4,of,new,name,args⟩=(5,[]) by simp [stepF,hx2])); replace hx:=hid hx2
  go_enter Tryz.func21,Tryz.ntmps21
  go_wp2_with fail
  refine hfind.out.mono ?_; rintro e w2 ⟨rfl,hb2⟩; rw [hx.out]
  go_wp2
  go_ret2
  exact ⟨_,by rw [hres.out]; rfl,by rw [hres.out]; exact OwnR.nil _ _ _ _ _,hf1.out.trans (Fr.of_below hb2 S)⟩
 ·have hx2:findO l of=(k:Int):=hx
  replace hx:=hid hx2
  have hkne:((k:Int) == (l.length:Int))=false:=by simp; omega
  have hkne2:¬ (k:Int)=(l.length:Int):=by omega
  rcases new with _ | ⟨nc,nr⟩
  ·replace hres:=hid (hres.out.symm.trans (show stepF l ⟨key,4,of,[],name,args⟩=(1,[]) by simp [stepF,hx2]))
   go_enter Tryz.func21,Tryz.ntmps21
   go_wp2_with fail
   refine hfind.out.mono ?_; rintro e w2 ⟨rfl,hb2⟩; have F1:Fr (fun q=>S q∧q≠w.heap.size) (w.alloc (.cells #[sv key,iv 4,sv of,sv ([]),sv name,.slice a1 args.length k1] 41)) w2:=Fr.of_below hb2 _; have hbox2:=F1.keep hcell.out (fun h=>h.2 rfl); have e1:w2.cell? ⟨w.heap.size,1,none⟩=some (iv 4):=(cell_of hbox2).trans rfl; have e2:w2.cell? ⟨w.heap.size,2,none⟩=some (sv of):=(cell_of hbox2).trans rfl; have e3:w2.cell? ⟨w.heap.size,3,none⟩=some (sv ([])):=(cell_of hbox2).trans rfl; rw [hx.out]
   go_wp2
   go_ret2
   exact ⟨_,by rw [hres.out]; rfl,by rw [hres.out]; exact OwnR.nil _ _ _ _ _,hf1.out.trans (Fr.of_below hb2 S)⟩
  ·by_cases hno:nc::nr=of
   ·subst hno
    replace hres:=hid (hres.out.symm.trans (show stepF l ⟨key,4,nc::nr,nc::nr,name,args⟩=(0,l.set k (outOf ⟨key,4,nc::nr,nc::nr,name,args⟩)) by simp [stepF,hx2]))
    go_enter Tryz.func21,Tryz.ntmps21
    go_wp2_with fail
    refine hfind.out.mono ?_; rintro e w2 ⟨rfl,hb2⟩; have F1:Fr (fun q=>S q∧q≠w.heap.size) (w.alloc (.cells #[sv key,iv 4,sv (nc::nr),sv (nc::nr),sv name,.slice a1 args.length k1] 41)) w2:=Fr.of_below hb2 _; have hbox2:=F1.keep hcell.out (fun h=>h.2 rfl); have e1:w2.cell? ⟨w.heap.size,1,none⟩=some (iv 4):=(cell_of hbox2).trans rfl; have e2:w2.cell? ⟨w.heap.size,2,none⟩=some (sv (nc::nr)):=(cell_of hbox2).trans rfl; have e3:w2.cell? ⟨w.heap.size,3,none⟩=some (sv (nc::nr)):=(cell_of hbox2).trans rfl; rw [hx.out]; have hOL:=hr1.out.below goodOut hb2; have FX:=hid F1; obtain ⟨g,cap,hv4,hgS,-,-,-⟩:=hOL.form (by omega); simp only [Value.slice.injEq] at hv4; obtain ⟨rfl,-,rfl⟩:=hv4; have hgne:¬ g=w.heap.size:=hgS.2
    have hgne2:¬ w.heap.size=g:=fun e=>hgS.2 e.symm
    replace hgS:=hgS.1; replace hOL:=hid hOL; clear F1
    go_wp2_with fail
    have F1:=FX.out; replace hOL:=hOL.out; clear e1 e2 e3 hbox2; have hbox:=F1.keep hcell.out (fun h=>h.2 rfl); have c3:w2.cell? ⟨w.heap.size,3,none⟩=some (sv (nc::nr)):=(cell_of hbox).trans rfl; have c4:w2.cell? ⟨w.heap.size,4,none⟩=some (sv name):=(cell_of hbox).trans rfl; have c5:w2.cell? ⟨w.heap.size,5,none⟩=some (.slice a1 args.length k1):=(cell_of hbox).trans rfl; have hclone:=hid (cloneVals_any args hc T _ w2.drew ((hvs1.out.fr goodVal F1 (fun q h h2=>hST.out q h h2.1)).below goodVal ((Below.refl _ _).drew)))
    have hidx:∀ kd W,(Instr.indexAt 23 (.slice (some ⟨g,0,none⟩) (l.length) vc) (.int kd k)).run Tryz.prog W=.ok (.pointer (some ⟨g,k * 5,none⟩)) W:=fun kd W=>by
     have:=row_idx (P:=Tryz.prog) (t:=23) (sz:=5) (by kernel_rfl) (fun _=>by kernel_rfl) (rfl:(some ⟨g,0,none⟩:Option Addr)=some ⟨g,0,none⟩) (l.length) vc k (by omega) kd W; simpa using this
    have hgL:g < w2.heap.size:=hOL.lt rfl; have hsL:=F1.size; have hbL:w.heap.size < w2.heap.size:=lt_of_some hbox; clear hbox; replace hOL:=hid hOL
    go_region_held3 (fun w'=>w'.cell? ⟨w.heap.size,3,none⟩=some (sv (nc::nr))∧w'.cell? ⟨w.heap.size,4,none⟩=some (sv name)∧w'.cell? ⟨w.heap.size,5,none⟩=some (.slice a1 args.length k1)) (first | with_reducible exact ⟨q3,q4,q5⟩ | go_keep) ((go_at_call 54; refine hclone.out.mono ?_; rintro e w5 ⟨vn,rfl,hN,hb5⟩; obtain ⟨an,kn,rfl,-,-⟩:=hN.slice; have q3:=(hb5.cell (p:=⟨w.heap.size,3,none⟩) hbL).trans c3; have q4:=(hb5.cell (p:=⟨w.heap.size,4,none⟩) hbL).trans c4; have q5:=(hb5.cell (p:=⟨w.heap.size,5,none⟩) hbL).trans c5; have hOL5:=(hOL.out.drew goodOut).below goodOut hb5; obtain ⟨⟨u0,d0⟩,f0⟩:=hOL5.there (i:=k) (j:=0) (by simpa using hkl) (by decide); obtain ⟨⟨u1,d1⟩,f1⟩:=hOL5.there (i:=k) (j:=1) (by simpa using hkl) (by decide); obtain ⟨⟨u2,d2⟩,f2⟩:=hOL5.there (i:=k) (j:=2) (by simpa using hkl) (by decide); obtain ⟨⟨u3,d3⟩,f3⟩:=hOL5.there (i:=k) (j:=3) (by simpa using hkl) (by decide); obtain ⟨⟨u4,d4⟩,f4⟩:=hOL5.there (i:=k) (j:=4) (by simpa using hkl) (by decide); rw [Nat.add_zero] at d0 f0))
    have hNv:=(hN.sl goodVal).mono goodVal (T:=fun q=>(S q∧q≠w.heap.size)∧q≠g) (fun q _ hq=>by
     have h9:w2.heap.size≤q:=hq
     exact ⟨hS1.out q (Nat.le_trans hsL h9),by omega⟩)
    have hset:=(OwnR.set (i:=k) goodOut hOL5 (by simpa using hkl) (x:=outOf ⟨key,4,nc::nr,nc::nr,name,args⟩) (outR_shut (o:=outOf ⟨key,4,nc::nr,nc::nr,name,args⟩) hNv)); have hfin:=hid ((hf1.out.trans (F1.mono (fun _ _ h=>h.1))).trans ((Fr.refl S w2).drew.trans (Fr.of_below hb5 S))); clear hOL5 hN hNv hb5 hclone; have hset2:=hid (hset.mono goodOut (T:=S) (fun _ _ h=>h.1)); have hfin2:=hid (Fr.setCells (outCs (outOf ⟨key,4,nc::nr,nc::nr,name,args⟩) (.slice an args.length kn)) (k * 5) hfin.out (b:=g) (Or.inl hgS)); clear hset hfin
    go_wp2
    go_ret2
    exact ⟨_,by rw [hres.out]; rfl,by rw [hres.out]; exact hset2.out,hfin2.out⟩
   ·have hno2:¬ (nc::nr)=of:=hno
    have hno3:decide ((nc::nr)=of)=false:=by simpa using hno
    have hno4:((nc::nr) == of)=false:=by simpa using hno
    have hno5:((nc::nr) != of)=true:=by simpa using hno
    rcases idxF_bounds (keyP (nc::nr)) l with hy | ⟨k2,o2,hy,hkl2,hok2,hp2,hpn2⟩
    ·have hy2:findO l (nc::nr) = -1:=hy
     replace hy:=hid hy2; replace hres:=hid (hres.out.symm.trans (show stepF l ⟨key,4,of,nc::nr,name,args⟩=(0,l.set k (outOf ⟨key,4,of,nc::nr,name,args⟩)) by simp [stepF,hx2,hy2,hno]))
     go_enter Tryz.func21,Tryz.ntmps21
     go_wp2_with fail
     refine hfind.out.mono ?_; rintro e w2 ⟨rfl,hb2⟩; have F1:Fr (fun q=>S q∧q≠w.heap.size) (w.alloc (.cells #[sv key,iv 4,sv of,sv (nc::nr),sv name,.slice a1 args.length k1] 41)) w2:=Fr.of_below hb2 _; have hbox2:=F1.keep hcell.out (fun h=>h.2 rfl); have e1:w2.cell? ⟨w.heap.size,1,none⟩=some (iv 4):=(cell_of hbox2).trans rfl; have e2:w2.cell? ⟨w.heap.size,2,none⟩=some (sv of):=(cell_of hbox2).trans rfl; have e3:w2.cell? ⟨w.heap.size,3,none⟩=some (sv (nc::nr)):=(cell_of hbox2).trans rfl; rw [hx.out]
     go_wp2_with fail
     refine (hnew2.out _ hb2).mono ?_; rintro e w3 ⟨rfl,hb3⟩; have F2:=F1.trans (Fr.of_below hb3 _); clear F1 e1 e2 e3 hbox2; have hbox2:=F2.keep hcell.out (fun h=>h.2 rfl); have e1:w3.cell? ⟨w.heap.size,1,none⟩=some (iv 4):=(cell_of hbox2).trans rfl; have e2:w3.cell? ⟨w.heap.size,2,none⟩=some (sv of):=(cell_of hbox2).trans rfl; have e3:w3.cell? ⟨w.heap.size,3,none⟩=some (sv (nc::nr)):=(cell_of hbox2).trans rfl; rw [hy.out]; have F1:=F2; have hOL:=(hr1.out.below goodOut hb2).below goodOut hb3; clear F2; have FX:=hid F1; obtain ⟨g,cap,hv4,hgS,-,-,-⟩:=hOL.form (by omega); simp only [Value.slice.injEq] at hv4; obtain ⟨rfl,-,rfl⟩:=hv4; have hgne:¬ g=w.heap.size:=hgS.2
     have hgne2:¬ w.heap.size=g:=fun e=>hgS.2 e.symm
     replace hgS:=hgS.1; replace hOL:=hid hOL; clear F1
     go_wp2_with fail
     have F1:=FX.out; replace hOL:=hOL.out; clear e1 e2 e3 hbox2; have hbox:=F1.keep hcell.out (fun h=>h.2 rfl); have c3:w3.cell? ⟨w.heap.size,3,none⟩=some (sv (nc::nr)):=(cell_of hbox).trans rfl; have c4:w3.cell? ⟨w.heap.size,4,none⟩=some (sv name):=(cell_of hbox).trans rfl; have c5:w3.cell? ⟨w.heap.size,5,none⟩=some (.slice a1 args.length k1):=(cell_of hbox).trans rfl; have hclone:=hid (cloneVals_any args hc T _ w3.drew ((hvs1.out.fr goodVal F1 (fun q h h2=>hST.out q h h2.1)).below goodVal ((Below.refl _ _).drew)))
     have hidx:∀ kd W,(Instr.indexAt 23 (.slice (some ⟨g,0,none⟩) (l.length) vc) (.int kd k)).run Tryz.prog W=.ok (.pointer (some ⟨g,k * 5,none⟩)) W:=fun kd W=>by
      have:=row_idx (P:=Tryz.prog) (t:=23) (sz:=5) (by kernel_rfl) (fun _=>by kernel_rfl) (rfl:(some ⟨g,0,none⟩:Option Addr)=some ⟨g,0,none⟩) (l.length) vc k (by omega) kd W; simpa using this
     have hgL:g < w3.heap.size:=hOL.lt rfl; have hsL:=F1.size; have hbL:w.heap.size < w3.heap.size:=lt_of_some hbox; clear hbox; replace hOL:=hid hOL
     go_region_held3 (fun w'=>w'.cell? ⟨w.heap.size,3,none⟩=some (sv (nc::nr))∧w'.cell? ⟨w.heap.size,4,none⟩=some (sv name)∧w'.cell? ⟨w.heap.size,5,none⟩=some (.slice a1 args.length k1)) (first | with_reducible exact ⟨q3,q4,q5⟩ | go_keep) ((go_at_call 54; refine hclone.out.mono ?_; rintro e w5 ⟨vn,rfl,hN,hb5⟩; obtain ⟨an,kn,rfl,-,-⟩:=hN.slice; have q3:=(hb5.cell (p:=⟨w.heap.size,3,none⟩) hbL).trans c3; have q4:=(hb5.cell (p:=⟨w.heap.size,4,none⟩) hbL).trans c4; have q5:=(hb5.cell (p:=⟨w.heap.size,5,none⟩) hbL).trans c5; have hOL5:=(hOL.out.drew goodOut).below goodOut hb5; obtain ⟨⟨u0,d0⟩,f0⟩:=hOL5.there (i:=k) (j:=0) (by simpa using hkl) (by decide); obtain ⟨⟨u1,d1⟩,f1⟩:=hOL5.there (i:=k) (j:=1) (by simpa using hkl) (by decide); obtain ⟨⟨u2,d2⟩,f2⟩:=hOL5.there (i:=k) (j:=2) (by simpa using hkl) (by decide); obtain ⟨⟨u3,d3⟩,f3⟩:=hOL5.there (i:=k) (j:=3) (by simpa using hkl) (by decide); obtain ⟨⟨u4,d4⟩,f4⟩:=hOL5.there (i:=k) (j:=4) (by simpa using hkl) (by decide); rw [Nat.add_zero] at d0 f0))
     have hNv:=(hN.sl goodVal).mono goodVal (T:=fun q=>(S q∧q≠w.heap.size)∧q≠g) (fun q _ hq=>by
      have h9:w3.heap.size≤q:=hq
      exact ⟨hS1.out q (Nat.le_trans hsL h9),by omega⟩)
     have hset:=(OwnR.set (i:=k) goodOut hOL5 (by simpa using hkl) (x:=outOf ⟨key,4,of,nc::nr,name,args⟩) (outR_shut (o:=outOf ⟨key,4,of,nc::nr,name,args⟩) hNv)); have hfin:=hid ((hf1.out.trans (F1.mono (fun _ _ h=>h.1))).trans ((Fr.refl S w3).drew.trans (Fr.of_below hb5 S))); clear hOL5 hN hNv hb5 hclone; have hset2:=hid (hset.mono goodOut (T:=S) (fun _ _ h=>h.1)); have hfin2:=hid (Fr.setCells (outCs (outOf ⟨key,4,of,nc::nr,name,args⟩) (.slice an args.length kn)) (k * 5) hfin.out (b:=g) (Or.inl hgS)); clear hset hfin
     go_wp2
     go_ret2
     exact ⟨_,by rw [hres.out]; rfl,by rw [hres.out]; exact hset2.out,hfin2.out⟩
    ·have hy2:findO l (nc::nr)=(k2:Int):=hy
     replace hy:=hid hy2; replace hres:=hid (hres.out.symm.trans (show stepF l ⟨key,4,of,nc::nr,name,args⟩=(4,[]) by simp [stepF,hx2,hy2,hno]))
     go_enter Tryz.func21,Tryz.ntmps21
     go_wp2_with fail
     refine hfind.out.mono ?_; rintro e w2 ⟨rfl,hb2⟩; have F1:Fr (fun q=>S q∧q≠w.heap.size) (w.alloc (.cells #[sv key,iv 4,sv of,sv (nc::nr),sv name,.slice a1 args.length k1] 41)) w2:=Fr.of_below hb2 _; have hbox2:=F1.keep hcell.out (fun h=>h.2 rfl); have e1:w2.cell? ⟨w.heap.size,1,none⟩=some (iv 4):=(cell_of hbox2).trans rfl; have e2:w2.cell? ⟨w.heap.size,2,none⟩=some (sv of):=(cell_of hbox2).trans rfl; have e3:w2.cell? ⟨w.heap.size,3,none⟩=some (sv (nc::nr)):=(cell_of hbox2).trans rfl; rw [hx.out]
     go_wp2_with fail
     refine (hnew2.out _ hb2).mono ?_; rintro e w3 ⟨rfl,hb3⟩; rw [hy.out]
     go_wp2
     go_ret2
     exact ⟨_,by rw [hres.out]; rfl,by rw [hres.out]; exact OwnR.nil _ _ _ _ _,(hf1.out.trans (Fr.of_below hb2 S)).trans (Fr.of_below hb3 S)⟩

theorem step_any (c:Cmd) (l:List Out) (hl:l.length≤1048576) (hc:ValsB c.args) (S T:Foot) (v:Value) (w:World) (hr:OwnR 37 5 OutR S w l v) (cs:List Value) (hcr:CmdR T w c cs) (hST:∀ k,T k→¬ S k) (hS:∀ k,w.heap.size≤k→S k) :
  Calls Tryz.prog STEP #[v,.agg cs.toArray] w (StepP S w (stepF l c)):=by
 obtain ⟨key,kd,of,new,name,args⟩:=c; by_cases h2:kd=2
 ·subst h2; exact step_undo key of new name args l hl hc S T v w hr cs hcr hST hS
 ·by_cases h3:kd=3
  ·subst h3; exact step_part key of new name args l hl hc S T v w hr cs hcr hST hS
  ·by_cases h1:kd=1
   ·subst h1; exact step_do key of new name args l hl hc S T v w hr cs hcr hST hS
   ·by_cases h4:kd=4
    ·subst h4; exact step_amend key of new name args l hl hc S T v w hr cs hcr hST hS
    ·exact step_other key of new name args kd l hl hc S T v w hr cs hcr hST hS h1 h2 h3 h4
end Go.Proofs.YtfejagpjahoibaaGreatDoor
