/- Package clone: values, effects, commands copied at all levels. -/
import Derived.Test.YtfejagpjahoibaaGreatDoorApi
import Derived.Lib.SliceRun
set_option linter.unusedVariables false
namespace Go.Proofs.YtfejagpjahoibaaGreatDoor
open Go.RowKit
open Go.Lib (hid)

set_option maxHeartbeats 4000000 in
set_option maxRecDepth 100000 in
theorem eachVal_any (l:List Val) (hl:l.length≤1048576)
  (hf:∀ x∈l,∀ (S:Foot) (cs:List Value) (w:World),ValR S w x cs→Calls Tryz.prog 72 #[.agg cs.toArray] w fun e w'=>∃ cs',e=.returned (.agg cs'.toArray)∧ValR (from_ w.heap.size) w' x cs'∧Below w.heap.size w w')
  (S:Foot) (v:Value) (w:World) (hr:SlR 6 ValR S w l v) :
  Calls Tryz.prog 71 #[v,.func (Fn.func 72) #[] #[]] w fun e w'=>∃ v',e=.returned v'∧OwnR 47 6 ValR (from_ w.heap.size) w' l v'∧Below w.heap.size w w':=by
 obtain ⟨a,cap,rfl,hcap⟩:=hr.slice; rcases a with _ | ad
 ·have hl0:=hr.empty
  subst hl0; have hfin:=hid (OwnR.nil 47 6 ValR (from_ w.heap.size) w); clear hr
  have hnil:=fun W=>Lib.run_eql_slice_nil (P:=Tryz.prog) W 35 47 none 0 cap 0 0 (by kernel_rfl)
  go_enter Tryz.func71,Tryz.ntmps71
  go_wp2
  go_ret; exact ⟨_,rfl,hfin.out,Below.refl _ _⟩
 ·obtain ⟨i0,hi,hz0,hz1,hz2⟩:=info_parts infoVal
  have hnil:=fun W=>Lib.run_eql_slice_nil (P:=Tryz.prog) W 35 47 (some ad) l.length cap 0 0 (by kernel_rfl)
  obtain ⟨w1,hmk,hown,hgr⟩:=run_make_full (P:=Tryz.prog) (t:=35) w w.heap.size 47 i0 _ 6 (by kernel_rfl) hi hz0 hz1 .i64 .i64 l.length (by rw [hz2]; omega) (by unfold maxLen; omega) (Nat.le_refl _); have hB1:Below w.heap.size w w1:=(Below.refl _ w).grown hgr (Nat.le_refl _) (fun k hk=>by cases hk); have hP:=PartR.start (R:=ValR) (S:=from_ w.heap.size) hown (fun q hq=>hq); replace hr:=hid hr; replace hf:=hid hf; replace hP:=hid hP; replace hB1:=hid hB1; clear hown hgr hi hz0 hz1 hz2 hcap
  go_enter Tryz.func71,Tryz.ntmps71
  go_wp2
  go_loopw [15] (fun i wr=>∃ k:Nat,i=.int .i64 k∧k≤l.length∧PartR 47 6 ValR (from_ w.heap.size) wr l (.slice (some ⟨w.heap.size,0,none⟩) l.length l.length) k∧Below w.heap.size w wr) (fun i _=>l.length - (intOf i).toNat)
  case atStart=>exact ⟨0,rfl,Nat.zero_le _,hP.out,hB1.out⟩
  case round =>
   clear hP hB1 hmk; obtain ⟨k,rfl,hk,hP,hB⟩:=hrel; by_cases hlt:k < l.length
   ·obtain ⟨x,hx⟩:∃ x,l[k]? = some x:=⟨_,List.getElem?_eq_getElem hlt⟩
    obtain ⟨g,o,cs,hidx,hS,hg,hc,hR⟩:=(hr.out.below goodVal hB).at (P:=Tryz.prog) (t:=35) (by kernel_rfl) (fun _=>by kernel_rfl) hx; have hR0:=hR; obtain ⟨a1,k1,rfl,-⟩:=valR_open hR; have c0:=hc 0 _ rfl; have c1:=hc 1 _ rfl; have c2:=hc 2 _ rfl; have c3:=hc 3 _ rfl; have c4:=hc 4 _ rfl; have c5:=hc 5 _ rfl; rw [Nat.add_zero] at c0; have hb2:Below wr.heap.size wr (wr.alloc (.cells #[iv x.kind,sv x.t,iv x.n,iv x.m,sv x.s,.slice a1 x.l.length k1] 47)):=(Below.refl _ _).alloc (Nat.le_refl _) _; have hcall:=hid (hf.out x (List.mem_of_getElem? hx) S _ _ (goodVal.below hR0 hb2)); have hP2:=hid (hP.below goodVal hb2); have hB2:=hid (hB.trans (hb2.mono hB.size)); have hlo:w.heap.size < wr.heap.size:=hP.lt rfl
    have hidx2:∀ kd W,(Instr.indexAt 35 (.slice (some ⟨w.heap.size,0,none⟩) l.length l.length) (.int kd k)).run Tryz.prog W=.ok (.pointer (some ⟨w.heap.size,k * 6,none⟩)) W:=fun kd W=>by
     have:=row_idx (P:=Tryz.prog) (t:=35) (sz:=6) (by kernel_rfl) (fun _=>by kernel_rfl) (rfl:(some ⟨w.heap.size,0,none⟩:Option Addr)=some ⟨w.heap.size,0,none⟩) l.length l.length k hlt kd W; simpa using this
    clear hR0 hR hc hP hB hb2; replace hx:=hid hx
    go_wp2_with fail
    refine hcall.out.mono ?_; rintro e w2 ⟨cs',rfl,hR2,hb⟩; have hP3:=hP2.out.below goodVal hb; have hB3:=hB2.out.trans (hb.mono hB2.out.size)
    have hR3:ValR (fun q=>from_ w.heap.size q∧q≠w.heap.size) w2 x cs':=goodVal.mono hR2 (fun q _ hq=>by
     have:wr.heap.size+1≤q:=by simpa [from_] using hq
     exact ⟨by show w.heap.size≤q; omega,by omega⟩)
    have hP4:=hid (hP3.set goodVal hx.out hR3); have hB4:=hid (((Fr.of_below hB3 (fun q=>w.heap.size≤q)).setCells cs' (b:=w.heap.size) (k * 6) (Or.inl (Nat.le_refl _))).to_below (Nat.le_refl _) (fun q hq h=>by omega)); obtain ⟨a2,k2,rfl,-⟩:=valR_open hR2; obtain ⟨⟨u0,d0⟩,f0⟩:=hP3.there (j:=0) hlt (by decide); obtain ⟨⟨u1,d1⟩,f1⟩:=hP3.there (j:=1) hlt (by decide); obtain ⟨⟨u2,d2⟩,f2⟩:=hP3.there (j:=2) hlt (by decide); obtain ⟨⟨u3,d3⟩,f3⟩:=hP3.there (j:=3) hlt (by decide); obtain ⟨⟨u4,d4⟩,f4⟩:=hP3.there (j:=4) hlt (by decide); obtain ⟨⟨u5,d5⟩,f5⟩:=hP3.there (j:=5) hlt (by decide); rw [Nat.add_zero] at d0 f0; clear hR2 hR3 hP3 hB3 hb hcall hP2 hB2 c0 c1 c2 c3 c4 c5 hidx
    go_wp2_with fail
    exact ⟨⟨k+1,by go_num,by omega,hP4.out,hB4.out⟩,by simp [intOf]; omega⟩
   ·have hkl:k=l.length:=by omega
    subst hkl; have hfin:=hid hP.all; clear hP
    go_wp2
    go_ret; exact ⟨_,rfl,hfin.out,hB⟩

set_option maxHeartbeats 4000000 in
set_option maxRecDepth 100000 in
theorem cloneVal_of (x:Val) (hv:∀ (S:Foot) (v:Value) (w:World),ValsR S w x.l v→Calls Tryz.prog 54 #[v] w fun e w'=>∃ v',e=.returned v'∧OwnR 47 6 ValR (from_ w.heap.size) w' x.l v'∧Below w.heap.size w w')
  (S:Foot) (cs:List Value) (w:World) (hr:ValR S w x cs):Calls Tryz.prog 72 #[.agg cs.toArray] w fun e w'=>∃ cs',e=.returned (.agg cs'.toArray)∧ValR (from_ w.heap.size) w' x cs'∧Below w.heap.size w w':=by
 obtain ⟨a1,k1,rfl,hvs⟩:=valR_open hr; have hb2:Below w.heap.size w ((w.alloc (.cells #[iv x.kind,sv x.t,iv x.n,iv x.m,sv x.s,.slice a1 x.l.length k1] 47)).alloc (.cells #[.int .i64 0,.string .empty,.int .i64 0,.int .i64 0,.string .empty,.slice none 0 0] 47)):=((Below.refl _ w).alloc (Nat.le_refl _) _).alloc (by simp) _; have hcall:=hid (hv S _ _ (hvs.below goodVal hb2)); have q0:=heap_alloc_lt (o':=.cells #[.int .i64 0,.string .empty,.int .i64 0,.int .i64 0,.string .empty,.slice none 0 0] 47) (heap_alloc_new' w (.cells #[iv x.kind,sv x.t,iv x.n,iv x.m,sv x.s,.slice a1 x.l.length k1] 47))
 have q1:=heap_alloc_new' (w.alloc (.cells #[iv x.kind,sv x.t,iv x.n,iv x.m,sv x.s,.slice a1 x.l.length k1] 47)) (.cells #[.int .i64 0,.string .empty,.int .i64 0,.int .i64 0,.string .empty,.slice none 0 0] 47)
 have hsz1:(w.alloc (.cells #[iv x.kind,sv x.t,iv x.n,iv x.m,sv x.s,.slice a1 x.l.length k1] 47)).heap.size=w.heap.size+1:=by simp
 rw [hsz1] at q1
 have hsz2:((w.alloc (.cells #[iv x.kind,sv x.t,iv x.n,iv x.m,sv x.s,.slice a1 x.l.length k1] 47)).alloc (.cells #[.int .i64 0,.string .empty,.int .i64 0,.int .i64 0,.string .empty,.slice none 0 0] 47)).heap.size=w.heap.size+2:=by simp
 replace hb2:=hid hb2; replace q0:=hid q0; replace q1:=hid q1; replace hsz2:=hid hsz2; clear hvs hr hsz1
 go_enter Tryz.func72,Tryz.ntmps72
 go_wp2_with fail
 refine hcall.out.mono ?_; rintro e w3 ⟨v',rfl,hO,hb3⟩; obtain ⟨a2,k2,rfl,-,-⟩:=hO.slice; have hs3:=hb3.size; rw [hsz2.out] at hs3; have hB3:=hb2.out.trans (hb3.mono (by rw [hsz2.out]; omega)); have p0:=below_keep hb3 q0.out (by rw [hsz2.out]; omega); have p1:=below_keep hb3 q1.out (by rw [hsz2.out]; omega); have c0:w3.cell? ⟨w.heap.size,0,none⟩=some (iv x.kind):=(cell_of p0).trans rfl; have d0:w3.cell? ⟨w.heap.size+1,0,none⟩=some (.int .i64 0):=(cell_of p1).trans rfl; have f0:w3.frozen? ⟨w.heap.size,0,none⟩=false:=free_of p0; have g0:w3.frozen? ⟨w.heap.size+1,0,none⟩=false:=free_of p1; have c1:w3.cell? ⟨w.heap.size,1,none⟩=some (sv x.t):=(cell_of p0).trans rfl; have d1:w3.cell? ⟨w.heap.size+1,1,none⟩=some (.string .empty):=(cell_of p1).trans rfl
 have f1:w3.frozen? ⟨w.heap.size,1,none⟩=false:=free_of p0; have g1:w3.frozen? ⟨w.heap.size+1,1,none⟩=false:=free_of p1; have c2:w3.cell? ⟨w.heap.size,2,none⟩=some (iv x.n):=(cell_of p0).trans rfl; have d2:w3.cell? ⟨w.heap.size+1,2,none⟩=some (.int .i64 0):=(cell_of p1).trans rfl; have f2:w3.frozen? ⟨w.heap.size,2,none⟩=false:=free_of p0; have g2:w3.frozen? ⟨w.heap.size+1,2,none⟩=false:=free_of p1; have c3:w3.cell? ⟨w.heap.size,3,none⟩=some (iv x.m):=(cell_of p0).trans rfl; have d3:w3.cell? ⟨w.heap.size+1,3,none⟩=some (.int .i64 0):=(cell_of p1).trans rfl; have f3:w3.frozen? ⟨w.heap.size,3,none⟩=false:=free_of p0; have g3:w3.frozen? ⟨w.heap.size+1,3,none⟩=false:=free_of p1; have c4:w3.cell? ⟨w.heap.size,4,none⟩=some (sv x.s):=(cell_of p0).trans rfl
 have d4:w3.cell? ⟨w.heap.size+1,4,none⟩=some (.string .empty):=(cell_of p1).trans rfl; have f4:w3.frozen? ⟨w.heap.size,4,none⟩=false:=free_of p0; have g4:w3.frozen? ⟨w.heap.size+1,4,none⟩=false:=free_of p1; have c5:w3.cell? ⟨w.heap.size,5,none⟩=some (.slice a1 x.l.length k1):=(cell_of p0).trans rfl; have d5:w3.cell? ⟨w.heap.size+1,5,none⟩=some (.slice none 0 0):=(cell_of p1).trans rfl; have f5:w3.frozen? ⟨w.heap.size,5,none⟩=false:=free_of p0; have g5:w3.frozen? ⟨w.heap.size+1,5,none⟩=false:=free_of p1
 have hF:Fr (fun q=>q=w.heap.size∨q=w.heap.size+1) w3 (setCells (w3.setCell ⟨w.heap.size,5,none⟩ (.slice a2 x.l.length k2)) (w.heap.size+1) 0 [iv x.kind,sv x.t,iv x.n,iv x.m,sv x.s,.slice a2 x.l.length k2]):=((Fr.refl _ w3).setCell (Or.inl (Or.inl rfl)) _).setCells _ _ (Or.inl (Or.inr rfl))
 have hlo:∀ q,from_ ((w.alloc (.cells #[iv x.kind,sv x.t,iv x.n,iv x.m,sv x.s,.slice a1 x.l.length k1] 47)).alloc (.cells #[.int .i64 0,.string .empty,.int .i64 0,.int .i64 0,.string .empty,.slice none 0 0] 47)).heap.size q→w.heap.size+2≤q:=fun q hq=>by
  have h9:_≤q:=hq; rw [hsz2.out] at h9; exact h9
 have hS:=(hO.sl goodVal).fr goodVal hF (fun q hq h=>by have:=hlo q hq; omega); have hfin:=hid (valR_shut (hS.mono goodVal (T:=from_ w.heap.size) (fun q _ hq=>by have:=hlo q hq; show w.heap.size≤q; omega))); have hB:=hid (hB3.trans (hF.to_below (B:=w.heap.size) hB3.size (fun q hq h=>by omega))); clear hO hb3 hB3 p0 p1 hF hS hcall hb2 q0 q1 hsz2 hlo
 go_wp2_with fail
 refine bodyPost_ret (v:=.agg #[iv x.kind,sv x.t,iv x.n,iv x.m,sv x.s,.slice a2 x.l.length k2]) (by simp [results,Tryz.results72,go_sem,d0,d1,d2,d3,d4,d5]) rfl ⟨[iv x.kind,sv x.t,iv x.n,iv x.m,sv x.s,.slice a2 x.l.length k2],rfl,hfin.out,hB.out⟩

set_option maxRecDepth 100000 in
theorem cloneVals_of (l:List Val) (w:World) (v:Value) (Q:Ending→World→Prop) (h:Calls Tryz.prog 71 #[v,.func (Fn.func 72) #[] #[]] w fun e w'=>∃ v',e=.returned v'∧OwnR 47 6 ValR (from_ w.heap.size) w' l v'∧Below w.heap.size w w') :
  Calls Tryz.prog 54 #[v] w fun e w'=>∃ v',e=.returned v'∧OwnR 47 6 ValR (from_ w.heap.size) w' l v'∧Below w.heap.size w w':=by
 replace h:=hid h
 go_enter Tryz.func54,Tryz.ntmps54
 go_wp2_with fail
 refine h.out.mono ?_; rintro e w3 ⟨v',rfl,hO,hb⟩; replace hO:=hid hO
 go_wp2
 go_ret; exact ⟨_,rfl,hO.out,hb⟩

theorem cloneVal_any (x:Val):ValB x→∀ (S:Foot) (cs:List Value) (w:World),ValR S w x cs→Calls Tryz.prog 72 #[.agg cs.toArray] w fun e w'=>∃ cs',e=.returned (.agg cs'.toArray)∧ValR (from_ w.heap.size) w' x cs'∧Below w.heap.size w w':=by
 suffices h:∀ n (x:Val),SizeOf.sizeOf x < n→ValB x→∀ (S:Foot) (cs:List Value) (w:World),ValR S w x cs→Calls Tryz.prog 72 #[.agg cs.toArray] w fun e w'=>∃ cs',e=.returned (.agg cs'.toArray)∧ValR (from_ w.heap.size) w' x cs'∧Below w.heap.size w w' from h _ x (Nat.lt_succ_self _)
 intro n
 induction n with
 | zero=>intro x h; omega
 | succ n ih =>
  intro x hx hb S cs w hr; refine cloneVal_of x (fun S v w hv=>cloneVals_of x.l w v (fun _ _=>True) (eachVal_any x.l hb.len (fun y hy S cs w hr=>ih y ?_ (hb.mem hy) S cs w hr) S v w hv)) S cs w hr; have:=val_mem_lt hy; omega
theorem cloneVals_any (l:List Val) (hl:ValsB l) (S:Foot) (v:Value) (w:World) (hv:ValsR S w l v):Calls Tryz.prog 54 #[v] w fun e w'=>∃ v',e=.returned v'∧OwnR 47 6 ValR (from_ w.heap.size) w' l v'∧Below w.heap.size w w' :=
 cloneVals_of l w v (fun _ _=>True) (eachVal_any l hl.1 (fun y hy S cs w hr=>cloneVal_any y (hl.2 y hy) S cs w hr) S v w hv)

set_option maxHeartbeats 4000000 in
set_option maxRecDepth 100000 in
theorem eachOut_any (l:List Out) (hl:l.length≤1048576)
  (hf:∀ x∈l,∀ (S:Foot) (cs:List Value) (w:World),OutR S w x cs→Calls Tryz.prog 52 #[.agg cs.toArray] w fun e w'=>∃ cs',e=.returned (.agg cs'.toArray)∧OutR (from_ w.heap.size) w' x cs'∧Below w.heap.size w w')
  (S:Foot) (v:Value) (w:World) (hr:SlR 5 OutR S w l v) :
  Calls Tryz.prog 51 #[v,.func (Fn.func 52) #[] #[]] w fun e w'=>∃ v',e=.returned v'∧OwnR 37 5 OutR (from_ w.heap.size) w' l v'∧Below w.heap.size w w':=by
 obtain ⟨a,cap,rfl,hcap⟩:=hr.slice; rcases a with _ | ad
 ·have hl0:=hr.empty
  subst hl0; have hfin:=hid (OwnR.nil 37 5 OutR (from_ w.heap.size) w); clear hr
  have hnil:=fun W=>Lib.run_eql_slice_nil (P:=Tryz.prog) W 23 37 none 0 cap 0 0 (by kernel_rfl)
  go_enter Tryz.func51,Tryz.ntmps51
  go_wp2
  go_ret; exact ⟨_,rfl,hfin.out,Below.refl _ _⟩
 ·obtain ⟨i0,hi,hz0,hz1,hz2⟩:=info_parts infoOut
  have hnil:=fun W=>Lib.run_eql_slice_nil (P:=Tryz.prog) W 23 37 (some ad) l.length cap 0 0 (by kernel_rfl)
  obtain ⟨w1,hmk,hown,hgr⟩:=run_make_full (P:=Tryz.prog) (t:=23) w w.heap.size 37 i0 _ 5 (by kernel_rfl) hi hz0 hz1 .i64 .i64 l.length (by rw [hz2]; omega) (by unfold maxLen; omega) (Nat.le_refl _); have hB1:Below w.heap.size w w1:=(Below.refl _ w).grown hgr (Nat.le_refl _) (fun k hk=>by cases hk); have hP:=PartR.start (R:=OutR) (S:=from_ w.heap.size) hown (fun q hq=>hq); replace hr:=hid hr; replace hf:=hid hf; replace hP:=hid hP; replace hB1:=hid hB1; clear hown hgr hi hz0 hz1 hz2 hcap
  go_enter Tryz.func51,Tryz.ntmps51
  go_wp2
  go_loopw [15] (fun i wr=>∃ k:Nat,i=.int .i64 k∧k≤l.length∧PartR 37 5 OutR (from_ w.heap.size) wr l (.slice (some ⟨w.heap.size,0,none⟩) l.length l.length) k∧Below w.heap.size w wr) (fun i _=>l.length - (intOf i).toNat)
  case atStart=>exact ⟨0,rfl,Nat.zero_le _,hP.out,hB1.out⟩
  case round =>
   clear hP hB1 hmk; obtain ⟨k,rfl,hk,hP,hB⟩:=hrel; by_cases hlt:k < l.length
   ·obtain ⟨x,hx⟩:∃ x,l[k]? = some x:=⟨_,List.getElem?_eq_getElem hlt⟩
    obtain ⟨g,o,cs,hidx,hS,hg,hc,hR⟩:=(hr.out.below goodOut hB).at (P:=Tryz.prog) (t:=23) (by kernel_rfl) (fun _=>by kernel_rfl) hx; have hR0:=hR; obtain ⟨a1,k1,rfl,-⟩:=id hR; have c0:=hc 0 _ rfl; have c1:=hc 1 _ rfl; have c2:=hc 2 _ rfl; have c3:=hc 3 _ rfl; have c4:=hc 4 _ rfl; rw [Nat.add_zero] at c0; have hb2:Below wr.heap.size wr (wr.alloc (.cells #[sv x.key,sv x.name,.slice a1 x.args.length k1,.bool x.part,iv x.tick] 37)):=(Below.refl _ _).alloc (Nat.le_refl _) _; have hcall:=hid (hf.out x (List.mem_of_getElem? hx) S _ _ (goodOut.below hR0 hb2)); have hP2:=hid (hP.below goodOut hb2); have hB2:=hid (hB.trans (hb2.mono hB.size)); have hlo:w.heap.size < wr.heap.size:=hP.lt rfl
    have hidx2:∀ kd W,(Instr.indexAt 23 (.slice (some ⟨w.heap.size,0,none⟩) l.length l.length) (.int kd k)).run Tryz.prog W=.ok (.pointer (some ⟨w.heap.size,k * 5,none⟩)) W:=fun kd W=>by
     have:=row_idx (P:=Tryz.prog) (t:=23) (sz:=5) (by kernel_rfl) (fun _=>by kernel_rfl) (rfl:(some ⟨w.heap.size,0,none⟩:Option Addr)=some ⟨w.heap.size,0,none⟩) l.length l.length k hlt kd W; simpa using this
    clear hR0 hR hc hP hB hb2; replace hx:=hid hx
    go_wp2_with fail
    refine hcall.out.mono ?_; rintro e w2 ⟨cs',rfl,hR2,hb⟩; have hP3:=hP2.out.below goodOut hb; have hB3:=hB2.out.trans (hb.mono hB2.out.size)
    have hR3:OutR (fun q=>from_ w.heap.size q∧q≠w.heap.size) w2 x cs':=goodOut.mono hR2 (fun q _ hq=>by
     have:wr.heap.size+1≤q:=by simpa [from_] using hq
     exact ⟨by show w.heap.size≤q; omega,by omega⟩)
    have hP4:=hid (hP3.set goodOut hx.out hR3); have hB4:=hid (((Fr.of_below hB3 (fun q=>w.heap.size≤q)).setCells cs' (b:=w.heap.size) (k * 5) (Or.inl (Nat.le_refl _))).to_below (Nat.le_refl _) (fun q hq h=>by omega)); obtain ⟨a2,k2,rfl,-⟩:=id hR2; obtain ⟨⟨u0,d0⟩,f0⟩:=hP3.there (j:=0) hlt (by decide); obtain ⟨⟨u1,d1⟩,f1⟩:=hP3.there (j:=1) hlt (by decide); obtain ⟨⟨u2,d2⟩,f2⟩:=hP3.there (j:=2) hlt (by decide); obtain ⟨⟨u3,d3⟩,f3⟩:=hP3.there (j:=3) hlt (by decide); obtain ⟨⟨u4,d4⟩,f4⟩:=hP3.there (j:=4) hlt (by decide); rw [Nat.add_zero] at d0 f0; clear hR2 hR3 hP3 hB3 hb hcall hP2 hB2 c0 c1 c2 c3 c4 hidx
    go_wp2_with fail
    exact ⟨⟨k+1,by go_num,by omega,hP4.out,hB4.out⟩,by simp [intOf]; omega⟩
   ·have hkl:k=l.length:=by omega
    subst hkl; have hfin:=hid hP.all; clear hP
    go_wp2
    go_ret; exact ⟨_,rfl,hfin.out,hB⟩

set_option maxHeartbeats 4000000 in
set_option maxRecDepth 100000 in
theorem cloneOut_of (x:Out) (hv:∀ (S:Foot) (v:Value) (w:World),ValsR S w x.args v→Calls Tryz.prog 54 #[v] w fun e w'=>∃ v',e=.returned v'∧OwnR 47 6 ValR (from_ w.heap.size) w' x.args v'∧Below w.heap.size w w')
  (S:Foot) (cs:List Value) (w:World) (hr:OutR S w x cs):Calls Tryz.prog 52 #[.agg cs.toArray] w fun e w'=>∃ cs',e=.returned (.agg cs'.toArray)∧OutR (from_ w.heap.size) w' x cs'∧Below w.heap.size w w':=by
 obtain ⟨a1,k1,rfl,hvs⟩:=id hr; have hb2:Below w.heap.size w ((w.alloc (.cells #[sv x.key,sv x.name,.slice a1 x.args.length k1,.bool x.part,iv x.tick] 37)).alloc (.cells #[.string .empty,.string .empty,.slice none 0 0,.bool false,.int .i64 0] 37)):=((Below.refl _ w).alloc (Nat.le_refl _) _).alloc (by simp) _; have hcall:=hid (hv S _ _ (hvs.below goodVal hb2)); have q0:=heap_alloc_lt (o':=.cells #[.string .empty,.string .empty,.slice none 0 0,.bool false,.int .i64 0] 37) (heap_alloc_new' w (.cells #[sv x.key,sv x.name,.slice a1 x.args.length k1,.bool x.part,iv x.tick] 37)); have q1:=heap_alloc_new' (w.alloc (.cells #[sv x.key,sv x.name,.slice a1 x.args.length k1,.bool x.part,iv x.tick] 37)) (.cells #[.string .empty,.string .empty,.slice none 0 0,.bool false,.int .i64 0] 37)
 have hsz1:(w.alloc (.cells #[sv x.key,sv x.name,.slice a1 x.args.length k1,.bool x.part,iv x.tick] 37)).heap.size=w.heap.size+1:=by simp
 rw [hsz1] at q1
 have hsz2:((w.alloc (.cells #[sv x.key,sv x.name,.slice a1 x.args.length k1,.bool x.part,iv x.tick] 37)).alloc (.cells #[.string .empty,.string .empty,.slice none 0 0,.bool false,.int .i64 0] 37)).heap.size=w.heap.size+2:=by simp
 replace hb2:=hid hb2; replace q0:=hid q0; replace q1:=hid q1; replace hsz2:=hid hsz2; clear hvs hr hsz1
 go_enter Tryz.func52,Tryz.ntmps52
 go_wp2_with fail
 refine hcall.out.mono ?_; rintro e w3 ⟨v',rfl,hO,hb3⟩; obtain ⟨a2,k2,rfl,-,-⟩:=hO.slice; have hs3:=hb3.size; rw [hsz2.out] at hs3; have hB3:=hb2.out.trans (hb3.mono (by rw [hsz2.out]; omega)); have p0:=below_keep hb3 q0.out (by rw [hsz2.out]; omega); have p1:=below_keep hb3 q1.out (by rw [hsz2.out]; omega); have c0:w3.cell? ⟨w.heap.size,0,none⟩=some (sv x.key):=(cell_of p0).trans rfl; have d0:w3.cell? ⟨w.heap.size+1,0,none⟩=some (.string .empty):=(cell_of p1).trans rfl; have f0:w3.frozen? ⟨w.heap.size,0,none⟩=false:=free_of p0; have g0:w3.frozen? ⟨w.heap.size+1,0,none⟩=false:=free_of p1; have c1:w3.cell? ⟨w.heap.size,1,none⟩=some (sv x.name):=(cell_of p0).trans rfl; have d1:w3.cell? ⟨w.heap.size+1,1,none⟩=some (.string .empty):=(cell_of p1).trans rfl
 have f1:w3.frozen? ⟨w.heap.size,1,none⟩=false:=free_of p0; have g1:w3.frozen? ⟨w.heap.size+1,1,none⟩=false:=free_of p1; have c2:w3.cell? ⟨w.heap.size,2,none⟩=some (.slice a1 x.args.length k1):=(cell_of p0).trans rfl; have d2:w3.cell? ⟨w.heap.size+1,2,none⟩=some (.slice none 0 0):=(cell_of p1).trans rfl; have f2:w3.frozen? ⟨w.heap.size,2,none⟩=false:=free_of p0; have g2:w3.frozen? ⟨w.heap.size+1,2,none⟩=false:=free_of p1; have c3:w3.cell? ⟨w.heap.size,3,none⟩=some (.bool x.part):=(cell_of p0).trans rfl; have d3:w3.cell? ⟨w.heap.size+1,3,none⟩=some (.bool false):=(cell_of p1).trans rfl; have f3:w3.frozen? ⟨w.heap.size,3,none⟩=false:=free_of p0; have g3:w3.frozen? ⟨w.heap.size+1,3,none⟩=false:=free_of p1
 have c4:w3.cell? ⟨w.heap.size,4,none⟩=some (iv x.tick):=(cell_of p0).trans rfl; have d4:w3.cell? ⟨w.heap.size+1,4,none⟩=some (.int .i64 0):=(cell_of p1).trans rfl; have f4:w3.frozen? ⟨w.heap.size,4,none⟩=false:=free_of p0; have g4:w3.frozen? ⟨w.heap.size+1,4,none⟩=false:=free_of p1; have hF:Fr (fun q=>q=w.heap.size∨q=w.heap.size+1) w3 (setCells (w3.setCell ⟨w.heap.size,2,none⟩ (.slice a2 x.args.length k2)) (w.heap.size+1) 0 [sv x.key,sv x.name,.slice a2 x.args.length k2,.bool x.part,iv x.tick]):=((Fr.refl _ w3).setCell (Or.inl (Or.inl rfl)) _).setCells _ _ (Or.inl (Or.inr rfl))
 have hlo:∀ q,from_ ((w.alloc (.cells #[sv x.key,sv x.name,.slice a1 x.args.length k1,.bool x.part,iv x.tick] 37)).alloc (.cells #[.string .empty,.string .empty,.slice none 0 0,.bool false,.int .i64 0] 37)).heap.size q→w.heap.size+2≤q:=fun q hq=>by
  have h9:_≤q:=hq; rw [hsz2.out] at h9; exact h9
 have hS:=(hO.sl goodVal).fr goodVal hF (fun q hq h=>by have:=hlo q hq; omega); have hfin:=hid (outR_shut (hS.mono goodVal (T:=from_ w.heap.size) (fun q _ hq=>by have:=hlo q hq; show w.heap.size≤q; omega))); have hB:=hid (hB3.trans (hF.to_below (B:=w.heap.size) hB3.size (fun q hq h=>by omega))); clear hO hb3 hB3 p0 p1 hF hS hcall hb2 q0 q1 hsz2 hlo
 go_wp2_with fail
 refine bodyPost_ret (v:=.agg #[sv x.key,sv x.name,.slice a2 x.args.length k2,.bool x.part,iv x.tick]) (by simp [results,Tryz.results52,go_sem,d0,d1,d2,d3,d4]) rfl ⟨[sv x.key,sv x.name,.slice a2 x.args.length k2,.bool x.part,iv x.tick],rfl,hfin.out,hB.out⟩

set_option maxRecDepth 100000 in
theorem cloneOuts_of (l:List Out) (w:World) (v:Value) (Q:Ending→World→Prop) (h:Calls Tryz.prog 51 #[v,.func (Fn.func 52) #[] #[]] w fun e w'=>∃ v',e=.returned v'∧OwnR 37 5 OutR (from_ w.heap.size) w' l v'∧Below w.heap.size w w') :
  Calls Tryz.prog 20 #[v] w fun e w'=>∃ v',e=.returned v'∧OwnR 37 5 OutR (from_ w.heap.size) w' l v'∧Below w.heap.size w w':=by
 replace h:=hid h
 go_enter Tryz.func20,Tryz.ntmps20
 go_wp2_with fail
 refine h.out.mono ?_; rintro e w3 ⟨v',rfl,hO,hb⟩; replace hO:=hid hO
 go_wp2
 go_ret; exact ⟨_,rfl,hO.out,hb⟩
theorem cloneOut_any (x:Out) (hx:ValsB x.args) (S:Foot) (cs:List Value) (w:World) (hr:OutR S w x cs):Calls Tryz.prog 52 #[.agg cs.toArray] w fun e w'=>∃ cs',e=.returned (.agg cs'.toArray)∧OutR (from_ w.heap.size) w' x cs'∧Below w.heap.size w w' :=
 cloneOut_of x (fun S v w hv=>cloneVals_any x.args hx S v w hv) S cs w hr
theorem cloneOuts_any (l:List Out) (hl:l.length≤1048576) (hx:∀ x∈l,ValsB x.args) (S:Foot) (v:Value) (w:World) (hv:SlR 5 OutR S w l v):Calls Tryz.prog 20 #[v] w fun e w'=>∃ v',e=.returned v'∧OwnR 37 5 OutR (from_ w.heap.size) w' l v'∧Below w.heap.size w w' :=
 cloneOuts_of l w v (fun _ _=>True) (eachOut_any l hl (fun y hy S cs w hr=>cloneOut_any y (hx y hy) S cs w hr) S v w hv)

end Go.Proofs.YtfejagpjahoibaaGreatDoor
