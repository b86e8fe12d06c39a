/- Tmp27: AskFw, AskFx, AskQv, AskBz, in one text. -/
import Derived.Test.YtbkdakbhagjkhaaDoorAskYe
import Derived.Test.YtbkdakbhagjkhaaDoorAskYh
import Derived.Test.YtbkdakbhagjkhaaDoorRows
import Derived.Test.YtbkdakbhagjkhaaDoorFrame
import Derived.Test.YtbkdakbhagjkhaaDoorLaid
import Derived.Deep.Slices
import Derived.Deep.Fields
import Derived.Lib.SmallJoins
import Derived.Test.YtbkdakbhagjkhaaDoorAskZs
import Derived.Test.YtbkdakbhagjkhaaDoorAskBg
set_option linter.unusedVariables false
set_option linter.unusedSimpArgs false
namespace Go.Proofs.YtbkdakbhagjkhaaDoor
open Go.RowKit
open Go.Lib (hid byteCells itoa)
def tmN (t:Tg):Int:=2+t.var.length+t.vs.length+t.vt.length+1000 * t.ln
def litL:List Tg→Int→Int
 | [],n=>n
 | t::r,n=>if n≤3000 then litL r (n+tmN t) else n
def litN (x:Lg):Int:=litL x.args (5+x.rel.length)
def TmR (t:Tg):Prop:=t.var.length≤140737488355328∧t.vs.length≤140737488355328∧t.vt.length≤140737488355328∧t.ln≤140737488355328
set_option maxHeartbeats 4000000 in
set_option maxRecDepth 100000 in
theorem flit_any (x:Lg) (a:Option Addr) (c:Nat) (S:Foot) (w:World) (hr:SlR 7 TgR S w x.args (.slice a x.args.length c)) (hrl:x.rel.length≤140737488355328) (hal:x.args.length≤140737488355328) (hvl:∀ t∈x.args,TmR t) :
  Calls Tryd.prog 13 #[.agg (lcells x.op x.nt x.rel (.slice a x.args.length c))] w fun e w'=>e=.returned (iv (litN x))∧Below w.heap.size w w':=by
 obtain ⟨R,hR⟩:∃ R,R=litN x:=⟨_,rfl⟩; rw [← hR]; replace hR:=hid hR; have hb1:Below w.heap.size w (w.alloc (.cells (lcells x.op x.nt x.rel (.slice a x.args.length c)) 25)):=(Below.refl _ _).alloc (Nat.le_refl _) _; have hbn:=heap_alloc_new' w (.cells (lcells x.op x.nt x.rel (.slice a x.args.length c)) 25); obtain ⟨b0,b1,b2,b3,-⟩:=lt_cells hbn; have hr0:=hid hr; have hvl0:=hid hvl; have hA:=hid hb1; have hk:=hid hbn
 have e0:IntKind.i64.wrap (5+(x.rel.length:Int))=5+(x.rel.length:Int):=by rw [IntKind.wrap_i64]; omega
 replace hr:=hid hr; replace hvl:=hid hvl; replace hbn:=hid hbn; clear hb1
 go_enter Tryd.func13,Tryd.ntmps13
 go_wp2_with fail
 go_loopg [3,4] x.args.length (fun g n i wr=>∃ (k:Nat) (m:Int),n=iv m∧i=iv k∧k+g=x.args.length∧0≤m∧m≤200000000000000000∧Hid (R=litL (x.args.drop k) m)∧Hid (Below w.heap.size w wr)∧Hid (wr.heap[w.heap.size]? = some (.cells (lcells x.op x.nt x.rel (.slice a x.args.length c)) 25 (0,0))))
 case atStart=>exact ⟨0,_,rfl,rfl,by omega,by omega,by omega,hR,hA,hk⟩
 case round =>
  obtain ⟨k,m,rfl,rfl,hkg,hm0,hm1,hR2,hB,hk2⟩:=hrel; clear b0 b1 b2 b3 hA hk; obtain ⟨b0,b1,b2,b3,-⟩:=lt_cells hk2.out; by_cases hlt:k < x.args.length
  ·have q1:decide ((k:Int) < (x.args.length:Int))=true:=decide_eq_true (by omega)
   obtain ⟨t,ht⟩:∃ t,x.args[k]? = some t:=⟨_,List.getElem?_eq_getElem hlt⟩
   have hdr:x.args.drop k=t::x.args.drop (k+1):=by rw [List.drop_eq_getElem_cons hlt]; congr 1; rw [List.getElem?_eq_getElem hlt] at ht; injection ht
   rw [hdr] at hR2; by_cases hle:m≤3000
   ·have kl:decide (m≤3000)=true:=decide_eq_true hle
    replace hR2:=hid (show R=litL (x.args.drop (k+1)) (m+tmN t) from hR2.out.trans (if_pos hle)); obtain ⟨h1,h2,h3,h4⟩:=hvl0.out t (List.mem_of_getElem? ht); obtain ⟨g,o,cs,hidx,-,hg,hc,hrt⟩:=(hr0.out.below goodTg hB.out).at (P:=Tryd.prog) (t:=23) (by kernel_rfl) (fun _=>by kernel_rfl) ht; obtain ⟨ta,tc,hrt'⟩:=hrt; subst hrt'; have d0:wr.cell? ⟨g,o+0,none⟩=some (sv t.var):=hc 0 _ rfl; have d1:wr.cell? ⟨g,o+1,none⟩=some (iv t.kind):=hc 1 _ rfl; have d2:wr.cell? ⟨g,o+2,none⟩=some (sv t.vt):=hc 2 _ rfl; have d3:wr.cell? ⟨g,o+3,none⟩=some (iv t.n):=hc 3 _ rfl; have d4:wr.cell? ⟨g,o+4,none⟩=some (iv t.m):=hc 4 _ rfl; have d5:wr.cell? ⟨g,o+5,none⟩=some (sv t.vs):=hc 5 _ rfl; have d6:wr.cell? ⟨g,o+6,none⟩=some (.slice ta t.ln tc):=hc 6 _ rfl
    rw [Nat.add_zero] at d0
    have e1:IntKind.i64.wrap ((k:Int)+1)=((k+1:Nat):Int):=by rw [IntKind.wrap_i64]; omega
    have s1:IntKind.i64.wrap (m+2)=m+2:=by rw [IntKind.wrap_i64]; omega
    have s2:IntKind.i64.wrap (m+2+(t.var.length:Int))=m+2+(t.var.length:Int):=by rw [IntKind.wrap_i64]; omega
    have s3:IntKind.i64.wrap (m+2+(t.var.length:Int)+(t.vs.length:Int))=m+2+(t.var.length:Int)+(t.vs.length:Int):=by rw [IntKind.wrap_i64]; omega
    have s4:IntKind.i64.wrap (m+2+(t.var.length:Int)+(t.vs.length:Int)+(t.vt.length:Int))=m+2+(t.var.length:Int)+(t.vs.length:Int)+(t.vt.length:Int):=by rw [IntKind.wrap_i64]; omega
    have s5:IntKind.i64.wrap (1000 * (t.ln:Int))=1000 * (t.ln:Int):=by rw [IntKind.wrap_i64]; omega
    have s6:IntKind.i64.wrap (m+2+(t.var.length:Int)+(t.vs.length:Int)+(t.vt.length:Int)+1000 * (t.ln:Int))=m+2+(t.var.length:Int)+(t.vs.length:Int)+(t.vt.length:Int)+1000 * (t.ln:Int):=by rw [IntKind.wrap_i64]; omega
    have hbT:Below wr.heap.size wr (wr.alloc (.cells (vcells t ta tc) 48)):=(Below.refl _ _).alloc (Nat.le_refl _) _; have hnT:=heap_alloc_new' wr (.cells (vcells t ta tc) 48); have hB2:=hid (fun n=>hB.out.trans ((below_drewM hbT n).mono hB.out.size)); have hk3:=hid (fun n=>below_keep (below_drewM hbT n) hk2.out (lt_of_heap hk2.out)); have f3:(wr.alloc (.cells (vcells t ta tc) 48)).cell? ⟨w.heap.size,3,none⟩=some (.slice a x.args.length c):=(cell_of (i:=3) (below_keep hbT hk2.out (lt_of_heap hk2.out))).trans rfl; have f0:(wr.alloc (.cells (vcells t ta tc) 48)).cell? ⟨g,o,none⟩=some (sv t.var):=(World.cell?_of_block (hbT.block g hg)).trans d0; have m1:(wr.alloc (.cells (vcells t ta tc) 48)).cell? ⟨wr.heap.size,1,none⟩=some (sv t.vt):=(cell_of (i:=1) hnT).trans rfl
    have m4:(wr.alloc (.cells (vcells t ta tc) 48)).cell? ⟨wr.heap.size,4,none⟩=some (sv t.vs):=(cell_of (i:=4) hnT).trans rfl; have m5:(wr.alloc (.cells (vcells t ta tc) 48)).cell? ⟨wr.heap.size,5,none⟩=some (.slice ta t.ln tc):=(cell_of (i:=5) hnT).trans rfl; replace hle:=hid hle; replace hnT:=hid hnT; clear hc hdr hbT
    go_wp2_with fail
    go_quiet (fail)
    go_wp2_with fail
    go_roundg (x.args.length - (k+1))
    case measure=>omega
    case rel=>exact ⟨k+1,_,rfl,rfl,by omega,by have:=hle.out; omega,by have:=hle.out; omega,hid (hR2.out.trans (by unfold tmN; congr 1; omega)),hid (hB2.out _),hid (hk3.out _)⟩
   ·have kl:decide (m≤3000)=false:=decide_eq_false hle
    replace hR2:=hid (show R=m from hR2.out.trans (if_neg hle)); replace hle:=hid hle; clear hdr
    go_wp2_with fail
    go_ret; exact ⟨by rw [hR2.out]; rfl,hB.out⟩
  ·have q1:decide ((k:Int) < (x.args.length:Int))=false:=decide_eq_false (by omega)
   rw [List.drop_eq_nil_of_le (by omega)] at hR2; replace hR2:=hid (show R=m from hR2.out)
   go_wp2_with fail
   go_ret; exact ⟨by rw [hR2.out]; rfl,hB.out⟩
end Go.Proofs.YtbkdakbhagjkhaaDoor
set_option linter.unusedSimpArgs false
namespace Go.Proofs.YtbkdakbhagjkhaaDoor
open Go.RowKit
open Go.Lib (hid byteCells itoa)
def TmM (t:Tg):Prop:=t.var.length≤1048576∧t.vs.length≤1048576∧t.vt.length≤1048576∧t.ln≤1048576
def LgM (x:Lg):Prop:=x.rel.length≤1048576∧x.args.length≤1048576∧∀ t∈x.args,TmM t
def RgM (r:Rg):Prop:=LgM r.head∧r.body.length≤1048576∧∀ x∈r.body,LgM x
def QgM (q:Qg):Prop:=LgM q.goal∧q.rules.length≤1048576∧∀ r∈q.rules,RgM r
theorem tmN_le {t:Tg} (h:TmM t):2≤tmN t∧tmN t≤1100000000:=by
 obtain ⟨h1,h2,h3,h4⟩:=h; unfold tmN; omega
theorem litL_le:∀ (l:List Tg) (n:Int),(∀ t∈l,TmM t)→n≤litL l n∧(n≤1200000000→litL l n≤1200000000)
 | [],n,_=>⟨Int.le_refl _,fun h=>h⟩
 | t::r,n,h=>by
  unfold litL; have ht:=tmN_le (h t (by simp)); split
  ·have:=litL_le r (n+tmN t) fun x hx=>h x (by simp [hx])
   refine ⟨by omega,fun _=>this.2 (by omega)⟩
  ·exact ⟨Int.le_refl _,fun h=>h⟩
theorem litN_le {x:Lg} (h:LgM x):5≤litN x∧litN x≤1200000000:=by
 have h1:=litL_le x.args (5+x.rel.length) h.2.2; have h2:=h.1; unfold litN; exact ⟨by omega,h1.2 (by omega)⟩
theorem litL_few:∀ (l:List Tg) (n:Int),0≤n→(∀ t∈l,TmM t)→litL l n≤3000→n+2 * l.length≤3000∧∀ t∈l,t.var.length≤3000
 | [],n,_,_,h=>⟨by have:litL [] n=n:=rfl; simp; omega,fun t ht=>by cases ht⟩
 | t::r,n,h0,hM,h=>by
  unfold litL at h; have ht:=tmN_le (hM t (by simp)); split at h
  ·have:=litL_few r (n+tmN t) (by omega) (fun x hx=>hM x (by simp [hx])) h
   refine ⟨by simp only [List.length_cons]; omega,fun x hx=>?_⟩; rcases List.mem_cons.1 hx with rfl | hx
   ·have h1:=this.1
    unfold tmN at h1; omega
   ·exact this.2 x hx
  ·omega
theorem lgB_few {x:Lg} (hM:LgM x) (h:litN x≤3000):LgB x:=by
 have h1:=litL_few x.args (5+x.rel.length) (by omega) hM.2.2 h; refine ⟨by omega,by omega,fun t ht=>?_⟩; have:=h1.2 t ht; omega
/-- what Few answers -/
def PFew (q:Qg) (w:World) (e:Ending) (w':World):Prop:=Below w.heap.size w w'∧∃ b,e=.returned (.bool b)∧(b=true→QgB q)
theorem TmM.r {t:Tg} (h:TmM t):TmR t:=⟨by have:=h.1; omega,by have:=h.2.1; omega,by have:=h.2.2.1; omega,by have:=h.2.2.2; omega⟩
set_option maxHeartbeats 4000000 in
set_option maxRecDepth 100000 in
theorem few_q (q:Qg) (ra:Option Addr) (rc:Nat) (aa:Option Addr) (ac:Nat) (S:Foot) (w:World) (hr:SlR 7 RgR S w q.rules (.slice ra q.rules.length rc)) (hg:SlR 7 TgR S w q.goal.args (.slice aa q.goal.args.length ac)) (hM:QgM q) :
  Calls Tryd.prog 6 #[.agg (qcells (.slice ra q.rules.length rc) q.goal.op q.goal.nt q.goal.rel (.slice aa q.goal.args.length ac))] w (PFew q w):=by
 have hb1:Below w.heap.size w (w.alloc (.cells (qcells (.slice ra q.rules.length rc) q.goal.op q.goal.nt q.goal.rel (.slice aa q.goal.args.length ac)) 27)):=(Below.refl _ w).alloc (Nat.le_refl _) _; have hbn:=heap_alloc_new' w (.cells (qcells (.slice ra q.rules.length rc) q.goal.op q.goal.nt q.goal.rel (.slice aa q.goal.args.length ac)) 27); have b0:(w.alloc (.cells (qcells (.slice ra q.rules.length rc) q.goal.op q.goal.nt q.goal.rel (.slice aa q.goal.args.length ac)) 27)).cell? ⟨w.heap.size,0,none⟩=some (.slice ra q.rules.length rc):=(cell_of (i:=0) hbn).trans rfl; have b1:(w.alloc (.cells (qcells (.slice ra q.rules.length rc) q.goal.op q.goal.nt q.goal.rel (.slice aa q.goal.args.length ac)) 27)).cell? ⟨w.heap.size,1,none⟩=some (iv q.goal.op):=(cell_of (i:=1) hbn).trans rfl
 have b2:(w.alloc (.cells (qcells (.slice ra q.rules.length rc) q.goal.op q.goal.nt q.goal.rel (.slice aa q.goal.args.length ac)) 27)).cell? ⟨w.heap.size,2,none⟩=some (.bool q.goal.nt):=(cell_of (i:=2) hbn).trans rfl; have b3:(w.alloc (.cells (qcells (.slice ra q.rules.length rc) q.goal.op q.goal.nt q.goal.rel (.slice aa q.goal.args.length ac)) 27)).cell? ⟨w.heap.size,3,none⟩=some (sv q.goal.rel):=(cell_of (i:=3) hbn).trans rfl; have b4:(w.alloc (.cells (qcells (.slice ra q.rules.length rc) q.goal.op q.goal.nt q.goal.rel (.slice aa q.goal.args.length ac)) 27)).cell? ⟨w.heap.size,4,none⟩=some (.slice aa q.goal.args.length ac):=(cell_of (i:=4) hbn).trans rfl
 have hlit:=hid (flit_any q.goal aa ac S (w.alloc (.cells (qcells (.slice ra q.rules.length rc) q.goal.op q.goal.nt q.goal.rel (.slice aa q.goal.args.length ac)) 27)) (hg.below goodTg hb1) (by have:=hM.1.1; omega) (by have:=hM.1.2.1; omega) (fun t ht=>(hM.1.2.2 t ht).r)); have hgl:=litN_le hM.1; obtain ⟨m0,hm0⟩:∃ m,m=litN q.goal:=⟨_,rfl⟩; rw [← hm0] at hlit hgl
 have hgb:m0≤3000→LgB q.goal:=fun h=>lgB_few hM.1 (by rw [← hm0]; exact h)
 replace hgb:=hid hgb; have hA:=hid hb1; have hk:=hid hbn; have hr0:=hid hr; have hM0:=hid hM; have hrl:=hM.2.1; replace hm0:=hid hm0; clear hb1 hbn hr hg hM
 go_enter Tryd.func6,Tryd.ntmps6
 go_wp2_with fail
 refine (hlit.out).mono ?_; rintro e w1 ⟨rfl,hb2⟩; have hB1:=hid (hA.out.trans (hb2.mono (by simp))); have hk1:=hid (below_keep hb2 hk.out (lt_of_heap hk.out)); clear hb2 hlit b0 b1 b2 b3 b4
 go_wp2_with fail
 go_loopg [3,4] q.rules.length (fun g n i wr=>∃ (k:Nat) (m:Int),n=iv m∧i=iv k∧k+g=q.rules.length∧0≤m∧m≤4000000000 * ((k:Int)+1)∧k≤80∧Hid (m≤3000→LgB q.goal∧∀ r∈q.rules.take k,RgB r)∧Hid (Below w.heap.size w wr)∧Hid (wr.heap[w.heap.size]? = some (.cells (qcells (.slice ra q.rules.length rc) q.goal.op q.goal.nt q.goal.rel (.slice aa q.goal.args.length ac)) 27 (0,0))))
 case atStart=>exact ⟨0,m0,rfl,rfl,by omega,by omega,by omega,by omega,hid (fun h=>⟨hgb.out h,fun r hr=>by simp at hr⟩),hB1,hk1⟩
 case round =>
  obtain ⟨k,m,rfl,rfl,hkg,hmz,hmb,hk80,hF,hB,hk2⟩:=hrel; clear hA hk hB1 hk1 hgl hgb; have c0:wr.cell? ⟨w.heap.size,0,none⟩=some (.slice ra q.rules.length rc):=(cell_of (i:=0) hk2.out).trans rfl; by_cases hlt:k < q.rules.length
  ·have q1:decide ((k:Int) < (q.rules.length:Int))=true:=decide_eq_true (by omega)
   by_cases h80:k < 80
   ·have q2:decide ((k:Int) < 80)=true:=decide_eq_true (by omega)
    obtain ⟨r,hrk⟩:∃ r,q.rules[k]? = some r:=⟨_,List.getElem?_eq_getElem hlt⟩; have hRM:=hM0.out.2.2 r (List.mem_of_getElem? hrk); obtain ⟨g,o,cs,hidx,-,hg,hc,hrt⟩:=(hr0.out.below goodRg hB.out).at (P:=Tryd.prog) (t:=22) (by kernel_rfl) (fun _=>by kernel_rfl) hrk; obtain ⟨ha,hcap,ba,bc,rfl,hS1,hS2⟩:=hrt; have d0:wr.cell? ⟨g,o+0,none⟩=some (iv r.head.op):=hc 0 _ rfl; have d1:wr.cell? ⟨g,o+1,none⟩=some (.bool r.head.nt):=hc 1 _ rfl; have d2:wr.cell? ⟨g,o+2,none⟩=some (sv r.head.rel):=hc 2 _ rfl; have d3:wr.cell? ⟨g,o+3,none⟩=some (.slice ha r.head.args.length hcap):=hc 3 _ rfl; have d6:wr.cell? ⟨g,o+6,none⟩=some (.slice ba r.body.length bc):=hc 6 _ rfl; rw [Nat.add_zero] at d0
    have hlh:=flit_any r.head ha hcap S wr hS1 (by have:=hRM.1.1; omega) (by have:=hRM.1.2.1; omega) (fun t ht=>(hRM.1.2.2 t ht).r); have hhl:=litN_le hRM.1; obtain ⟨mh,hmh⟩:∃ m,m=litN r.head:=⟨_,rfl⟩; rw [← hmh] at hlh hhl; replace hlh:=hid hlh
    have e1:IntKind.i64.wrap (m+mh)=m+mh:=by rw [IntKind.wrap_i64]; omega
    have hF2:=hid (show m+mh≤3000→LgB q.goal∧(∀ r∈q.rules.take k,RgB r)∧LgB r.head from fun h=>⟨(hF.out (by omega)).1,(hF.out (by omega)).2,lgB_few hRM.1 (by rw [← hmh]; omega)⟩); have hbl:=hRM.2.1; replace hRM:=hid hRM; replace hmh:=hid hmh; replace hS2:=hid hS2; have hrd:=hid hB; clear hc hS1 hF
    go_wp2_with fail
    refine (hlh.out).mono ?_; rintro e w3 ⟨rfl,hb3⟩; have hB3:=hid (hB.out.trans (hb3.mono hB.out.size)); have hk3:=hid (below_keep hb3 hk2.out (lt_of_heap hk2.out)); have hS3:=hid (hS2.out.below goodLg hb3); clear hb3 hlh d0 d1 d2 d3 d6 c0 hidx hg
    go_wp2_with fail
    go_loopg [3,5] r.body.length (fun gg n i wx=>∃ (kk:Nat) (mm:Int),n=iv mm∧i=iv kk∧kk+gg=r.body.length∧5 * (kk:Int)≤mm∧mm≤4000000000 * ((k:Int)+1)+1300000000∧Hid (mm≤3000→LgB q.goal∧(∀ r∈q.rules.take k,RgB r)∧LgB r.head∧∀ x∈r.body.take kk,LgB x)∧Hid (Below w.heap.size w wx)∧Hid (wx.heap[w.heap.size]? = some (.cells (qcells (.slice ra q.rules.length rc) q.goal.op q.goal.nt q.goal.rel (.slice aa q.goal.args.length ac)) 27 (0,0)))∧Hid (SlR 4 LgR S wx r.body (.slice ba r.body.length bc)))
    case atStart=>exact ⟨0,_,rfl,rfl,by omega,by omega,by omega,hid (fun h=>⟨(hF2.out h).1,(hF2.out h).2.1,(hF2.out h).2.2,fun x hx=>by simp at hx⟩),hB3,hk3,hS3⟩
    case round =>
     obtain ⟨kk,mm,rfl,rfl,hkk,hm5,hmm,hFF,hBx,hkx,hSx⟩:=hrel; clear hF2 hB3 hk3 hS3; have c0:wr.cell? ⟨w.heap.size,0,none⟩=some (.slice ra q.rules.length rc):=(cell_of (i:=0) hkx.out).trans rfl; obtain ⟨g,o,cs,hidx,-,hg,hc,hrt⟩:=(hr0.out.below goodRg hBx.out).at (P:=Tryd.prog) (t:=22) (by kernel_rfl) (fun _=>by kernel_rfl) hrk; obtain ⟨ha2,hcap2,ba2,bc2,rfl,-,hS22⟩:=hrt; have d6:wr.cell? ⟨g,o+6,none⟩=some (.slice ba2 r.body.length bc2):=hc 6 _ rfl; clear hc; by_cases hl2:kk < r.body.length
     ·have q3:decide ((kk:Int) < (r.body.length:Int))=true:=decide_eq_true (by omega)
      by_cases hle:mm≤3000
      ·have q4:decide (mm≤3000)=true:=decide_eq_true hle
       obtain ⟨x,hxk⟩:∃ x,r.body[kk]? = some x:=⟨_,List.getElem?_eq_getElem hl2⟩; have hXM:=hRM.out.2.2 x (List.mem_of_getElem? hxk); obtain ⟨g2,o2,cs2,hidx2,-,hg2,hc2,hrt2⟩:=hS22.at (P:=Tryd.prog) (t:=42) (by kernel_rfl) (fun _=>by kernel_rfl) hxk; obtain ⟨xa,xc,rfl,hSA⟩:=hrt2; have f0:wr.cell? ⟨g2,o2+0,none⟩=some (iv x.op):=hc2 0 _ rfl; have f1:wr.cell? ⟨g2,o2+1,none⟩=some (.bool x.nt):=hc2 1 _ rfl; have f2:wr.cell? ⟨g2,o2+2,none⟩=some (sv x.rel):=hc2 2 _ rfl; have f3:wr.cell? ⟨g2,o2+3,none⟩=some (.slice xa x.args.length xc):=hc2 3 _ rfl; rw [Nat.add_zero] at f0; have hlx:=flit_any x xa xc S wr hSA (by have:=hXM.1; omega) (by have:=hXM.2.1; omega) (fun t ht=>(hXM.2.2 t ht).r); have hxl:=litN_le hXM; obtain ⟨mx,hmx⟩:∃ m,m=litN x:=⟨_,rfl⟩
       rw [← hmx] at hlx hxl; replace hlx:=hid hlx
       have e2:IntKind.i64.wrap (mm+mx)=mm+mx:=by rw [IntKind.wrap_i64]; omega
       have e3:IntKind.i64.wrap ((kk:Int)+1)=((kk+1:Nat):Int):=by rw [IntKind.wrap_i64]; omega
       have hF3:=hid (show mm+mx≤3000→LgB q.goal∧(∀ r∈q.rules.take k,RgB r)∧LgB r.head∧∀ x∈r.body.take (kk+1),LgB x from fun h=>by
        obtain ⟨a1,a2,a3,a4⟩:=hFF.out (by omega); refine ⟨a1,a2,a3,fun y hy=>?_⟩; rw [List.take_add_one,hxk] at hy; rcases List.mem_append.1 hy with hy | hy
        ·exact a4 y hy
        ·simp at hy; subst hy; exact lgB_few hXM (by rw [← hmx]; omega))
       replace hXM:=hid hXM; replace hmx:=hid hmx; replace hle:=hid hle; replace hS22:=hid hS22; clear hc2 hSA hFF
       go_wp2_with fail
       refine (hlx.out).mono ?_; rintro e w4 ⟨rfl,hb4⟩; have hB4:=hid (hBx.out.trans (hb4.mono hBx.out.size)); have hk4:=hid (below_keep hb4 hkx.out (lt_of_heap hkx.out)); have hS4:=hid (hSx.out.below goodLg hb4); clear hb4 hlx f0 f1 f2 f3 d6 c0 hidx hg hidx2 hg2 hS22
       go_wp2_with fail
       go_roundg (r.body.length - (kk+1))
       case measure=>omega
       case rel=>exact ⟨kk+1,_,rfl,rfl,by omega,by omega,by have:=hle.out; omega,hF3,hB4,hk4,hS4⟩
      ·have q4:decide (mm≤3000)=false:=decide_eq_false hle
       have e3:IntKind.i64.wrap ((k:Int)+1)=((k+1:Nat):Int):=by rw [IntKind.wrap_i64]; omega
       have hF4:=hid (show mm≤3000→LgB q.goal∧∀ r∈q.rules.take (k+1),RgB r from fun h=>absurd h hle); replace hle:=hid hle; replace hS22:=hid hS22
       go_wp2_with fail
       go_roundg (q.rules.length - (k+1))
       case measure=>omega
       case rel=>exact ⟨k+1,_,rfl,rfl,by omega,by omega,by omega,by omega,hF4,hBx,hkx⟩
     ·have q3:decide ((kk:Int) < (r.body.length:Int))=false:=decide_eq_false (by omega)
      have e3:IntKind.i64.wrap ((k:Int)+1)=((k+1:Nat):Int):=by rw [IntKind.wrap_i64]; omega
      have hF4:=hid (show mm≤3000→LgB q.goal∧∀ r∈q.rules.take (k+1),RgB r from fun h=>by
       obtain ⟨a1,a2,a3,a4⟩:=hFF.out h; refine ⟨a1,fun y hy=>?_⟩; rw [List.take_add_one,hrk] at hy; rcases List.mem_append.1 hy with hy | hy
       ·exact a2 y hy
       ·simp at hy; subst hy
        rw [List.take_of_length_le (by omega)] at a4
        exact ⟨a3,by omega,a4⟩)
      replace hS22:=hid hS22
      go_wp2_with fail
      go_roundg (q.rules.length - (k+1))
      case measure=>omega
      case rel=>exact ⟨k+1,_,rfl,rfl,by omega,by omega,by omega,by omega,hF4,hBx,hkx⟩
   ·have q2:decide ((k:Int) < 80)=false:=decide_eq_false (by omega)
    have q7:decide ((q.rules.length:Int)≤70)=false:=decide_eq_false (by omega)
    go_wp2_with fail
    go_ret; exact ⟨hB.out,false,rfl,fun h=>by cases h⟩
  ·have q1:decide ((k:Int) < (q.rules.length:Int))=false:=decide_eq_false (by omega)
   by_cases h70:q.rules.length≤70
   ·have q7:decide ((q.rules.length:Int)≤70)=true:=decide_eq_true (by omega)
    by_cases hle:m≤3000
    ·have q4:decide (m≤3000)=true:=decide_eq_true hle
     have hQ:=hF.out hle; rw [List.take_of_length_le (by omega)] at hQ; have hQB:=hid (show QgB q from ⟨hQ.2,hQ.1⟩); replace hle:=hid hle; clear hQ
     go_wp2_with fail
     go_ret; exact ⟨hB.out,true,rfl,fun _=>hQB.out⟩
    ·have q4:decide (m≤3000)=false:=decide_eq_false hle
     replace hle:=hid hle
     go_wp2_with fail
     go_ret; exact ⟨hB.out,false,rfl,fun h=>by cases h⟩
   ·have q7:decide ((q.rules.length:Int)≤70)=false:=decide_eq_false (by omega)
    go_wp2_with fail
    go_ret; exact ⟨hB.out,false,rfl,fun h=>by cases h⟩
end Go.Proofs.YtbkdakbhagjkhaaDoor
namespace Go.Proofs.YtbkdakbhagjkhaaDoor.bulks
theorem one_le {H:Type} (d:DataW H):1≤Rows.uptoBulk d:=by
 cases d with
 | lit l=>cases l <;> simp [Rows.uptoBulk]
 | nil=>simp [Rows.uptoBulk]
 | ptr d=>simp [Rows.uptoBulk]
 | slice elems spare=>simp [Rows.uptoBulk]
 | agg parts=>simp [Rows.uptoBulk]
 | iface t d=>simp [Rows.uptoBulk]
 | map entries=>simp [Rows.uptoBulk]
 | held h=>simp [Rows.uptoBulk]
theorem part_le {H:Type} {d:DataW H} {l:List (DataW H)} (h:d∈l):Rows.uptoBulk d≤Rows.uptoBulkAll l:=by
 induction l with
 | nil=>cases h
 | cons x r ih =>
  simp only [Rows.uptoBulkAll]
  cases List.mem_cons.1 h with
  | inl e=>subst e; omega
  | inr e=>have:=ih e; omega
theorem length_le {H:Type} (l:List (DataW H)):l.length≤Rows.uptoBulkAll l:=by
 induction l with
 | nil=>simp [Rows.uptoBulkAll]
 | cons x r ih=>have:=one_le x; simp only [Rows.uptoBulkAll,List.length_cons]; omega
theorem bound {H:Type} {l:List (DataW H)} (hk:Rows.uptoSmall H l=true):Rows.uptoBulkAll l≤1048576:=of_decide_eq_true hk
end Go.Proofs.YtbkdakbhagjkhaaDoor.bulks
namespace Go.Proofs.YtbkdakbhagjkhaaDoor
open Go.Joins Go.ChangeShapes Go.WideShapes Go.ChangeAt Go.RowKit Go.WideMaps Go.WideElems Go.Deep
theorem read_int1 {H:Type} {enc:TypeId × Value→H} {P:Program} {W:World} {t:TypeId} {k:IntKind} (ht:P.underlying t=some (.int k)) {v:Value} {y:DataW H × List MemPlace} {n:Nat} (h:DataW.trod enc P W 0 (fun _=>true) true n t [v]=some y) :
  ∃ z,v=.int k z∧(Lit.int k z).wf=true:=by
 obtain ⟨z,e1,_,e3⟩:=DataW.trod_int ht h; exact ⟨z,by simpa using e1,e3⟩
theorem read_str1 {H:Type} {enc:TypeId × Value→H} {P:Program} {W:World} {t:TypeId} (ht:P.underlying t=some .string) {v:Value} {y:DataW H × List MemPlace} {n:Nat} (h:DataW.trod enc P W 0 (fun _=>true) true n t [v]=some y) :
  ∃ s:List UInt8,v=.string ⟨s.toArray⟩∧y.1=.lit (.string s):=by
 obtain ⟨s,e1,e2,_⟩:=DataW.trod_string ht h; exact ⟨s.data.toList,by simpa using e1,by rw [e2]⟩
theorem list_choose {α:Type} {Q:Nat→α→Prop}:∀ (n:Nat),(∀ i,i < n→∃ x,Q i x)→∃ l:List α,l.length=n∧∀ i x,l[i]? = some x→Q i x
 | 0,_=>⟨[],rfl,fun i x h=>by simp at h⟩
 | n+1,h=>by
  obtain ⟨l,hl,hq⟩:=list_choose n (fun i hi=>h i (by omega)); obtain ⟨x,hx⟩:=h n (by omega); refine ⟨l++[x],by simp [hl],fun i y hy=>?_⟩; by_cases hi:i < n
  ·rw [List.getElem?_append_left (by omega)] at hy
   exact hq i y hy
  ·rw [List.getElem?_append_right (by omega)] at hy
   have:i=n:=by
    have:=(List.getElem?_eq_some_iff.1 hy).1; simp at this; omega
   subst this; rw [hl] at hy; simp at hy; subst hy; exact hx
theorem bulk_len {H:Type} {d:DataW H} {D:Nat→DataW H} {len:Nat} (hd:(d=.nil∧len=0)∨∃ sp,d=.slice ((List.range len).map D) sp):len≤Rows.uptoBulk d:=by
 rcases hd with ⟨_,h⟩ | ⟨sp,rfl⟩
 ·omega
 ·have h1:=bulks.length_le ((List.range len).map D)
  rw [List.length_map,List.length_range] at h1; simp only [Rows.uptoBulk]; omega
theorem read_bool1 {H:Type} {enc:TypeId × Value→H} {P:Program} {W:World} {t:TypeId} (ht:P.underlying t=some .bool) {v:Value} {y:DataW H × List MemPlace} {n:Nat} (h:DataW.trod enc P W 0 (fun _=>true) true n t [v]=some y) :
  ∃ b,v=.bool b:=by
 obtain ⟨b,e1,_⟩:=DataW.trod_bool ht h; exact ⟨b,by simpa using e1⟩
/-- what lies below the world's size -/
abbrev LowF (W:World):Foot:=fun k=>k < W.heap.size
theorem read_row {H:Type} {enc:TypeId × Value→H} {P:Program} {W:World} {t e:TypeId} {sz:Nat} {α:Type} {R:Rel α} {Ok:α→Prop} {B:Nat} (ht:P.underlying t=some (.slice e)) (hC:P.cellsOf e=sz) (h0:0 < sz)
  (hel:∀ n cs y,DataW.trod enc P W 0 (fun _=>true) true n e cs=some y→cs.length=sz→(∀ x∈y.2,x.block < W.heap.size)→Rows.uptoBulk y.1 < B→∃ x:α,R (LowF W) W x cs∧Ok x)
  {n:Nat} {v:Value} {y:DataW H × List MemPlace} (h:DataW.trod enc P W 0 (fun _=>true) true n t [v]=some y) (hlt:∀ x∈y.2,x.block < W.heap.size) (hb:Rows.uptoBulk y.1≤B) :
  ∃ l:List α,SlR sz R (LowF W) W l v∧(∀ x∈l,Ok x)∧l.length≤B:=by
 rcases open_slice ht h with ⟨hcs,hx⟩ | ⟨a,len,cap,m,n,D,Pl,hcs,_,hl,hm,hmm,hx,hi⟩
 ·simp at hcs
  subst hcs; exact ⟨[],SlR.nil _ _ _ _ _,by simp,by simp⟩
 ·simp at hcs
  subst hcs; simp only [if_true] at hmm; subst hmm; rw [hC] at hx hi; subst hx
  have hspot:0 < len→a.spot=none∧a.block < W.heap.size:=fun hpos=>by
   obtain ⟨cs',hc,_⟩:=hi 0 (by omega); obtain ⟨_,hcl,hat⟩:=World.cells?_some hc; have hs:=World.cell?_spot ((hat 0 h0).trans (List.getElem?_eq_getElem (by omega))); refine ⟨by simpa [Addr.add] using hs,?_⟩; refine hlt (.cell a.block (a.off+0)) (List.mem_append_left _ (MemPlace.mem_row.2 ⟨0,?_,by simp⟩)); exact Nat.mul_pos (by omega) h0
  have hlen:len≤Rows.uptoBulk (DataW.slice ((List.range len).map D) ((List.range (m - len)).map fun j=>D (len+j))):=bulk_len (Or.inr ⟨_,rfl⟩)
  obtain ⟨ps,hpl,hq⟩:=list_choose (Q:=fun i (p:α × List Value)=>(∀ j u,p.2[j]? = some u→W.cell? ⟨a.block,a.off+i * sz+j,none⟩=some u)∧R (LowF W) W p.1 p.2∧Ok p.1) len (fun i hil=>by
   obtain ⟨h1,_⟩:=hspot (by omega); obtain ⟨cs',hc,ht'⟩:=hi i (by omega); obtain ⟨_,hcl,hat⟩:=World.cells?_some hc
   have hbi:Rows.uptoBulk (D i) < B:=by
    have h1:Rows.uptoBulk (D i)≤Rows.uptoBulkAll ((List.range len).map D):=bulks.part_le (List.mem_map.2 ⟨i,List.mem_range.2 hil,rfl⟩); simp only [Rows.uptoBulk] at hb; omega
   obtain ⟨x,hx,ho⟩:=hel n cs' _ ht' hcl (fun x hx=>hlt x (List.mem_append_right _ (List.mem_flatMap.2 ⟨i,List.mem_range.2 (by omega),hx⟩))) hbi; refine ⟨(x,cs'),fun j u hu=>?_,hx,ho⟩
   have hj:j < sz:=by have:=(List.getElem?_eq_some_iff.1 hu).1; simp at this; omega
   have:=(hat j hj).trans hu; rw [Go.Deep.add_add,plain_add h1] at this; rw [Nat.add_assoc]
   exact this)
  refine ⟨ps.map (·.1),⟨some a,m,a.block,a.off,fun i=>((ps[i]?).map (·.2)).getD [],by simp [hpl],by simp [hpl]; exact hl,fun hp=>?_,fun i hil j u hu=>?_,fun i x hx=>?_⟩,fun x hx=>?_,by simp [hpl]; simp only [] at hb; omega⟩
  ·obtain ⟨h1,h2⟩:=hspot (by simpa [hpl] using hp)
   refine ⟨?_,h2,h2⟩; obtain ⟨b,o,s⟩:=a; simp only at h1; subst h1; rfl
  ·have hil':i < ps.length:=by simpa using hil
   have e:ps[i]? = some ps[i]:=List.getElem?_eq_getElem hil'; simp only [e] at hu; exact (hq i _ e).1 j u hu
  ·rw [List.getElem?_map] at hx
   cases e:ps[i]? with
   | none=>rw [e] at hx; simp at hx
   | some p =>
    rw [e] at hx; simp at hx; subst hx; show R (LowF W) W p.1 (((ps[i]?).map (·.2)).getD []); rw [e]; exact (hq i p e).2.1
  ·obtain ⟨p,hp,rfl⟩:=List.mem_map.1 hx
   obtain ⟨i,hi⟩:=List.mem_iff_getElem?.1 hp; exact (hq i p hi).2.2
theorem read_fields {H:Type} {enc:TypeId × Value→H} {P:Program} {W:World} {e:TypeId} {fs:Array Field} (he:P.underlying e=some (.struct fs)) {n:Nat} {cs:List Value} {y:DataW H × List MemPlace}
  (h:DataW.trod enc P W 0 (fun _=>true) true n e cs=some y) (hlt:∀ x∈y.2,x.block < W.heap.size) :
  cs.length=P.cellsOf e∧∃ (ys:List (DataW H × List MemPlace)) (n':Nat),y.1=.agg (ys.map (·.1))∧ys.length=fs.size∧∀ (j:Nat) (f:Field),fs[j]? = some f→∃ yj,ys[j]? = some yj∧DataW.trod enc P W 0 (fun _=>true) true n' f.type ((cs.drop f.offset).take (P.cellsOf f.type))=some yj∧(∀ x∈yj.2,x.block < W.heap.size)∧Rows.uptoBulk yj.1 < Rows.uptoBulk y.1:=by
 obtain ⟨ys,n',_,rfl,hcl,hyl,hfd⟩:=DataW.trod_struct he h; refine ⟨hcl,ys,n',rfl,hyl,fun j f hj=>?_⟩; have hjl:j < fs.size:=(Array.getElem?_eq_some_iff.1 hj).1
 have hjy:j < ys.length:=by omega
 have hys:ys[j]? = some ys[j]:=List.getElem?_eq_getElem hjy; refine ⟨ys[j],hys,(hfd j f hj).trans hys,fun x hx=>hlt x (List.mem_flatMap.2 ⟨ys[j],List.getElem_mem hjy,hx⟩),?_⟩; have:=bulks.part_le (List.mem_map.2 ⟨ys[j],List.getElem_mem hjy,rfl⟩:(ys[j]).1∈ys.map (·.1)); simp only [Rows.uptoBulk]; omega
set_option maxRecDepth 100000 in
theorem read_tval {H:Type} {enc:TypeId × Value→H} {W:World} {n:Nat} {cs:List Value} {y:DataW H × List MemPlace} (h:DataW.trod enc Tryd.prog W 0 (fun _=>true) true n 48 cs=some y) (hlt:∀ x∈y.2,x.block < W.heap.size) (hb:Rows.uptoBulk y.1≤1048576) :
  ∃ (k n m:Int) (vt vs:List UInt8) (ln:Nat) (a:Option Addr) (c:Nat),cs=[iv k,sv vt,iv n,iv m,sv vs,.slice a ln c]∧vt.length≤1048576∧vs.length≤1048576∧ln≤1048576:=by
 obtain ⟨hcl,ys,n',hy,hyl,hf⟩:=read_fields Tryd.underlying48 h hlt; replace hcl:cs.length=6:=hcl.trans (by kernel_rfl); obtain ⟨y0,_,t0,p0,b0⟩:=hf 0 _ rfl; obtain ⟨y1,_,t1,p1,b1⟩:=hf 1 _ rfl; obtain ⟨y2,_,t2,p2,b2⟩:=hf 2 _ rfl; obtain ⟨y3,_,t3,p3,b3⟩:=hf 3 _ rfl; obtain ⟨y4,_,t4,p4,b4⟩:=hf 4 _ rfl; obtain ⟨y5,_,t5,p5,b5⟩:=hf 5 _ rfl
 match cs,hcl with
 | [u0,u1,u2,u3,u4,u5],_ =>
 clear hf h hyl
 replace t0:DataW.trod enc Tryd.prog W 0 (fun _=>true) true n' 3 [u0]=some y0:=by
  have h9:DataW.trod enc Tryd.prog W 0 (fun _=>true) true n' 3 (([u0,u1,u2,u3,u4,u5].drop 0).take (Tryd.prog.cellsOf 3))=some y0:=t0; rw [show Tryd.prog.cellsOf 3 = 1 by kernel_rfl] at h9; exact h9
 replace t1:DataW.trod enc Tryd.prog W 0 (fun _=>true) true n' 9 [u1]=some y1:=by
  have h9:DataW.trod enc Tryd.prog W 0 (fun _=>true) true n' 9 (([u0,u1,u2,u3,u4,u5].drop 1).take (Tryd.prog.cellsOf 9))=some y1:=t1; rw [show Tryd.prog.cellsOf 9 = 1 by kernel_rfl] at h9; exact h9
 replace t2:DataW.trod enc Tryd.prog W 0 (fun _=>true) true n' 3 [u2]=some y2:=by
  have h9:DataW.trod enc Tryd.prog W 0 (fun _=>true) true n' 3 (([u0,u1,u2,u3,u4,u5].drop 2).take (Tryd.prog.cellsOf 3))=some y2:=t2; rw [show Tryd.prog.cellsOf 3 = 1 by kernel_rfl] at h9; exact h9
 replace t3:DataW.trod enc Tryd.prog W 0 (fun _=>true) true n' 3 [u3]=some y3:=by
  have h9:DataW.trod enc Tryd.prog W 0 (fun _=>true) true n' 3 (([u0,u1,u2,u3,u4,u5].drop 3).take (Tryd.prog.cellsOf 3))=some y3:=t3; rw [show Tryd.prog.cellsOf 3 = 1 by kernel_rfl] at h9; exact h9
 replace t4:DataW.trod enc Tryd.prog W 0 (fun _=>true) true n' 9 [u4]=some y4:=by
  have h9:DataW.trod enc Tryd.prog W 0 (fun _=>true) true n' 9 (([u0,u1,u2,u3,u4,u5].drop 4).take (Tryd.prog.cellsOf 9))=some y4:=t4; rw [show Tryd.prog.cellsOf 9 = 1 by kernel_rfl] at h9; exact h9
 replace t5:DataW.trod enc Tryd.prog W 0 (fun _=>true) true n' 46 [u5]=some y5:=by
  have h9:DataW.trod enc Tryd.prog W 0 (fun _=>true) true n' 46 (([u0,u1,u2,u3,u4,u5].drop 5).take (Tryd.prog.cellsOf 46))=some y5:=t5; rw [show Tryd.prog.cellsOf 46 = 1 by kernel_rfl] at h9; exact h9
 obtain ⟨z0,rfl,hz0⟩:=read_int1 Tryd.underlying3 t0; obtain ⟨s1,rfl,e1⟩:=read_str1 Tryd.underlying9 t1; rw [e1] at b1; simp only [Rows.uptoBulk] at b1; obtain ⟨z2,rfl,hz2⟩:=read_int1 Tryd.underlying3 t2; obtain ⟨z3,rfl,hz3⟩:=read_int1 Tryd.underlying3 t3; obtain ⟨s4,rfl,e4⟩:=read_str1 Tryd.underlying9 t4; rw [e4] at b4; simp only [Rows.uptoBulk] at b4; obtain ⟨l5,hl5,ho5,hn5⟩:=read_row (R:=fun (_:Foot) (_:World) (_:Unit) (_:List Value)=>True) (Ok:=fun _=>True) (B:=1048576) Tryd.underlying46 (show Tryd.prog.cellsOf 48 = 6 by kernel_rfl) (by decide) (fun n cs y h _ hlt hb=>⟨(),trivial,trivial⟩) t5 p5 (by omega); obtain ⟨a,c,rfl,-⟩:=hl5.slice; exact ⟨z0,z2,z3,s1,s4,l5.length,a,c,rfl,by omega,by omega,hn5⟩
set_option maxRecDepth 100000 in
theorem read_tg {H:Type} {enc:TypeId × Value→H} {W:World} {n:Nat} {cs:List Value} {y:DataW H × List MemPlace} (h:DataW.trod enc Tryd.prog W 0 (fun _=>true) true n 50 cs=some y) (hlt:∀ x∈y.2,x.block < W.heap.size) (hb:Rows.uptoBulk y.1≤1048576) :
  ∃ x:Tg,TgR (LowF W) W x cs∧TmM x:=by
 obtain ⟨hcl,ys,n',hy,hyl,hf⟩:=read_fields Tryd.underlying50 h hlt; replace hcl:cs.length=7:=hcl.trans (by kernel_rfl); obtain ⟨y0,_,t0,p0,b0⟩:=hf 0 _ rfl; obtain ⟨y1,_,t1,p1,b1⟩:=hf 1 _ rfl
 match cs,hcl with
 | [u0,u1,u2,u3,u4,u5,u6],_ =>
 clear hf h hyl
 replace t0:DataW.trod enc Tryd.prog W 0 (fun _=>true) true n' 9 [u0]=some y0:=by
  have h9:DataW.trod enc Tryd.prog W 0 (fun _=>true) true n' 9 (([u0,u1,u2,u3,u4,u5,u6].drop 0).take (Tryd.prog.cellsOf 9))=some y0:=t0; rw [show Tryd.prog.cellsOf 9 = 1 by kernel_rfl] at h9; exact h9
 replace t1:DataW.trod enc Tryd.prog W 0 (fun _=>true) true n' 48 [u1,u2,u3,u4,u5,u6]=some y1:=by
  have h9:DataW.trod enc Tryd.prog W 0 (fun _=>true) true n' 48 (([u0,u1,u2,u3,u4,u5,u6].drop 1).take (Tryd.prog.cellsOf 48))=some y1:=t1; rw [show Tryd.prog.cellsOf 48 = 6 by kernel_rfl] at h9; exact h9
 obtain ⟨s0,rfl,e0⟩:=read_str1 Tryd.underlying9 t0; rw [e0] at b0; simp only [Rows.uptoBulk] at b0; obtain ⟨k,nn,m,vt,vs,ln,a,c,hcs,h1,h2,h3⟩:=read_tval t1 p1 (by omega); injection hcs with e1 hcs; injection hcs with e2 hcs; injection hcs with e3 hcs; injection hcs with e4 hcs; injection hcs with e5 hcs; injection hcs with e6 hcs; subst e1 e2 e3 e4 e5 e6; exact ⟨⟨s0,k,vt,nn,m,vs,ln⟩,⟨a,c,rfl⟩,by show s0.length≤_; omega,h2,h1,h3⟩
set_option maxRecDepth 100000 in
theorem read_lg {H:Type} {enc:TypeId × Value→H} {W:World} {n:Nat} {cs:List Value} {y:DataW H × List MemPlace} (h:DataW.trod enc Tryd.prog W 0 (fun _=>true) true n 25 cs=some y) (hlt:∀ x∈y.2,x.block < W.heap.size) (hb:Rows.uptoBulk y.1≤1048576) :
  ∃ x:Lg,LgR (LowF W) W x cs∧LgM x:=by
 obtain ⟨hcl,ys,n',hy,hyl,hf⟩:=read_fields Tryd.underlying25 h hlt; replace hcl:cs.length=4:=hcl.trans (by kernel_rfl); obtain ⟨y0,_,t0,p0,b0⟩:=hf 0 _ rfl; obtain ⟨y1,_,t1,p1,b1⟩:=hf 1 _ rfl; obtain ⟨y2,_,t2,p2,b2⟩:=hf 2 _ rfl; obtain ⟨y3,_,t3,p3,b3⟩:=hf 3 _ rfl
 match cs,hcl with
 | [u0,u1,u2,u3],_ =>
 clear hf h hyl
 replace t0:DataW.trod enc Tryd.prog W 0 (fun _=>true) true n' 3 [u0]=some y0:=by
  have h9:DataW.trod enc Tryd.prog W 0 (fun _=>true) true n' 3 (([u0,u1,u2,u3].drop 0).take (Tryd.prog.cellsOf 3))=some y0:=t0; rw [show Tryd.prog.cellsOf 3 = 1 by kernel_rfl] at h9; exact h9
 replace t1:DataW.trod enc Tryd.prog W 0 (fun _=>true) true n' 4 [u1]=some y1:=by
  have h9:DataW.trod enc Tryd.prog W 0 (fun _=>true) true n' 4 (([u0,u1,u2,u3].drop 1).take (Tryd.prog.cellsOf 4))=some y1:=t1; rw [show Tryd.prog.cellsOf 4 = 1 by kernel_rfl] at h9; exact h9
 replace t2:DataW.trod enc Tryd.prog W 0 (fun _=>true) true n' 9 [u2]=some y2:=by
  have h9:DataW.trod enc Tryd.prog W 0 (fun _=>true) true n' 9 (([u0,u1,u2,u3].drop 2).take (Tryd.prog.cellsOf 9))=some y2:=t2; rw [show Tryd.prog.cellsOf 9 = 1 by kernel_rfl] at h9; exact h9
 replace t3:DataW.trod enc Tryd.prog W 0 (fun _=>true) true n' 23 [u3]=some y3:=by
  have h9:DataW.trod enc Tryd.prog W 0 (fun _=>true) true n' 23 (([u0,u1,u2,u3].drop 3).take (Tryd.prog.cellsOf 23))=some y3:=t3; rw [show Tryd.prog.cellsOf 23 = 1 by kernel_rfl] at h9; exact h9
 obtain ⟨z0,rfl,hz0⟩:=read_int1 Tryd.underlying3 t0; obtain ⟨z1,rfl⟩:=read_bool1 Tryd.underlying4 t1; obtain ⟨s2,rfl,e2⟩:=read_str1 Tryd.underlying9 t2; rw [e2] at b2; simp only [Rows.uptoBulk] at b2; obtain ⟨l3,hl3,ho3,hn3⟩:=read_row (R:=TgR) (Ok:=TmM) (B:=1048576) Tryd.underlying23 (show Tryd.prog.cellsOf 50 = 7 by kernel_rfl) (by decide) (fun n cs y h _ hlt hb=>read_tg h hlt (by omega)) t3 p3 (by omega); obtain ⟨a,c,rfl,-⟩:=hl3.slice; exact ⟨⟨z0,z1,s2,l3⟩,⟨a,c,rfl,hl3⟩,by show s2.length≤_; omega,hn3,ho3⟩
set_option maxRecDepth 100000 in
theorem read_rg {H:Type} {enc:TypeId × Value→H} {W:World} {n:Nat} {cs:List Value} {y:DataW H × List MemPlace} (h:DataW.trod enc Tryd.prog W 0 (fun _=>true) true n 44 cs=some y) (hlt:∀ x∈y.2,x.block < W.heap.size) (hb:Rows.uptoBulk y.1≤1048576) :
  ∃ x:Rg,RgR (LowF W) W x cs∧RgM x:=by
 obtain ⟨hcl,ys,n',hy,hyl,hf⟩:=read_fields Tryd.underlying44 h hlt; replace hcl:cs.length=7:=hcl.trans (by kernel_rfl); obtain ⟨y0,_,t0,p0,b0⟩:=hf 0 _ rfl; obtain ⟨y1,_,t1,p1,b1⟩:=hf 1 _ rfl; obtain ⟨y2,_,t2,p2,b2⟩:=hf 2 _ rfl; obtain ⟨y3,_,t3,p3,b3⟩:=hf 3 _ rfl
 match cs,hcl with
 | [u0,u1,u2,u3,u4,u5,u6],_ =>
 clear hf h hyl
 replace t0:DataW.trod enc Tryd.prog W 0 (fun _=>true) true n' 25 [u0,u1,u2,u3]=some y0:=by
  have h9:DataW.trod enc Tryd.prog W 0 (fun _=>true) true n' 25 (([u0,u1,u2,u3,u4,u5,u6].drop 0).take (Tryd.prog.cellsOf 25))=some y0:=t0; rw [show Tryd.prog.cellsOf 25 = 4 by kernel_rfl] at h9; exact h9
 replace t1:DataW.trod enc Tryd.prog W 0 (fun _=>true) true n' 3 [u4]=some y1:=by
  have h9:DataW.trod enc Tryd.prog W 0 (fun _=>true) true n' 3 (([u0,u1,u2,u3,u4,u5,u6].drop 4).take (Tryd.prog.cellsOf 3))=some y1:=t1; rw [show Tryd.prog.cellsOf 3 = 1 by kernel_rfl] at h9; exact h9
 replace t2:DataW.trod enc Tryd.prog W 0 (fun _=>true) true n' 3 [u5]=some y2:=by
  have h9:DataW.trod enc Tryd.prog W 0 (fun _=>true) true n' 3 (([u0,u1,u2,u3,u4,u5,u6].drop 5).take (Tryd.prog.cellsOf 3))=some y2:=t2; rw [show Tryd.prog.cellsOf 3 = 1 by kernel_rfl] at h9; exact h9
 replace t3:DataW.trod enc Tryd.prog W 0 (fun _=>true) true n' 42 [u6]=some y3:=by
  have h9:DataW.trod enc Tryd.prog W 0 (fun _=>true) true n' 42 (([u0,u1,u2,u3,u4,u5,u6].drop 6).take (Tryd.prog.cellsOf 42))=some y3:=t3; rw [show Tryd.prog.cellsOf 42 = 1 by kernel_rfl] at h9; exact h9
 obtain ⟨x,hx,hxm⟩:=read_lg t0 p0 (by omega); obtain ⟨z1,rfl,hz1⟩:=read_int1 Tryd.underlying3 t1; obtain ⟨z2,rfl,hz2⟩:=read_int1 Tryd.underlying3 t2; obtain ⟨l3,hl3,ho3,hn3⟩:=read_row (R:=LgR) (Ok:=LgM) (B:=1048576) Tryd.underlying42 (show Tryd.prog.cellsOf 25 = 4 by kernel_rfl) (by decide) (fun n cs y h _ hlt hb=>read_lg h hlt (by omega)) t3 p3 (by omega); obtain ⟨ba,bc,rfl,-⟩:=hl3.slice; obtain ⟨a,c,hcs,ha⟩:=hx; injection hcs with e1 hcs; injection hcs with e2 hcs; injection hcs with e3 hcs; injection hcs with e4 hcs; subst e1 e2 e3 e4; exact ⟨⟨x,z1,z2,l3⟩,⟨a,c,ba,bc,rfl,ha,hl3⟩,hxm,hn3,ho3⟩
set_option maxRecDepth 100000 in
theorem read_qg {H:Type} {enc:TypeId × Value→H} {W:World} {n:Nat} {cs:List Value} {y:DataW H × List MemPlace} (h:DataW.trod enc Tryd.prog W 0 (fun _=>true) true n 27 cs=some y) (hlt:∀ x∈y.2,x.block < W.heap.size) (hb:Rows.uptoBulk y.1≤1048576) :
  ∃ (q:Qg) (ra:Option Addr) (rc:Nat) (aa:Option Addr) (ac:Nat),cs=(qcells (.slice ra q.rules.length rc) q.goal.op q.goal.nt q.goal.rel (.slice aa q.goal.args.length ac)).toList∧SlR 7 RgR (LowF W) W q.rules (.slice ra q.rules.length rc)∧SlR 7 TgR (LowF W) W q.goal.args (.slice aa q.goal.args.length ac)∧QgM q:=by
 obtain ⟨hcl,ys,n',hy,hyl,hf⟩:=read_fields Tryd.underlying27 h hlt; replace hcl:cs.length=5:=hcl.trans (by kernel_rfl); obtain ⟨y0,_,t0,p0,b0⟩:=hf 0 _ rfl; obtain ⟨y1,_,t1,p1,b1⟩:=hf 1 _ rfl
 match cs,hcl with
 | [u0,u1,u2,u3,u4],_ =>
 clear hf h hyl
 replace t0:DataW.trod enc Tryd.prog W 0 (fun _=>true) true n' 22 [u0]=some y0:=by
  have h9:DataW.trod enc Tryd.prog W 0 (fun _=>true) true n' 22 (([u0,u1,u2,u3,u4].drop 0).take (Tryd.prog.cellsOf 22))=some y0:=t0; rw [show Tryd.prog.cellsOf 22 = 1 by kernel_rfl] at h9; exact h9
 replace t1:DataW.trod enc Tryd.prog W 0 (fun _=>true) true n' 25 [u1,u2,u3,u4]=some y1:=by
  have h9:DataW.trod enc Tryd.prog W 0 (fun _=>true) true n' 25 (([u0,u1,u2,u3,u4].drop 1).take (Tryd.prog.cellsOf 25))=some y1:=t1; rw [show Tryd.prog.cellsOf 25 = 4 by kernel_rfl] at h9; exact h9
 obtain ⟨l0,hl0,ho0,hn0⟩:=read_row (R:=RgR) (Ok:=RgM) (B:=1048576) Tryd.underlying22 (show Tryd.prog.cellsOf 44 = 7 by kernel_rfl) (by decide) (fun n cs y h _ hlt hb=>read_rg h hlt (by omega)) t0 p0 (by omega); obtain ⟨x,hx,hxm⟩:=read_lg t1 p1 (by omega); obtain ⟨ra,rc,rfl,-⟩:=hl0.slice; obtain ⟨a,c,hcs,ha⟩:=hx; injection hcs with e1 hcs; injection hcs with e2 hcs; injection hcs with e3 hcs; injection hcs with e4 hcs; subst e1 e2 e3 e4; exact ⟨⟨l0,x⟩,ra,rc,a,c,rfl,hl0,ha,hxm,hn0,ho0⟩
set_option maxRecDepth 100000 in
theorem read_query {H:Type} {enc:TypeId × Value→H} {W:World} {r:Reach} {b0:Nat} {v:Value} {d:DataW H} {p:List MemPlace} (hv:Value.okWide Tryd.prog W r b0 27 v) (h:DataW.Trod enc Tryd.prog W 0 (fun _=>true) true 27 v d p) (hlt:∀ x∈p,x.block < W.heap.size) (hb:Rows.uptoBulk d≤1048576) :
  ∃ (q:Qg) (ra:Option Addr) (rc:Nat) (aa:Option Addr) (ac:Nat),v=.agg (qcells (.slice ra q.rules.length rc) q.goal.op q.goal.nt q.goal.rel (.slice aa q.goal.args.length ac))∧SlR 7 RgR (LowF W) W q.rules (.slice ra q.rules.length rc)∧SlR 7 TgR (LowF W) W q.goal.args (.slice aa q.goal.args.length ac)∧QgM q:=by
 obtain ⟨⟨cs⟩,rfl,hsz⟩:=okWide_struct Tryd.underlying27 hv; obtain ⟨n,h⟩:=h; obtain ⟨q,ra,rc,aa,ac,hcs,h1,h2,h3⟩:=read_qg (y:=(d,p)) h hlt hb; simp only [Value.cells] at hcs; subst hcs; exact ⟨q,ra,rc,aa,ac,rfl,h1,h2,h3⟩
end Go.Proofs.YtbkdakbhagjkhaaDoor
set_option linter.unusedSimpArgs false
namespace Go.Proofs.YtbkdakbhagjkhaaDoor
open Go.RowKit
open Go.Lib (hid byteCells itoa)
theorem qb_cells {w:World} {R:Nat} {a b:Value} {op:Int} {nt:Bool} {rel:List UInt8} (h:w.heap[R]? = some (.cells (qcells a op nt rel b) 27 (0,0))):w.cell? ⟨R,0,none⟩=some a∧w.cell? ⟨R,1,none⟩=some (iv op)∧w.cell? ⟨R,2,none⟩=some (.bool nt)∧w.cell? ⟨R,3,none⟩=some (sv rel)∧w.cell? ⟨R,4,none⟩=some b :=
 ⟨(cell_of (i:=0) h).trans rfl,(cell_of (i:=1) h).trans rfl,(cell_of (i:=2) h).trans rfl,(cell_of (i:=3) h).trans rfl,(cell_of (i:=4) h).trans rfl⟩
theorem SlR.low {α:Type} {sz:Nat} {R:Rel α} {S:Foot} {W:World} {l:List α} {v:Value} (hR:Good sz R) (h:SlR sz R S W l v):SlR sz R (fun k=>k < W.heap.size) W l v:=h.move hR fun q hq _=>⟨hq,rfl⟩
theorem parse_err {s:List UInt8} {e p:Int} (h:parseF s=.error (e,p)):e≠0:=by
 unfold parseF at h
 cases hs:scanF s with
 | error x =>
  rw [hs] at h; cases h; exact (err_law hs).1
 | ok l =>
  rw [hs] at h; simp only at h; have hq:=queryP_e (l.map tw) (l.length+1) st0 [] rfl (Nat.zero_le _) (by rw [List.length_map]; show l.length < l.length+1+0; omega); generalize queryP (l.map tw) (l.length+1) st0 []=r at *; obtain ⟨o,st⟩:=r
  cases o with
  | some q=>cases h
  | none =>
   obtain ⟨e2,i,he,hne⟩:=hq; simp only at he h; rw [he] at h; simp only [Except.error.injEq,Prod.mk.injEq] at h; rw [← h.1]; exact hne
theorem parse_nil:parseF []=.error (2,0):=by kernel_rfl
theorem text_len {q:Qg} {t:List UInt8} (h:textW q=some t):t.length≤32768∧t≠[]:=by
 unfold textW at h; split at h
 ·cases h
 ·cases hr:rulesW q.rules [] with
  | none=>rw [hr] at h; cases h
  | some l =>
   rw [hr] at h; simp only [Option.bind_some] at h
   cases hg:litW q.goal (l++[63,32]) 0 with
   | none=>rw [hg] at h; cases h
   | some p =>
    have hne:=litW_ne hg; rw [hg] at h; simp only [Option.bind_some] at h; split at h
    ·cases h
    ·injection h with h
     subst h; exact ⟨by omega,hne⟩
set_option maxHeartbeats 8000000 in
set_option maxRecDepth 100000 in
theorem AskBack_walk (q:Qg) (ra:Option Addr) (rc:Nat) (aa:Option Addr) (ac:Nat) (S:Foot) (s:List UInt8) (w:World) (hTab:Hid (Tab w)) (hr:SlR 7 RgR S w q.rules (.slice ra q.rules.length rc)) (hg:SlR 7 TgR S w q.goal.args (.slice aa q.goal.args.length ac)) (hS:∀ k,S k→k < w.heap.size) (hM:QgM q) (hsl:s.length≤1048576) :
  Calls Tryd.prog 3 #[.agg (qcells (.slice ra q.rules.length rc) q.goal.op q.goal.nt q.goal.rel (.slice aa q.goal.args.length ac)),sv s] w fun e w'=>e=.returned (.bool true)∧Below w.heap.size w w':=by
 have hb0:Below w.heap.size w (w.alloc (.cells (qcells (.slice ra q.rules.length rc) q.goal.op q.goal.nt q.goal.rel (.slice aa q.goal.args.length ac)) 27)):=(Below.refl _ _).alloc (Nat.le_refl _) _; have hk0:=hid (heap_alloc_new' w (.cells (qcells (.slice ra q.rules.length rc) q.goal.op q.goal.nt q.goal.rel (.slice aa q.goal.args.length ac)) 27)); have hsm:=hid (small_any (w.alloc (.cells (qcells (.slice ra q.rules.length rc) q.goal.op q.goal.nt q.goal.rel (.slice aa q.goal.args.length ac)) 27)) ((TabN.of hTab.out (Nat.le_refl w.heap.size)).below hb0).tab); have hfew:=hid (fun W (hW:Below w.heap.size w W)=>few_q q ra rc aa ac S W (hr.below goodRg hW) (hg.below goodTg hW) hM)
 have hwr:=hid (fun W (hW:Below w.heap.size w W) (hB:QgB q)=>write_q q ra rc aa ac S W (hr.below goodRg hW) (hg.below goodTg hW) (fun k hk=>Nat.lt_of_lt_of_le (hS k hk) hW.size) ((TabN.of hTab.out (Nat.le_refl w.heap.size)).below hW).tab hB); have hrt:=hid (fun W (hW:Below w.heap.size w W) (hB:QgB q)=>right_q q ra rc aa ac S W (hr.below goodRg hW) (hg.below goodTg hW) (fun k hk=>Nat.lt_of_lt_of_le (hS k hk) hW.size) ((TabN.of hTab.out (Nat.le_refl w.heap.size)).below hW).tab hB); have hps:=hid (fun (s:List UInt8) W (hs:s.length≤1000000) (hW:Below w.heap.size w W)=>parse_g s W hs ((TabN.of hTab.out (Nat.le_refl w.heap.size)).below hW).tab); have hwu:=hid (fun (u:Qg) ra rc aa ac (S:Foot) W (hW:Below w.heap.size w W) hr hg hS (hB:QgB u)=>write_q u ra rc aa ac S W hr hg hS ((TabN.of hTab.out (Nat.le_refl w.heap.size)).below hW).tab hB)
 have hru:=hid (fun (u:Qg) ra rc aa ac (S:Foot) W (hW:Below w.heap.size w W) hr hg hS (hB:QgB u)=>right_q u ra rc aa ac S W hr hg hS ((TabN.of hTab.out (Nat.le_refl w.heap.size)).below hW).tab hB); have hA0:=hid hb0; have hr0:=hid hr; have hg0:=hid hg; clear hb0 hr hg hM hS; replace hTab:=hid hTab
 go_enter Tryd.func3,Tryd.ntmps3
 go_wp2_with fail
 with_reducible refine hsm.out.mono ?_
 rintro e w1 ⟨rfl,hb1⟩; have hA1:=hid (hA0.out.trans (hb1.mono (by simp))); have hk1:=hid (below_keep hb1 hk0.out (lt_of_heap hk0.out)); clear hb1 hsm; obtain ⟨b0,b1,b2,b3,b4⟩:=qb_cells hk1.out; have hfew1:=hid (hfew.out w1 hA1.out)
 go_wp2_with fail
 with_reducible refine hfew1.out.mono ?_
 rintro e w2 ⟨hb2,b,rfl,hbq⟩; have hA2:=hid (hA1.out.trans (hb2.mono hA1.out.size)); have hk2:=hid (below_keep hb2 hk1.out (lt_of_heap hk1.out)); clear hb2 hfew hfew1 b0 b1 b2 b3 b4
 cases b with
 | false =>
  clear hbq
  go_wp2_with fail
  go_ret; exact ⟨rfl,hA2.out⟩
 | true =>
  have hB:=hid (hbq rfl); clear hbq; by_cases hlen:3000 < s.length
  ·have kl:decide ((s.length:Int) > 3000)=true:=decide_eq_true (by omega)
   have kli:(3000:Int) < (s.length:Int):=by omega
   replace hlen:=hid hlen
   go_wp2_with fail
   go_ret; exact ⟨rfl,hA2.out⟩
  ·have kl:decide ((s.length:Int) > 3000)=false:=decide_eq_false (by omega)
   have kli:¬ (3000:Int) < (s.length:Int):=by omega
   have hs3:s.length≤3000:=by omega
   replace hlen:=hid hlen; obtain ⟨b0,b1,b2,b3,b4⟩:=qb_cells hk2.out; have hwr2:=hid (hwr.out w2 hA2.out hB.out); obtain ⟨rt,hrtx⟩:∃ r,r=textW q:=⟨_,rfl⟩; rw [← hrtx] at hwr2; replace hrtx:=hid hrtx
   go_wp2_with fail
   with_reducible refine hwr2.out.mono ?_
   rintro e w3 ⟨rfl,hb3⟩; have hA3:=hid (hA2.out.trans (hb3.mono hA2.out.size)); have hk3:=hid (below_keep hb3 hk2.out (lt_of_heap hk2.out)); clear hb3 hwr2 b0 b1 b2 b3 b4
   cases rt with
   | none =>
    have hp4:=hps.out [] w3 (by decide) hA3.out; rw [parse_nil] at hp4; replace hp4:=hid hp4
    go_wp2_with fail
    with_reducible refine hp4.out.mono ?_
    rintro e w4 ⟨hb4,hq4⟩; replace hq4:e=.returned (.tuple #[.agg (qcells (.slice none 0 0) 0 false [] (.slice none 0 0)),iv 2,iv 0]):=hq4; subst hq4; have hd4:Below w3.heap.size w3 (w4.alloc (.cells (qcells (.slice none 0 0) 0 false [] (.slice none 0 0)) 27)):=hb4.alloc hb4.size _; have hA4:=hid (hA3.out.trans (hd4.mono hA3.out.size)); have hk4:=hid (below_keep hd4 hk3.out (lt_of_heap hk3.out)); obtain ⟨b0,b1,b2,b3,b4⟩:=qb_cells hk4.out; have hr4:=hrt.out (w4.alloc (.cells (qcells (.slice none 0 0) 0 false [] (.slice none 0 0)) 27)) hA4.out hB.out; rw [← hrtx.out] at hr4; replace hr4:=hid hr4; clear hb4 hd4 hp4
    go_wp2_with fail
    with_reducible refine hr4.out.mono ?_
    rintro e w5 ⟨rfl,hb5⟩; have hA5':=hid (hA4.out.trans (hb5.mono hA4.out.size)); have hk5':=hid (below_keep hb5 hk4.out (lt_of_heap hk4.out)); clear hb5 hr4 b0 b1 b2 b3 b4; obtain ⟨b0,b1,b2,b3,b4⟩:=qb_cells hk5'.out; have hr5:=hrt.out w5 hA5'.out hB.out; rw [← hrtx.out] at hr5; replace hr5:=hid hr5
    go_wp2_with fail
    with_reducible refine hr5.out.mono ?_
    rintro e w6 ⟨rfl,hb6⟩; have hA6':=hid (hA5'.out.trans (hb6.mono hA5'.out.size)); clear hb6 hr5 b0 b1 b2 b3 b4

    obtain ⟨rs,hrs⟩:∃ r,r=parseF s:=⟨_,rfl⟩
    have hsz:=fun u (h:parseF s=.ok u)=>parse_sz h hs3
    have hp5:=hps.out s w6 (by omega) hA6'.out; rw [← hrs] at hp5 hsz; replace hp5:=hid hp5; replace hrs:=hid hrs
    go_wp2_with fail
    with_reducible refine hp5.out.mono ?_
    rintro e x1 ⟨hc1,hq1⟩; clear hp5
    cases rs with
    | error y =>
     obtain ⟨e1,p1⟩:=y; replace hq1:e=.returned (.tuple #[.agg (qcells (.slice none 0 0) 0 false [] (.slice none 0 0)),iv e1,iv p1]):=hq1; subst hq1; have hne:e1≠0:=parse_err hrs.out.symm
     have n1:(e1 == 0)=false:=by simpa using hne
     have n2:(e1 != 0)=true:=by simp [bne,n1]
     have n3:¬ e1=0:=hne; have hd1:Below w6.heap.size w6 (x1.alloc (.cells (qcells (.slice none 0 0) 0 false [] (.slice none 0 0)) 27)):=hc1.alloc hc1.size _; have hA5:=hid (hA6'.out.trans (hd1.mono hA6'.out.size)); have hk5:=heap_alloc_new' x1 (.cells (qcells (.slice none 0 0) 0 false [] (.slice none 0 0)) 27); obtain ⟨b0,b1,b2,b3,b4⟩:=qb_cells hk5; have hsm:=hid (same_t q00 ⟨by decide,fun r hr=>(by cases hr),by decide,fun t ht=>(by cases ht)⟩ none none 0 0 none none 0 0 (fun _=>False) (fun _=>False) (x1.alloc (.cells (qcells (.slice none 0 0) 0 false [] (.slice none 0 0)) 27)) (SlR.nil _ _ _ _ _) (SlR.nil _ _ _ _ _) (SlR.nil _ _ _ _ _) (SlR.nil _ _ _ _ _)); replace hk5:=hid hk5; clear hc1 hd1 hsz hne
     go_wp2_with fail
     refine hsm.out.mono ?_; rintro e x2 ⟨rfl,hc2⟩; have hA6:=hid (hA5.out.trans (hc2.mono hA5.out.size)); clear hc2 b0 b1 b2 b3 b4
     go_wp2_with fail
     go_ret; exact ⟨rfl,hA6.out⟩
    | ok u =>
     obtain ⟨hok,ra5,rc5,aa5,ac5,rfl,k5,g5⟩:=hq1; obtain ⟨hBu,hsv⟩:=hsz u rfl; have hBu:=hid hBu; have hd1:Below w6.heap.size w6 (x1.alloc (.cells (qcells (.slice ra5 u.g.rules.length rc5) u.g.goal.op u.g.goal.nt u.g.goal.rel (.slice aa5 u.g.goal.args.length ac5)) 27)):=hc1.alloc hc1.size _; have hA5:=hid (hA6'.out.trans (hd1.mono hA6'.out.size)); have hk5:=hid (heap_alloc_new' x1 (.cells (qcells (.slice ra5 u.g.rules.length rc5) u.g.goal.op u.g.goal.nt u.g.goal.rel (.slice aa5 u.g.goal.args.length ac5)) 27)); have hau:Below x1.heap.size x1 (x1.alloc (.cells (qcells (.slice ra5 u.g.rules.length rc5) u.g.goal.op u.g.goal.nt u.g.goal.rel (.slice aa5 u.g.goal.args.length ac5)) 27)):=(Below.refl _ _).alloc (Nat.le_refl _) _; replace k5:=hid (SlR.low goodRg (k5.below goodRg hau))
     replace g5:=hid (SlR.low goodTg (g5.below goodTg hau)); obtain ⟨b0,b1,b2,b3,b4⟩:=qb_cells hk5.out; have hw5:=hid (hwu.out u.g ra5 rc5 aa5 ac5 _ _ hA5.out k5.out g5.out (fun k hk=>hk) hBu.out); obtain ⟨ru,hru5⟩:∃ r,r=textW u.g:=⟨_,rfl⟩; rw [← hru5] at hw5; replace hru5:=hid hru5; replace hok:=hid hok; clear hc1 hd1 hau hsz
     go_wp2_with fail
     with_reducible refine hw5.out.mono ?_
     rintro e x2 ⟨rfl,hc2⟩; have hA6:=hid (hA5.out.trans (hc2.mono hA5.out.size)); have hk6:=hid (below_keep hc2 hk5.out (lt_of_heap hk5.out)); have k6:=hid (k5.out.below goodRg hc2); have g6:=hid (g5.out.below goodTg hc2); have hS6:=hid (fun k (hk:k < (x1.alloc (.cells (qcells (.slice ra5 u.g.rules.length rc5) u.g.goal.op u.g.goal.nt u.g.goal.rel (.slice aa5 u.g.goal.args.length ac5)) 27)).heap.size)=>Nat.lt_of_lt_of_le hk hc2.size); clear hc2 hw5 b0 b1 b2 b3 b4
     cases ru with
     | none =>
      have hls:¬ s.length≤1000:=fun h=>by have:=hsv h; rw [← hru5.out] at this; cases this
      have kg:decide ((s.length:Int) > 1000)=true:=decide_eq_true (by omega)
      have kgi:(1000:Int) < (s.length:Int):=by omega
      replace hls:=hid hls; clear hsv; have hp6:=hps.out [] x2 (by decide) hA6.out; rw [parse_nil] at hp6; replace hp6:=hid hp6
      go_wp2_with fail
      with_reducible refine hp6.out.mono ?_
      rintro e x3 ⟨hc3,hq3⟩; replace hq3:e=.returned (.tuple #[.agg (qcells (.slice none 0 0) 0 false [] (.slice none 0 0)),iv 2,iv 0]):=hq3; subst hq3; have hd3:Below x2.heap.size x2 (x3.alloc (.cells (qcells (.slice none 0 0) 0 false [] (.slice none 0 0)) 27)):=hc3.alloc hc3.size _; have hA7:=hid (hA6.out.trans (hd3.mono hA6.out.size)); have hk7:=hid (below_keep hd3 hk6.out (lt_of_heap hk6.out)); obtain ⟨b0,b1,b2,b3,b4⟩:=qb_cells hk7.out; have hr7:=hid (hru.out u.g ra5 rc5 aa5 ac5 _ _ hA7.out (k6.out.below goodRg hd3) (g6.out.below goodTg hd3) (fun k hk=>Nat.lt_of_lt_of_le (hS6.out k hk) hd3.size) hBu.out); rw [← hru5.out] at hr7; have k7:=hid (k6.out.below goodRg hd3); have g7:=hid (g6.out.below goodTg hd3); have hS7:=hid (fun k hk=>Nat.lt_of_lt_of_le (hS6.out k hk) hd3.size); clear hc3 hd3 hp6
      go_wp2_with fail
      with_reducible refine hr7.out.mono ?_
      rintro e x4 ⟨rfl,hc4⟩; have hA8:=hid (hA7.out.trans (hc4.mono hA7.out.size)); have hk8:=hid (below_keep hc4 hk7.out (lt_of_heap hk7.out)); clear b0 b1 b2 b3 b4; obtain ⟨b0,b1,b2,b3,b4⟩:=qb_cells hk8.out; have hr8:=hid (hru.out u.g ra5 rc5 aa5 ac5 _ _ hA8.out (k7.out.below goodRg hc4) (g7.out.below goodTg hc4) (fun k hk=>Nat.lt_of_lt_of_le (hS7.out k hk) hc4.size) hBu.out); rw [← hru5.out] at hr8; clear hc4 hr7
      go_wp2_with fail
      with_reducible refine hr8.out.mono ?_
      rintro e x5 ⟨rfl,hc5⟩; have hA9:=hid (hA8.out.trans (hc5.mono hA8.out.size)); clear hc5 hr8 b0 b1 b2 b3 b4
      go_wp2_with fail
      go_ret; exact ⟨rfl,hA9.out⟩
     | some tu =>
      clear hsv; obtain ⟨v,hv1,hv2⟩:=text_back hru5.out.symm; have htl:=(text_len hru5.out.symm).1; have hp6:=hps.out tu x2 (by omega) hA6.out; rw [hv1] at hp6; replace hp6:=hid hp6; replace hv1:=hid hv1
      go_wp2_with fail
      with_reducible refine hp6.out.mono ?_
      rintro e x3 ⟨hc3,hq3⟩; obtain ⟨-,ra6,rc6,aa6,ac6,he,k3,g3⟩:=hq3; rw [hv2] at he k3 g3; subst he; have hd3:Below x2.heap.size x2 (x3.alloc (.cells (qcells (.slice ra6 u.g.rules.length rc6) u.g.goal.op u.g.goal.nt u.g.goal.rel (.slice aa6 u.g.goal.args.length ac6)) 27)):=hc3.alloc hc3.size _; have hA7:=hid (hA6.out.trans (hd3.mono hA6.out.size)); have hk7:=hid (below_keep hd3 hk6.out (lt_of_heap hk6.out)); have hj7:=hid (heap_alloc_new' x3 (.cells (qcells (.slice ra6 u.g.rules.length rc6) u.g.goal.op u.g.goal.nt u.g.goal.rel (.slice aa6 u.g.goal.args.length ac6)) 27)); have hav:Below x3.heap.size x3 (x3.alloc (.cells (qcells (.slice ra6 u.g.rules.length rc6) u.g.goal.op u.g.goal.nt u.g.goal.rel (.slice aa6 u.g.goal.args.length ac6)) 27)):=(Below.refl _ _).alloc (Nat.le_refl _) _
      have k7:=hid (k6.out.below goodRg hd3); have g7:=hid (g6.out.below goodTg hd3); have kv7:=hid (k3.below goodRg hav); have gv7:=hid (g3.below goodTg hav); have hS7:=hid (fun k hk=>Nat.lt_of_lt_of_le (hS6.out k hk) hd3.size); obtain ⟨b0,b1,b2,b3,b4⟩:=qb_cells hk7.out; have hr7:=hid (hru.out u.g ra5 rc5 aa5 ac5 _ _ hA7.out k7.out g7.out (fun k hk=>hS7.out k hk) hBu.out); rw [← hru5.out] at hr7; replace hv2:=hid hv2; clear hc3 hd3 hp6 hav k3 g3
      go_wp2_with fail
      with_reducible refine hr7.out.mono ?_
      rintro e x4 ⟨rfl,hc4⟩; have hA8:=hid (hA7.out.trans (hc4.mono hA7.out.size)); have hk8:=hid (below_keep hc4 hk7.out (lt_of_heap hk7.out)); have hj8:=hid (below_keep hc4 hj7.out (lt_of_heap hj7.out)); have k8:=hid (k7.out.below goodRg hc4); have g8:=hid (g7.out.below goodTg hc4); have hS8:=hid (fun k hk=>Nat.lt_of_lt_of_le (hS7.out k hk) hc4.size); have hsa:=hid (same_t u.g hok.out ra5 ra6 rc5 rc6 aa5 aa6 ac5 ac6 _ _ x4 k8.out (kv7.out.below goodRg hc4) g8.out (gv7.out.below goodTg hc4)); clear b0 b1 b2 b3 b4 hc4 hr7; obtain ⟨b0,b1,b2,b3,b4⟩:=qb_cells hk8.out; obtain ⟨c0,c1,c2,c3,c4⟩:=qb_cells hj8.out
      go_wp2_with fail
      with_reducible refine hsa.out.mono ?_
      rintro e x5 ⟨rfl,hc5⟩; have hA9:=hid (hA8.out.trans (hc5.mono hA8.out.size)); have hk9:=hid (below_keep hc5 hk8.out (lt_of_heap hk8.out)); have hr9:=hid (hru.out u.g ra5 rc5 aa5 ac5 _ _ hA9.out (k8.out.below goodRg hc5) (g8.out.below goodTg hc5) (fun k hk=>Nat.lt_of_lt_of_le (hS8.out k hk) hc5.size) hBu.out); rw [← hru5.out] at hr9; clear b0 b1 b2 b3 b4 c0 c1 c2 c3 c4 hc5 hsa; obtain ⟨b0,b1,b2,b3,b4⟩:=qb_cells hk9.out
      go_wp2_with fail
      with_reducible refine hr9.out.mono ?_
      rintro e x6 ⟨rfl,hc6⟩; have hA10:=hid (hA9.out.trans (hc6.mono hA9.out.size)); clear hc6 hr9 b0 b1 b2 b3 b4
      go_wp2_with fail
      go_ret; exact ⟨rfl,hA10.out⟩
   | some tt =>
    obtain ⟨u0,hu1,hu2⟩:=text_back hrtx.out.symm; have htl:=(text_len hrtx.out.symm).1; have hp4:=hps.out tt w3 (by omega) hA3.out; rw [hu1] at hp4; replace hp4:=hid hp4; replace hu1:=hid hu1
    go_wp2_with fail
    with_reducible refine hp4.out.mono ?_
    rintro e w4 ⟨hb4,hq4⟩; obtain ⟨hok4,ra4,rc4,aa4,ac4,he,k4,g4⟩:=hq4; rw [hu2] at he k4 g4 hok4; subst he; have hd4:Below w3.heap.size w3 (w4.alloc (.cells (qcells (.slice ra4 q.rules.length rc4) q.goal.op q.goal.nt q.goal.rel (.slice aa4 q.goal.args.length ac4)) 27)):=hb4.alloc hb4.size _; have hA4:=hid (hA3.out.trans (hd4.mono hA3.out.size)); have hk4:=hid (below_keep hd4 hk3.out (lt_of_heap hk3.out)); have hj4:=hid (heap_alloc_new' w4 (.cells (qcells (.slice ra4 q.rules.length rc4) q.goal.op q.goal.nt q.goal.rel (.slice aa4 q.goal.args.length ac4)) 27)); have hav:Below w4.heap.size w4 (w4.alloc (.cells (qcells (.slice ra4 q.rules.length rc4) q.goal.op q.goal.nt q.goal.rel (.slice aa4 q.goal.args.length ac4)) 27)):=(Below.refl _ _).alloc (Nat.le_refl _) _; replace k4:=hid (k4.below goodRg hav)
    replace g4:=hid (g4.below goodTg hav); obtain ⟨b0,b1,b2,b3,b4⟩:=qb_cells hk4.out; have hr4:=hrt.out (w4.alloc (.cells (qcells (.slice ra4 q.rules.length rc4) q.goal.op q.goal.nt q.goal.rel (.slice aa4 q.goal.args.length ac4)) 27)) hA4.out hB.out; rw [← hrtx.out] at hr4; replace hr4:=hid hr4; replace hu2:=hid hu2; replace hok4:=hid hok4; clear hb4 hd4 hp4 hav
    go_wp2_with fail
    with_reducible refine hr4.out.mono ?_
    rintro e w5 ⟨rfl,hb5⟩; have hA5':=hid (hA4.out.trans (hb5.mono hA4.out.size)); have hk5':=hid (below_keep hb5 hk4.out (lt_of_heap hk4.out)); have hj5:=hid (below_keep hb5 hj4.out (lt_of_heap hj4.out)); have hsa:=hid (same_t q hok4.out ra ra4 rc rc4 aa aa4 ac ac4 _ _ w5 (hr0.out.below goodRg hA5'.out) (k4.out.below goodRg hb5) (hg0.out.below goodTg hA5'.out) (g4.out.below goodTg hb5)); clear hb5 hr4 b0 b1 b2 b3 b4; obtain ⟨b0,b1,b2,b3,b4⟩:=qb_cells hk5'.out; obtain ⟨c0,c1,c2,c3,c4⟩:=qb_cells hj5.out
    go_wp2_with fail
    with_reducible refine hsa.out.mono ?_
    rintro e w6 ⟨rfl,hb6⟩; have hA6':=hid (hA5'.out.trans (hb6.mono hA5'.out.size)); have hk6':=hid (below_keep hb6 hk5'.out (lt_of_heap hk5'.out)); clear hb6 hsa b0 b1 b2 b3 b4 c0 c1 c2 c3 c4; obtain ⟨b0,b1,b2,b3,b4⟩:=qb_cells hk6'.out; have hr6:=hrt.out w6 hA6'.out hB.out; rw [← hrtx.out] at hr6; replace hr6:=hid hr6
    go_wp2_with fail
    with_reducible refine hr6.out.mono ?_
    rintro e w7 ⟨rfl,hb7⟩; have hA7':=hid (hA6'.out.trans (hb7.mono hA6'.out.size)); clear hb7 hr6 b0 b1 b2 b3 b4; replace htl:=hid htl; obtain ⟨rs,hrs⟩:∃ r,r=parseF s:=⟨_,rfl⟩
    have hsz:=fun u (h:parseF s=.ok u)=>parse_sz h hs3
    have hp5:=hps.out s w7 (by omega) hA7'.out; rw [← hrs] at hp5 hsz; replace hp5:=hid hp5; replace hrs:=hid hrs
    go_wp2_with fail
    with_reducible refine hp5.out.mono ?_
    rintro e x1 ⟨hc1,hq1⟩; clear hp5
    cases rs with
    | error y =>
     obtain ⟨e1,p1⟩:=y; replace hq1:e=.returned (.tuple #[.agg (qcells (.slice none 0 0) 0 false [] (.slice none 0 0)),iv e1,iv p1]):=hq1; subst hq1; have hne:e1≠0:=parse_err hrs.out.symm
     have n1:(e1 == 0)=false:=by simpa using hne
     have n2:(e1 != 0)=true:=by simp [bne,n1]
     have n3:¬ e1=0:=hne; have hd1:Below w7.heap.size w7 (x1.alloc (.cells (qcells (.slice none 0 0) 0 false [] (.slice none 0 0)) 27)):=hc1.alloc hc1.size _; have hA5:=hid (hA7'.out.trans (hd1.mono hA7'.out.size)); have hk5:=heap_alloc_new' x1 (.cells (qcells (.slice none 0 0) 0 false [] (.slice none 0 0)) 27); obtain ⟨b0,b1,b2,b3,b4⟩:=qb_cells hk5; have hsm:=hid (same_t q00 ⟨by decide,fun r hr=>(by cases hr),by decide,fun t ht=>(by cases ht)⟩ none none 0 0 none none 0 0 (fun _=>False) (fun _=>False) (x1.alloc (.cells (qcells (.slice none 0 0) 0 false [] (.slice none 0 0)) 27)) (SlR.nil _ _ _ _ _) (SlR.nil _ _ _ _ _) (SlR.nil _ _ _ _ _) (SlR.nil _ _ _ _ _)); replace hk5:=hid hk5; clear hc1 hd1 hsz hne
     go_wp2_with fail
     refine hsm.out.mono ?_; rintro e x2 ⟨rfl,hc2⟩; have hA6:=hid (hA5.out.trans (hc2.mono hA5.out.size)); clear hc2 b0 b1 b2 b3 b4
     go_wp2_with fail
     go_ret; exact ⟨rfl,hA6.out⟩
    | ok u =>
     obtain ⟨hok,ra5,rc5,aa5,ac5,rfl,k5,g5⟩:=hq1; obtain ⟨hBu,hsv⟩:=hsz u rfl; have hBu:=hid hBu; have hd1:Below w7.heap.size w7 (x1.alloc (.cells (qcells (.slice ra5 u.g.rules.length rc5) u.g.goal.op u.g.goal.nt u.g.goal.rel (.slice aa5 u.g.goal.args.length ac5)) 27)):=hc1.alloc hc1.size _; have hA5:=hid (hA7'.out.trans (hd1.mono hA7'.out.size)); have hk5:=hid (heap_alloc_new' x1 (.cells (qcells (.slice ra5 u.g.rules.length rc5) u.g.goal.op u.g.goal.nt u.g.goal.rel (.slice aa5 u.g.goal.args.length ac5)) 27)); have hau:Below x1.heap.size x1 (x1.alloc (.cells (qcells (.slice ra5 u.g.rules.length rc5) u.g.goal.op u.g.goal.nt u.g.goal.rel (.slice aa5 u.g.goal.args.length ac5)) 27)):=(Below.refl _ _).alloc (Nat.le_refl _) _; replace k5:=hid (SlR.low goodRg (k5.below goodRg hau))
     replace g5:=hid (SlR.low goodTg (g5.below goodTg hau)); obtain ⟨b0,b1,b2,b3,b4⟩:=qb_cells hk5.out; have hw5:=hid (hwu.out u.g ra5 rc5 aa5 ac5 _ _ hA5.out k5.out g5.out (fun k hk=>hk) hBu.out); obtain ⟨ru,hru5⟩:∃ r,r=textW u.g:=⟨_,rfl⟩; rw [← hru5] at hw5; replace hru5:=hid hru5; replace hok:=hid hok; clear hc1 hd1 hau hsz
     go_wp2_with fail
     with_reducible refine hw5.out.mono ?_
     rintro e x2 ⟨rfl,hc2⟩; have hA6:=hid (hA5.out.trans (hc2.mono hA5.out.size)); have hk6:=hid (below_keep hc2 hk5.out (lt_of_heap hk5.out)); have k6:=hid (k5.out.below goodRg hc2); have g6:=hid (g5.out.below goodTg hc2); have hS6:=hid (fun k (hk:k < (x1.alloc (.cells (qcells (.slice ra5 u.g.rules.length rc5) u.g.goal.op u.g.goal.nt u.g.goal.rel (.slice aa5 u.g.goal.args.length ac5)) 27)).heap.size)=>Nat.lt_of_lt_of_le hk hc2.size); clear hc2 hw5 b0 b1 b2 b3 b4
     cases ru with
     | none =>
      have hls:¬ s.length≤1000:=fun h=>by have:=hsv h; rw [← hru5.out] at this; cases this
      have kg:decide ((s.length:Int) > 1000)=true:=decide_eq_true (by omega)
      have kgi:(1000:Int) < (s.length:Int):=by omega
      replace hls:=hid hls; clear hsv; have hp6:=hps.out [] x2 (by decide) hA6.out; rw [parse_nil] at hp6; replace hp6:=hid hp6
      go_wp2_with fail
      with_reducible refine hp6.out.mono ?_
      rintro e x3 ⟨hc3,hq3⟩; replace hq3:e=.returned (.tuple #[.agg (qcells (.slice none 0 0) 0 false [] (.slice none 0 0)),iv 2,iv 0]):=hq3; subst hq3; have hd3:Below x2.heap.size x2 (x3.alloc (.cells (qcells (.slice none 0 0) 0 false [] (.slice none 0 0)) 27)):=hc3.alloc hc3.size _; have hA7:=hid (hA6.out.trans (hd3.mono hA6.out.size)); have hk7:=hid (below_keep hd3 hk6.out (lt_of_heap hk6.out)); obtain ⟨b0,b1,b2,b3,b4⟩:=qb_cells hk7.out; have hr7:=hid (hru.out u.g ra5 rc5 aa5 ac5 _ _ hA7.out (k6.out.below goodRg hd3) (g6.out.below goodTg hd3) (fun k hk=>Nat.lt_of_lt_of_le (hS6.out k hk) hd3.size) hBu.out); rw [← hru5.out] at hr7; have k7:=hid (k6.out.below goodRg hd3); have g7:=hid (g6.out.below goodTg hd3); have hS7:=hid (fun k hk=>Nat.lt_of_lt_of_le (hS6.out k hk) hd3.size); clear hc3 hd3 hp6
      go_wp2_with fail
      with_reducible refine hr7.out.mono ?_
      rintro e x4 ⟨rfl,hc4⟩; have hA8:=hid (hA7.out.trans (hc4.mono hA7.out.size)); have hk8:=hid (below_keep hc4 hk7.out (lt_of_heap hk7.out)); clear b0 b1 b2 b3 b4; obtain ⟨b0,b1,b2,b3,b4⟩:=qb_cells hk8.out; have hr8:=hid (hru.out u.g ra5 rc5 aa5 ac5 _ _ hA8.out (k7.out.below goodRg hc4) (g7.out.below goodTg hc4) (fun k hk=>Nat.lt_of_lt_of_le (hS7.out k hk) hc4.size) hBu.out); rw [← hru5.out] at hr8; clear hc4 hr7
      go_wp2_with fail
      with_reducible refine hr8.out.mono ?_
      rintro e x5 ⟨rfl,hc5⟩; have hA9:=hid (hA8.out.trans (hc5.mono hA8.out.size)); clear hc5 hr8 b0 b1 b2 b3 b4
      go_wp2_with fail
      go_ret; exact ⟨rfl,hA9.out⟩
     | some tu =>
      clear hsv; obtain ⟨v,hv1,hv2⟩:=text_back hru5.out.symm; have htl:=(text_len hru5.out.symm).1; have hp6:=hps.out tu x2 (by omega) hA6.out; rw [hv1] at hp6; replace hp6:=hid hp6; replace hv1:=hid hv1
      go_wp2_with fail
      with_reducible refine hp6.out.mono ?_
      rintro e x3 ⟨hc3,hq3⟩; obtain ⟨-,ra6,rc6,aa6,ac6,he,k3,g3⟩:=hq3; rw [hv2] at he k3 g3; subst he; have hd3:Below x2.heap.size x2 (x3.alloc (.cells (qcells (.slice ra6 u.g.rules.length rc6) u.g.goal.op u.g.goal.nt u.g.goal.rel (.slice aa6 u.g.goal.args.length ac6)) 27)):=hc3.alloc hc3.size _; have hA7:=hid (hA6.out.trans (hd3.mono hA6.out.size)); have hk7:=hid (below_keep hd3 hk6.out (lt_of_heap hk6.out)); have hj7:=hid (heap_alloc_new' x3 (.cells (qcells (.slice ra6 u.g.rules.length rc6) u.g.goal.op u.g.goal.nt u.g.goal.rel (.slice aa6 u.g.goal.args.length ac6)) 27)); have hav:Below x3.heap.size x3 (x3.alloc (.cells (qcells (.slice ra6 u.g.rules.length rc6) u.g.goal.op u.g.goal.nt u.g.goal.rel (.slice aa6 u.g.goal.args.length ac6)) 27)):=(Below.refl _ _).alloc (Nat.le_refl _) _
      have k7:=hid (k6.out.below goodRg hd3); have g7:=hid (g6.out.below goodTg hd3); have kv7:=hid (k3.below goodRg hav); have gv7:=hid (g3.below goodTg hav); have hS7:=hid (fun k hk=>Nat.lt_of_lt_of_le (hS6.out k hk) hd3.size); obtain ⟨b0,b1,b2,b3,b4⟩:=qb_cells hk7.out; have hr7:=hid (hru.out u.g ra5 rc5 aa5 ac5 _ _ hA7.out k7.out g7.out (fun k hk=>hS7.out k hk) hBu.out); rw [← hru5.out] at hr7; replace hv2:=hid hv2; clear hc3 hd3 hp6 hav k3 g3
      go_wp2_with fail
      with_reducible refine hr7.out.mono ?_
      rintro e x4 ⟨rfl,hc4⟩; have hA8:=hid (hA7.out.trans (hc4.mono hA7.out.size)); have hk8:=hid (below_keep hc4 hk7.out (lt_of_heap hk7.out)); have hj8:=hid (below_keep hc4 hj7.out (lt_of_heap hj7.out)); have k8:=hid (k7.out.below goodRg hc4); have g8:=hid (g7.out.below goodTg hc4); have hS8:=hid (fun k hk=>Nat.lt_of_lt_of_le (hS7.out k hk) hc4.size); have hsa:=hid (same_t u.g hok.out ra5 ra6 rc5 rc6 aa5 aa6 ac5 ac6 _ _ x4 k8.out (kv7.out.below goodRg hc4) g8.out (gv7.out.below goodTg hc4)); clear b0 b1 b2 b3 b4 hc4 hr7; obtain ⟨b0,b1,b2,b3,b4⟩:=qb_cells hk8.out; obtain ⟨c0,c1,c2,c3,c4⟩:=qb_cells hj8.out
      go_wp2_with fail
      with_reducible refine hsa.out.mono ?_
      rintro e x5 ⟨rfl,hc5⟩; have hA9:=hid (hA8.out.trans (hc5.mono hA8.out.size)); have hk9:=hid (below_keep hc5 hk8.out (lt_of_heap hk8.out)); have hr9:=hid (hru.out u.g ra5 rc5 aa5 ac5 _ _ hA9.out (k8.out.below goodRg hc5) (g8.out.below goodTg hc5) (fun k hk=>Nat.lt_of_lt_of_le (hS8.out k hk) hc5.size) hBu.out); rw [← hru5.out] at hr9; clear b0 b1 b2 b3 b4 c0 c1 c2 c3 c4 hc5 hsa; obtain ⟨b0,b1,b2,b3,b4⟩:=qb_cells hk9.out
      go_wp2_with fail
      with_reducible refine hr9.out.mono ?_
      rintro e x6 ⟨rfl,hc6⟩; have hA10:=hid (hA9.out.trans (hc6.mono hA9.out.size)); clear hc6 hr9 b0 b1 b2 b3 b4
      go_wp2_with fail
      go_ret; exact ⟨rfl,hA10.out⟩
end Go.Proofs.YtbkdakbhagjkhaaDoor
