/- StrXd: AskFw, AskFx, StrXd, in one text. -/
import Derived.Test.YtffdpoifdahadaaGreatDoorAskYe
import Derived.Test.YtffdpoifdahadaaGreatDoorAskYh
import Derived.Test.YtffdpoifdahadaaGreatDoorStrWi
set_option linter.unusedVariables false
set_option linter.unusedSimpArgs false
namespace Go.Proofs.YtffdpoifdahadaaGreatDoor
open Go.RowKit
open Go.Lib (hid byteCells itoa)
def TmR (t:Tg):Prop:=t.var.length≤140737488355328∧t.vs.length≤140737488355328∧t.vt.length≤140737488355328∧t.ln≤140737488355328
end Go.Proofs.YtffdpoifdahadaaGreatDoor
set_option linter.unusedSimpArgs false
namespace Go.Proofs.YtffdpoifdahadaaGreatDoor
open Go.RowKit
open Go.Lib (hid byteCells itoa)
def TmM (t:Tg):Prop:=t.var.length≤1048576∧t.vs.length≤1048576∧t.vt.length≤1048576∧t.ln≤1048576
def LgM (x:Lg):Prop:=x.rel.length≤1048576∧x.args.length≤1048576∧∀ t∈x.args,TmM t
def RgM (r:Rg):Prop:=LgM r.head∧r.body.length≤1048576∧∀ x∈r.body,LgM x
def QgM (q:Qg):Prop:=LgM q.goal∧q.rules.length≤1048576∧∀ r∈q.rules,RgM r
theorem TmM.r {t:Tg} (h:TmM t):TmR t:=⟨by have:=h.1; omega,by have:=h.2.1; omega,by have:=h.2.2.1; omega,by have:=h.2.2.2; omega⟩
end Go.Proofs.YtffdpoifdahadaaGreatDoor
set_option linter.unusedSimpArgs false
namespace Go.Proofs.YtffdpoifdahadaaGreatDoor
open Go.RowKit
open Go.Lib (hid)
def ShL (x:Lg):Prop:=x.args.length≤6∧x.rel.length≤50∧∀ t∈x.args,t.var.length≤50
def Few28 (q:Qg):Prop:=q.rules.length≤16∧(∀ r∈q.rules,r.body.length≤8∧ShL r.head∧∀ x∈r.body,ShL x)∧ShL q.goal
theorem Few28.sm {q:Qg} (h:Few28 q):Qsm q:=by
 have hl:∀ x,ShL x→LgB x:=fun x hx=>⟨by have:=hx.2.1; omega,by have:=hx.1; omega,fun t ht=>by have:=hx.2.2 t ht; omega⟩
 exact ⟨⟨fun r hr=>⟨hl _ (h.2.1 r hr).2.1,by have:=(h.2.1 r hr).1; omega,fun x hx=>hl _ ((h.2.1 r hr).2.2 x hx)⟩,hl _ h.2.2⟩,by have:=h.1; omega⟩
def PB (P:Prop) (w:World) (e:Ending) (w':World):Prop:=Below w.heap.size w w'∧∃ b,e=.returned (.bool b)∧(b=true→P)
set_option maxHeartbeats 4000000 in
set_option maxRecDepth 100000 in
theorem short_any (x:Lg) (xa:Option Addr) (xc:Nat) (S:Foot) (w:World) (h:SlR 7 TgR S w x.args (.slice xa x.args.length xc)) (hM:LgM x) :
  Calls Tryz.prog 16 #[.agg (lcells x.op x.nt x.rel (.slice xa x.args.length xc))] w (PB (ShL x) w):=by
 have hb1:Below w.heap.size w (w.alloc (.cells (lcells x.op x.nt x.rel (.slice xa x.args.length xc)) 24)):=(Below.refl _ w).alloc (Nat.le_refl _) _; have hk1:=heap_alloc_new' w (.cells (lcells x.op x.nt x.rel (.slice xa x.args.length xc)) 24); obtain ⟨w1,hw1⟩:∃ w1,w1=w.alloc (.cells (lcells x.op x.nt x.rel (.slice xa x.args.length xc)) 24):=⟨_,rfl⟩; rw [← hw1] at hb1 hk1; obtain ⟨c0,c1,c2,c3,-⟩:=lt_cells hk1; have hS:=hid (h.below goodTg hb1); have hal:=hM.2.1; have hrl:=hM.1; replace hM:=hid hM; replace hb1:=hid hb1; replace hw1:=hid hw1; clear h hk1
 go_enter Tryz.func16,Tryz.ntmps16
 go_upto_region 1 with (fail)
 rw [← hw1.out]
 go_wp2_with fail
 go_loopg [3] x.args.length (fun f v3 wr=>∃ (k:Nat),v3=iv k∧k+f=x.args.length∧k≤10∧wr=w1∧Hid (∀ t∈x.args.take k,t.var.length≤50))
 case atStart=>exact ⟨0,rfl,by omega,by omega,rfl,hid fun t ht=>by simp at ht⟩
 case round =>
  obtain ⟨k,rfl,hkf,hk10,hww,hall⟩:=hrel; subst hww; by_cases hlt:k < x.args.length
  ·have q1:decide ((k:Int) < (x.args.length:Int))=true:=decide_eq_true (by omega)
   by_cases h10:k < 10
   ·have q2:decide ((k:Int) < 10)=true:=decide_eq_true (by omega)
    have q3:IntKind.i64.wrap ((k:Int)+1)=((k+1:Nat):Int):=by rw [IntKind.wrap_i64]; omega
    obtain ⟨t,ht⟩:∃ t,x.args[k]? = some t:=⟨_,List.getElem?_eq_getElem hlt⟩; have htM:=hM.out.2.2 t (List.mem_of_getElem? ht); obtain ⟨g,o,cs,hidx,-,hg,hc,hrt⟩:=hS.out.at (P:=Tryz.prog) (t:=22) (by kernel_rfl) (fun _=>by kernel_rfl) ht; obtain ⟨ta,tc,hrt⟩:=hrt; subst hrt; have d0:wr.cell? ⟨g,o+0,none⟩=some (sv t.var):=hc 0 _ rfl; have d2:wr.cell? ⟨g,o+2,none⟩=some (sv t.vt):=hc 2 _ rfl; have d5:wr.cell? ⟨g,o+5,none⟩=some (sv t.vs):=hc 5 _ rfl; have d6:wr.cell? ⟨g,o+6,none⟩=some (.slice ta t.ln tc):=hc 6 _ rfl; have a2:o+1+1=o+2:=rfl; have a5:o+1+4=o+5:=rfl; have a6:o+1+5=o+6:=rfl; rw [Nat.add_zero] at d0; obtain ⟨m1,m2,m3,m4⟩:=htM; by_cases p1:50 < t.var.length
    ·have r1:decide ((50:Int) < (t.var.length:Int))=true:=decide_eq_true (by omega)
     replace p1:=hid p1; clear hc
     go_wp2_with fail
     go_ret; exact ⟨hb1.out,false,rfl,fun e=>by cases e⟩
    have r1:decide ((50:Int) < (t.var.length:Int))=false:=decide_eq_false (by omega); by_cases p2:200 < t.vs.length
    ·have r2:decide ((200:Int) < (t.vs.length:Int))=true:=decide_eq_true (by omega)
     replace p2:=hid p2; clear hc
     go_wp2_with fail
     go_ret; exact ⟨hb1.out,false,rfl,fun e=>by cases e⟩
    have r2:decide ((200:Int) < (t.vs.length:Int))=false:=decide_eq_false (by omega); by_cases p3:50 < t.vt.length
    ·have r3:decide ((50:Int) < (t.vt.length:Int))=true:=decide_eq_true (by omega)
     replace p3:=hid p3; clear hc
     go_wp2_with fail
     go_ret; exact ⟨hb1.out,false,rfl,fun e=>by cases e⟩
    have r3:decide ((50:Int) < (t.vt.length:Int))=false:=decide_eq_false (by omega); by_cases p4:0 < t.ln
    ·have r4:decide ((0:Int) < (t.ln:Int))=true:=decide_eq_true (by omega)
     replace p4:=hid p4; clear hc
     go_wp2_with fail
     go_ret; exact ⟨hb1.out,false,rfl,fun e=>by cases e⟩
    have r4:decide ((0:Int) < (t.ln:Int))=false:=decide_eq_false (by omega)
    have hall2:=hid (show ∀ t∈x.args.take (k+1),t.var.length≤50 from fun s hs=>by
     rw [List.take_add_one,ht] at hs; rcases List.mem_append.1 hs with hs | hs
     ·exact hall.out s hs
     ·simp at hs; subst hs; omega)
    clear hc
    go_wp2_with fail
    go_roundg (x.args.length - (k+1))
    case measure=>omega
    case rel=>exact ⟨k+1,rfl,by omega,by omega,rfl,hall2⟩
   ·have q2:decide ((k:Int) < 10)=false:=decide_eq_false (by omega)
    have q5:decide ((x.args.length:Int)≤6)=false:=decide_eq_false (by omega)
    go_wp2_with fail
    go_ret; exact ⟨hb1.out,false,rfl,fun e=>by cases e⟩
  ·have q1:decide ((k:Int) < (x.args.length:Int))=false:=decide_eq_false (by omega)
   by_cases h6:x.args.length≤6
   ·have q5:decide ((x.args.length:Int)≤6)=true:=decide_eq_true (by omega)
    have hres:=hid (show x.rel.length≤50→ShL x from fun h=>⟨h6,h,fun t ht=>hall.out t (by rw [List.take_of_length_le (by omega)]; exact ht)⟩); by_cases h50:x.rel.length≤50
    ·have q6:decide ((x.rel.length:Int)≤50)=true:=decide_eq_true (by omega)
     have h50':=hid h50; clear h50
     go_wp2_with fail
     go_ret; exact ⟨hb1.out,true,rfl,fun _=>hres.out h50'.out⟩
    ·have q6:decide ((x.rel.length:Int)≤50)=false:=decide_eq_false (by omega)
     have h50':=hid h50; clear h50
     go_wp2_with fail
     go_ret; exact ⟨hb1.out,false,rfl,fun e=>by cases e⟩
   ·have q5:decide ((x.args.length:Int)≤6)=false:=decide_eq_false (by omega)
    go_wp2_with fail
    go_ret; exact ⟨hb1.out,false,rfl,fun e=>by cases e⟩
set_option maxHeartbeats 4000000 in
set_option maxRecDepth 100000 in
theorem few28_any (q:Qg) (ra:Option Addr) (rc:Nat) (aa:Option Addr) (ac:Nat) (S:Foot) (w:World) (h:QR q ra rc aa ac S w) (hM:QgM q) :
  Calls Tryz.prog 9 #[qval q ra rc aa ac] w (PB (Few28 q) w):=by
 have hb1:Below w.heap.size w (w.alloc (.cells (qcells (.slice ra q.rules.length rc) q.goal.op q.goal.nt q.goal.rel (.slice aa q.goal.args.length ac)) 32)):=(Below.refl _ w).alloc (Nat.le_refl _) _; have hk1:=heap_alloc_new' w (.cells (qcells (.slice ra q.rules.length rc) q.goal.op q.goal.nt q.goal.rel (.slice aa q.goal.args.length ac)) 32); obtain ⟨w1,hw1⟩:∃ w1,w1=w.alloc (.cells (qcells (.slice ra q.rules.length rc) q.goal.op q.goal.nt q.goal.rel (.slice aa q.goal.args.length ac)) 32):=⟨_,rfl⟩; rw [← hw1] at hb1 hk1; have hh:=hid h; have hrl:=hM.2.1; have hwl:=lt_of_heap hk1; replace hM:=hid hM; replace hb1:=hid hb1; replace hk1:=hid hk1; replace hw1:=hid hw1; clear h
 go_enter Tryz.func9,Tryz.ntmps9
 go_upto_region 1 with (fail)
 rw [← hw1.out]
 go_wp2_with fail
 go_loopg [3] q.rules.length (fun f v3 wr=>∃ (k:Nat),v3=iv k∧k+f=q.rules.length∧k≤20∧Hid (Below w.heap.size w wr)∧Hid (wr.heap[w.heap.size]? = some (.cells (qcells (.slice ra q.rules.length rc) q.goal.op q.goal.nt q.goal.rel (.slice aa q.goal.args.length ac)) 32 (0,0)))∧Hid (∀ r∈q.rules.take k,r.body.length≤8∧ShL r.head∧∀ x∈r.body,ShL x))
 case atStart=>exact ⟨0,rfl,by omega,by omega,hb1,hk1,hid fun r hr=>by simp at hr⟩
 case round =>
  obtain ⟨k,rfl,hkf,hk20,hB,hk,hall⟩:=hrel; clear hb1 hk1 hw1; obtain ⟨c0,c1,c2,c3,c4,-⟩:=q_cells hk.out; by_cases hlt:k < q.rules.length
  ·have q1:decide ((k:Int) < (q.rules.length:Int))=true:=decide_eq_true (by omega)
   clear c1 c2 c3 c4; by_cases h20:k < 20
   ·have q2:decide ((k:Int) < 20)=true:=decide_eq_true (by omega)
    have q3:IntKind.i64.wrap ((k:Int)+1)=((k+1:Nat):Int):=by rw [IntKind.wrap_i64]; omega
    obtain ⟨r,hr⟩:∃ r,q.rules[k]? = some r:=⟨_,List.getElem?_eq_getElem hlt⟩; have hrM:=hM.out.2.2 r (List.mem_of_getElem? hr); obtain ⟨g,o,cs,hidx,-,hg,hc,hrt⟩:=(hh.out.rl.below goodRg hB.out).at (P:=Tryz.prog) (t:=30) (by kernel_rfl) (fun _=>by kernel_rfl) hr; obtain ⟨ha,hcap,ba,bc,rfl,hS1,hS2⟩:=hrt; obtain ⟨d0,d1,d2,d3,d4,d5,d6⟩:=rg_cells hc; have hbl:=hrM.2.1; have hHd:=hrM.1; by_cases h8:8 < r.body.length
    ·have q8:decide ((8:Int) < (r.body.length:Int))=true:=decide_eq_true (by omega)
     replace h8:=hid h8; replace hrM:=hid hrM; clear hc
     go_wp2_with fail
     go_ret; exact ⟨hB.out,false,rfl,fun e=>by cases e⟩
    have q8:decide ((8:Int) < (r.body.length:Int))=false:=decide_eq_false (by omega); have hsh:=hid (short_any r.head ha hcap S wr hS1 hrM.1); replace hrM:=hid hrM; replace hS2:=hid hS2; clear hc hS1 d4 d5
    go_wp2_with fail
    with_reducible refine hsh.out.mono ?_
    rintro e w3 ⟨hb3,b,rfl,hbS⟩; have hB3:=hid (hB.out.trans (hb3.mono hB.out.size)); have hk3:=hid (below_keep hb3 hk.out (lt_of_heap hk.out)); have hS3:=hid (hS2.out.below goodLg hb3); have hd6:w3.cell? ⟨g,o+6,none⟩=some (.slice ba r.body.length bc):=(hb3.cell (p:=⟨g,o+6,none⟩) (World.block_lt_of_cell? wr _ d6)).trans d6; replace hbS:=hid hbS; clear hb3 hsh d0 d1 d2 d3 c0 hidx hg hd6 d6
    cases b with
    | false =>
     go_wp2_with fail
     go_ret; exact ⟨hB3.out,false,rfl,fun e=>by cases e⟩
    | true =>
     go_wp2_with fail
     go_loopg [4] r.body.length (fun f v4 wx=>∃ (j:Nat),v4=iv j∧j+f=r.body.length∧Hid (Below w.heap.size w wx)∧Hid (wx.heap[w.heap.size]? = some (.cells (qcells (.slice ra q.rules.length rc) q.goal.op q.goal.nt q.goal.rel (.slice aa q.goal.args.length ac)) 32 (0,0)))∧Hid (∀ x∈r.body.take j,ShL x))
     case atStart=>exact ⟨0,rfl,by omega,hB3,hk3,hid fun x hx=>by simp at hx⟩
     case round =>
      obtain ⟨j,rfl,hjf,hBx,hkx,hallx⟩:=hrel; clear hB3 hk3 hS3; obtain ⟨c0,-⟩:=q_cells hkx.out; obtain ⟨g,o,cs,hidx,-,hg,hc,hrt⟩:=(hh.out.rl.below goodRg hBx.out).at (P:=Tryz.prog) (t:=30) (by kernel_rfl) (fun _=>by kernel_rfl) hr; obtain ⟨ha2,hcap2,ba2,bc2,rfl,-,hS22⟩:=hrt; obtain ⟨-,-,-,-,-,-,d6⟩:=rg_cells hc; clear hc; by_cases hlj:j < r.body.length
      ·have q5:decide ((j:Int) < (r.body.length:Int))=true:=decide_eq_true (by omega)
       have q6:IntKind.i64.wrap ((j:Int)+1)=((j+1:Nat):Int):=by rw [IntKind.wrap_i64]; omega
       obtain ⟨x,hx⟩:∃ x,r.body[j]? = some x:=⟨_,List.getElem?_eq_getElem hlj⟩; have hxM:=hrM.out.2.2 x (List.mem_of_getElem? hx); obtain ⟨g2,o2,cs2,hidx2,-,hg2,hc2,hrt2⟩:=hS22.at (P:=Tryz.prog) (t:=25) (by kernel_rfl) (fun _=>by kernel_rfl) hx; obtain ⟨xa,xc,rfl,hSA⟩:=hrt2; have f0:wr.cell? ⟨g2,o2+0,none⟩=some (iv x.op):=hc2 0 _ rfl; have f1:wr.cell? ⟨g2,o2+1,none⟩=some (.bool x.nt):=hc2 1 _ rfl; have f2:wr.cell? ⟨g2,o2+2,none⟩=some (sv x.rel):=hc2 2 _ rfl; have f3:wr.cell? ⟨g2,o2+3,none⟩=some (.slice xa x.args.length xc):=hc2 3 _ rfl; rw [Nat.add_zero] at f0; have hsx:=hid (short_any x xa xc S wr hSA hxM); replace hxM:=hid hxM; replace hS22:=hid hS22; clear hc2 hSA
       go_wp2_with fail
       with_reducible refine hsx.out.mono ?_
       rintro e w5 ⟨hb5,b,rfl,hbX⟩; have hB5:=hid (hBx.out.trans (hb5.mono hBx.out.size)); have hk5:=hid (below_keep hb5 hkx.out (lt_of_heap hkx.out)); replace hbX:=hid hbX; clear hb5 hsx f0 f1 f2 f3 c0 d6 hidx hg hidx2 hg2 hS22
       cases b with
       | false =>
        go_wp2_with fail
        go_ret; exact ⟨hB5.out,false,rfl,fun e=>by cases e⟩
       | true =>
        have hall5:=hid (show ∀ x∈r.body.take (j+1),ShL x from fun s hs=>by
         rw [List.take_add_one,hx] at hs; rcases List.mem_append.1 hs with hs | hs
         ·exact hallx.out s hs
         ·simp at hs; subst hs; first | exact hbX.out rfl | exact hbX.out trivial)
        go_wp2_with fail
        go_roundg (r.body.length - (j+1))
        case measure=>omega
        case rel=>exact ⟨j+1,rfl,by omega,hB5,hk5,hall5⟩
      ·have q5:decide ((j:Int) < (r.body.length:Int))=false:=decide_eq_false (by omega)
       have hall6:=hid (show ∀ r∈q.rules.take (k+1),r.body.length≤8∧ShL r.head∧∀ x∈r.body,ShL x from fun s hs=>by
        rw [List.take_add_one,hr] at hs; rcases List.mem_append.1 hs with hs | hs
        ·exact hall.out s hs
        ·simp at hs; subst hs; exact ⟨by omega,(by first | exact hbS.out rfl | exact hbS.out trivial),fun x hx=>hallx.out x (by rw [List.take_of_length_le (by omega)]; exact hx)⟩)
       replace hS22:=hid hS22
       go_wp2_with fail
       go_roundg (q.rules.length - (k+1))
       case measure=>omega
       case rel=>exact ⟨k+1,rfl,by omega,by omega,hBx,hkx,hall6⟩
   ·have q2:decide ((k:Int) < 20)=false:=decide_eq_false (by omega)
    have q5:decide ((q.rules.length:Int)≤16)=false:=decide_eq_false (by omega)
    go_wp2_with fail
    go_ret; exact ⟨hB.out,false,rfl,fun e=>by cases e⟩
  ·have q1:decide ((k:Int) < (q.rules.length:Int))=false:=decide_eq_false (by omega)
   by_cases h16:q.rules.length≤16
   ·have q5:decide ((q.rules.length:Int)≤16)=true:=decide_eq_true (by omega)
    have hsh:=hid (short_any q.goal aa ac S wr (hh.out.go.below goodTg hB.out) hM.out.1); have h16':=hid h16; clear h16
    go_wp2_with fail
    with_reducible refine hsh.out.mono ?_
    rintro e w3 ⟨hb3,b,rfl,hbS⟩; have hB3:=hid (hB.out.trans (hb3.mono hB.out.size)); have hres:=hid (fun (e:b=true)=>(⟨h16'.out,fun r hr=>hall.out r (by rw [List.take_of_length_le (by omega)]; exact hr),hbS e⟩:Few28 q)); clear hb3 hbS hsh
    go_wp2_with fail
    go_ret; exact ⟨hB3.out,b,rfl,hres.out⟩
   ·have q5:decide ((q.rules.length:Int)≤16)=false:=decide_eq_false (by omega)
    go_wp2_with fail
    go_ret; exact ⟨hB.out,false,rfl,fun e=>by cases e⟩
end Go.Proofs.YtffdpoifdahadaaGreatDoor
