/- strata, the law StrataParsed: the walk. -/
import Derived.Test.YtffdpoifdahadaaGreatDoorStrLp
import Derived.Test.YtffdpoifdahadaaGreatDoorAskBd
set_option linter.unusedVariables false
set_option linter.unusedSimpArgs false
set_option maxHeartbeats 40000000
set_option maxRecDepth 100000
namespace Go.Proofs.YtffdpoifdahadaaGreatDoor
open Go.RowKit
open Go.Lib (hid)
theorem vV {s:List UInt8} {e p:Int} (h:de s=.error (e,p)):e≠0:=by
 unfold de at h
 cases hs:ef s with
 | error x =>
  rw [hs] at h; cases h; exact (sY hs).1
 | ok l =>
  rw [hs] at h; simp only at h; have hq:=l9 (l.map tw) (l.length+1) st0 [] rfl (zW _) (by rw [zY]; show l.length < l.length+1+0; omega); generalize cR (l.map tw) (l.length+1) st0 []=r at *; obtain ⟨o,st⟩:=r
  cases o with
  | some q=>cases h
  | none =>
   obtain ⟨e2,i,he,hne⟩:=hq; simp only at he h; rw [he] at h; simp only [Except.error.injEq,Prod.mk.injEq] at h; rw [← h.1]; exact hne
theorem uZ (n:Nat) (W:World):SlR 1 sr (fun _=>True) (W.alloc (.cells (Array.replicate n (iv 0)) 3)) (List.replicate n 0) (.slice (some ⟨W.heap.size,0,none⟩) n n):=by
 have hk:=af W (.cells (Array.replicate n (iv 0)) 3); have hl:(List.replicate n (0:Int)).length=n:=List.length_replicate; refine ⟨_,n,W.heap.size,0,fun _=>[iv 0],by rw [hl],by rw [hl]; exact zM _,fun _=>⟨rfl,trivial,aL hk⟩,fun i hi j u hu=>?_,fun i x hx=>?_⟩
 ·rw [hl] at hi
  have hj:j=0:=by
   have:=(List.getElem?_eq_some_iff.1 hu).1; simp at this; omega
  subst hj; simp at hu; subst hu; rw [Nat.mul_one,Nat.zero_add,Nat.add_zero,aj hk,Array.getElem?_replicate,if_pos hi]
 ·have:x=0:=by
   have:=zU hx; exact (List.mem_replicate.1 this).2
  rw [this]; rfl
theorem kj (s:List UInt8) (w:World) (hTab:Hid (Tab w)) :
  Calls Tryz.prog 7 #[sv s] w fun e w'=>e=.returned (.bool true)/\Below w.heap.size w w':=by
 have hsm:=hid (pw w hTab.out)
 go_enter Tryz.func7,Tryz.ntmps7
 go_wp2_with fail
 with_reducible refine hsm.out.mono ?_
 rintro e w1 ⟨rfl,hb1⟩; have hB1:=hid hb1; have hpa:=hid (nM s w1 (((da.of hTab.out (zM w.heap.size)).below hb1).tab)); clear hb1 hsm; obtain ⟨R,hR⟩:∃ R,R=de s:=⟨_,rfl⟩; rw [← hR] at hpa; replace hR:=hid hR
 go_wp2_with fail
 with_reducible refine hpa.out.mono ?_
 rintro e w2 ⟨hb2,h2⟩; have hB2:=hid (hB1.out.trans (hb2.mono hB1.out.size)); clear hpa hb2
 cases R with
 | error x =>
  replace h2:e=.returned (.tuple #[.agg (aG (.slice none 0 0) 0 false [] (.slice none 0 0)),iv x.1,iv x.2]):=h2; subst h2; obtain ⟨xe,xp⟩:=x; have hne:=vV hR.out.symm
  have qx:(xe != 0)=true:=by simpa using hne
  replace hne:=hid hne; by_cases hlen:1000 < s.length
  ·have q1:decide ((1000:Int) < (s.length:Int))=true:=zP (by omega)
   have n1:decide (1000 < s.length)=true:=zP (by omega); replace hlen:=hid hlen
   go_wp2_with fail
   go_ret; exact ⟨rfl,hB2.out.trans (((Below.refl _ w2).alloc (Nat.le_refl _) _).mono hB2.out.size)⟩
  ·have q1:decide ((1000:Int) < (s.length:Int))=false:=zO (by omega)
   have n1:decide (1000 < s.length)=false:=zO (by omega); replace hlen:=hid hlen
   go_wp2_with fail
   go_ret; exact ⟨rfl,hB2.out.trans (((Below.refl _ w2).alloc (Nat.le_refl _) _).mono hB2.out.size)⟩
 | ok u =>
  obtain ⟨-,ra,rc,aa,ac,rfl,h3,h4⟩:=h2; by_cases hlen:1000 < s.length
  ·have q1:decide ((1000:Int) < (s.length:Int))=true:=zP (by omega)
   have n1:decide (1000 < s.length)=true:=zP (by omega); replace hlen:=hid hlen; replace h3:=hid h3; replace h4:=hid h4
   go_wp2_with fail
   go_ret; exact ⟨rfl,hB2.out.trans (((Below.refl _ w2).alloc (Nat.le_refl _) _).mono hB2.out.size)⟩
  ·have q1:decide ((1000:Int) < (s.length:Int))=false:=zO (by omega)
   have n1:decide (1000 < s.length)=false:=zO (by omega); have hsq:=dV hR.out.symm (by omega); have hts:=(pH hR.out.symm (by omega)).2 (by omega); obtain ⟨t,ht⟩:=Option.isSome_iff_exists.1 hts; obtain ⟨u2,hu2,hug⟩:=tJ ht; obtain ⟨q,hq⟩:∃ q,q=u.g:=⟨_,rfl⟩; rw [← hq] at h3 h4 hsq ht hts hug ⊢
   have hQ2:QR q ra rc aa ac (aF w1.heap.size) w2->True:=fun _=>trivial
   have hbq:Below w2.heap.size w2 (w2.alloc (.cells (aG (.slice ra q.rules.length rc) q.goal.op q.goal.nt q.goal.rel (.slice aa q.goal.args.length ac)) 32)):=(zN _ w2).alloc (zM _) _; have hkq:=af w2 (.cells (aG (.slice ra q.rules.length rc) q.goal.op q.goal.nt q.goal.rel (.slice aa q.goal.args.length ac)) 32); obtain ⟨W3,hW3⟩:∃ W3,W3=w2.alloc (.cells (aG (.slice ra q.rules.length rc) q.goal.op q.goal.nt q.goal.rel (.slice aa q.goal.args.length ac)) 32):=⟨_,rfl⟩; rw [← hW3] at hbq hkq; have hQ3:QR q ra rc aa ac (fun k=>k < w2.heap.size) W3:=⟨(h3.mono eR (fun k hk _=>hk)).below eR hbq,(h4.mono bZ (fun k hk _=>hk)).below bZ hbq,fun k hk=>zS hk hbq.size⟩; have hB3:=hid (hB2.out.trans (hbq.mono hB2.out.size))
   obtain ⟨v0,v1,v2,v3,v4,-⟩:=cg hkq; have hch:=hid (kI q ra rc aa ac _ W3 hQ3 hsq (((da.of hTab.out (zM w.heap.size)).below hB3.out).tab)); obtain ⟨C,hC⟩:∃ C,C=ce arF q (cI q).isSome:=⟨_,rfl⟩; have hX1:=hid (show C.1≠1 from by rw [hC,hts]; exact uJ); unfold li at hch; rw [← hC] at hch; obtain ⟨X,L⟩:=C; replace hQ3:=hid hQ3; replace hkq:=hid hkq; replace hW3:=hid hW3; replace hsq:=hid hsq; replace hts:=hid hts; replace ht:=hid ht; replace hu2:=hid hu2; replace hug:=hid hug; replace hC:=hid hC; replace hq:=hid hq; replace hlen:=hid hlen; clear h3 h4 hbq hQ2
   go_upto_region 3 with (fail)
   rw [← hW3.out]
   go_wp2_with fail
   with_reducible refine hch.out.mono ?_
   rintro e w4 ⟨hb4,vL,rfl,hL⟩; obtain ⟨La,Lc,rfl,-⟩:=hL.slice; have hB4:=hid (hB3.out.trans (hb4.mono hB3.out.size)); have hk4:=hid (an hb4 hkq.out (ae hkq.out)); have hQ4:=hid (hQ3.out.below hb4); have hL4:=hid hL; clear v0 v1 v2 v3 v4 hch hb4 hL; obtain ⟨v0,v1,v2,v3,v4,-⟩:=cg hk4.out; have hwr:=xB q ra rc aa ac _ w4 hQ4.out.rl hQ4.out.go hQ4.out.lo (((da.of hTab.out (zM w.heap.size)).below hB4.out).tab) hsq.out.bd; rw [ht.out] at hwr; replace hwr:=hid (show Calls Tryz.prog 20 #[.agg (aG (.slice ra q.rules.length rc) q.goal.op q.goal.nt q.goal.rel (.slice aa q.goal.args.length ac))] w4 fun e w'=>e=.returned (sv t)/\Below w4.heap.size w4 w' from hwr)
   go_wp2_with fail
   with_reducible refine hwr.out.mono ?_
   rintro e w5 ⟨rfl,hb5⟩; have hB5:=hid (hB4.out.trans (hb5.mono hB4.out.size)); have hD5:=hid hb5; have hpa:=nM t w5 (((da.of hTab.out (zM w.heap.size)).below hB5.out).tab); rw [hu2.out] at hpa; replace hpa:=hid hpa; clear hwr hb5 v0 v1 v2 v3 v4
   go_wp2_with fail
   with_reducible refine hpa.out.mono ?_
   rintro e w6 ⟨hb6,-,rb,rd,ab,ad,rfl,h3,h4⟩; rw [hug.out] at h3 h4 ⊢; have hD6:=hid (hD5.out.trans (hb6.mono hD5.out.size)); have hbq:Below w6.heap.size w6 (w6.alloc (.cells (aG (.slice rb q.rules.length rd) q.goal.op q.goal.nt q.goal.rel (.slice ab q.goal.args.length ad)) 32)):=(zN _ w6).alloc (zM _) _; have hkq2:=af w6 (.cells (aG (.slice rb q.rules.length rd) q.goal.op q.goal.nt q.goal.rel (.slice ab q.goal.args.length ad)) 32); obtain ⟨W7,hW7⟩:∃ W7,W7=w6.alloc (.cells (aG (.slice rb q.rules.length rd) q.goal.op q.goal.nt q.goal.rel (.slice ab q.goal.args.length ad)) 32):=⟨_,rfl⟩; rw [← hW7] at hbq hkq2
   have hQ7:QR q rb rd ab ad (fun k=>k < w6.heap.size) W7:=⟨(h3.mono eR (fun k hk _=>hk)).below eR hbq,(h4.mono bZ (fun k hk _=>hk)).below bZ hbq,fun k hk=>zS hk hbq.size⟩; have hD7:=hid (hD6.out.trans (hbq.mono hD6.out.size)); obtain ⟨v0,v1,v2,v3,v4,-⟩:=cg hkq2; have hch:=hid (kI q rb rd ab ad _ W7 hQ7 hsq.out (((da.of hTab.out (zM w.heap.size)).below (hB4.out.trans (hD7.out.mono hB4.out.size))).tab)); unfold li at hch; rw [← hC.out] at hch; replace hQ7:=hid hQ7; replace hkq2:=hid hkq2; replace hW7:=hid hW7; clear h3 h4 hbq hpa hb6
   go_upto_region 7 with (fail)
   rw [← hW7.out]
   go_wp2_with fail
   with_reducible refine hch.out.mono ?_
   rintro e w8 ⟨hb8,vM,rfl,hM⟩; obtain ⟨Ma,Mc,rfl,-⟩:=hM.slice; have hD8:=hid (hD7.out.trans (hb8.mono hD7.out.size)); have hk8:=hid (an hD8.out hk4.out (ae hk4.out)); clear v0 v1 v2 v3 v4 hch; obtain ⟨hl1,hl2⟩:=uH hC.out; have hnr:=hsq.out.nr; have hsr:=gU L L La Ma Lc Mc _ _ w8 (hL4.out.below bF hD8.out) hM (by omega) (by omega) (fun x hx=>by have:=hl2 x hx; omega) (fun x hx=>by have:=hl2 x hx; omega); rw [zP rfl] at hsr; replace hsr:=hid hsr
   have qX1:(X == 1)=false:=by simpa using hX1.out
   have qXX:(X != X)=false:=by simp
   replace hM:=hid hM; replace hl1:=hid hl1; replace hl2:=hid hl2
   go_wp2_with fail
   with_reducible refine hsr.out.mono ?_
   rintro e w9 ⟨rfl,hb9⟩; have hD9:=hid (hD8.out.trans (hb9.mono hD8.out.size)); have hk9:=hid (an hD9.out hk4.out (ae hk4.out)); obtain ⟨v0,v1,v2,v3,v4,-⟩:=cg hk9.out; have hde:=hid (qG q ra rc aa ac _ w9 (hQ4.out.below hD9.out) hnr); clear hb9 hsr
   go_wp2_with fail
   with_reducible refine hde.out.mono ?_
   rintro e w10 ⟨vN,rfl,hN,hNge,hb10⟩; have hD10:=hid (hD9.out.trans (hb10.mono hD9.out.size)); obtain ⟨names,hnm⟩:∃ names,names=dR q.rules:=⟨_,rfl⟩; have hdl:=qF q.rules; rw [← hnm] at hN hdl; obtain ⟨Na,Nc,rfl,-,-⟩:=bp hN; have hN10:=hid (so_sl hN); replace hnm:=hid hnm; clear v0 v1 v2 v3 v4 hb10 hde hN hNge; have hQ:=hid (fun (W:World) (hW:Below w10.heap.size w10 W)=>hQ4.out.below (hD10.out.trans (hW.mono hD10.out.size))); have hkm:=hid (fun (W:World) (hW:Below w10.heap.size w10 W)=>an (hD10.out.trans (hW.mono hD10.out.size)) hk4.out (ae hk4.out)); have hB0:=hid (zN w10.heap.size w10)
   have hnb:X=0->fA arF q=true:=fun e=>(qK (ar:=arF) (q:=q) (b:=(cI q).isSome) (by rw [← hC.out]; exact e)).2.1
   replace hnb:=hid hnb; obtain ⟨xb,hxb⟩:∃ xb,xb=(X == 0):=⟨_,rfl⟩; replace hxb:=hid hxb
   go_wp2_with fail
   go_loopg [15] q.rules.length (fun f v15 wr=>∃ (i:Nat),v15=iv i/\i+f=q.rules.length/\Hid (Below w10.heap.size w10 wr))
   case atStart=>exact ⟨0,rfl,by omega,hB0⟩
   case round =>
    obtain ⟨i,rfl,hif,hBr⟩:=hrel; clear hB0; obtain ⟨c0,-⟩:=cg (hkm.out wr hBr.out); by_cases hlt:i < q.rules.length
    ·have q1:decide ((i:Int) < (q.rules.length:Int))=true:=zP (by omega)
     have q3:IntKind.i64.wrap ((i:Int)+1)=((i+1:Nat):Int):=by rw [zX]; omega
     by_cases hX:X=0
     ·have qX0:(X == 0)=true:=by simpa using hX
      have hnamed:=hid (hnb.out hX); replace hX:=hid hX; obtain ⟨r,hr⟩:∃ r,q.rules[i]? = some r:=⟨_,zR hlt⟩; have hrB:=hid (hsq.out.bd.1 r (zU hr)); have hbl:=hrB.out.2.1;go_wp2_with fail;clear c0
      go_loopg [16] r.body.length (fun f v16 wx=>∃ (k:Nat),v16=iv k/\k+f=r.body.length/\Hid (Below w10.heap.size w10 wx))
      case atStart=>exact ⟨0,rfl,by omega,hBr⟩
      case round =>
       obtain ⟨k,rfl,hkf,hBx⟩:=hrel; clear hBr; obtain ⟨c0,-⟩:=cg (hkm.out wr hBx.out); obtain ⟨g,o,cs,hidx,-,hg,hc,hrt⟩:=(hQ.out wr hBx.out).rl.at (P:=Tryz.prog) (t:=30) (by kernel_rfl) (fun _=>by kernel_rfl) hr; obtain ⟨ha2,hcap2,ba,bc,rfl,-,hSb⟩:=hrt; obtain ⟨-,-,-,-,-,-,d6⟩:=fW hc; clear hc; by_cases hlk:k < r.body.length
       ·have q5:decide ((k:Int) < (r.body.length:Int))=true:=zP (by omega)
        (have q6:IntKind.i64.wrap ((k:Int)+1)=((k+1:Nat):Int):=by rw [zX]; omega);obtain ⟨x,hx⟩:∃ x,r.body[k]? = some x:=⟨_,zR hlk⟩; have hxB:=hid (hrB.out.2.2 x (zU hx)); obtain ⟨g2,o2,cs2,i2,-,hg2,hc2,hrt2⟩:=hSb.at (P:=Tryz.prog) (t:=25) (by kernel_rfl) (fun _=>by kernel_rfl) hx; obtain ⟨xa,xc,rfl,-⟩:=hrt2; have f0:wr.cell? ⟨g2,o2+0,none⟩=some (iv x.op):=hc2 0 _ rfl; have f1:wr.cell? ⟨g2,o2+1,none⟩=some (.bool x.nt):=hc2 1 _ rfl; have f2:wr.cell? ⟨g2,o2+2,none⟩=some (sv x.rel):=hc2 2 _ rfl; have f3:wr.cell? ⟨g2,o2+3,none⟩=some (.slice xa x.args.length xc):=hc2 3 _ rfl; rw [Nat.add_zero] at f0; have hb5:Below wr.heap.size wr (wr.alloc (.cells (ap x.op x.nt x.rel (.slice xa x.args.length xc)) 24)):=(zN _ wr).alloc (zM _) _;have hk5:=af wr (.cells (ap x.op x.nt x.rel (.slice xa x.args.length xc)) 24); obtain ⟨W5,hW5⟩:∃ W5,W5=wr.alloc (.cells (ap x.op x.nt x.rel (.slice xa x.args.length xc)) 24):=⟨_,rfl⟩; rw [← hW5] at hb5 hk5; have hB5:=hid (hBx.out.trans (hb5.mono hBx.out.size)); obtain ⟨z0,z2,z3⟩:W5.cell? ⟨wr.heap.size,0,none⟩=some (iv x.op)/\W5.cell? ⟨wr.heap.size,2,none⟩=some (sv x.rel)/\W5.cell? ⟨wr.heap.size,3,none⟩=some (.slice xa x.args.length xc):=⟨(aj hk5).trans rfl,(aj hk5).trans rfl,(aj hk5).trans rfl⟩; have har:=hid (i9 x.rel (by have:=hxB.out.1; omega) W5)
        have hat:x.op=0->arF x.rel≠x.args.length->arF x.rel=0/\fh names (List.replicate names.length 0) x.rel=0:=fun h1 h2=>by
         rw [hnm.out]; exact pG hnamed.out (zU hr) (zU hx) h1 h2
        obtain ⟨A,hA⟩:∃ A,A=arF x.rel:=⟨_,rfl⟩; rw [← hA] at har hat; replace hat:=hid hat; replace hA:=hid hA; replace hW5:=hid hW5; replace hk5:=hid hk5; replace hSb:=hid hSb; replace hx:=hid hx; clear hc2 hb5;(go_upto_region 18 with (fail));rw [← hW5.out]; clear c0 d6 f0 f1 f2 f3 i2 hg2 hidx hg;go_wp2_with fail;(with_reducible refine har.out.mono ?_);rintro e w6 ⟨rfl,hb6⟩; have hB6:=hid (hB5.out.trans (hb6.mono hB5.out.size)); have hk6:=hid (an hb6 hk5.out (ae hk5.out)); clear z0 z2 z3 har hb6; obtain ⟨z0,z2,z3⟩:w6.cell? ⟨wr.heap.size,0,none⟩=some (iv x.op)/\w6.cell? ⟨wr.heap.size,2,none⟩=some (sv x.rel)/\w6.cell? ⟨wr.heap.size,3,none⟩=some (.slice xa x.args.length xc):=⟨(aj hk6.out).trans rfl,(aj hk6.out).trans rfl,(aj hk6.out).trans rfl⟩; have hBd:=hid (fun n=>hB6.out.trans ((bG (zN _ w6) n).mono hB6.out.size));(go_upto_region 19 with (fail))
        go_cut [123] from 100 to 123 (fun v wy=>v=.bool false/\Hid (Below w10.heap.size w10 wy))
        case first =>
         by_cases ho:x.op=0
         ·rw [ho] at z0
          by_cases hl:A=x.args.length
          ·have ql:((A:Int) != (x.args.length:Int))=false:=by rw [hl]; simp
           replace hl:=hid hl; replace ho:=hid ho;go_quiet (fail)
           all_goals go_wp2_with fail
           all_goals go_meet
           all_goals exact ⟨rfl,hid (hBd.out _)⟩
          ·obtain ⟨hA0,hnz⟩:=hat.out ho hl
           have ql:((A:Int) != (x.args.length:Int))=true:=by
            rw [bne_iff_ne]; intro e; exact hl (by exact_mod_cast e)
           have qA:decide ((0:Int) < (A:Int))=false:=zO (by omega); have nA:decide (0 < A)=false:=zO (by omega); obtain ⟨nl,hnl⟩:∃ nl,nl=names.length:=⟨_,rfl⟩; have hmk:=wg nl (by omega); have hd8:Below w6.heap.size w6 (w6.alloc (.cells (Array.replicate nl (iv 0)) 3)).drew:=((zN _ w6).alloc (zM _) _).drew;(have kp:∀ (p:Addr) (u:Value),w6.cell? p=some u->(w6.alloc (.cells (Array.replicate nl (iv 0)) 3)).drew.cell? p=some u:=fun p u h=>(hd8.cell (Aj w6 _ h)).trans h);have hB8:=hid (hB6.out.trans (hd8.mono hB6.out.size)); have hnu:=oK names (List.replicate nl 0) x.rel Na (some ⟨w6.heap.size,0,none⟩) Nc nl _ _ _ (hN10.out.below yw hB8.out) (by rw [List.length_replicate]; exact (uZ nl w6).below yx ((zN _ _).drew)) (by omega) (by rw [List.length_replicate]; omega); rw [List.length_replicate] at hnu; rw [← hnl] at hnu hnz ⊢; rw [hnz] at hnu; replace hnl:=hid hnl; replace hnz:=hid hnz; replace hA0:=hid hA0; replace hl:=hid hl; replace ho:=hid ho; replace hd8:=hid hd8; refine wp_region_held_drew (S:=fun w'=>w'.cell? ⟨wr.heap.size,0,none⟩=some (iv 0)/\w'.cell? ⟨wr.heap.size,2,none⟩=some (sv x.rel)/\w'.cell? ⟨wr.heap.size,3,none⟩=some (.slice xa x.args.length xc)) (by kernel_rfl) ?_ (fun hHeld=>?_)
           ·exact ⟨z0,z2,z3⟩
           refine wTk (i:=0) (v:=?_) rfl ?hy ?_
           case hy =>
            intro w hSw
            (try dsimp only at hSw)
            go_simp
            all_goals with_reducible rfl
           (try simp only [Act.put,sI,sZ,sS]);refine wTk (i:=1) (v:=?_) rfl ?hy ?_
           case hy =>
            intro w hSw
            (try dsimp only at hSw)
            go_simp
            all_goals with_reducible rfl
           (try simp only [Act.put,sI,sZ,sS]);refine wTk (i:=2) (v:=?_) rfl ?hy ?_
           case hy =>
            intro w hSw
            (try dsimp only at hSw)
            go_simp
            all_goals with_reducible rfl
           (try simp only [Act.put,sI,sZ,sS]);refine wTk (i:=3) (v:=?_) rfl ?hy ?_
           case hy =>
            intro w hSw
            (try dsimp only at hSw)
            go_simp
            all_goals with_reducible rfl
           (try simp only [Act.put,sI,sZ,sS]);refine wTk (i:=4) (v:=?_) rfl ?hy ?_
           case hy =>
            intro w hSw
            (try dsimp only at hSw)
            go_simp
            all_goals with_reducible rfl
           (try simp only [Act.put,sI,sZ,sS]);refine wTk (i:=5) (v:=?_) rfl ?hy ?_
           case hy =>
            intro w hSw
            (try dsimp only at hSw)
            go_simp
            all_goals with_reducible rfl
           (try simp only [Act.put,sI,sZ,sS]);refine wTk (i:=6) (v:=?_) rfl ?hy ?_
           case hy =>
            intro w hSw
            (try dsimp only at hSw)
            go_simp
            all_goals with_reducible rfl
           (try simp only [Act.put,sI,sZ,sS]);refine wTk (i:=7) (v:=?_) rfl ?hy ?_
           case hy =>
            intro w hSw
            (try dsimp only at hSw)
            go_simp
            all_goals with_reducible rfl
           (try simp only [Act.put,sI,sZ,sS]);refine wTk (i:=8) (v:=?_) rfl ?hy ?_
           case hy =>
            intro w hSw
            (try dsimp only at hSw)
            go_simp
            all_goals with_reducible rfl
           (try simp only [Act.put,sI,sZ,sS]);refine wTk (i:=9) (v:=?_) rfl ?hy ?_
           case hy =>
            intro w hSw
            (try dsimp only at hSw)
            go_simp
            all_goals with_reducible rfl
           (try simp only [Act.put,sI,sZ,sS]);refine wTk (i:=10) (v:=?_) rfl ?hy ?_
           case hy =>
            intro w hSw
            (try dsimp only at hSw)
            go_simp
            all_goals with_reducible rfl
           (try simp only [Act.put,sI,sZ,sS]);refine wTk (i:=11) (v:=?_) rfl ?hy ?_
           case hy =>
            intro w hSw
            (try dsimp only at hSw)
            go_simp
            all_goals with_reducible rfl
           (try simp only [Act.put,sI,sZ,sS]);refine wTk (i:=12) (v:=?_) rfl ?hy ?_
           case hy =>
            intro w hSw
            (try dsimp only at hSw)
            go_simp
            all_goals with_reducible rfl
           (try simp only [Act.put,sI,sZ,sS]);refine wTk (i:=13) (v:=?_) rfl ?hy ?_
           case hy =>
            intro w hSw
            (try dsimp only at hSw)
            go_simp
            all_goals with_reducible rfl
           (try simp only [Act.put,sI,sZ,sS]);refine wTk (i:=14) (v:=?_) rfl ?hy ?_
           case hy =>
            intro w hSw
            (try dsimp only at hSw)
            go_simp
            all_goals with_reducible rfl
           (try simp only [Act.put,sI,sZ,sS]);refine wTk (i:=15) (v:=?_) rfl ?hy ?_
           case hy =>
            intro w hSw
            (try dsimp only at hSw)
            go_simp
            all_goals with_reducible rfl
           (try simp only [Act.put,sI,sZ,sS]);refine wTk (i:=16) (v:=?_) rfl ?hy ?_
           case hy =>
            intro w hSw
            (try dsimp only at hSw)
            go_simp
            all_goals with_reducible rfl
           (try simp only [Act.put,sI,sZ,sS]);refine wTk (i:=18) (v:=?_) rfl ?hy ?_
           case hy =>
            intro w hSw
            (try dsimp only at hSw)
            go_simp
            all_goals with_reducible rfl
           (try simp only [Act.put,sI,sZ,sS]);refine wTk (i:=19) (v:=?_) rfl ?hy ?_
           case hy =>
            intro w hSw
            (try dsimp only at hSw)
            go_simp
            all_goals with_reducible rfl
           (try simp only [Act.put,sI,sZ,sS]);refine wpAnyH_ready (rs:=[17]) (by as_aux_lemma=>kernel_rfl) (by simp) ?_; refine rdY rfl (fun K hK=>?_); go_simp
           skip
           refine hK.out _ _ ?_ (fun hHeld2=>?_)
           ·exact ⟨kp _ _ z0,kp _ _ z2,kp _ _ z3⟩
           clear hK K hHeld; have hHeld:=hHeld2; clear hHeld2;(try simp only [Act.put,sI,sZ,sS]);refine wpAnyH_ready (rs:=[20]) (by as_aux_lemma=>kernel_rfl) (by simp) ?_; refine rdY rfl (fun K hK=>?_); go_simp;go_at_call 23;(with_reducible refine hnu.mono ?_);rintro e w9 ⟨rfl,hw9⟩; subst hw9; refine hK.out _ _ ?_ (fun hHeld2=>?_)
           ·exact ⟨kp _ _ z0,kp _ _ z2,kp _ _ z3⟩
           clear hK K hHeld; have hHeld:=hHeld2; clear hHeld2;(try simp only [Act.put,sI,sZ,sS]);refine wTk (i:=21) (v:=?_) rfl ?hy ?_
           case hy =>
            intro w hSw
            (try dsimp only at hSw)
            go_simp
            all_goals with_reducible rfl
           (try simp only [Act.put,sI,sZ,sS]);refine wTk (i:=22) (v:=?_) rfl ?hy ?_
           case hy =>
            intro w hSw
            (try dsimp only at hSw)
            go_simp
            all_goals with_reducible rfl
           (try simp only [Act.put,sI,sZ,sS]);refine wTk (i:=23) (v:=?_) rfl ?hy ?_
           case hy =>
            intro w hSw
            (try dsimp only at hSw)
            go_simp
            all_goals with_reducible rfl
           (try simp only [Act.put,sI,sZ,sS]);refine wpAnyH_done (by as_aux_lemma=>kernel_rfl) ?_ _; have e:=hnl.out; subst e;go_wp2_with fail;go_meet;exact ⟨rfl,hB8⟩
         ·have qo:(x.op == 0)=false:=by simpa using ho
          replace ho:=hid ho;go_quiet (fail)
          all_goals go_wp2_with fail
          all_goals go_meet
          all_goals exact ⟨rfl,hid (hBd.out _)⟩
        case rest =>
         obtain ⟨rfl,hB7⟩:=hcut; clear z0 z2 z3;go_wp2_with fail
         go_roundg (r.body.length - (k+1))
         case measure=>omega
         case rel=>exact ⟨k+1,rfl,by omega,hB7⟩
       ·have q5:decide ((k:Int) < (r.body.length:Int))=false:=zO (by omega)
        replace hSb:=hid hSb;go_wp2_with fail
        go_roundg (q.rules.length - (i+1))
        case measure=>omega
        case rel=>exact ⟨i+1,rfl,by omega,hBx⟩
     ·have qX0:(X == 0)=false:=by simpa using hX
      replace hX:=hid hX;go_wp2_with fail;go_ret; exact ⟨rfl,hB4.out.trans ((hD10.out.trans (hBr.out.mono hD10.out.size)).mono hB4.out.size)⟩
    ·have q1:decide ((i:Int) < (q.rules.length:Int))=false:=zO (by omega)
     go_wp2_with fail;go_ret; exact ⟨rfl,hB4.out.trans ((hD10.out.trans (hBr.out.mono hD10.out.size)).mono hB4.out.size)⟩
end Go.Proofs.YtffdpoifdahadaaGreatDoor
