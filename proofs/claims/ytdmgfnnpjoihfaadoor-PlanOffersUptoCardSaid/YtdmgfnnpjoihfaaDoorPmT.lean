/- retroactref45.Same of equal plans. -/
import Derived.Test.YtdmgfnnpjoihfaaDoorPmP
set_option linter.unusedVariables false
set_option linter.unusedSimpArgs false
namespace Go.Proofs.YtdmgfnnpjoihfaaDoor
open Go.RowKit
open Go.Lib (hid)
set_option maxHeartbeats 40000000 in
set_option maxRecDepth 100000 in
theorem refSame45 {B C:Nat} {st:List Cmd} {re:List (List UInt8)} {co:Int} {r1 c1 r2 c2:List Int} {vs vr vR vC vs' vr' vR' vC':Value} {w:World} (hp:PlnM B st re co r1 c1 vs vr vR vC w) (hq:PlnM C st re co r2 c2 vs' vr' vR' vC' w) (hl:st.length≤1000) (hr:re.length≤1000) (hv:∀ c∈st,ValsB c.args) :
  Calls Tryd.prog 12 #[.agg #[vs,vr,iv co,vR,vC],.agg #[vs',vr',iv co,vR',vC']] w fun e w'=>e=.returned (.bool true)∧Below w.heap.size w w':=by
 obtain ⟨sa,sc,rfl,-⟩:=hp.s.slice; obtain ⟨ra,rc,rfl,-⟩:=hp.r.slice; obtain ⟨sa',sc',rfl,-⟩:=hq.s.slice; obtain ⟨ra',rc',rfl,-⟩:=hq.r.slice; obtain ⟨n1,hn1⟩:∃ n,n=st.length:=⟨_,rfl⟩; obtain ⟨n2,hn2⟩:∃ n,n=re.length:=⟨_,rfl⟩; have a1:Below w.heap.size w (w.alloc (.cells #[.slice sa n1 sc,.slice ra n2 rc,iv co,vR,vC] 28 (0,0))):=(Below.refl _ w).alloc (Nat.le_refl _) _; have z1:=heap_alloc_new' w (.cells #[.slice sa n1 sc,.slice ra n2 rc,iv co,vR,vC] 28 (0,0)); obtain ⟨W1,hW1⟩:∃ W,W=w.alloc (.cells #[.slice sa n1 sc,.slice ra n2 rc,iv co,vR,vC] 28 (0,0)):=⟨_,rfl⟩; rw [← hW1] at a1 z1
 have a2:Below W1.heap.size W1 (W1.alloc (.cells #[.slice sa' n1 sc',.slice ra' n2 rc',iv co,vR',vC'] 28 (0,0))):=(Below.refl _ W1).alloc (Nat.le_refl _) _; have z2:=heap_alloc_new' W1 (.cells #[.slice sa' n1 sc',.slice ra' n2 rc',iv co,vR',vC'] 28 (0,0))
 have s1:W1.heap.size=w.heap.size+1:=by rw [hW1]; simp
 obtain ⟨W2,hW2⟩:∃ W,W=W1.alloc (.cells #[.slice sa' n1 sc',.slice ra' n2 rc',iv co,vR',vC'] 28 (0,0)):=⟨_,rfl⟩; rw [← hW2] at a2 z2; have z1':=(a2.block w.heap.size (lt_of_heap z1)).trans z1; rw [s1] at z2; have b2:=hid (a1.trans (a2.mono a1.size)); have hps:=hid (hp.s.below goodCmd b2.out); have hqs:=hid (hq.s.below goodCmd b2.out); have hpr:=hid (hp.r.below goodStr b2.out); have hqr:=hid (hq.r.below goodStr b2.out); rw [← hn1] at hps hqs hl ⊢; rw [← hn2] at hpr hqr hr ⊢; have hB0:=hid (Below.refl W2.heap.size W2); obtain ⟨x0,x1,x2,x3,x4⟩:=cells5 z1'; obtain ⟨y0,y1,y2,y3,y4⟩:=cells5 z2; have hlz1:=lt_of_heap z1'; have hlz2:=lt_of_heap z2; replace z1':=hid z1'; replace z2:=hid z2; replace hW1:=hid hW1; replace hW2:=hid hW2; replace hn1:=hid hn1; replace hn2:=hid hn2; replace hv:=hid hv
 have e0:(co == co)=true:=by simp
 clear a1 a2 z1 s1 hp hq
 go_enter Tryd.func12,Tryd.ntmps12
 go_upto_region 1 with (fail)
 rw [← hW1.out,← hW2.out]
 go_wp2_with fail
 go_loopg [5] n1 (fun f v5 wr=>∃ i:Nat,v5=iv i∧i+f=n1∧Hid (Below W2.heap.size W2 wr))
 case atStart=>exact ⟨0,rfl,by omega,hB0⟩
 case round =>
  obtain ⟨i,rfl,hif,hBr⟩:=hrel; clear hB0 x0 x1 x2 x3 x4 y0 y1 y2 y3 y4; obtain ⟨x0,x1,-,-,-⟩:=cells5 ((hBr.out.block w.heap.size hlz1).trans z1'.out); obtain ⟨y0,y1,-,-,-⟩:=cells5 ((hBr.out.block (w.heap.size+1) hlz2).trans z2.out); by_cases hi:i < n1
  ·have q1:decide ((i:Int) < (n1:Int))=true:=decide_eq_true (by omega)
   have q1':decide (i < n1)=true:=decide_eq_true hi; obtain ⟨c,hc⟩:∃ c,st[i]? = some c:=⟨_,List.getElem?_eq_getElem (by rw [← hn1.out]; exact hi)⟩; obtain ⟨g1,o1,cs1,ix1,-,hg1,hc1,hr1⟩:=(hps.out.below goodCmd hBr.out).at (P:=Tryd.prog) (t:=25) (by kernel_rfl) (fun _=>by kernel_rfl) hc; obtain ⟨g2,o2,cs2,ix2,-,hg2,hc2,hr2⟩:=(hqs.out.below goodCmd hBr.out).at (P:=Tryd.prog) (t:=25) (by kernel_rfl) (fun _=>by kernel_rfl) hc; obtain ⟨a5,k5,rfl,v1⟩:=hr1; obtain ⟨a6,k6,rfl,v2⟩:=hr2; have hcv:=hid (hv.out c (List.mem_of_getElem? hc)); obtain ⟨ck,cn,cO,ce,cm,ca⟩:=c; replace v1:ValsR (fun _=>True) wr ca (.slice a5 ca.length k5):=v1; replace v2:ValsR (fun _=>True) wr ca (.slice a6 ca.length k6):=v2; have d0:=hc1 0 _ rfl; have d1:=hc1 1 _ rfl
   have d2:=hc1 2 _ rfl; have d3:=hc1 3 _ rfl; have d4:=hc1 4 _ rfl; have d5:=hc1 5 _ rfl; rw [Nat.add_zero] at d0; have f0:=hc2 0 _ rfl; have f1:=hc2 1 _ rfl; have f2:=hc2 2 _ rfl; have f3:=hc2 3 _ rfl; have f4:=hc2 4 _ rfl; have f5:=hc2 5 _ rfl; rw [Nat.add_zero] at f0; replace d0:wr.cell? ⟨g1,o1,none⟩=some (sv ck):=d0; replace d1:wr.cell? ⟨g1,o1+1,none⟩=some (iv cn):=d1; replace d2:wr.cell? ⟨g1,o1+2,none⟩=some (sv cO):=d2; replace d3:wr.cell? ⟨g1,o1+3,none⟩=some (sv ce):=d3; replace d4:wr.cell? ⟨g1,o1+4,none⟩=some (sv cm):=d4; replace d5:wr.cell? ⟨g1,o1+5,none⟩=some (.slice a5 ca.length k5):=d5; replace f0:wr.cell? ⟨g2,o2,none⟩=some (sv ck):=f0; replace f1:wr.cell? ⟨g2,o2+1,none⟩=some (iv cn):=f1
   replace f2:wr.cell? ⟨g2,o2+2,none⟩=some (sv cO):=f2; replace f3:wr.cell? ⟨g2,o2+3,none⟩=some (sv ce):=f3; replace f4:wr.cell? ⟨g2,o2+4,none⟩=some (sv cm):=f4; replace f5:wr.cell? ⟨g2,o2+5,none⟩=some (.slice a6 ca.length k6):=f5; have hlx:w.heap.size < wr.heap.size:=Nat.lt_of_lt_of_le hlz1 hBr.out.size; have hly:w.heap.size+1 < wr.heap.size:=Nat.lt_of_lt_of_le hlz2 hBr.out.size
   have p0:(ck == ck)=true:=by simp
   have p1:(cn == cn)=true:=by simp
   have p2:(cO == cO)=true:=by simp
   have p3:(ce == ce)=true:=by simp
   have p4:(cm == cm)=true:=by simp
   have hsm:∀ W,Below wr.heap.size wr W→Calls Tryd.prog 28 #[.slice a5 ca.length k5,.slice a6 ca.length k6] W fun e w'=>e=.returned (.bool true)∧Below W.heap.size W w':=fun W hW=>by
    have:=rSame_any ca ca hcv.out hcv.out _ _ _ _ W (v1.below goodVal hW) (v2.below goodVal hW); rw [dec_true rfl] at this; exact this
   replace hsm:=hid hsm; replace v1:=hid v1; replace v2:=hid v2; replace hc:=hid hc; clear hc1 hc2
   go_wp2_with fail
   have ha2:∀ x y,Below wr.heap.size wr ((wr.alloc x).alloc y):=fun x y=>((Below.refl _ wr).alloc (Nat.le_refl _) x).alloc (by simp) y
   refine (hsm.out _ (ha2 _ _)).mono ?_; rintro e w5 ⟨rfl,hb5⟩; have hB5:=hid (hBr.out.trans (((ha2 _ _).trans (hb5.mono (by simp <;> omega))).mono hBr.out.size)); clear hsm hb5 ha2
   go_wp2_with fail
   go_roundg (n1 - (i+1))
   case measure=>omega
   case rel=>exact ⟨i+1,by go_num,by omega,hB5⟩
  ·have q1:decide ((i:Int) < (n1:Int))=false:=decide_eq_false (by omega)
   have q1':decide (i < n1)=false:=decide_eq_false hi
   go_wp2_with fail
   go_loopg [8] n2 (fun f v8 wr=>∃ i:Nat,v8=iv i∧i+f=n2∧Hid (Below W2.heap.size W2 wr))
   case atStart=>exact ⟨0,rfl,by omega,hBr⟩
   case round =>
    obtain ⟨j,rfl,hjf,hBs⟩:=hrel; clear hBr x0 x1 y0 y1; obtain ⟨x0,x1,-,-,-⟩:=cells5 ((hBs.out.block w.heap.size hlz1).trans z1'.out); obtain ⟨y0,y1,-,-,-⟩:=cells5 ((hBs.out.block (w.heap.size+1) hlz2).trans z2.out); by_cases hj:j < n2
    ·have q2:decide ((j:Int) < (n2:Int))=true:=decide_eq_true (by omega)
     have q2':decide (j < n2)=true:=decide_eq_true hj; obtain ⟨s,hs⟩:∃ s,re[j]? = some s:=⟨_,List.getElem?_eq_getElem (by rw [← hn2.out]; exact hj)⟩; obtain ⟨g1,o1,cs1,ix1,-,-,hc1,hr1⟩:=(hpr.out.below goodStr hBs.out).at (P:=Tryd.prog) (t:=24) (by kernel_rfl) (fun _=>by kernel_rfl) hs; obtain ⟨g2,o2,cs2,ix2,-,-,hc2,hr2⟩:=(hqr.out.below goodStr hBs.out).at (P:=Tryd.prog) (t:=24) (by kernel_rfl) (fun _=>by kernel_rfl) hs; have e1:cs1=[sv s]:=hr1; have e2:cs2=[sv s]:=hr2; subst e1 e2; have d0:=hc1 0 _ rfl; rw [Nat.add_zero] at d0; replace d0:wr.cell? ⟨g1,o1,none⟩=some (sv s):=d0; have f0:=hc2 0 _ rfl; rw [Nat.add_zero] at f0; replace f0:wr.cell? ⟨g2,o2,none⟩=some (sv s):=f0
     have p0:(s == s)=true:=by simp
     have hBd:=hid (hBs.out.drew); replace hs:=hid hs; clear hc1 hc2 hr1 hr2
     go_upto_region 13 with (fail)
     go_region
     go_wp2_with fail
     go_roundg (n2 - (j+1))
     case measure=>omega
     case rel=>exact ⟨j+1,by go_num,by omega,hBd⟩
    ·have q2:decide ((j:Int) < (n2:Int))=false:=decide_eq_false (by omega)
     have q2':decide (j < n2)=false:=decide_eq_false hj; have bR:=hid (b2.out.trans (hBs.out.mono b2.out.size))
     go_wp2_with fail
     go_ret; exact ⟨rfl,bR.out⟩
end Go.Proofs.YtdmgfnnpjoihfaaDoor
