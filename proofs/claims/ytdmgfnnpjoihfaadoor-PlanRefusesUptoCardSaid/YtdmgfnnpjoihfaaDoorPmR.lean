/- retroactlaw45.PlanRefuses, walked. -/
import Derived.Test.YtdmgfnnpjoihfaaDoorPmP
import Derived.Test.YtdmgfnnpjoihfaaDoorPlZ
set_option linter.unusedVariables false
set_option linter.unusedSimpArgs false
namespace Go.Proofs.YtdmgfnnpjoihfaaDoor
open Go.RowKit
open Go.Lib (hid)
theorem made_free {l:List Offer} {undo «do»:List Out} {clock turn:Int} {rf:List (List UInt8)} {p:P4} (hM:MadeB l undo «do» clock turn rf p):∀ c∈p.st,c.key ∉ rf :=
 plan_free hM.ok (best_to (stlF_b hM.ok)) hM.pl
theorem cheapO_refl (o:Option Offer):CheapO o o:=by
 cases o with
 | none=>trivial
 | some o=>exact Cheaper.refl o
theorem made_more {l:List Offer} {undo «do»:List Out} {clock turn:Int} {rf more:List (List UInt8)} {p q:P4} (hM:MadeB l undo «do» clock turn rf p) (hQ:MadeB l undo «do» clock turn more q) (hs:∀ s∈rf,s∈more):pWl p.st p.re p.co≤pWl q.st q.re q.co:=by
 rw [hM.w,hQ.w]; exact best_lighter (stlF_b hM.ok) (stlF_b hM.ok) (stlF_lighter hM.ok.1 hM.ok.1 hs fun n=>cheapO_refl _)
theorem run1_all {P:Cmd→Prop} {x:Stl} (h:∀ k u d,P (cmdF x.turn k u d)) (pick:List Int) (dr:List Opt):∀ i,(∀ c∈(run1 x pick dr i).st,P c)∧∀ c∈(run1 x pick dr i).un,P c
 | 0=>⟨fun c hc=>(by cases hc),fun c hc=>(by cases hc)⟩
 | i+1=>by
  obtain ⟨h1,h2⟩:=run1_all h pick dr i; show (∀ c∈(p1 x pick i ((dr[i]?).getD opt0) (run1 x pick dr i)).st,P c)∧∀ c∈(p1 x pick i ((dr[i]?).getD opt0) (run1 x pick dr i)).un,P c; unfold p1; split
  ·exact ⟨h1,h2⟩
  ·split
   ·refine ⟨fun c hc=>?_,h2⟩
    rcases List.mem_append.1 hc with hc | hc
    ·exact h1 c hc
    ·rw [List.mem_singleton] at hc; subst hc; exact h _ _ _
   ·refine ⟨h1,fun c hc=>?_⟩
    rcases List.mem_append.1 hc with hc | hc
    ·exact h2 c hc
    ·rw [List.mem_singleton] at hc; subst hc; exact h _ _ _
theorem run2_all {P:Cmd→Prop} {x:Stl} (h:∀ k u d,P (cmdF x.turn k u d)) (tk:Nat→Bool) (p:P4) (h1:∀ c∈p.st,P c) (h2:∀ c∈p.un,P c):∀ j,∀ c∈(run2 x tk p j).st,P c
 | 0,c,hc=>by
  rcases List.mem_append.1 hc with hc | hc
  ·exact h1 c hc
  ·exact h2 c hc
 | j+1,c,hc=>by
  have ih:=run2_all h tk p h1 h2 j; replace hc:c∈(p2 x tk j ((x.give[j]?).getD opt0) (run2 x tk p j)).st:=hc; unfold p2 at hc; split at hc
  ·exact ih c hc
  ·split at hc
   ·exact ih c hc
   ·rcases List.mem_append.1 hc with hc | hc
    ·exact ih c hc
    ·rw [List.mem_singleton] at hc; subst hc; exact h _ _ _
theorem plan_all {P:Cmd→Prop} {x:Stl} {pick:List Int} {p:P4} (h:∀ k u d,P (cmdF x.turn k u d)) (hp:planF x pick=some p):∀ c∈p.st,P c:=by
 unfold planF at hp
 cases e:optionsF x pick with
 | none=>rw [e] at hp; cases hp
 | some s =>
  rw [e] at hp; injection hp with hp; obtain ⟨h1,h2⟩:=run1_all h pick s.1 x.undo.length; rw [← hp]; exact run2_all h _ _ h1 h2 _
theorem strs_row {l:List (List UInt8)} {S:Foot} {w:World} {v:Value} (h:SlR 1 StrR S w l v):Row w.heap.size w 1 v l.length (l.map sv):=by
 obtain ⟨a,c,g,o,cs,hv,-,hp,hc,hr⟩:=h; refine ⟨a,c,g,o,hv,by simp,fun h0=>⟨(hp h0).1,(hp h0).2.2⟩,fun j hj=>?_⟩
 have hj':j < l.length:=by simpa using hj
 have h1:=hr j _ (List.getElem?_eq_getElem hj'); have h2:=hc j hj' 0 (sv l[j]) (by rw [show cs j=[sv l[j]] from h1]; rfl); rw [Nat.mul_one,Nat.add_zero] at h2; rw [h2,List.getElem_map]
/-- append([]string{key}, refused...) -/
theorem more45 {W:World} {K:List UInt8} {rf:List (List UInt8)} {vr:Value} (hr:SlR 1 StrR (fun _=>True) W rf vr) (hl:rf.length≤1000) (ty:TypeId) :
  ∃ v' w',AppRun Tryd.prog 24 24 ty (.slice (some ⟨W.heap.size,0,none⟩) 1 1) vr v' (W.alloc (.cells #[sv K] 9 (0,0))) w'∧SlR 1 StrR (fun _=>True) w' (K::rf) v'∧Below W.heap.size W w':=by
 obtain ⟨i0,hi,hz0,hz1,hz2⟩:=info_parts infoStrP; have hb:Below W.heap.size W (W.alloc (.cells #[sv K] 9 (0,0))):=(Below.refl _ _).alloc (Nat.le_refl _) _; have hz:=heap_alloc_new' W (.cells #[sv K] 9 (0,0))
 have hown:OwnR 9 1 StrR (from_ W.heap.size) (W.alloc (.cells #[sv K] 9 (0,0))) [K] (.slice (some ⟨W.heap.size,0,none⟩) 1 1):=by
  refine ⟨[sv K],⟨rfl,Or.inr ⟨W.heap.size,1,#[sv K],rfl,Nat.zero_le _,hz,Nat.le_refl _,by unfold maxLen; decide,rfl,rfl⟩⟩,fun k hk=>?_,fun i x hx=>?_⟩
  ·injection hk with hk; subst hk; exact Nat.le_refl _
  ·match i,hx with
   | 0,hx=>simp at hx; subst hx; exact ⟨[sv K],fun j u hu=>by simpa using hu,rfl⟩
   | i+1,hx=>simp at hx
 have hr5:=strs_row (hr.below goodStr hb)
 obtain ⟨v',w',h1,h2,h3⟩:=OwnR.appendN (t:=24) (ty:=ty) (m:=rf) goodStr (by kernel_rfl) hi hz0 hz1 hz2 rfl (by decide) hown hr5 (fun u hu=>by obtain ⟨s,-,rfl⟩:=List.mem_map.1 hu; rfl) (fun n y hy=>⟨[sv y],fun j u hu=>by
   match j,hu with
   | 0,hu=>simp at hu; subst hu; rw [Nat.mul_one,Nat.add_zero,List.getElem?_map,hy]; rfl
   | j+1,hu=>simp at hu,rfl⟩) (by unfold maxLen; simp; omega) (by simp; omega) (fun k hk=>Nat.le_trans hb.size hk)
 exact ⟨v',w',h1,(h2.sl goodStr).mono goodStr fun _ _ _=>trivial,hb.trans (h3.to_below hb.size fun q hq hF=>absurd hF (by show ¬ W.heap.size≤q; omega))⟩
set_option maxHeartbeats 40000000 in
set_option maxRecDepth 100000 in
theorem PlanRefuses_walk (l:List Offer) (undo «do»:List Out) (clock turn:Int) (rf:List (List UInt8)) (wh:Nat) (hwh:wh < 256) (vl vu vd vr:Value) (w:World) (h:LI0 l undo «do» rf vl vu vd vr w) :
  Calls Tryd.prog 4 #[vl,vu,vd,iv clock,iv turn,vr,.int .u8 wh] w fun e w'=>e=.returned (.bool true)∧Below w.heap.size w w':=by
 obtain ⟨ua,uc,hvu,-⟩:=h.pin.ur.slice; obtain ⟨da,dc,hvd,-⟩:=h.pin.dr.slice; obtain ⟨la,lc,hvl,-⟩:=h.pin.lr.slice; obtain ⟨ra,rc,hvr,-⟩:=h.pin.rr.slice; subst hvu hvd hvl hvr; have hsm:=hid (small_any w (hid h.pin.tb)); replace h:=hid h
 go_enter Tryd.func4,Tryd.ntmps4
 go_wp2_with fail
 refine hsm.out.mono ?_; rintro e w1 ⟨rfl,hb1⟩; have h1:=h.out.below hb1; have b1:=hid hb1; have hfw:=hid (few45_any _ l undo «do» rf _ _ _ _ w1 h1.pin h1.u h1.d); replace h1:=hid h1; clear hsm hb1 h
 go_wp2_with fail
 refine hfw.out.mono ?_; rintro e w2 ⟨bf,rfl,hbf,hb2⟩; have h2:=hid (h1.out.below hb2); have b2:=hid (b1.out.trans (hb2.mono b1.out.size)); clear hfw hb2 h1 b1
 cases bf with
 | false =>
  replace hbf:=hid hbf
  go_wp2_with fail
  go_ret; exact ⟨rfl,b2.out⟩
 | true =>
  have hfew:=hid (hbf rfl); replace h2:=hid (h2.out.full hfew.out); clear hbf; have hmk:=makeL h2.out hfew.out clock turn; have hrl:=hfew.out.r
  obtain ⟨E,hE⟩:∃ E,E=prepE l undo «do»:=⟨_,rfl⟩
  rw [← hE] at hmk; replace hmk:=hid hmk; replace hE:=hid hE
  go_wp2_with fail
  refine hmk.out.mono ?_; rintro e w3 ⟨hb3,(⟨hne,rfl⟩ | ⟨hE0,q,qa,qc,rb,rd,Rb,Rd,Cb,Cd,hM,rfl,hQ⟩)⟩
  ·have q4:(E == 0)=false:=by simpa using hne
   have hb4:Below w3.heap.size w3 (w3.alloc (.cells #[.slice none 0 0,.slice none 0 0,iv 0,.slice none 0 0,.slice none 0 0] 28 (0,0))):=(Below.refl _ w3).alloc (Nat.le_refl _) _; have b4:=hid (b2.out.trans ((hb3.trans (hb4.mono hb3.size)).mono b2.out.size)); have r4:=heap_alloc_new' w3 (.cells #[.slice none 0 0,.slice none 0 0,iv 0,.slice none 0 0,.slice none 0 0] 28 (0,0)); obtain ⟨W4,hW4⟩:∃ W,W=w3.alloc (.cells #[.slice none 0 0,.slice none 0 0,iv 0,.slice none 0 0,.slice none 0 0] 28 (0,0)):=⟨_,rfl⟩; obtain ⟨B4,hB4⟩:∃ B,B=w3.heap.size:=⟨_,rfl⟩; rw [← hW4] at b4 r4; rw [← hB4] at r4; obtain ⟨x0,-⟩:=cells5 r4; replace hne:=hid hne; replace hW4:=hid hW4; replace hB4:=hid hB4; replace r4:=hid r4; clear hb4 hb3 hmk
   go_upto_region 5 with (fail)
   rw [← hW4.out,← hB4.out]
   go_wp2_with fail
   go_loopg [18] 0 (fun f v18 wr=>v18=iv 0∧wr=W4)
   case atStart=>exact ⟨rfl,rfl⟩
   case round =>
    obtain ⟨rfl,rfl⟩:=hrel
    go_wp2_with fail
    go_ret; exact ⟨rfl,b4.out⟩
  ·subst hE0
   obtain ⟨qst,qre,qco,qun⟩:=q
   dsimp only at hQ ⊢
   have hb4:Below w3.heap.size w3 (w3.alloc (.cells #[.slice qa qst.length qc,.slice rb qre.length rd,iv qco,.slice Rb (undo.length+«do».length) Rd,.slice Cb (undo.length+«do».length) Cd] 28 (0,0))):=(Below.refl _ w3).alloc (Nat.le_refl _) _; have k4:=hb3.trans (hb4.mono hb3.size); obtain ⟨W4,hW4⟩:∃ W,W=w3.alloc (.cells #[.slice qa qst.length qc,.slice rb qre.length rd,iv qco,.slice Rb (undo.length+«do».length) Rd,.slice Cb (undo.length+«do».length) Cd] 28 (0,0)):=⟨_,rfl⟩; obtain ⟨B4,hB4⟩:∃ B,B=w3.heap.size:=⟨_,rfl⟩; rw [← hW4] at hQ hb4 k4; rw [← hB4] at hQ; have hfr:=hid (fun c (hc:c∈qst)=>made_free hM c hc); have hl1:qst.length≤15:=hM.st; have h4:=hid (h2.out.below k4); have b4:=hid (b2.out.trans (k4.mono b2.out.size)); obtain ⟨z0,-⟩:=cells5 hQ.blk
   have hB0:=hid (Below.refl W4.heap.size W4); replace hQ:=hid hQ; replace hM:=hid hM; replace hW4:=hid hW4; replace hB4:=hid hB4; clear hb4 k4 hb3 hmk h2 b2
   go_upto_region 5 with (fail)
   rw [← hW4.out,← hB4.out]
   go_wp2_with fail
   go_loopg [18] qst.length (fun f v18 wr=>∃ i:Nat,v18=iv i∧i+f=qst.length∧Hid (Below W4.heap.size W4 wr))
   case atStart=>exact ⟨0,rfl,by omega,hB0⟩
   case round =>
    obtain ⟨i,rfl,hif,hBr⟩:=hrel; clear hB0 z0; have hQr:=hQ.out.below hBr.out; obtain ⟨z0,-⟩:=cells5 hQr.blk; by_cases hi:i < qst.length
    ·have q1:decide ((i:Int) < (qst.length:Int))=true:=decide_eq_true (by omega)
     have q1':decide (i < qst.length)=true:=decide_eq_true hi; replace hQr:=hid hQr
     go_wp2_with fail
     go_loopg [19] rf.length (fun f v19 wr=>∃ k:Nat,v19=iv k∧k+f=rf.length∧Hid (Below W4.heap.size W4 wr))
     case atStart=>exact ⟨0,rfl,by omega,hBr⟩
     case round =>
      obtain ⟨k,rfl,hkf,hBs⟩:=hrel; clear hBr hQr z0; have hQr:=hQ.out.below hBs.out; obtain ⟨z0,-⟩:=cells5 hQr.blk; by_cases hk:k < rf.length
      ·have q2:decide ((k:Int) < (rf.length:Int))=true:=decide_eq_true (by omega)
       have q2':decide (k < rf.length)=true:=decide_eq_true hk; obtain ⟨c,hc⟩:∃ c,qst[i]? = some c:=⟨_,List.getElem?_eq_getElem hi⟩; obtain ⟨s,hs⟩:∃ s,rf[k]? = some s:=⟨_,List.getElem?_eq_getElem hk⟩; obtain ⟨g1,o1,cs1,ix1,-,-,hc1,hr1⟩:=hQr.s.at (P:=Tryd.prog) (t:=25) (by kernel_rfl) (fun _=>by kernel_rfl) hc; obtain ⟨a5,k5,rfl,-⟩:=hr1; obtain ⟨g2,o2,cs2,ix2,-,-,hc2,hr2⟩:=(h4.out.below hBs.out).pin.rr.at (P:=Tryd.prog) (t:=24) (by kernel_rfl) (fun _=>by kernel_rfl) hs; have e2:cs2=[sv s]:=hr2; subst e2
       have hne:(c.key == s)=false:=by
        have:=hfr.out c (List.mem_of_getElem? hc); rw [beq_eq_false_iff_ne]; intro e; exact this (e ▸ List.mem_of_getElem? hs)
       obtain ⟨ck,cn,co,ce,cm,ca⟩:=c; have d0:=hc1 0 _ rfl; rw [Nat.add_zero] at d0; replace d0:wr.cell? ⟨g1,o1,none⟩=some (sv ck):=d0; have e0:=hc2 0 _ rfl; rw [Nat.add_zero] at e0; replace e0:wr.cell? ⟨g2,o2,none⟩=some (sv s):=e0; replace hne:(ck == s)=false:=hne; replace hQr:=hid hQr; clear hc1 hc2 hr2 hc hs; have hBd:=hid (hBs.out.drew)
       go_upto_region 11 with (fail)
       go_region
       go_wp2_with fail
       go_roundg (rf.length - (k+1))
       case measure=>omega
       case rel=>exact ⟨k+1,by go_num,by omega,hBd⟩
      ·have q2:decide ((k:Int) < (rf.length:Int))=false:=decide_eq_false (by omega)
       have q2':decide (k < rf.length)=false:=decide_eq_false hk; replace hQr:=hid hQr
       go_wp2_with fail
       go_roundg (qst.length - (i+1))
       case measure=>omega
       case rel=>exact ⟨i+1,by go_num,by omega,hBs⟩
    ·have q1:decide ((i:Int) < (qst.length:Int))=false:=decide_eq_false (by omega)
     have q1':decide (i < qst.length)=false:=decide_eq_false hi; by_cases hq0:qst.length=0
     ·have q6:((qst.length:Int) == 0)=true:=by rw [beq_iff_eq]; omega
      have bR:=hid (b4.out.trans (hBr.out.mono b4.out.size)); replace hQr:=hid hQr
      go_wp2_with fail
      go_ret; exact ⟨rfl,bR.out⟩
     ·have q6:((qst.length:Int) == 0)=false:=by rw [beq_eq_false_iff_ne]; omega
      obtain ⟨r,hr⟩:∃ r,r=wh % qst.length:=⟨_,rfl⟩
      have hrl':r < qst.length:=by rw [hr]; exact Nat.mod_lt _ (by omega)
      have hrm:Int.tmod (wh:Int) (qst.length:Int)=(r:Int):=by rw [hr]; rfl
      have hwr:IntKind.i64.wrap (wh:Int)=(wh:Int):=by rw [IntKind.wrap_i64]; omega
      obtain ⟨c,hc⟩:∃ c,qst[r]? = some c:=⟨_,List.getElem?_eq_getElem hrl'⟩; obtain ⟨g1,o1,cs1,ix1,-,-,hc1,hr1⟩:=hQr.s.at (P:=Tryd.prog) (t:=25) (by kernel_rfl) (fun _=>by kernel_rfl) hc; obtain ⟨a5,k5,rfl,-⟩:=hr1; obtain ⟨ck,cn,co,ce,cm,ca⟩:=c; have d0:=hc1 0 _ rfl; rw [Nat.add_zero] at d0; replace d0:wr.cell? ⟨g1,o1,none⟩=some (sv ck):=d0; replace hQr:=hid hQr; replace hr:=hid hr; replace hc:=hid hc; clear hc1
      go_upto_region 15 with (fail)
      go_region
      have bV:Below W4.heap.size W4 wr.drew:=hBr.out.drew; obtain ⟨V,hV⟩:∃ V,V=wr.drew:=⟨_,rfl⟩; rw [← hV] at bV; rw [← hV]; have hckl:ck.length=65:=plan_all (P:=fun c=>c.key.length=65) (fun k u d=>keyF_len _ _ _ _) hM.out.pl _ (List.mem_of_getElem? hc.out); have h5:=h4.out.below bV; have hQ5:=hQ.out.below bV; obtain ⟨v6,w6,hap,hsl6,hb6⟩:=more45 (K:=ck) h5.pin.rr (by omega) 24; obtain ⟨ar6,cr6,rfl,-⟩:=hsl6.slice
      have h6:LIn l undo «do» (ck::rf) (.slice la l.length lc) (.slice ua undo.length uc) (.slice da «do».length dc) (.slice ar6 (ck::rf).length cr6) w6:=by
       have hh:=h5.below hb6
       exact ⟨⟨hh.pin.l1,hh.pin.l2,hh.pin.lr,hh.pin.u1,hh.pin.u2,hh.pin.ur,hh.pin.d1,hh.pin.d2,hh.pin.dr,by simp; omega,fun s hs=>by
        rcases List.mem_cons.1 hs with rfl | hs
        ·omega
        ·exact hh.pin.r2 s hs,hsl6,hh.pin.tb⟩,hh.u,hh.d⟩
      have hmk:=makeL h6 hfew.out clock turn; rw [← hE.out] at hmk; have hQ6:=hid (hQ5.below hb6); have b6:=hid (b4.out.trans ((bV.trans (hb6.mono bV.size)).mono b4.out.size)); obtain ⟨nm,hnm⟩:∃ n,n=(ck::rf).length:=⟨_,rfl⟩; rw [← hnm] at hap hmk; replace hap:=hid hap; replace hmk:=hid hmk; replace hnm:=hid hnm; replace h6:=hid h6; replace hV:=hid hV; replace hckl:=hid hckl; clear bV h5 hQ5 hsl6 hb6 d0 ix1 hQr hBr z0 h4 b4 hrm hwr q6 q1 q1'
      go_wp2_with (first | (at_builtin; refine wpList_append_shut rfl (.tmp 88) (.tmp 89) rfl rfl rfl hap.out ?_))
      refine hmk.out.mono ?_; rintro e w7 ⟨hb7,(⟨hne,rfl⟩ | ⟨-,q2,qa2,qc2,rb2,rd2,Rb2,Rd2,Cb2,Cd2,hM2,rfl,hR2⟩)⟩
      ·exact absurd rfl hne
      obtain ⟨qst2,qre2,qco2,qun2⟩:=q2
      dsimp only at hR2 ⊢
      have hb8:Below w7.heap.size w7 (w7.alloc (.cells #[.slice qa2 qst2.length qc2,.slice rb2 qre2.length rd2,iv qco2,.slice Rb2 (undo.length+«do».length) Rd2,.slice Cb2 (undo.length+«do».length) Cd2] 28 (0,0))):=(Below.refl _ w7).alloc (Nat.le_refl _) _; have k8:=hb7.trans (hb8.mono hb7.size); obtain ⟨W8,hW8⟩:∃ W,W=w7.alloc (.cells #[.slice qa2 qst2.length qc2,.slice rb2 qre2.length rd2,iv qco2,.slice Rb2 (undo.length+«do».length) Rd2,.slice Cb2 (undo.length+«do».length) Cd2] 28 (0,0)):=⟨_,rfl⟩; obtain ⟨B8,hB8⟩:∃ B,B=w7.heap.size:=⟨_,rfl⟩; rw [← hW8] at hR2 hb8 k8; rw [← hB8] at hR2; have hfr2:=hid (fun c (hc:c∈qst2)=>made_free hM2 c hc); have hl2:qst2.length≤15:=hM2.st; have hge:=made_more hM.out hM2 (fun s hs=>List.mem_cons_of_mem ck hs)
      dsimp only at hge
      have hQ8:=hid (hQ6.out.below k8); have b8:=hid (b6.out.trans (k8.mono b6.out.size)); obtain ⟨z0,-⟩:=cells5 hR2.blk; have hB0:=hid (Below.refl W8.heap.size W8); replace hR2:=hid hR2; replace hM2:=hid hM2; replace hW8:=hid hW8; replace hB8:=hid hB8; replace hge:=hid hge; clear hb8 k8 hb7 hmk hap hQ6 b6
      go_upto_region 18 with (fail)
      rw [← hW8.out,← hB8.out]
      go_wp2_with fail
      go_loopg [24] qst2.length (fun f v24 wr=>∃ i:Nat,v24=iv i∧i+f=qst2.length∧Hid (Below W8.heap.size W8 wr))
      case atStart=>exact ⟨0,rfl,by omega,hB0⟩
      case round =>
       obtain ⟨j,rfl,hjf,hBr⟩:=hrel; clear hB0 z0; have hRr:=hR2.out.below hBr.out; have zR:=cells5 hRr.blk; obtain ⟨z0,-⟩:=id zR; by_cases hj:j < qst2.length
       ·have q1:decide ((j:Int) < (qst2.length:Int))=true:=decide_eq_true (by omega)
        have q1':decide (j < qst2.length)=true:=decide_eq_true hj; obtain ⟨c,hc⟩:∃ c,qst2[j]? = some c:=⟨_,List.getElem?_eq_getElem hj⟩; obtain ⟨g1,o1,cs1,ix1,-,-,hc1,hr1⟩:=hRr.s.at (P:=Tryd.prog) (t:=25) (by kernel_rfl) (fun _=>by kernel_rfl) hc; obtain ⟨a5,k5,rfl,-⟩:=hr1
        have hne:(c.key == ck)=false:=by
         have:=hfr2.out c (List.mem_of_getElem? hc); rw [beq_eq_false_iff_ne]; intro e; exact this (e ▸ List.mem_cons_self ..)
        obtain ⟨ck2,cn2,co2,ce2,cm2,ca2⟩:=c; have d0:=hc1 0 _ rfl; rw [Nat.add_zero] at d0; replace d0:wr.cell? ⟨g1,o1,none⟩=some (sv ck2):=d0; replace hne:(ck2 == ck)=false:=hne; replace hRr:=hid hRr; replace hc:=hid hc; clear hc1 zR
        go_wp2_with fail
        go_roundg (qst2.length - (j+1))
        case measure=>omega
        case rel=>exact ⟨j+1,by go_num,by omega,hBr⟩
       ·have q1:decide ((j:Int) < (qst2.length:Int))=false:=decide_eq_false (by omega)
        have q1':decide (j < qst2.length)=false:=decide_eq_false hj; have hQr:=hQ8.out.below hBr.out; have zQ:=cells5 hQr.blk; have k0:=And.intro zR zQ; obtain ⟨V1,hV1⟩:∃ V,V=pWl qst qre qco:=⟨_,rfl⟩; obtain ⟨V2,hV2⟩:∃ V,V=pWl qst2 qre2 qco2:=⟨_,rfl⟩; have hge':=hge.out; rw [← hV1,← hV2] at hge'; have q5:decide (V1≤V2)=true:=decide_eq_true hge'; have hw1:=hid (fun vl vu W (hW:Below wr.heap.size wr W)=>weightM (vl:=vl) (vu:=vu) (hQr.below hW) (by omega) (by have:=hM.out.re; show qre.length≤1000; have e:qre.length≤10:=this; omega) hM.out.c0 (by have:=hM.out.c1; show qco≤_; have e:qco≤10485760:=this; omega))
        have hw2:=hid (fun vl vu W (hW:Below wr.heap.size wr W)=>weightM (vl:=vl) (vu:=vu) (hRr.below hW) (by omega) (by have:=hM2.out.re; show qre2.length≤1000; have e:qre2.length≤10:=this; omega) hM2.out.c0 (by have:=hM2.out.c1; show qco2≤_; have e:qco2≤10485760:=this; omega)); rw [← hV1] at hw1; rw [← hV2] at hw2; replace hV1:=hid hV1; replace hV2:=hid hV2; have bR:=hid (b8.out.trans (hBr.out.mono b8.out.size)); replace hQr:=hid hQr; replace hRr:=hid hRr; clear zR zQ z0 hge'
        go_upto_region 23 with (fail)
        refine wp_region_held_drew (S:=fun w'=>(w'.cell? ⟨B8,0,none⟩=some (.slice qa2 qst2.length qc2)∧w'.cell? ⟨B8,1,none⟩=some (.slice rb2 qre2.length rd2)∧w'.cell? ⟨B8,2,none⟩=some (iv qco2)∧w'.cell? ⟨B8,3,none⟩=some (.slice Rb2 (undo.length+«do».length) Rd2)∧w'.cell? ⟨B8,4,none⟩=some (.slice Cb2 (undo.length+«do».length) Cd2))∧w'.cell? ⟨B4,0,none⟩=some (.slice qa qst.length qc)∧w'.cell? ⟨B4,1,none⟩=some (.slice rb qre.length rd)∧w'.cell? ⟨B4,2,none⟩=some (iv qco)∧w'.cell? ⟨B4,3,none⟩=some (.slice Rb (undo.length+«do».length) Rd)∧w'.cell? ⟨B4,4,none⟩=some (.slice Cb (undo.length+«do».length) Cd)) (by kernel_rfl) ?_ (fun hHeld=>?_)
        ·exact k0
        refine wTk (i:=0) (v:=?_) rfl ?hy ?_
        case hy =>
         intro w hSw
         (try dsimp only at hSw)
         go_simp
         all_goals with_reducible rfl
        try simp only [Act.put,sI,sZ,sS]
        refine wTk (i:=1) (v:=?_) rfl ?hy ?_
        case hy =>
         intro w hSw
         (try dsimp only at hSw)
         go_simp
         all_goals with_reducible rfl
        try simp only [Act.put,sI,sZ,sS]
        refine wTk (i:=2) (v:=?_) rfl ?hy ?_
        case hy =>
         intro w hSw
         (try dsimp only at hSw)
         go_simp
         all_goals with_reducible rfl
        try simp only [Act.put,sI,sZ,sS]
        refine wTk (i:=3) (v:=?_) rfl ?hy ?_
        case hy =>
         intro w hSw
         (try dsimp only at hSw)
         go_simp
         all_goals with_reducible rfl
        try simp only [Act.put,sI,sZ,sS]
        refine wTk (i:=4) (v:=?_) rfl ?hy ?_
        case hy =>
         intro w hSw
         (try dsimp only at hSw)
         go_simp
         all_goals with_reducible rfl
        try simp only [Act.put,sI,sZ,sS]
        refine wTk (i:=5) (v:=?_) rfl ?hy ?_
        case hy =>
         intro w hSw
         (try dsimp only at hSw)
         go_simp
         all_goals with_reducible rfl
        try simp only [Act.put,sI,sZ,sS]
        refine wTk (i:=6) (v:=?_) rfl ?hy ?_
        case hy =>
         intro w hSw
         (try dsimp only at hSw)
         go_simp
         all_goals with_reducible rfl
        try simp only [Act.put,sI,sZ,sS]
        refine wTk (i:=7) (v:=?_) rfl ?hy ?_
        case hy =>
         intro w hSw; obtain ⟨⟨s0,s1,s2,s3,s4⟩,u0,u1,u2,u3,u4⟩:=hSw; go_simp
         all_goals with_reducible rfl
        try simp only [Act.put,sI,sZ,sS]
        refine wTk (i:=8) (v:=?_) rfl ?hy ?_
        case hy =>
         intro w hSw
         (try dsimp only at hSw)
         go_simp
         all_goals with_reducible rfl
        try simp only [Act.put,sI,sZ,sS]
        refine wTk (i:=10) (v:=?_) rfl ?hy ?_
        case hy =>
         intro w hSw
         (try dsimp only at hSw)
         go_simp
         all_goals with_reducible rfl
        try simp only [Act.put,sI,sZ,sS]
        refine wTk (i:=11) (v:=?_) rfl ?hy ?_
        case hy =>
         intro w hSw; obtain ⟨⟨s0,s1,s2,s3,s4⟩,u0,u1,u2,u3,u4⟩:=hSw; go_simp
         all_goals with_reducible rfl
        try simp only [Act.put,sI,sZ,sS]
        refine wTk (i:=12) (v:=?_) rfl ?hy ?_
        case hy =>
         intro w hSw
         (try dsimp only at hSw)
         go_simp
         all_goals with_reducible rfl
        try simp only [Act.put,sI,sZ,sS]
        refine wpAnyH_ready (rs:=[9]) (by as_aux_lemma=>kernel_rfl) (by simp) ?_; refine rdY rfl (fun K hK=>?_); go_simp
        go_at_call 11
        refine (hw2.out _ _ _ (Below.refl _ _).drew).mono ?_; rintro e w9 ⟨rfl,hb9⟩; have kb9:=(Below.refl _ wr).drew.trans hb9; have m1:=cells5 (hRr.out.below kb9).blk; have n1:=cells5 (hQr.out.below kb9).blk; replace hb9:=hid hb9; replace kb9:=hid kb9; refine hK.out _ _ ?_ (fun hHeld2=>?_)
        ·exact ⟨m1,n1⟩
        clear hK K hHeld; have hHeld:=hHeld2; clear hHeld2
        try simp only [Act.put,sI,sZ,sS]
        refine wpAnyH_ready (rs:=[13]) (by as_aux_lemma=>kernel_rfl) (by simp) ?_; refine rdY rfl (fun K hK=>?_); go_simp
        go_at_call 11
        refine (hw1.out _ _ _ kb9.out).mono ?_; rintro e w10 ⟨rfl,hb10⟩; have kb10:=kb9.out.trans (hb10.mono kb9.out.size); have m2:=cells5 (hRr.out.below kb10).blk; have n2:=cells5 (hQr.out.below kb10).blk; replace hb10:=hid hb10; replace kb10:=hid kb10; refine hK.out _ _ ?_ (fun hHeld2=>?_)
        ·exact ⟨m2,n2⟩
        clear hK K hHeld; have hHeld:=hHeld2; clear hHeld2
        try simp only [Act.put,sI,sZ,sS]
        refine wTk (i:=14) (v:=?_) rfl ?hy ?_
        case hy =>
         intro w hSw
         (try dsimp only at hSw)
         go_simp
         all_goals with_reducible rfl
        try simp only [Act.put,sI,sZ,sS]
        refine wTk (i:=15) (v:=?_) rfl ?hy ?_
        case hy =>
         intro w hSw
         (try dsimp only at hSw)
         go_simp
         all_goals with_reducible rfl
        try simp only [Act.put,sI,sZ,sS]
        refine wTk (i:=16) (v:=?_) rfl ?hy ?_
        case hy =>
         intro w hSw
         (try dsimp only at hSw)
         go_simp
         all_goals with_reducible rfl
        try simp only [Act.put,sI,sZ,sS]
        refine wpAnyH_done (by as_aux_lemma=>kernel_rfl) ?_ _
        go_wp2_with fail
        go_ret; exact ⟨rfl,bR.out.trans (kb10.out.mono bR.out.size)⟩
end Go.Proofs.YtdmgfnnpjoihfaaDoor
