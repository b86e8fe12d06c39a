/- retroactlaw45.PlanLeast, walked. -/
import Derived.Test.YtdmgfnnpjoihfaaDoorPmP
set_option linter.unusedVariables false
set_option linter.unusedSimpArgs false
namespace Go.Proofs.YtdmgfnnpjoihfaaDoor
open Go.RowKit
open Go.Lib (hid)
theorem least_pick {l:List Offer} {undo «do»:List Out} {clock turn:Int} {rf:List (List UInt8)} {q:P4} (h0:prepE l undo «do» = 0) (hM:MadeB l undo «do» clock turn rf q) {pick:List Int} (hw:(weightT l undo «do» clock turn rf pick).2=true):pWl q.st q.re q.co≤(weightT l undo «do» clock turn rf pick).1:=by
 unfold weightT at hw ⊢; rw [if_pos h0] at hw ⊢; have hB:=stlF_b (clock:=clock) (turn:=turn) (R:=rf) hM.ok; have hN:=stlF_n (l:=l) (undo:=undo) («do»:=«do») (clock:=clock) (turn:=turn) (R:=rf); obtain ⟨hl,hA⟩:=weight_asg hw; have e:=weight_st hN hB hA; rw [listN_of hl] at e; rw [e,hM.w]; exact best_least hB ((asg_iff hB).2 hA)
theorem least_check {l:List Offer} {undo «do»:List Out} {clock turn:Int} {rf:List (List UInt8)} {q:P4} (hM:MadeB l undo «do» clock turn rf q) {p:Pln} (hC:CheckP l undo «do» clock turn rf p):pWl p.st p.re p.co=pWl q.st q.re q.co∧0≤p.co∧p.co≤1099511627776∧p.st.length≤1000∧p.re.length≤1000:=by
 have hB:=stlF_b (clock:=clock) (turn:=turn) (R:=rf) hM.ok; obtain ⟨h1,f,h2,h3⟩:=checked_least hC; have h4:=h1 _ (best_asg hB).1; have h5:=best_least hB h2; obtain ⟨-,q',hq,e1,e2,e3,-⟩:=hC; have l1:=plan_lens hq; have l2:=plan_co hB hq; have hn:=hM.n; have e4:(stlF l undo «do» clock turn rf).undo.length=undo.length:=rfl
 have e5:(stlF l undo «do» clock turn rf).do.length = «do».length:=rfl
 rw [e4,e5] at l1 l2; rw [e2,e3] at l1; rw [e1] at l2; rw [hM.w]; omega
set_option maxHeartbeats 40000000 in
set_option maxRecDepth 100000 in
theorem PlanLeast_walk (l:List Offer) (undo «do»:List Out) (clock turn:Int) (rf:List (List UInt8)) (vl vu vd vr:Value) (w:World) (h:LI0 l undo «do» rf vl vu vd vr w) (p:Pln) (vs ve vR vC vp:Value) (hs:SlR 6 CmdR (fun _=>True) w p.st vs) (he:SlR 1 StrR (fun _=>True) w p.re ve) (hR:SlR 1 IntR (fun _=>True) w p.rows vR) (hC:SlR 1 IntR (fun _=>True) w p.cols vC) (hsl:p.st.length≤1048576) (hel:p.re.length≤1048576) (hsv:∀ c∈p.st,ValsB c.args)
  (pick:List Int) (hp:SlR 1 IntR (fun _=>True) w pick vp) (hpl:pick.length≤1048576) (hpr:∀ j∈pick,I64 j) :
  Calls Tryd.prog 3 #[vl,vu,vd,iv clock,iv turn,vr,.agg #[vs,ve,iv p.co,vR,vC],vp] w fun e w'=>e=.returned (.bool true)∧Below w.heap.size w w':=by
 obtain ⟨ua,uc,hvu,-⟩:=h.pin.ur.slice; obtain ⟨da,dc,hvd,-⟩:=h.pin.dr.slice; obtain ⟨la,lc,hvl,-⟩:=h.pin.lr.slice; obtain ⟨ra,rc,hvr,-⟩:=h.pin.rr.slice; obtain ⟨sa,sc,hvs,-⟩:=hs.slice; obtain ⟨ea,ec,hve,-⟩:=he.slice; obtain ⟨Ra,Rc,hvR,-⟩:=hR.slice; obtain ⟨Ca,Cc,hvC,-⟩:=hC.slice; obtain ⟨pa,pc,hvp,-⟩:=hp.slice; obtain ⟨p1,p2,p3,p4,p5⟩:=p
 dsimp only at *
 have b0:Below w.heap.size w (w.alloc (.cells #[vs,ve,iv p3,vR,vC] 28 (0,0))):=(Below.refl _ w).alloc (Nat.le_refl _) _; have r0:=heap_alloc_new' w (.cells #[vs,ve,iv p3,vR,vC] 28 (0,0)); have hP:PlnM w.heap.size p1 p2 p3 p4 p5 vs ve vR vC (w.alloc (.cells #[vs,ve,iv p3,vR,vC] 28 (0,0))):=⟨r0,hs.below goodCmd b0,he.below goodStr b0,hR.below goodInt b0,hC.below goodInt b0⟩; have h0:=h.below b0; have hp0:=hp.below goodInt b0; obtain ⟨W0,hW0⟩:∃ W,W=w.alloc (.cells #[vs,ve,iv p3,vR,vC] 28 (0,0)):=⟨_,rfl⟩; rw [← hW0] at b0 r0 hP h0 hp0; subst hvu hvd hvl hvr hvs hve hvR hvC hvp; have hsm:=hid (small_any W0 (hid h0.pin.tb)); replace hP:=hid hP; replace h0:=hid h0; replace hp0:=hid hp0; replace b0:=hid b0; replace r0:=hid r0; replace hW0:=hid hW0; replace hsv:=hid hsv
 replace hpr:=hid hpr; clear h hs he hR hC hp
 go_enter Tryd.func3,Tryd.ntmps3
 go_upto_region 1 with (fail)
 rw [← hW0.out]
 go_wp2_with fail
 refine hsm.out.mono ?_; rintro e w1 ⟨rfl,hb1⟩; have h1:=h0.out.below hb1; have hP1:=hP.out.below hb1; have hp1:=hid (hp0.out.below goodInt hb1); have b1:=hid (b0.out.trans (hb1.mono b0.out.size)); obtain ⟨x0,x1,x2,x3,x4⟩:=cells5 hP1.blk; have hfw:=hid (few45_any _ l undo «do» rf _ _ _ _ w1 h1.pin h1.u h1.d); have l1:=lt_of_heap hP1.blk; replace h1:=hid h1; replace hP1:=hid hP1; clear hsm hb1 h0 hP hp0 b0 r0
 go_wp2_with fail
 refine hfw.out.mono ?_; rintro e w2 ⟨bf,rfl,hbf,hb2⟩; have h2:=hid (h1.out.below hb2); have hP2:=hP1.out.below hb2; have hp2:=hid (hp1.out.below goodInt hb2); have b2:=hid (b1.out.trans (hb2.mono b1.out.size)); obtain ⟨x0,x1,x2,x3,x4⟩:=cells5 hP2.blk; have l2:=lt_of_heap hP2.blk; replace hP2:=hid hP2; clear hfw hb2 h1 hP1 hp1 b1
 cases bf with
 | false =>
  replace hbf:=hid hbf
  go_wp2_with fail
  go_ret; exact ⟨rfl,b2.out⟩
 | true =>
  have hfew:=hid (hbf rfl); replace h2:=hid (h2.out.full hfew.out); clear hbf; by_cases g1:20 < p1.length
  ·have q1:decide ((20:Int) < (p1.length:Int))=true:=decide_eq_true (by omega)
   have q1':decide (20 < p1.length)=true:=decide_eq_true g1
   go_wp2_with fail
   go_ret; exact ⟨rfl,b2.out⟩
  have q1:decide ((20:Int) < (p1.length:Int))=false:=decide_eq_false (by omega); have q1':decide (20 < p1.length)=false:=decide_eq_false g1; by_cases g2:20 < p2.length
  ·have q2:decide ((20:Int) < (p2.length:Int))=true:=decide_eq_true (by omega)
   have q2':decide (20 < p2.length)=true:=decide_eq_true g2
   go_wp2_with fail
   go_ret; exact ⟨rfl,b2.out⟩
  have q2:decide ((20:Int) < (p2.length:Int))=false:=decide_eq_false (by omega); have q2':decide (20 < p2.length)=false:=decide_eq_false g2; by_cases g3:20 < pick.length
  ·have q3:decide ((20:Int) < (pick.length:Int))=true:=decide_eq_true (by omega)
   have q3':decide (20 < pick.length)=true:=decide_eq_true g3
   go_wp2_with fail
   go_ret; exact ⟨rfl,b2.out⟩
  have q3:decide ((20:Int) < (pick.length:Int))=false:=decide_eq_false (by omega); have q3':decide (20 < pick.length)=false:=decide_eq_false g3; have hmk:=makeL h2.out hfew.out clock turn; obtain ⟨n1,hn1⟩:∃ n,n=l.length:=⟨_,rfl⟩; obtain ⟨n2,hn2⟩:∃ n,n=undo.length:=⟨_,rfl⟩
  obtain ⟨n3,hn3⟩:∃ n,n = «do».length:=⟨_,rfl⟩
  obtain ⟨n4,hn4⟩:∃ n,n=rf.length:=⟨_,rfl⟩
  obtain ⟨E,hE⟩:∃ E,E=prepE l undo «do»:=⟨_,rfl⟩
  rw [← hE] at hmk; replace hmk:=hid hmk; replace hE:=hid hE; clear hn1 hn2 hn3 hn4 n1 n2 n3 n4
  go_wp2_with fail
  refine hmk.out.mono ?_; rintro e w3 ⟨hb3,(⟨hne,rfl⟩ | ⟨hE0,q,qa,qc,rb,rd,Rb,Rd,Cb,Cd,hM,rfl,hQ⟩)⟩
  ·have q4:(E == 0)=false:=by simpa using hne
   have hb4:Below w3.heap.size w3 (w3.alloc (.cells #[.slice none 0 0,.slice none 0 0,iv 0,.slice none 0 0,.slice none 0 0] 28 (0,0))):=(Below.refl _ w3).alloc (Nat.le_refl _) _; have k4:=hb3.trans (hb4.mono hb3.size)
   have hwt:=weightT_any _ l undo «do» clock turn rf _ _ _ _ _ (h2.out.below k4).pin pick _ _ (hp2.out.below goodInt k4) (by omega) hpr.out
   have b4:=hid (b2.out.trans (k4.mono b2.out.size)); rw [show weightT l undo «do» clock turn rf pick=(0,false) by unfold weightT; rw [if_neg (by rw [← hE.out]; exact hne)]] at hwt
   dsimp only at hwt
   obtain ⟨W4,hW4⟩:∃ W,W=w3.alloc (.cells #[.slice none 0 0,.slice none 0 0,iv 0,.slice none 0 0,.slice none 0 0] 28 (0,0)):=⟨_,rfl⟩; rw [← hW4] at hwt b4; replace hwt:=hid hwt; replace hne:=hid hne; replace hW4:=hid hW4; clear hb4 k4 hb3 hmk
   go_wp2_with fail
   rw [← hW4.out]; refine hwt.out.mono ?_; rintro e w5 ⟨rfl,hb5⟩; have b5:=hid (b4.out.trans (hb5.mono b4.out.size)); clear hb5 hwt
   go_wp2_with fail
   go_ret; exact ⟨rfl,b5.out⟩
  ·subst hE0
   obtain ⟨qst,qre,qco,qun⟩:=q
   dsimp only at hQ ⊢
   have hb4:Below w3.heap.size w3 (w3.alloc (.cells #[.slice qa qst.length qc,.slice rb qre.length rd,iv qco,.slice Rb (undo.length+«do».length) Rd,.slice Cb (undo.length+«do».length) Cd] 28 (0,0))):=(Below.refl _ w3).alloc (Nat.le_refl _) _; have k4:=hb3.trans (hb4.mono hb3.size); obtain ⟨W4,hW4⟩:∃ W,W=w3.alloc (.cells #[.slice qa qst.length qc,.slice rb qre.length rd,iv qco,.slice Rb (undo.length+«do».length) Rd,.slice Cb (undo.length+«do».length) Cd] 28 (0,0)):=⟨_,rfl⟩; obtain ⟨B4,hB4⟩:∃ B,B=w3.heap.size:=⟨_,rfl⟩; rw [← hW4] at hQ hb4 k4; rw [← hB4] at hQ
   have hmc:CheckP l undo «do» clock turn rf ⟨qst,qre,qco,listN (undo.length+«do».length) (gN (stlF l undo «do» clock turn rf)).rows,listN (undo.length+«do».length) (gN (stlF l undo «do» clock turn rf)).cols⟩:=made_checked hE.out.symm (by have:=hM.n; omega) hM.pl
   have hqv:=plan_vals (x:=stlF l undo «do» clock turn rf) h2.out.d hM.pl; have hl1:qst.length≤15:=hM.st; have hl2:qre.length≤10:=hM.re; have hck:=hid (checkY (clock:=clock) (turn:=turn) (h2.out.below k4).pin hfew.out.small h2.out.d hQ (by omega) (by omega) hqv (b:=true) ⟨fun _=>hmc,fun _=>rfl⟩); have h4:=hid (h2.out.below k4); have hP4:=hid (hP2.out.below k4); have hp4:=hid (hp2.out.below goodInt k4); have b4:=hid (b2.out.trans (k4.mono b2.out.size)); obtain ⟨z0,z1,z2,z3,z4⟩:=cells5 hQ.blk; have hlz:=lt_of_heap hQ.blk; replace hQ:=hid hQ; replace hmc:=hid hmc; replace hqv:=hid hqv; replace hM:=hid hM; replace hW4:=hid hW4; replace hB4:=hid hB4; clear hb4 k4 hb3 hmk h2 hP2 hp2 b2 x0 x1 x2 x3 x4
   go_upto_region 5 with (fail)
   rw [← hW4.out,← hB4.out]
   go_wp2_with fail
   refine hck.out.mono ?_; rintro e w5 ⟨rfl,hb5⟩; have h5:=h4.out.below hb5; have hP5:=hid (hP4.out.below hb5); have hQ5:=hQ.out.below hb5; have hp5:=hp4.out.below goodInt hb5; have b5:=hid (b4.out.trans (hb5.mono b4.out.size))
   have hwt:=weightT_any _ l undo «do» clock turn rf _ _ _ _ _ h5.pin pick _ _ hp5 (by omega) hpr.out
   have hlp:=fun (e:(weightT l undo «do» clock turn rf pick).2=true)=>least_pick hE.out.symm hM.out e
   obtain ⟨⟨N,ok⟩,hNk⟩:∃ r,r=weightT l undo «do» clock turn rf pick:=⟨_,rfl⟩
   rw [← hNk] at hwt hlp
   dsimp only at hwt hlp
   obtain ⟨z0,z1,z2,z3,z4⟩:=cells5 hQ5.blk; replace hNk:=hid hNk; replace hwt:=hid hwt; replace h5:=hid h5; replace hQ5:=hid hQ5; replace hp5:=hid hp5; replace hlp:=hid hlp; clear hck hb5 h4 hP4 hp4 hQ b4
   go_wp2_with fail
   refine hwt.out.mono ?_; rintro e w6 ⟨rfl,hb6⟩; have h6:=hid (h5.out.below hb6); have hP6:=hP5.out.below hb6; have hQ6:=hQ5.out.below hb6; have b6:=hid (b5.out.trans (hb6.mono b5.out.size)); clear hwt hb6 h5 hP5 hQ5 hp5 b5
   cases ok with
   | false =>
    replace hP6:=hid hP6; replace hQ6:=hid hQ6
    go_wp2_with fail
    go_ret; exact ⟨rfl,b6.out⟩
   | true =>
    have hle:=hlp.out rfl; obtain ⟨z0,z1,z2,z3,z4⟩:=cells5 hQ6.blk; have hw1:=hid (fun vl vu W (hW:Below w6.heap.size w6 W)=>weightM (vl:=vl) (vu:=vu) (hQ6.below hW) (by omega) (by omega) hM.out.c0 (by have:=hM.out.c1; show qco≤_; have e:qco≤10485760:=this; omega)); obtain ⟨V,hV⟩:∃ V,V=pWl qst qre qco:=⟨_,rfl⟩; replace hle:pWl qst qre qco≤N:=hle; rw [← hV] at hw1 hle; have q5:decide (N < V)=false:=decide_eq_false (by omega); replace hP6:=hid hP6; replace hQ6:=hid hQ6; replace hV:=hid hV
    go_wp2_with fail
    refine (hw1.out _ _ w6 (Below.refl _ _)).mono ?_; rintro e w7 ⟨rfl,hb7⟩; have h7:=h6.out.below hb7; have hP7:=hP6.out.below hb7; have hQ7:=hQ6.out.below hb7; have b7:=hid (b6.out.trans (hb7.mono b6.out.size)); have hw2:=hid (fun vl vu W (hW:Below w7.heap.size w7 W)=>hw1.out vl vu W (hb7.trans (hW.mono hb7.size))); have y0:=cells5 hP7.blk; have z0:=cells5 hQ7.blk; obtain ⟨x0,x1,x2,x3,x4⟩:=id y0; obtain ⟨z0',z1,z2,z3,z4⟩:=id z0; have ly:=lt_of_heap hP7.blk; have lz:=lt_of_heap hQ7.blk; have k0:=And.intro y0 z0; clear y0 z0
    by_cases hC:CheckP l undo «do» clock turn rf ⟨p1,p2,p3,p4,p5⟩
    ·obtain ⟨e1,e2,e3,e4,e5⟩:=least_check hM.out hC
     replace e1:pWl p1 p2 p3=pWl qst qre qco:=e1; rw [← hV.out] at e1; have hck:=hid (fun W (hW:Below w7.heap.size w7 W)=>checkY (clock:=clock) (turn:=turn) (h7.below hW).pin hfew.out.small h7.d (hP7.below hW) e4 e5 hsv.out (b:=true) ⟨fun _=>hC,fun _=>rfl⟩); have hw3:=hid (fun vl vu W (hW:Below w7.heap.size w7 W)=>weightM (vl:=vl) (vu:=vu) (hP7.below hW) e4 e5 e2 e3); rw [e1] at hw3; replace h7:=hid h7; replace hP7:=hid hP7; replace hQ7:=hid hQ7; replace hC:=hid hC; clear e1 e2 e3 e4 e5 hb7 hw1 h6 hP6 hQ6 b6
     go_upto_region 12 with (fail)
     refine wp_region_held_drew (S:=fun w'=>(w'.cell? ⟨w.heap.size,0,none⟩=some (.slice sa p1.length sc)∧w'.cell? ⟨w.heap.size,1,none⟩=some (.slice ea p2.length ec)∧w'.cell? ⟨w.heap.size,2,none⟩=some (iv p3)∧w'.cell? ⟨w.heap.size,3,none⟩=some (.slice Ra p4.length Rc)∧w'.cell? ⟨w.heap.size,4,none⟩=some (.slice Ca p5.length Cc))∧w'.cell? ⟨B4,0,none⟩=some (.slice qa qst.length qc)∧w'.cell? ⟨B4,1,none⟩=some (.slice rb qre.length rd)∧w'.cell? ⟨B4,2,none⟩=some (iv qco)∧w'.cell? ⟨B4,3,none⟩=some (.slice Rb (undo.length+«do».length) Rd)∧w'.cell? ⟨B4,4,none⟩=some (.slice Cb (undo.length+«do».length) Cd)) (by kernel_rfl) ?_ (fun hHeld=>?_)
     ·exact k0
     refine wTk (i:=0) (v:=?_) rfl ?hy ?_
     case hy =>
      intro w hSw
      (try dsimp only at hSw)
      go_simp
      all_goals with_reducible rfl
     try simp only [Act.put,sI,sZ,sS]
     refine wTk (i:=1) (v:=?_) rfl ?hy ?_
     case hy =>
      intro w hSw
      (try dsimp only at hSw)
      go_simp
      all_goals with_reducible rfl
     try simp only [Act.put,sI,sZ,sS]
     refine wTk (i:=2) (v:=?_) rfl ?hy ?_
     case hy =>
      intro w hSw
      (try dsimp only at hSw)
      go_simp
      all_goals with_reducible rfl
     try simp only [Act.put,sI,sZ,sS]
     refine wTk (i:=3) (v:=?_) rfl ?hy ?_
     case hy =>
      intro w hSw
      (try dsimp only at hSw)
      go_simp
      all_goals with_reducible rfl
     try simp only [Act.put,sI,sZ,sS]
     refine wTk (i:=4) (v:=?_) rfl ?hy ?_
     case hy =>
      intro w hSw
      (try dsimp only at hSw)
      go_simp
      all_goals with_reducible rfl
     try simp only [Act.put,sI,sZ,sS]
     refine wTk (i:=5) (v:=?_) rfl ?hy ?_
     case hy =>
      intro w hSw
      (try dsimp only at hSw)
      go_simp
      all_goals with_reducible rfl
     try simp only [Act.put,sI,sZ,sS]
     refine wTk (i:=6) (v:=?_) rfl ?hy ?_
     case hy =>
      intro w hSw
      (try dsimp only at hSw)
      go_simp
      all_goals with_reducible rfl
     try simp only [Act.put,sI,sZ,sS]
     refine wTk (i:=7) (v:=?_) rfl ?hy ?_
     case hy =>
      intro w hSw
      (try dsimp only at hSw)
      go_simp
      all_goals with_reducible rfl
     try simp only [Act.put,sI,sZ,sS]
     refine wTk (i:=8) (v:=?_) rfl ?hy ?_
     case hy =>
      intro w hSw; obtain ⟨⟨s0,s1,s2,s3,s4⟩,u0,u1,u2,u3,u4⟩:=hSw; go_simp
      all_goals with_reducible rfl
     try simp only [Act.put,sI,sZ,sS]
     refine wpAnyH_ready (rs:=[9]) (by as_aux_lemma=>kernel_rfl) (by simp) ?_; refine rdY rfl (fun K hK=>?_); go_simp
     go_at_call 9
     refine (hck.out _ (Below.refl _ _).drew).mono ?_; rintro e w8 ⟨rfl,hb8⟩; have kb8:=(Below.refl _ w7).drew.trans hb8; have m0:=cells5 (hP7.out.below kb8).blk; have n0:=cells5 (hQ7.out.below kb8).blk; replace hb8:=hid hb8; replace kb8:=hid kb8; refine hK.out _ _ ?_ (fun hHeld2=>?_)
     ·exact ⟨m0,n0⟩
     clear hK K hHeld; have hHeld:=hHeld2; clear hHeld2
     try simp only [Act.put,sI,sZ,sS]
     refine wTk (i:=10) (v:=?_) rfl ?hy ?_
     case hy =>
      intro w hSw
      (try dsimp only at hSw)
      go_simp
      all_goals with_reducible rfl
     try simp only [Act.put,sI,sZ,sS]
     refine wTk (i:=11) (v:=?_) rfl ?hy ?_
     case hy =>
      intro w hSw
      (try dsimp only at hSw)
      go_simp
      all_goals with_reducible rfl
     try simp only [Act.put,sI,sZ,sS]
     refine wTk (i:=12) (v:=?_) rfl ?hy ?_
     case hy =>
      intro w hSw
      (try dsimp only at hSw)
      go_simp
      all_goals with_reducible rfl
     try simp only [Act.put,sI,sZ,sS]
     refine wTk (i:=13) (v:=?_) rfl ?hy ?_
     case hy =>
      intro w hSw; obtain ⟨⟨s0,s1,s2,s3,s4⟩,u0,u1,u2,u3,u4⟩:=hSw; go_simp
      all_goals with_reducible rfl
     try simp only [Act.put,sI,sZ,sS]
     refine wTk (i:=14) (v:=?_) rfl ?hy ?_
     case hy =>
      intro w hSw
      (try dsimp only at hSw)
      go_simp
      all_goals with_reducible rfl
     try simp only [Act.put,sI,sZ,sS]
     refine wTk (i:=16) (v:=?_) rfl ?hy ?_
     case hy =>
      intro w hSw
      (try dsimp only at hSw)
      go_simp
      all_goals with_reducible rfl
     try simp only [Act.put,sI,sZ,sS]
     refine wTk (i:=17) (v:=?_) rfl ?hy ?_
     case hy =>
      intro w hSw; obtain ⟨⟨s0,s1,s2,s3,s4⟩,u0,u1,u2,u3,u4⟩:=hSw; go_simp
      all_goals with_reducible rfl
     try simp only [Act.put,sI,sZ,sS]
     refine wTk (i:=18) (v:=?_) rfl ?hy ?_
     case hy =>
      intro w hSw
      (try dsimp only at hSw)
      go_simp
      all_goals with_reducible rfl
     try simp only [Act.put,sI,sZ,sS]
     refine wpAnyH_ready (rs:=[15]) (by as_aux_lemma=>kernel_rfl) (by simp) ?_; refine rdY rfl (fun K hK=>?_); go_simp
     go_at_call 11
     refine (hw3.out _ _ _ kb8.out).mono ?_; rintro e w9 ⟨rfl,hb9⟩; have kb9:=kb8.out.trans (hb9.mono kb8.out.size); have m1:=cells5 (hP7.out.below kb9).blk; have n1:=cells5 (hQ7.out.below kb9).blk; replace hb9:=hid hb9; replace kb9:=hid kb9; refine hK.out _ _ ?_ (fun hHeld2=>?_)
     ·exact ⟨m1,n1⟩
     clear hK K hHeld; have hHeld:=hHeld2; clear hHeld2
     try simp only [Act.put,sI,sZ,sS]
     refine wpAnyH_ready (rs:=[19]) (by as_aux_lemma=>kernel_rfl) (by simp) ?_; refine rdY rfl (fun K hK=>?_); go_simp
     go_at_call 11
     refine (hw2.out _ _ _ kb9.out).mono ?_; rintro e w10 ⟨rfl,hb10⟩; have kb10:=kb9.out.trans (hb10.mono kb9.out.size); have m2:=cells5 (hP7.out.below kb10).blk; have n2:=cells5 (hQ7.out.below kb10).blk; replace hb10:=hid hb10; replace kb10:=hid kb10; refine hK.out _ _ ?_ (fun hHeld2=>?_)
     ·exact ⟨m2,n2⟩
     clear hK K hHeld; have hHeld:=hHeld2; clear hHeld2
     try simp only [Act.put,sI,sZ,sS]
     refine wTk (i:=20) (v:=?_) rfl ?hy ?_
     case hy =>
      intro w hSw
      (try dsimp only at hSw)
      go_simp
      all_goals with_reducible rfl
     try simp only [Act.put,sI,sZ,sS]
     refine wTk (i:=21) (v:=?_) rfl ?hy ?_
     case hy =>
      intro w hSw
      (try dsimp only at hSw)
      go_simp
      all_goals with_reducible rfl
     try simp only [Act.put,sI,sZ,sS]
     refine wTk (i:=22) (v:=?_) rfl ?hy ?_
     case hy =>
      intro w hSw
      (try dsimp only at hSw)
      go_simp
      all_goals with_reducible rfl
     try simp only [Act.put,sI,sZ,sS]
     refine wTk (i:=23) (v:=?_) rfl ?hy ?_
     case hy =>
      intro w hSw
      (try dsimp only at hSw)
      go_simp
      all_goals with_reducible rfl
     try simp only [Act.put,sI,sZ,sS]
     refine wpAnyH_done (by as_aux_lemma=>kernel_rfl) ?_ _
     go_wp2_with fail
     go_ret; exact ⟨rfl,b7.out.trans (kb10.out.mono b7.out.size)⟩
    ·have hck:=hid (fun W (hW:Below w7.heap.size w7 W)=>checkY (clock:=clock) (turn:=turn) (h7.below hW).pin hfew.out.small h7.d (hP7.below hW) (by omega) (by omega) hsv.out (b:=false) ⟨fun h=>(by cases h),fun h=>absurd h hC⟩)
     replace h7:=hid h7; replace hP7:=hid hP7; replace hQ7:=hid hQ7; replace hC:=hid hC; clear hb7 hw1 h6 hP6 hQ6 b6
     go_upto_region 12 with (fail)
     refine wp_region_held_drew (S:=fun w'=>w'.cell? ⟨w.heap.size,0,none⟩=some (.slice sa p1.length sc)∧w'.cell? ⟨w.heap.size,1,none⟩=some (.slice ea p2.length ec)∧w'.cell? ⟨w.heap.size,2,none⟩=some (iv p3)∧w'.cell? ⟨w.heap.size,3,none⟩=some (.slice Ra p4.length Rc)∧w'.cell? ⟨w.heap.size,4,none⟩=some (.slice Ca p5.length Cc)) (by kernel_rfl) ?_ (fun hHeld=>?_)
     ·exact k0.1
     refine wTk (i:=0) (v:=?_) rfl ?hy ?_
     case hy =>
      intro w hSw
      (try dsimp only at hSw)
      go_simp
      all_goals with_reducible rfl
     try simp only [Act.put,sI,sZ,sS]
     refine wTk (i:=1) (v:=?_) rfl ?hy ?_
     case hy =>
      intro w hSw
      (try dsimp only at hSw)
      go_simp
      all_goals with_reducible rfl
     try simp only [Act.put,sI,sZ,sS]
     refine wTk (i:=2) (v:=?_) rfl ?hy ?_
     case hy =>
      intro w hSw
      (try dsimp only at hSw)
      go_simp
      all_goals with_reducible rfl
     try simp only [Act.put,sI,sZ,sS]
     refine wTk (i:=3) (v:=?_) rfl ?hy ?_
     case hy =>
      intro w hSw
      (try dsimp only at hSw)
      go_simp
      all_goals with_reducible rfl
     try simp only [Act.put,sI,sZ,sS]
     refine wTk (i:=4) (v:=?_) rfl ?hy ?_
     case hy =>
      intro w hSw
      (try dsimp only at hSw)
      go_simp
      all_goals with_reducible rfl
     try simp only [Act.put,sI,sZ,sS]
     refine wTk (i:=5) (v:=?_) rfl ?hy ?_
     case hy =>
      intro w hSw
      (try dsimp only at hSw)
      go_simp
      all_goals with_reducible rfl
     try simp only [Act.put,sI,sZ,sS]
     refine wTk (i:=6) (v:=?_) rfl ?hy ?_
     case hy =>
      intro w hSw
      (try dsimp only at hSw)
      go_simp
      all_goals with_reducible rfl
     try simp only [Act.put,sI,sZ,sS]
     refine wTk (i:=7) (v:=?_) rfl ?hy ?_
     case hy =>
      intro w hSw
      (try dsimp only at hSw)
      go_simp
      all_goals with_reducible rfl
     try simp only [Act.put,sI,sZ,sS]
     refine wTk (i:=8) (v:=?_) rfl ?hy ?_
     case hy =>
      intro w hSw; obtain ⟨s0,s1,s2,s3,s4⟩:=hSw; go_simp
      all_goals with_reducible rfl
     try simp only [Act.put,sI,sZ,sS]
     refine wpAnyH_ready (rs:=[9]) (by as_aux_lemma=>kernel_rfl) (by simp) ?_; refine rdY rfl (fun K hK=>?_); go_simp
     go_at_call 9
     refine (hck.out _ (Below.refl _ _).drew).mono ?_; rintro e w8 ⟨rfl,hb8⟩; have kb8:=(Below.refl _ w7).drew.trans hb8; have m0:=cells5 (hP7.out.below kb8).blk; have n0:=cells5 (hQ7.out.below kb8).blk; replace hb8:=hid hb8; replace kb8:=hid kb8; refine hK.out _ _ ?_ (fun hHeld2=>?_)
     ·exact m0
     clear hK K hHeld; have hHeld:=hHeld2; clear hHeld2
     try simp only [Act.put,sI,sZ,sS]
     refine wTk (i:=10) (v:=?_) rfl ?hy ?_
     case hy =>
      intro w hSw
      (try dsimp only at hSw)
      go_simp
      all_goals with_reducible rfl
     try simp only [Act.put,sI,sZ,sS]
     refine wTk (i:=11) (v:=?_) rfl ?hy ?_
     case hy =>
      intro w hSw
      (try dsimp only at hSw)
      go_simp
      all_goals with_reducible rfl
     try simp only [Act.put,sI,sZ,sS]
     refine wpAnyH_take (i:=12) (oi:=⟨_,_,_,_,_,_⟩) (v:=undef) rfl (by as_aux_lemma=>kernel_rfl) (by as_aux_lemma=>kernel_rfl) (by as_aux_lemma=>kernel_rfl) (fun _ _ _ h=>h) (Or.inr ⟨by rfl,rfl⟩) (by assumption) ?_
     try simp only [Act.put,sI,sZ,sS]
     refine wpAnyH_take (i:=13) (oi:=⟨_,_,_,_,_,_⟩) (v:=undef) rfl (by as_aux_lemma=>kernel_rfl) (by as_aux_lemma=>kernel_rfl) (by as_aux_lemma=>kernel_rfl) (fun _ _ _ h=>h) (Or.inr ⟨by rfl,rfl⟩) (by assumption) ?_
     try simp only [Act.put,sI,sZ,sS]
     refine wpAnyH_take (i:=14) (oi:=⟨_,_,_,_,_,_⟩) (v:=undef) rfl (by as_aux_lemma=>kernel_rfl) (by as_aux_lemma=>kernel_rfl) (by as_aux_lemma=>kernel_rfl) (fun _ _ _ h=>h) (Or.inr ⟨by rfl,rfl⟩) (by assumption) ?_
     try simp only [Act.put,sI,sZ,sS]
     refine wpAnyH_take (i:=15) (oi:=⟨_,_,_,_,_,_⟩) (v:=undef) rfl (by as_aux_lemma=>kernel_rfl) (by as_aux_lemma=>kernel_rfl) (by as_aux_lemma=>kernel_rfl) (fun _ _ _ h=>h) (Or.inr ⟨by rfl,rfl⟩) (by assumption) ?_
     try simp only [Act.put,sI,sZ,sS]
     refine wpAnyH_take (i:=16) (oi:=⟨_,_,_,_,_,_⟩) (v:=undef) rfl (by as_aux_lemma=>kernel_rfl) (by as_aux_lemma=>kernel_rfl) (by as_aux_lemma=>kernel_rfl) (fun _ _ _ h=>h) (Or.inr ⟨by rfl,rfl⟩) (by assumption) ?_
     try simp only [Act.put,sI,sZ,sS]
     refine wpAnyH_take (i:=17) (oi:=⟨_,_,_,_,_,_⟩) (v:=undef) rfl (by as_aux_lemma=>kernel_rfl) (by as_aux_lemma=>kernel_rfl) (by as_aux_lemma=>kernel_rfl) (fun _ _ _ h=>h) (Or.inr ⟨by rfl,rfl⟩) (by assumption) ?_
     try simp only [Act.put,sI,sZ,sS]
     refine wpAnyH_take (i:=18) (oi:=⟨_,_,_,_,_,_⟩) (v:=undef) rfl (by as_aux_lemma=>kernel_rfl) (by as_aux_lemma=>kernel_rfl) (by as_aux_lemma=>kernel_rfl) (fun _ _ _ h=>h) (Or.inr ⟨by rfl,rfl⟩) (by assumption) ?_
     try simp only [Act.put,sI,sZ,sS]
     refine wpAnyH_take (i:=19) (oi:=⟨_,_,_,_,_,_⟩) (v:=undef) rfl (by as_aux_lemma=>kernel_rfl) (by as_aux_lemma=>kernel_rfl) (by as_aux_lemma=>kernel_rfl) (fun _ _ _ h=>h) (Or.inr ⟨by rfl,rfl⟩) (by assumption) ?_
     try simp only [Act.put,sI,sZ,sS]
     refine wpAnyH_take (i:=20) (oi:=⟨_,_,_,_,_,_⟩) (v:=undef) rfl (by as_aux_lemma=>kernel_rfl) (by as_aux_lemma=>kernel_rfl) (by as_aux_lemma=>kernel_rfl) (fun _ _ _ h=>h) (Or.inr ⟨by rfl,rfl⟩) (by assumption) ?_
     try simp only [Act.put,sI,sZ,sS]
     refine wTk (i:=21) (v:=?_) rfl ?hy ?_
     case hy =>
      intro w hSw
      (try dsimp only at hSw)
      go_simp
      all_goals with_reducible rfl
     try simp only [Act.put,sI,sZ,sS]
     refine wTk (i:=22) (v:=?_) rfl ?hy ?_
     case hy =>
      intro w hSw
      (try dsimp only at hSw)
      go_simp
      all_goals with_reducible rfl
     try simp only [Act.put,sI,sZ,sS]
     refine wTk (i:=23) (v:=?_) rfl ?hy ?_
     case hy =>
      intro w hSw
      (try dsimp only at hSw)
      go_simp
      all_goals with_reducible rfl
     try simp only [Act.put,sI,sZ,sS]
     refine wpAnyH_done (by as_aux_lemma=>kernel_rfl) ?_ _
     go_wp2_with fail
     go_ret; exact ⟨rfl,b7.out.trans (kb8.out.mono b7.out.size)⟩
end Go.Proofs.YtdmgfnnpjoihfaaDoor
