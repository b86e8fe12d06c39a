/- retroactlaw45.PlanSettles, walked. -/
import Derived.Test.YtfejagpjahoibaaGreatDoorPsA
import Derived.BigQuiet
set_option linter.unusedVariables false
set_option linter.unusedSimpArgs false
namespace Go.Proofs.YtfejagpjahoibaaGreatDoor
open Go.RowKit
open Go.Lib (hid)
theorem m3_next {st:List Cmd} {s:Nat} {t:Cmd} (k:List UInt8) (ht:st[s]? = some t):m3 (st.take (s+1)) k=m3 (st.take s) k++(if t.kind=3∧t.of=k then [t] else []):=by
 unfold m3; rw [List.take_add_one,ht,List.filter_append]
 congr 1
 by_cases h:t.kind=3∧t.of=k
 ·rw [if_pos h]; simp [h.1,h.2]
 ·rw [if_neg h]
  simp only [Option.toList_some,List.filter_cons,List.filter_nil]; rw [if_neg]; intro e; simp only [Bool.and_eq_true,decide_eq_true_eq] at e; exact h e
theorem re_next {re:List (List UInt8)} {s:Nat} {t:List UInt8} (k:List UInt8) (ht:re[s]? = some t):((re.take (s+1)).filter fun r=>decide (r=k))=((re.take s).filter fun r=>decide (r=k))++(if t=k then [t] else []):=by
 rw [List.take_add_one,ht,List.filter_append]
 congr 1
 by_cases h:t=k
 ·rw [if_pos h]; simp [h]
 ·rw [if_neg h]; simp [h]
theorem keysN_of {l:List Out} {n:Nat} (hl:l.length=n) (h:∀ (a b:Nat) (x y:Out),a < n→b < a→l[a]? = some x→l[b]? = some y→x.key≠y.key):KeysN l:=by
 unfold KeysN List.Nodup; rw [List.pairwise_map,List.pairwise_iff_getElem]; intro i j hi hj hij e; exact h j i l[j] l[i] (by omega) hij (List.getElem?_eq_getElem hj) (List.getElem?_eq_getElem hi) e.symm
set_option maxHeartbeats 40000000 in
set_option maxRecDepth 100000 in
theorem PlanSettles_walk (l:List Offer) (undo «do» others:List Out) (clock turn:Int) (rf:List (List UInt8)) (vl vu vd vo vr:Value) (w:World) (h:LI0 l undo «do» rf vl vu vd vr w) (ho:SlR 5 OutR (fun _=>True) w others vo) (hoB:OutsB others) (hol:others.length≤1048576) :
  Calls Tryz.prog 3 #[vl,vu,vd,vo,iv clock,iv turn,vr] w fun e w'=>e=.returned (.bool true)∧Below w.heap.size w w':=by
 obtain ⟨ua,uc,hvu,-⟩:=h.pin.ur.slice; obtain ⟨da,dc,hvd,-⟩:=h.pin.dr.slice; obtain ⟨la,lc,hvl,-⟩:=h.pin.lr.slice; obtain ⟨ra,rc,hvr,-⟩:=h.pin.rr.slice; obtain ⟨oa,oc,hvo,-⟩:=ho.slice; subst hvu hvd hvl hvr hvo; have hsm:=hid (small_any w (hid h.pin.tb)); replace h:=hid h; replace ho:=hid ho; replace hoB:=hid hoB
 go_enter Tryz.func3,Tryz.ntmps3
 go_wp2_with fail
 refine hsm.out.mono ?_; rintro e w1 ⟨rfl,hb1⟩; have h1:=h.out.below hb1; have ho1:=hid (ho.out.below goodOut hb1); have b1:=hid hb1; have hfw:=hid (few45_any _ l undo «do» rf _ _ _ _ w1 h1.pin h1.u h1.d); replace h1:=hid h1; clear hsm hb1 h ho
 go_wp2_with fail
 refine hfw.out.mono ?_; rintro e w2 ⟨bf,rfl,hbf,hb2⟩; have h2:=hid (h1.out.below hb2); have ho2:=hid (ho1.out.below goodOut hb2); have b2:=hid (b1.out.trans (hb2.mono b1.out.size)); clear hfw hb2 h1 b1 ho1
 cases bf with
 | false =>
  replace hbf:=hid hbf
  go_wp2_with fail
  go_ret; exact ⟨rfl,b2.out⟩
 | true =>
  have hfew:=hid (hbf rfl); clear hbf; replace h2:=hid (h2.out.full hfew.out); have hef:=hid (effects_any others 5 (by decide) hol hoB.out _ _ w2 ho2.out)
  go_wp2_with fail
  refine hef.out.mono ?_; rintro e w3 ⟨bo,rfl,hbo,hb3⟩; have h3:=hid (h2.out.below hb3); have ho3:=hid (ho2.out.below goodOut hb3); have b3:=hid (b2.out.trans (hb3.mono b2.out.size)); clear hef hb3 h2 b2 ho2
  cases bo with
  | false =>
   replace hbo:=hid hbo
   go_wp2_with fail
   go_ret; exact ⟨rfl,b3.out⟩
  | true =>
   have hef:=hid (hbo rfl); clear hbo; have hmk:=makeS h3.out hfew.out clock turn
   obtain ⟨E,hE⟩:∃ E,E=prepE l undo «do»:=⟨_,rfl⟩
   rw [← hE] at hmk; replace hmk:=hid hmk; replace hE:=hid hE
   go_wp2_with fail
   refine hmk.out.mono ?_; rintro e w4 ⟨hb4,sa,sn,sc,ka,kn,kc,co,Ra,Rn,Rc,Ca,Cn,Cc,rfl,hP⟩; have hb5:Below w4.heap.size w4 (w4.alloc (.cells #[.slice sa sn sc,.slice ka kn kc,iv co,.slice Ra Rn Rc,.slice Ca Cn Cc] 31 (0,0))):=(Below.refl _ w4).alloc (Nat.le_refl _) _; have r5:=heap_alloc_new' w4 (.cells #[.slice sa sn sc,.slice ka kn kc,iv co,.slice Ra Rn Rc,.slice Ca Cn Cc] 31 (0,0)); have k5:=hb4.trans (hb5.mono hb4.size); obtain ⟨W5,hW5⟩:∃ W,W=w4.alloc (.cells #[.slice sa sn sc,.slice ka kn kc,iv co,.slice Ra Rn Rc,.slice Ca Cn Cc] 31 (0,0)):=⟨_,rfl⟩; obtain ⟨B5,hB5⟩:∃ B,B=w4.heap.size:=⟨_,rfl⟩; rw [← hW5] at hb5 r5 k5; rw [← hB5] at r5; have h5:=hid (h3.out.below k5); have ho5:=hid (ho3.out.below goodOut k5); have b5:=hid (b3.out.trans (k5.mono b3.out.size))
   have hP5:Hid (E=0→∃ p,MadeB l undo «do» clock turn rf p∧sn=p.st.length∧kn=p.re.length∧SlR 6 CmdR (fun _=>True) W5 p.st (.slice sa sn sc)∧SlR 1 StrR (fun _=>True) W5 p.re (.slice ka kn kc)):=hid fun e=>by
    obtain ⟨p,p1,p2,p3,p4,p5⟩:=hP e; exact ⟨p,p1,p2,p3,p4.below goodCmd hb5,p5.below goodStr hb5⟩
   replace hW5:=hid hW5; replace hB5:=hid hB5; have hr5:=hid r5; clear hP hb4 hb5 k5 hmk h3 ho3 b3 r5
   go_upto_region 5 with (fail)
   rw [← hW5.out,← hB5.out]
   -- force,all
   have lo:others.length≤5:=hef.out.1; have lu:undo.length≤5:=hfew.out.u.1
   have ld:«do».length≤5:=hfew.out.d.1
   have a5:Below W5.heap.size W5 (W5.alloc (.cells #[] 37)):=(Below.refl _ W5).alloc (Nat.le_refl _) _; obtain ⟨fa,fc,W6,hap1,hF1,hB6⟩:=outN_app (outN_made (Nat.le_refl W5.heap.size)) (Nat.le_of_lt (by simp)) ((ho5.out.mono goodOut (T:=fun q=>q < W5.heap.size) (fun q hq _=>hq)).below goodOut a5) (by simp; omega) 23; simp only [List.length_nil,Nat.zero_add,List.nil_append] at hap1 hF1; have k6:Below W5.heap.size W5 W6:=a5.trans hB6; obtain ⟨ga,gc,W7,hap2,hF2,hB7⟩:=outN_app hF1 k6.size ((h5.out.pin.ur.mono goodOut (T:=fun q=>q < W5.heap.size) (fun q hq _=>hq)).below goodOut k6) (by omega) 23; have k7:Below W5.heap.size W5 W7:=k6.trans hB7; obtain ⟨n1,hn1⟩:∃ n,n=others.length+undo.length:=⟨_,rfl⟩; rw [← hn1] at hap2 hF2
   have a7:Below W7.heap.size W7 (W7.alloc (.cells #[] 37)):=(Below.refl _ W7).alloc (Nat.le_refl _) _
   have hn1l:(others++undo).length=n1:=by rw [List.length_append,hn1]
   obtain ⟨pa,pc,W8,hap3,hF3,hB8⟩:=outN_app (outN_made (Nat.le_refl W7.heap.size)) (Nat.le_of_lt (by simp)) ((hF2.sl.mono goodOut (T:=fun q=>q < W7.heap.size) (fun q hq _=>hq)).below goodOut a7) (by simp; omega) 23; simp only [List.length_nil,Nat.zero_add,List.nil_append] at hap3 hF3; rw [hn1l] at hap3 hF3; have k8:Below W7.heap.size W7 W8:=a7.trans hB8; obtain ⟨qa,qc,W9,hap4,hF4,hB9⟩:=outN_app hF3 k8.size (((h5.out.below k7).pin.dr.mono goodOut (T:=fun q=>q < W7.heap.size) (fun q hq _=>hq)).below goodOut k8) (by rw [hn1l]; omega) 23; rw [hn1l] at hap4 hF4; have k9:Below W7.heap.size W7 W9:=k8.trans hB9
   obtain ⟨n2,hn2⟩:∃ n,n=n1+«do».length:=⟨_,rfl⟩
   rw [← hn2] at hap4 hF4; have kk:=k7.trans (k9.mono k7.size)
   obtain ⟨all,hall⟩:∃ L,L=(others++undo)++«do»:=⟨_,rfl⟩
   rw [← hall] at hF4
   have hal:all.length=n2:=by rw [hall,List.length_append,hn1l,hn2]
   have hA:=hid hF4.sl; have hG:=hid (hF2.sl.below goodOut k9); have b9:=hid (b5.out.trans (kk.mono b5.out.size)); have h9:=hid (h5.out.below kk); have ho9:=hid (ho5.out.below goodOut kk)
   have hP9:Hid (E=0→∃ p,MadeB l undo «do» clock turn rf p∧sn=p.st.length∧kn=p.re.length∧SlR 6 CmdR (fun _=>True) W9 p.st (.slice sa sn sc)∧SlR 1 StrR (fun _=>True) W9 p.re (.slice ka kn kc)):=hid fun e=>by
    obtain ⟨p,p1,p2,p3,p4,p5⟩:=hP5.out e; exact ⟨p,p1,p2,p3,p4.below goodCmd kk,p5.below goodStr kk⟩
   have hr9:=hid ((kk.block B5 (lt_of_heap hr5.out)).trans hr5.out); replace hap1:=hid hap1; replace hap2:=hid hap2; replace hap3:=hid hap3; replace hap4:=hid hap4
   have hn2b:n2≤15:=by omega
   have hn1b:n1≤10:=by omega
   replace hn1:=hid hn1; replace hn2:=hid hn2; replace hal:=hid hal; replace hall:=hid hall; replace hn1l:=hid hn1l; clear a5 a7 hF1 hF2 hF3 hF4 hB6 hB7 hB8 hB9 k6 k7 k8 k9 kk h5 ho5 b5 hP5 hr5; have hB0:=hid (Below.refl W9.heap.size W9)
   have hK0:Hid (∀ (a b:Nat) (x y:Out),a < 0→b < a→all[a]? = some x→all[b]? = some y→x.key≠y.key):=hid fun a b x y ha=>absurd ha (by omega)
   go_upto_region 7 with (first | (at_builtin; refine wpList_append_shut rfl (.tmp 56) (.tmp 57) rfl rfl rfl hap1.out ?_) | (at_builtin; refine wpList_append_shut rfl (.tmp 58) (.tmp 59) rfl rfl rfl hap2.out ?_) | (at_builtin; refine wpList_append_shut rfl (.tmp 61) (.tmp 62) rfl rfl rfl hap3.out ?_) | (at_builtin; refine wpList_append_shut rfl (.tmp 63) (.tmp 64) rfl rfl rfl hap4.out ?_))
   -- THE LOOPS
   go_wp2_with fail
   go_loopg [20,21] n2 (fun f v20 v21 wr=>∃ i:Nat,v20=iv i∧i+f=n2∧Hid (∀ (a b:Nat) (x y:Out),a < i→b < a→all[a]? = some x→all[b]? = some y→x.key≠y.key)∧Hid (Below W9.heap.size W9 wr))
   case atStart=>exact ⟨0,rfl,by omega,hK0,hB0⟩
   case round =>
    obtain ⟨i,rfl,hif,hK,hBr⟩:=hrel; clear hK0 hB0; by_cases hi:i < n2
    ·have q1:decide ((i:Int) < (n2:Int))=true:=decide_eq_true (by omega)
     have q1':decide (i < n2)=true:=decide_eq_true hi; obtain ⟨x,hx⟩:∃ x,all[i]? = some x:=⟨_,List.getElem?_eq_getElem (by rw [hal.out]; exact hi)⟩
     have hL0:Hid (∀ (b:Nat) (y:Out),b < 0→all[b]? = some y→x.key≠y.key):=hid fun b y hb=>absurd hb (by omega)
     replace hx:=hid hx
     go_wp2_with fail
     go_loopg [21] i (fun f v21 wr=>∃ k:Nat,v21=iv k∧k+f=i∧Hid (∀ (b:Nat) (y:Out),b < k→all[b]? = some y→x.key≠y.key)∧Hid (Below W9.heap.size W9 wr))
     case atStart=>exact ⟨0,rfl,by omega,hL0,hBr⟩
     case round =>
      obtain ⟨k,rfl,hkf,hL,hBs⟩:=hrel; clear hL0; by_cases hk:k < i
      ·have q2:decide ((k:Int) < (i:Int))=true:=decide_eq_true (by omega)
       have q2':decide (k < i)=true:=decide_eq_true hk; obtain ⟨y,hy⟩:∃ y,all[k]? = some y:=⟨_,List.getElem?_eq_getElem (by rw [hal.out]; omega)⟩; have hAx:=hA.out.below goodOut hBs.out; obtain ⟨g1,o1,cs1,ix1,-,-,hc1,hr1⟩:=hAx.at (P:=Tryz.prog) (t:=23) (by kernel_rfl) (fun _=>by kernel_rfl) hx.out; obtain ⟨g2,o2,cs2,ix2,-,-,hc2,hr2⟩:=hAx.at (P:=Tryz.prog) (t:=23) (by kernel_rfl) (fun _=>by kernel_rfl) hy; obtain ⟨x1,x2,rfl,-⟩:=hr1; obtain ⟨y1,y2,rfl,-⟩:=hr2; have d0:=hc1 0 _ rfl; have e0:=hc2 0 _ rfl; rw [Nat.add_zero] at d0 e0; replace d0:wr.cell? ⟨g1,o1,none⟩=some (sv x.key):=d0; replace e0:wr.cell? ⟨g2,o2,none⟩=some (sv y.key):=e0; have hBd:=hid hBs.out.drew; replace hy:=hid hy; clear hc1 hc2 hAx; by_cases e:x.key=y.key
       ·have hne:(x.key == y.key)=true:=by simpa using e
        replace e:=hid e
        go_upto_region 13 with (fail)
        go_region
        go_wp2_with fail
        go_ret; exact ⟨rfl,b9.out.trans (hBd.out.mono b9.out.size)⟩
       ·have hne:(x.key == y.key)=false:=by simpa using e
        have hL2:=hid (show ∀ (b:Nat) (z:Out),b < k+1→all[b]? = some z→x.key≠z.key from fun b z hb hz=>by
         by_cases e2:b=k
         ·subst e2; rw [hy.out] at hz; injection hz with hz; rw [← hz]; exact e
         ·exact hL.out b z (by omega) hz)
        replace e:=hid e
        go_upto_region 13 with (fail)
        go_region
        go_wp2_with fail
        go_roundg (i - (k+1))
        case measure=>omega
        case rel=>exact ⟨k+1,by go_num,by omega,hL2,hBd⟩
      ·have q2:decide ((k:Int) < (i:Int))=false:=decide_eq_false (by omega)
       have q2':decide (k < i)=false:=decide_eq_false hk
       have hK2:=hid (show ∀ (a b:Nat) (y z:Out),a < i+1→b < a→all[a]? = some y→all[b]? = some z→y.key≠z.key from fun a b y z ha hb hy hz=>by
        by_cases e2:a=i
        ·subst e2; rw [hx.out] at hy; injection hy with hy; rw [← hy]; exact hL.out b z (by omega) hz
        ·exact hK.out a b y z (by omega) hb hy hz)
       go_wp2_with fail
       go_roundg (n2 - (i+1))
       case measure=>omega
       case rel=>exact ⟨i+1,by go_num,by omega,hK2,hBs⟩
    ·have q1:decide ((i:Int) < (n2:Int))=false:=decide_eq_false (by omega)
     have q1':decide (i < n2)=false:=decide_eq_false hi
     have hin:n2=i:=by omega
     have hKN:=keysN_of hal.out (by rw [hin]; exact hK.out); replace hin:=hid hin; replace hKN:=hid hKN; have hgr:=hid (hG.out.below goodOut hBr.out); have b10:=hid (b9.out.trans (hBr.out.mono b9.out.size)); have h10:=hid (h9.out.below hBr.out); have ho10:=hid (ho9.out.below goodOut hBr.out); have hr10:=hid ((hBr.out.block B5 (lt_of_heap hr9.out)).trans hr9.out)
     have hP10:Hid (E=0→∃ p,MadeB l undo «do» clock turn rf p∧sn=p.st.length∧kn=p.re.length∧SlR 6 CmdR (fun _=>True) wr p.st (.slice sa sn sc)∧SlR 1 StrR (fun _=>True) wr p.re (.slice ka kn kc)):=hid fun e=>by
      obtain ⟨p,p1,p2,p3,p4,p5⟩:=hP9.out e; exact ⟨p,p1,p2,p3,p4.below goodCmd hBr.out,p5.below goodStr hBr.out⟩
     clear hA hG hK hBr b9 h9 ho9 hr9 hP9; by_cases hE0:E=0
     case neg =>
      have q4:(E == 0)=false:=by simpa using hE0
      replace hE0:=hid hE0
      go_wp2_with fail
      go_ret; exact ⟨rfl,b10.out⟩
     case pos =>
      subst hE0; obtain ⟨p,hM,e1,e2,hst,hre⟩:=hP10.out rfl; obtain ⟨st,re,pco,un⟩:=p; replace e1:sn=st.length:=e1; replace e2:kn=re.length:=e2; subst e1 e2; replace hst:SlR 6 CmdR (fun _=>True) wr st (.slice sa st.length sc):=hst; replace hre:SlR 1 StrR (fun _=>True) wr re (.slice ka re.length kc):=hre; have hqv:∀ c∈st,ValsB c.args:=plan_vals (x:=stlF l undo «do» clock turn rf) h10.out.d hM.pl; have hKN2:KeysN ((others++undo)++«do»):=hall.out ▸ hKN.out
      have hud:∀ u∈undo,∀ d∈«do»,u.key≠d.key:=fun u hu d hd e=>by
       have h1:(((others++undo)++«do»).map Out.key).Nodup:=hKN2; rw [List.map_append] at h1; exact (List.nodup_append.1 h1).2.2 _ (List.mem_map.2 ⟨u,List.mem_append_right _ hu,rfl⟩) _ (List.mem_map.2 ⟨d,hd,rfl⟩) e
      obtain ⟨now,hfo,hnN,hwN,hlen,hsame⟩:=settle_plain (x:=stlF l undo «do» clock turn rf) (stlF_s hM.ok hud) (best_to (stlF_b hM.ok)) hM.pl (others:=others) hKN2; replace hfo:foldF (others++undo) st=(0,now):=hfo; have hss:st.length≤15:=hM.st; have hrr:re.length≤10:=hM.re
      have hOB:OutsB (others++undo):=fun o ho=>by
       rcases List.mem_append.1 ho with ho | ho
       ·exact hoB.out o ho
       ·exact h10.out.u o ho
      have hfold:=fold_any (others++undo) st (by rw [hn1l.out]; omega) hOB hqv _ _ _ _ wr hgr.out hst; have hnB:=foldF_ok (others++undo) st hOB hqv; rw [hfo] at hfold hnB
      dsimp only at hfold hnB
      obtain ⟨z0,z1,-,-,-⟩:=cells5 hr10.out; replace hfold:=hid hfold; replace hst:=hid hst; replace hre:=hid hre; replace hM:=hid hM; replace hqv:=hid hqv; replace hfo:=hid hfo; replace hsame:=hid hsame; replace hKN2:=hid hKN2; replace hud:=hid hud; replace hOB:=hid hOB; replace hlen:=hid hlen
      go_wp2_with fail
      refine hfold.out.mono ?_; rintro e w10 ⟨vn,rfl,hNw,hb10⟩; obtain ⟨na,nc,hvn,-,-⟩:=hNw.slice; subst hvn; have hNs:=hNw.sl goodOut; have h11:=hid (h10.out.below hb10); have ho11:=hid (ho10.out.below goodOut hb10); have b11:=hid (b10.out.trans (hb10.mono b10.out.size)); have r11:=hid ((hb10.block B5 (lt_of_heap hr10.out)).trans hr10.out); have hst11:=hid (hst.out.below goodCmd hb10); have hre11:=hid (hre.out.below goodStr hb10); have hlB5:=lt_of_heap r11.out; have hU:=hid (h11.out.pin.ur.mono goodOut (T:=fun q=>q < w10.heap.size) (fun q hq _=>hq)); have hD:=hid (h11.out.pin.dr.mono goodOut (T:=fun q=>q < w10.heap.size) (fun q hq _=>hq)); have a11:Below w10.heap.size w10 (w10.alloc (.cells #[] 37)):=(Below.refl _ w10).alloc (Nat.le_refl _) _
      obtain ⟨wa,wc,W11,hap5,hF5,hB11⟩:=outN_app (outN_made (Nat.le_refl w10.heap.size)) (Nat.le_of_lt (by simp)) ((ho11.out.mono goodOut (T:=fun q=>q < w10.heap.size) (fun q hq _=>hq)).below goodOut a11) (by simp; omega) 23; simp only [List.length_nil,Nat.zero_add,List.nil_append] at hap5 hF5; have hW0:=hid hF5; have hB0:=hid (a11.trans hB11); have hL0:Hid (others=others++(undo.take 0).flatMap (wU st re)):=hid (by simp); have hlo:Hid (others.length=others.length):=hid rfl; replace hNs:=hid hNs; replace hap5:=hid hap5; clear hNw hb10 hF5 a11 hB11 hfold h10 ho10 b10 hr10 hst hre z0 z1
      go_upto_region 21 with (first | (at_builtin; refine wpList_append_shut rfl (.tmp 101) (.tmp 102) rfl rfl rfl hap5.out ?_))
      obtain ⟨no,hno⟩:∃ n,n=others.length:=⟨_,rfl⟩; rw [← hno] at hW0 lo ⊢; replace hno:=hid hno
      go_wp2_with fail
      go_loopg [24,25,26,27,28] undo.length (fun f v24 v25 v26 v27 v28 wr=>∃ (i m:Nat) (L:List Out) (a:Option Addr) (c:Nat),v24=.slice a m c∧v25=iv i∧i+f=undo.length∧m≤5+25 * i∧Hid (L.length=m)∧Hid (L=others++(undo.take i).flatMap (wU st re))∧Hid (OutN w10.heap.size wr L (.slice a m c))∧Hid (Below w10.heap.size w10 wr))
      case atStart=>exact ⟨0,no,others,wa,wc,rfl,rfl,by omega,by omega,hid hno.out.symm,hL0,hW0,hB0⟩
      case round =>
       clear hL0 hW0 hB0 hap5 hlo; obtain ⟨i,m,L,a,c,rfl,rfl,hif,hm,hLm,hLe,hW,hBr⟩:=hrel; by_cases hi:i < undo.length
       ·have q1:decide ((i:Int) < (undo.length:Int))=true:=decide_eq_true (by omega)
        have q1':decide (i < undo.length)=true:=decide_eq_true hi; obtain ⟨u,hu⟩:∃ u,undo[i]? = some u:=⟨_,List.getElem?_eq_getElem hi⟩; obtain ⟨g1,o1,cs1,ix1,-,hg1,hc1,hr1⟩:=hU.out.at (P:=Tryz.prog) (t:=23) (by kernel_rfl) (fun _=>by kernel_rfl) hu; obtain ⟨xa,xk,rfl,hv⟩:=hr1; obtain ⟨uk,uN,ual,up,ut⟩:=u; have d0:wr.cell? ⟨g1,o1,none⟩=some (sv uk):=(hBr.out.cell (p:=⟨g1,o1,none⟩) hg1).trans (hc1 0 _ rfl); have d1:wr.cell? ⟨g1,o1+1,none⟩=some (sv uN):=(hBr.out.cell (p:=⟨g1,o1+1,none⟩) hg1).trans (hc1 1 _ rfl); have d2:wr.cell? ⟨g1,o1+2,none⟩=some (.slice xa ual.length xk):=(hBr.out.cell (p:=⟨g1,o1+2,none⟩) hg1).trans (hc1 2 _ rfl)
        have d3:wr.cell? ⟨g1,o1+3,none⟩=some (.bool up):=(hBr.out.cell (p:=⟨g1,o1+3,none⟩) hg1).trans (hc1 3 _ rfl); have d4:wr.cell? ⟨g1,o1+4,none⟩=some (iv ut):=(hBr.out.cell (p:=⟨g1,o1+4,none⟩) hg1).trans (hc1 4 _ rfl); replace hv:ValsR (fun q=>q < w10.heap.size) w10 ual (.slice xa ual.length xk):=hv; have hbA:Below wr.heap.size wr (wr.alloc (.cells #[sv uk,sv uN,.slice xa ual.length xk,.bool up,iv ut] 37 (0,0))):=(Below.refl _ _).alloc (Nat.le_refl _) _; have rA:=heap_alloc_new' wr (.cells #[sv uk,sv uN,.slice xa ual.length xk,.bool up,iv ut] 37 (0,0)); obtain ⟨W12,hW12⟩:∃ W,W=wr.alloc (.cells #[sv uk,sv uN,.slice xa ual.length xk,.bool up,iv ut] 37 (0,0)):=⟨_,rfl⟩; obtain ⟨ub,hub⟩:∃ B,B=wr.heap.size:=⟨_,rfl⟩; rw [← hW12] at hbA rA
        rw [← hub] at rA
        have hge:w10.heap.size≤ub:=by rw [hub]; exact hBr.out.size
        have hWA:=hid (hW.out.below hbA)
        have hoA:Hid (∀ q,(Value.slice a m c).ownBlock=some q→q≠ub):=hid fun q hq e=>by have:=hW.out.1.lt hq; omega
        have hBA:=hid (hBr.out.trans (hbA.mono hBr.out.size)); have hm0:Hid (L=L++(m3 (st.take 0) uk).map fun _=>(⟨uk,uN,ual,true,ut⟩:Out)):=hid (by simp [m3]); have hp0:Hid (up=(up || !(m3 (st.take 0) uk).isEmpty)):=hid (by simp [m3]); replace hu:=hid hu; replace hv:=hid hv; replace hW12:=hid hW12; replace hub:=hid hub; replace rA:=hid rA; replace hge:=hid hge; clear hc1 hbA hBr hW
        go_upto_region 25 with (fail)
        rw [← hW12.out,← hub.out]
        go_wp2_with fail
        go_loopg [24,27] st.length (fun f v24 v27 wr=>∃ (s m2:Nat) (L2:List Out) (a2:Option Addr) (c2:Nat) (P:Bool),v24=.slice a2 m2 c2∧v27=iv s∧s+f=st.length∧m2≤5+25 * i+s∧Hid (L2.length=m2)∧Hid (L2=L++(m3 (st.take s) uk).map fun _=>(⟨uk,uN,ual,true,ut⟩:Out))∧Hid (P=(up || !(m3 (st.take s) uk).isEmpty))∧Hid (wr.heap[ub]? = some (.cells #[sv uk,sv uN,.slice xa ual.length xk,.bool P,iv ut] 37 (0,0)))∧Hid (OutN w10.heap.size wr L2 (.slice a2 m2 c2))∧Hid (∀ q,(Value.slice a2 m2 c2).ownBlock=some q→q≠ub)∧Hid (Below w10.heap.size w10 wr))
        case atStart=>exact ⟨0,m,L,a,c,up,rfl,rfl,by omega,by omega,hLm,hm0,hp0,rA,hWA,hoA,hBA⟩
        case round =>
        clear hm0 hp0 rA hWA hoA hBA; obtain ⟨s,m2,L2,a2,c2,P,rfl,rfl,hsf,hm2,hLm2,hLe2,hPe,hub2,hO2,hown2,hBx⟩:=hrel; obtain ⟨z0,z1,-,-,-⟩:=cells5 ((hBx.out.block B5 hlB5).trans r11.out); by_cases hs:s < st.length
        ·have q2:decide ((s:Int) < (st.length:Int))=true:=decide_eq_true (by omega)
         have q2':decide (s < st.length)=true:=decide_eq_true hs; obtain ⟨t,ht⟩:∃ t,st[s]? = some t:=⟨_,List.getElem?_eq_getElem hs⟩; obtain ⟨g3,o3,cs3,ix3,-,-,hc3,hr3⟩:=(hst11.out.below goodCmd hBx.out).at (P:=Tryz.prog) (t:=28) (by kernel_rfl) (fun _=>by kernel_rfl) ht; obtain ⟨x1,x2,rfl,-⟩:=hr3; have hnx:=m3_next uk ht; obtain ⟨tk,tn,tof,te,tm,ta⟩:=t; replace hnx:m3 (st.take (s+1)) uk=m3 (st.take s) uk++(if tn=3∧tof=uk then [⟨tk,tn,tof,te,tm,ta⟩] else []):=hnx; have e1:wr.cell? ⟨g3,o3+1,none⟩=some (iv tn):=hc3 1 _ rfl; have e2:wr.cell? ⟨g3,o3+2,none⟩=some (sv tof):=hc3 2 _ rfl; obtain ⟨y0,y1,y2,y3,y4⟩:=cells5 hub2.out
         have uf:∀ i,wr.frozen? ⟨ub,i,none⟩=false:=fun i=>free_of (i:=i) hub2.out
         replace ht:=hid ht; clear hc3; by_cases hh:tn=3∧tof=uk
         ·rw [if_pos hh] at hnx
          have q3:(tn == 3)=true:=by simpa using hh.1
          have q4:(tof == uk)=true:=by simpa using hh.2
          have hLn:Hid (L2++[(⟨uk,uN,ual,true,ut⟩:Out)]=L++(m3 (st.take (s+1)) uk).map fun _=>(⟨uk,uN,ual,true,ut⟩:Out)):=hid (by rw [hnx,List.map_append,← List.append_assoc,← hLe2.out]; rfl); have hPn:Hid (true=(up || !(m3 (st.take (s+1)) uk).isEmpty)):=hid (by rw [hnx]; simp); replace hh:=hid hh; replace hnx:=hid hnx
          go_upto_region 28 with (fail)
          go_quiet (fail)
          have hq1:∀ q,q < wr.heap.size→q≠ub→((wr.drewN nq).setCell ⟨ub,3,none⟩ (.bool true)).heap[q]? = wr.heap[q]?:=fun q hq hne=>(heap_setCell_other _ hne)
          have rV:((wr.drewN nq).setCell ⟨ub,3,none⟩ (.bool true)).heap[ub]? = some (.cells #[sv uk,sv uN,.slice xa ual.length xk,.bool true,iv ut] 37 (0,0)):=(by have:=heap_setCell_same (w:=wr.drewN nq) (i:=3) hub2.out (.bool true); simpa using this)
          have sV:((wr.drewN nq).setCell ⟨ub,3,none⟩ (.bool true)).heap.size=wr.heap.size:=by rw [World.size_setCell]; rfl
          have bV:Below w10.heap.size w10 ((wr.drewN nq).setCell ⟨ub,3,none⟩ (.bool true)):=below_set (below_drewN hBx.out nq) hge.out _; obtain ⟨V1,hV1⟩:∃ W,W=(wr.drewN nq).setCell ⟨ub,3,none⟩ (.bool true):=⟨_,rfl⟩; rw [← hV1] at hq1 rV sV bV; have aV:Below V1.heap.size V1 (V1.alloc (.cells #[sv uk,sv uN,.slice xa ual.length xk,.bool true,iv ut] 37 (0,0))):=(Below.refl _ _).alloc (Nat.le_refl _) _; have nV:=heap_alloc_new' V1 (.cells #[sv uk,sv uN,.slice xa ual.length xk,.bool true,iv ut] 37 (0,0))
          have hOV:OutN w10.heap.size V1 L2 (.slice a2 m2 c2):=hO2.out.keep fun q hq hs=>hq1 q hq (hs.elim (fun h=>by have:=hge.out; omega) (fun h=>hown2.out q h))
          have hOA:=hOV.below aV; have bA:=bV.trans (aV.mono bV.size); have hlV:=lt_of_heap rV; have rA2:=(aV.block ub hlV).trans rV; obtain ⟨a3,c3,W3,hap,hO3,hB3,hk3,how3⟩:=outN_push (x:=(⟨uk,uN,ual,true,ut⟩:Out)) (cs:=[sv uk,sv uN,.slice xa ual.length xk,.bool true,iv ut]) hOA bA.size nV rfl (outR_shut (o:=(⟨uk,uN,ual,true,ut⟩:Out)) (hv.out.below goodVal bA)) (by rw [hLm2.out]; omega) 23; rw [hLm2.out] at hap hO3 how3; have rB:=hid ((hk3 ub (Nat.lt_of_lt_of_le hlV aV.size) (fun e=>hown2.out ub e rfl)).trans rA2)
          have hown3:Hid (∀ q,(Value.slice a3 (m2+1) c3).ownBlock=some q→q≠ub):=hid fun q hq e=>by
           rcases how3 q hq with h | h
           ·exact hown2.out q h e
           ·have:=aV.size; omega
          have bB:=hid (bA.trans (hB3.mono (Nat.le_refl _))); have hL3:Hid ((L2++[(⟨uk,uN,ual,true,ut⟩:Out)]).length=m2+1):=hid (by rw [List.length_append,hLm2.out]; rfl); obtain ⟨v0,v1,v2,v3,v4⟩:=cells5 rV
          have uV:∀ i,V1.frozen? ⟨ub,i,none⟩=false:=fun i=>free_of (i:=i) rV
          rw [sV] at hap; replace hO3:=hid hO3; replace hap:=hid hap; clear e1 e2 v0 v1 v2 v3 v4; subst hV1
          go_wp2_with (first | (at_builtin; refine wpList_append_shut rfl (.tmp 140) (.tmp 142) rfl rfl rfl hap.out ?_))
          go_roundg (st.length - (s+1))
          case measure=>omega
          case rel=>exact ⟨s+1,m2+1,_,a3,c3,true,rfl,by go_num,by omega,by omega,hL3,hLn,hPn,rB,hO3,hown3,bB⟩
         ·rw [if_neg hh,List.append_nil] at hnx
          have hLn:Hid (L2=L++(m3 (st.take (s+1)) uk).map fun _=>(⟨uk,uN,ual,true,ut⟩:Out)):=hid (by rw [hnx]; exact hLe2.out); have hPn:Hid (P=(up || !(m3 (st.take (s+1)) uk).isEmpty)):=hid (by rw [hnx]; exact hPe.out); replace hnx:=hid hnx
          have hOd:=fun n=>hid (hO2.out.below (below_drewN (Below.refl _ wr) n))
          have hBd:=fun n=>hid (below_drewN hBx.out n)
          by_cases h3:tn=3
          ·have q3:(tn == 3)=true:=by simpa using h3
           have q4:(tof == uk)=false:=by simpa using fun e=>hh ⟨h3,e⟩
           replace h3:=hid h3; replace hh:=hid hh
           go_upto_region 28 with (fail)
           go_quiet (fail)
           go_wp2_with fail
           go_roundg (st.length - (s+1))
           case measure=>omega
           case rel=>exact ⟨s+1,m2,L2,a2,c2,P,rfl,by go_num,by omega,by omega,hLm2,hLn,hPn,hub2,hOd _,hown2,hBd _⟩
          ·have q3:(tn == 3)=false:=by simpa using h3
           replace h3:=hid h3; replace hh:=hid hh
           go_upto_region 28 with (fail)
           go_quiet (fail)
           go_wp2_with fail
           go_roundg (st.length - (s+1))
           case measure=>omega
           case rel=>exact ⟨s+1,m2,L2,a2,c2,P,rfl,by go_num,by omega,by omega,hLm2,hLn,hPn,hub2,hOd _,hown2,hBd _⟩
        ·have q2:decide ((s:Int) < (st.length:Int))=false:=decide_eq_false (by omega)
         have q2':decide (s < st.length)=false:=decide_eq_false hs; have htk:st.take s=st:=List.take_of_length_le (by omega)
         have hse:s=st.length:=by omega
         rw [htk] at hLe2 hPe; have hL5:Hid (L2=(L++wU1 st (⟨uk,uN,ual,up,ut⟩:Out))++((re.take 0).filter fun r=>decide (r=uk)).map fun _=>(⟨uk,uN,ual,P,ut⟩:Out)):=hid (by rw [List.take_zero,List.filter_nil,List.map_nil,List.append_nil]; exact hLe2.out); replace hse:=hid hse; replace htk:=hid htk
         go_wp2_with fail
         go_loopg [24,28] re.length (fun f v24 v28 wr=>∃ (s m2:Nat) (L2:List Out) (a2:Option Addr) (c2:Nat),v24=.slice a2 m2 c2∧v28=iv s∧s+f=re.length∧m2≤20+25 * i+s∧Hid (L2.length=m2)∧Hid (L2=(L++wU1 st (⟨uk,uN,ual,up,ut⟩:Out))++((re.take s).filter fun r=>decide (r=uk)).map fun _=>(⟨uk,uN,ual,P,ut⟩:Out))∧Hid (wr.heap[ub]? = some (.cells #[sv uk,sv uN,.slice xa ual.length xk,.bool P,iv ut] 37 (0,0)))∧Hid (OutN w10.heap.size wr L2 (.slice a2 m2 c2))∧Hid (∀ q,(Value.slice a2 m2 c2).ownBlock=some q→q≠ub)∧Hid (Below w10.heap.size w10 wr))
         case atStart=>exact ⟨0,m2,L2,a2,c2,rfl,rfl,by omega,by have:=hse.out; omega,hLm2,hL5,hub2,hO2,hown2,hBx⟩
         case round =>
          clear hL5 hLm2 hLe2 hub2 hO2 hown2 hBx z0 z1; obtain ⟨s,m2,L2,a2,c2,rfl,rfl,hsf,hm2,hLm2,hLe2,hub2,hO2,hown2,hBx⟩:=hrel; obtain ⟨z0,z1,-,-,-⟩:=cells5 ((hBx.out.block B5 hlB5).trans r11.out); by_cases hs:s < re.length
          ·have q5:decide ((s:Int) < (re.length:Int))=true:=decide_eq_true (by omega)
           have q5':decide (s < re.length)=true:=decide_eq_true hs; obtain ⟨t,ht⟩:∃ t,re[s]? = some t:=⟨_,List.getElem?_eq_getElem hs⟩; obtain ⟨g3,o3,cs3,ix3,-,-,hc3,hr3⟩:=(hre11.out.below goodStr hBx.out).at (P:=Tryz.prog) (t:=24) (by kernel_rfl) (fun _=>by kernel_rfl) ht; have hcs:cs3=[sv t]:=hr3; subst hcs; have hnx:=re_next uk ht; have e1:=hc3 0 _ rfl; rw [Nat.add_zero] at e1; replace e1:wr.cell? ⟨g3,o3,none⟩=some (sv t):=e1; obtain ⟨y0,y1,y2,y3,y4⟩:=cells5 hub2.out; replace ht:=hid ht; clear hc3 hr3; by_cases hh:t=uk
           ·rw [if_pos hh] at hnx
            have q6:(t == uk)=true:=by simpa using hh
            have hLn:Hid (L2++[(⟨uk,uN,ual,P,ut⟩:Out)]=(L++wU1 st (⟨uk,uN,ual,up,ut⟩:Out))++((re.take (s+1)).filter fun r=>decide (r=uk)).map fun _=>(⟨uk,uN,ual,P,ut⟩:Out)):=hid (by rw [hnx,List.map_append,← List.append_assoc,← hLe2.out]; rfl); replace hh:=hid hh; replace hnx:=hid hnx
            go_upto_region 34 with (fail)
            go_quiet (fail)
            have hq1:∀ q,q < wr.heap.size→q≠ub→(wr.drewN nq).heap[q]? = wr.heap[q]?:=fun q hq hne=>rfl
            have rV:(wr.drewN nq).heap[ub]? = some (.cells #[sv uk,sv uN,.slice xa ual.length xk,.bool P,iv ut] 37 (0,0)):=hub2.out; have sV:(wr.drewN nq).heap.size=wr.heap.size:=rfl; have bV:Below w10.heap.size w10 (wr.drewN nq):=below_drewN hBx.out nq; obtain ⟨V1,hV1⟩:∃ W,W=wr.drewN nq:=⟨_,rfl⟩; rw [← hV1] at hq1 rV sV bV; have aV:Below V1.heap.size V1 (V1.alloc (.cells #[sv uk,sv uN,.slice xa ual.length xk,.bool P,iv ut] 37 (0,0))):=(Below.refl _ _).alloc (Nat.le_refl _) _; have nV:=heap_alloc_new' V1 (.cells #[sv uk,sv uN,.slice xa ual.length xk,.bool P,iv ut] 37 (0,0))
            have hOV:OutN w10.heap.size V1 L2 (.slice a2 m2 c2):=hO2.out.keep fun q hq hs=>hq1 q hq (hs.elim (fun h=>by have:=hge.out; omega) (fun h=>hown2.out q h))
            have hOA:=hOV.below aV; have bA:=bV.trans (aV.mono bV.size); have hlV:=lt_of_heap rV; have rA2:=(aV.block ub hlV).trans rV; obtain ⟨a3,c3,W3,hap,hO3,hB3,hk3,how3⟩:=outN_push (x:=(⟨uk,uN,ual,P,ut⟩:Out)) (cs:=[sv uk,sv uN,.slice xa ual.length xk,.bool P,iv ut]) hOA bA.size nV rfl (outR_shut (o:=(⟨uk,uN,ual,P,ut⟩:Out)) (hv.out.below goodVal bA)) (by rw [hLm2.out]; omega) 23; rw [hLm2.out] at hap hO3 how3; have rB:=hid ((hk3 ub (Nat.lt_of_lt_of_le hlV aV.size) (fun e=>hown2.out ub e rfl)).trans rA2)
            have hown3:Hid (∀ q,(Value.slice a3 (m2+1) c3).ownBlock=some q→q≠ub):=hid fun q hq e=>by
             rcases how3 q hq with h | h
             ·exact hown2.out q h e
             ·have:=aV.size; omega
            have bB:=hid (bA.trans (hB3.mono (Nat.le_refl _))); have hL3:Hid ((L2++[(⟨uk,uN,ual,P,ut⟩:Out)]).length=m2+1):=hid (by rw [List.length_append,hLm2.out]; rfl); obtain ⟨v0,v1,v2,v3,v4⟩:=cells5 rV
            have uV:∀ i,V1.frozen? ⟨ub,i,none⟩=false:=fun i=>free_of (i:=i) rV
            rw [sV] at hap; replace hO3:=hid hO3; replace hap:=hid hap; clear e1 v0 v1 v2 v3 v4; subst hV1
            go_wp2_with (first | (at_builtin; refine wpList_append_shut rfl (.tmp 159) (.tmp 161) rfl rfl rfl hap.out ?_))
            go_roundg (re.length - (s+1))
            case measure=>omega
            case rel=>exact ⟨s+1,m2+1,_,a3,c3,rfl,by go_num,by omega,by omega,hL3,hLn,rB,hO3,hown3,bB⟩
           ·rw [if_neg hh,List.append_nil] at hnx
            have q6:(t == uk)=false:=by simpa using hh
            have hLn:Hid (L2=(L++wU1 st (⟨uk,uN,ual,up,ut⟩:Out))++((re.take (s+1)).filter fun r=>decide (r=uk)).map fun _=>(⟨uk,uN,ual,P,ut⟩:Out)):=hid (by rw [hnx]; exact hLe2.out); replace hh:=hid hh; replace hnx:=hid hnx
            have hOd:=fun n=>hid (hO2.out.below (below_drewN (Below.refl _ wr) n))
            have hBd:=fun n=>hid (below_drewN hBx.out n)
            go_upto_region 34 with (fail)
            go_quiet (fail)
            go_wp2_with fail
            go_roundg (re.length - (s+1))
            case measure=>omega
            case rel=>exact ⟨s+1,m2,L2,a2,c2,rfl,by go_num,by omega,by omega,hLm2,hLn,hub2,hOd _,hown2,hBd _⟩
          ·have q5:decide ((s:Int) < (re.length:Int))=false:=decide_eq_false (by omega)
           have q5':decide (s < re.length)=false:=decide_eq_false hs
           have hLn:Hid (L2=others++(undo.take (i+1)).flatMap (wU st re)):=hid (by
            have h1:=hLe2.out; rw [show re.take s=re from List.take_of_length_le (by omega)] at h1; rw [h1,hLe.out,List.take_add_one,hu.out,Option.toList_some,List.flatMap_append,List.append_assoc,List.append_assoc]
            congr 1
            congr 1
            rw [List.flatMap_cons,List.flatMap_nil,List.append_nil]; unfold wU wU2
            congr 2
            funext _
            rw [hPe.out]
            rfl)
           go_wp2_with fail
           go_roundg (undo.length - (i+1))
           case measure=>omega
           case rel=>exact ⟨i+1,m2,L2,a2,c2,rfl,by go_num,by omega,by omega,hLm2,hLn,hO2,hBx⟩
       ·have q1:decide ((i:Int) < (undo.length:Int))=false:=decide_eq_false (by omega)
        have q1':decide (i < undo.length)=false:=decide_eq_false hi; have htu:undo.take i=undo:=List.take_of_length_le (by omega); rw [htu] at hLe; have hL6:Hid (L=(others++undo.flatMap (wU st re))++(«do».take 0).flatMap (wD re)):=hid (by rw [hLe.out]; simp)
        have hm6:m≤130:=by omega
        replace htu:=hid htu
        go_wp2_with fail
        go_loopg [24,29,30,31,32] «do».length (fun f v24 v29 v30 v31 v32 wr=>∃ (j m:Nat) (L:List Out) (a:Option Addr) (c:Nat),v24=.slice a m c∧v29=iv j∧j+f = «do».length∧m≤130+j∧Hid (L.length=m)∧Hid (L=(others++undo.flatMap (wU st re))++(«do».take j).flatMap (wD re))∧Hid (OutN w10.heap.size wr L (.slice a m c))∧Hid (Below w10.heap.size w10 wr))
        case atStart=>exact ⟨0,m,L,a,c,rfl,rfl,by omega,by omega,hLm,hL6,hW,hBr⟩
        case round =>
         clear hL6 hLm hLe hW hBr hm6 hm; obtain ⟨j,m2,L2,a2,c2,rfl,rfl,hjf,hm2,hLm2,hLe2,hW,hBr⟩:=hrel
         by_cases hj:j < «do».length
         ·have q2:decide ((j:Int) < («do».length:Int))=true:=decide_eq_true (by omega)
          have q2':decide (j < «do».length)=true:=decide_eq_true hj
          obtain ⟨u,hu⟩:∃ u,«do»[j]? = some u:=⟨_,List.getElem?_eq_getElem hj⟩
          obtain ⟨g1,o1,cs1,ix1,-,hg1,hc1,hr1⟩:=hD.out.at (P:=Tryz.prog) (t:=23) (by kernel_rfl) (fun _=>by kernel_rfl) hu; obtain ⟨xa,xk,rfl,hv⟩:=hr1; obtain ⟨uk,uN,ual,up,ut⟩:=u; have d0:wr.cell? ⟨g1,o1,none⟩=some (sv uk):=(hBr.out.cell (p:=⟨g1,o1,none⟩) hg1).trans (hc1 0 _ rfl); have d1:wr.cell? ⟨g1,o1+1,none⟩=some (sv uN):=(hBr.out.cell (p:=⟨g1,o1+1,none⟩) hg1).trans (hc1 1 _ rfl); have d2:wr.cell? ⟨g1,o1+2,none⟩=some (.slice xa ual.length xk):=(hBr.out.cell (p:=⟨g1,o1+2,none⟩) hg1).trans (hc1 2 _ rfl); have d3:wr.cell? ⟨g1,o1+3,none⟩=some (.bool up):=(hBr.out.cell (p:=⟨g1,o1+3,none⟩) hg1).trans (hc1 3 _ rfl); have d4:wr.cell? ⟨g1,o1+4,none⟩=some (iv ut):=(hBr.out.cell (p:=⟨g1,o1+4,none⟩) hg1).trans (hc1 4 _ rfl)
          replace hv:ValsR (fun q=>q < w10.heap.size) w10 ual (.slice xa ual.length xk):=hv; have hbA:Below wr.heap.size wr (wr.alloc (.cells #[sv uk,sv uN,.slice xa ual.length xk,.bool up,iv ut] 37 (0,0))):=(Below.refl _ _).alloc (Nat.le_refl _) _; have rA:=heap_alloc_new' wr (.cells #[sv uk,sv uN,.slice xa ual.length xk,.bool up,iv ut] 37 (0,0)); obtain ⟨W12,hW12⟩:∃ W,W=wr.alloc (.cells #[sv uk,sv uN,.slice xa ual.length xk,.bool up,iv ut] 37 (0,0)):=⟨_,rfl⟩; obtain ⟨ub,hub⟩:∃ B,B=wr.heap.size:=⟨_,rfl⟩; rw [← hW12] at hbA rA; rw [← hub] at rA
          have hge:w10.heap.size≤ub:=by rw [hub]; exact hBr.out.size
          have hbB:Below wr.heap.size wr (W12.setCell ⟨ub,3,none⟩ (.bool false)):=below_set hbA (by rw [hub]; exact Nat.le_refl _) _; have rB:=heap_setCell_same (i:=3) rA (.bool false)
          replace rB:(W12.setCell ⟨ub,3,none⟩ (.bool false)).heap[ub]? = some (.cells #[sv uk,sv uN,.slice xa ual.length xk,.bool false,iv ut] 37 (0,0)):=by simpa using rB
          obtain ⟨y0,y1,y2,y3,y4⟩:=cells5 rA
          have uf:∀ i,W12.frozen? ⟨ub,i,none⟩=false:=fun i=>free_of (i:=i) rA
          obtain ⟨V,hV⟩:∃ W,W=W12.setCell ⟨ub,3,none⟩ (.bool false):=⟨_,rfl⟩; rw [← hV] at hbB rB; have hWA:=hid (hW.out.below hbB)
          have hoA:Hid (∀ q,(Value.slice a2 m2 c2).ownBlock=some q→q≠ub):=hid fun q hq e=>by have:=hW.out.1.lt hq; omega
          have hBA:=hid (hBr.out.trans (hbB.mono hBr.out.size)); have hO0:Hid (false=(re.take 0).any fun r=>decide (r=uk)):=hid (by simp); have hV0:=hid (Below.refl V.heap.size V); have hvb:=lt_of_heap rB; replace hu:=hid hu; replace hv:=hid hv; replace hW12:=hid hW12; replace hub:=hid hub; replace rB:=hid rB; replace hge:=hid hge; replace hV:=hid hV; clear hc1 hbA hbB hBr hW rA
          go_upto_region 40 with (fail)
          rw [← hW12.out,← hub.out]
          go_upto_region 41 with (fail)
          rw [← hV.out]; clear y0 y1 y2 y3 y4 uf d0 d1 d2 d3 d4
          go_wp2_with fail
          go_loopg [31,32] re.length (fun f v31 v32 wr=>∃ (s:Nat) (O:Bool),v31=.bool O∧v32=iv s∧s+f=re.length∧Hid (O=(re.take s).any fun r=>decide (r=uk))∧Hid (Below V.heap.size V wr))
          case atStart=>exact ⟨0,false,rfl,rfl,by omega,hO0,hV0⟩
          case round =>
           clear hO0 hV0; obtain ⟨s,O,rfl,rfl,hsf,hO,hVr⟩:=hrel; have hBx:=hid (hBA.out.trans (hVr.out.mono hBA.out.size)); have hub2:=hid ((hVr.out.block ub hvb).trans rB.out); have hO2:=hid (hWA.out.below hVr.out); have hown2:=hoA; obtain ⟨z0,z1,-,-,-⟩:=cells5 ((hBx.out.block B5 hlB5).trans r11.out); obtain ⟨y0,y1,y2,y3,y4⟩:=cells5 hub2.out; by_cases hs:s < re.length
           ·have q5:decide ((s:Int) < (re.length:Int))=true:=decide_eq_true (by omega)
            have q5':decide (s < re.length)=true:=decide_eq_true hs; obtain ⟨t,ht⟩:∃ t,re[s]? = some t:=⟨_,List.getElem?_eq_getElem hs⟩; obtain ⟨g3,o3,cs3,ix3,-,-,hc3,hr3⟩:=(hre11.out.below goodStr hBx.out).at (P:=Tryz.prog) (t:=24) (by kernel_rfl) (fun _=>by kernel_rfl) ht; have hcs:cs3=[sv t]:=hr3; subst hcs
            have hnx:(re.take (s+1)).any (fun r=>decide (r=uk))=(O || decide (t=uk)):=by
             rw [List.take_add_one,ht,List.any_append,← hO.out]; simp
            have e1:=hc3 0 _ rfl; rw [Nat.add_zero] at e1; replace e1:wr.cell? ⟨g3,o3,none⟩=some (sv t):=e1
            have hVd:=fun n=>hid (below_drewN hVr.out n)
            replace ht:=hid ht; clear hc3 hr3
            cases O with
            | true =>
             have hLn:Hid (true=(re.take (s+1)).any fun r=>decide (r=uk)):=hid (by rw [hnx]; rfl); replace hnx:=hid hnx
             go_upto_region 45 with (fail)
             go_quiet (fail)
             go_wp2_with fail
             go_roundg (re.length - (s+1))
             case measure=>omega
             case rel=>exact ⟨s+1,true,rfl,by go_num,by omega,hLn,hVd _⟩
            | false =>
             by_cases hh:t=uk
             ·have q6:(t == uk)=true:=by simpa using hh
              have hLn:Hid (true=(re.take (s+1)).any fun r=>decide (r=uk)):=hid (by rw [hnx,decide_eq_true hh]; rfl); replace hnx:=hid hnx; replace hh:=hid hh
              go_upto_region 45 with (fail)
              go_quiet (fail)
              go_wp2_with fail
              go_roundg (re.length - (s+1))
              case measure=>omega
              case rel=>exact ⟨s+1,true,rfl,by go_num,by omega,hLn,hVd _⟩
             ·have q6:(t == uk)=false:=by simpa using hh
              have hLn:Hid (false=(re.take (s+1)).any fun r=>decide (r=uk)):=hid (by rw [hnx,decide_eq_false hh]; rfl); replace hnx:=hid hnx; replace hh:=hid hh
              go_upto_region 45 with (fail)
              go_quiet (fail)
              go_wp2_with fail
              go_roundg (re.length - (s+1))
              case measure=>omega
              case rel=>exact ⟨s+1,false,rfl,by go_num,by omega,hLn,hVd _⟩
           ·have q5:decide ((s:Int) < (re.length:Int))=false:=decide_eq_false (by omega)
            have q5':decide (s < re.length)=false:=decide_eq_false hs; have htr:re.take s=re:=List.take_of_length_le (by omega); rw [htr] at hO; replace htr:=hid htr
            cases O with
            | true =>
             have hLn:Hid (L2=(others++undo.flatMap (wU st re))++(«do».take (j+1)).flatMap (wD re)):=hid (by
              rw [List.take_add_one,hu.out,Option.toList_some,List.flatMap_append,← List.append_assoc,← hLe2.out,List.flatMap_cons,List.flatMap_nil,List.append_nil]; unfold wD
              rw [← hO.out,if_pos rfl,List.append_nil])
             go_wp2_with fail
             go_roundg («do».length - (j+1))
             case measure=>omega
             case rel=>exact ⟨j+1,m2,L2,a2,c2,rfl,by go_num,by omega,by omega,hLm2,hLn,hO2,hBx⟩
            | false =>
             have hLn:Hid (L2++[(⟨uk,uN,ual,false,ut⟩:Out)]=(others++undo.flatMap (wU st re))++(«do».take (j+1)).flatMap (wD re)):=hid (by
              rw [List.take_add_one,hu.out,Option.toList_some,List.flatMap_append,← List.append_assoc,← hLe2.out,List.flatMap_cons,List.flatMap_nil,List.append_nil]; unfold wD
              rw [← hO.out,if_neg (by decide)])
             have hq1:∀ q,q < wr.heap.size→q≠ub→(wr).heap[q]? = wr.heap[q]?:=fun q hq hne=>rfl
             have rV:(wr).heap[ub]? = some (.cells #[sv uk,sv uN,.slice xa ual.length xk,.bool false,iv ut] 37 (0,0)):=hub2.out; have sV:(wr).heap.size=wr.heap.size:=rfl; have bV:Below w10.heap.size w10 (wr):=hBx.out; obtain ⟨V1,hV1⟩:∃ W,W=wr:=⟨_,rfl⟩; rw [← hV1] at hq1 rV sV bV; have aV:Below V1.heap.size V1 (V1.alloc (.cells #[sv uk,sv uN,.slice xa ual.length xk,.bool false,iv ut] 37 (0,0))):=(Below.refl _ _).alloc (Nat.le_refl _) _; have nV:=heap_alloc_new' V1 (.cells #[sv uk,sv uN,.slice xa ual.length xk,.bool false,iv ut] 37 (0,0))
             have hOV:OutN w10.heap.size V1 L2 (.slice a2 m2 c2):=by rw [hV1]; exact hO2.out
             have hOA:=hOV.below aV; have bA:=bV.trans (aV.mono bV.size); have hlV:=lt_of_heap rV; have rA2:=(aV.block ub hlV).trans rV; obtain ⟨a3,c3,W3,hap,hO3,hB3,hk3,how3⟩:=outN_push (x:=(⟨uk,uN,ual,false,ut⟩:Out)) (cs:=[sv uk,sv uN,.slice xa ual.length xk,.bool false,iv ut]) hOA bA.size nV rfl (outR_shut (o:=(⟨uk,uN,ual,false,ut⟩:Out)) (hv.out.below goodVal bA)) (by rw [hLm2.out]; omega) 23; rw [hLm2.out] at hap hO3 how3; have rB:=hid ((hk3 ub (Nat.lt_of_lt_of_le hlV aV.size) (fun e=>hown2.out ub e rfl)).trans rA2)
             have hown3:Hid (∀ q,(Value.slice a3 (m2+1) c3).ownBlock=some q→q≠ub):=hid fun q hq e=>by
              rcases how3 q hq with h | h
              ·exact hown2.out q h e
              ·have:=aV.size; omega
             have bB:=hid (bA.trans (hB3.mono (Nat.le_refl _))); have hL3:Hid ((L2++[(⟨uk,uN,ual,false,ut⟩:Out)]).length=m2+1):=hid (by rw [List.length_append,hLm2.out]; rfl); obtain ⟨v0,v1,v2,v3,v4⟩:=cells5 rV
             have uV:∀ i,V1.frozen? ⟨ub,i,none⟩=false:=fun i=>free_of (i:=i) rV
             rw [sV] at hap; replace hO3:=hid hO3; replace hap:=hid hap; clear v0 v1 v2 v3 v4; subst hV1
             go_wp2_with (first | (at_builtin; refine wpList_append_shut rfl (.tmp 194) (.tmp 196) rfl rfl rfl hap.out ?_))
             go_roundg («do».length - (j+1))
             case measure=>omega
             case rel=>exact ⟨j+1,m2+1,_,a3,c3,rfl,by go_num,by omega,by omega,hL3,hLn,hO3,bB⟩
         ·have q2:decide ((j:Int) < («do».length:Int))=false:=decide_eq_false (by omega)
          have q2':decide (j < «do».length)=false:=decide_eq_false hj
          have hLw:L2=wantF others undo «do» st re:=by
           rw [hLe2.out,show «do».take j = «do» from List.take_of_length_le (by omega)]; rfl
          subst hLw; obtain ⟨cc,k1,k2,k3,k4,k5,k6⟩:=sameP_args hnN hwN hlen.out hsame.out
          have hwm:=want_mem others undo «do» st re
          have hsm:=hid (netSameP_any now (wantF others undo «do» st re) cc (by rw [hLm2.out]; omega) hwN (fun o ho=>by
           obtain ⟨x,hx,e1,-⟩:=hwm o ho; rw [← e1]; rcases hx with hx | hx | hx
           ·exact Nat.le_trans (hef.out.2 x hx).1 (by decide)
           ·exact Nat.le_trans (hfew.out.u.2 x hx).1 (by decide)
           ·exact Nat.le_trans (hfew.out.d.2 x hx).1 (by decide)) (fun o ho=>by
           obtain ⟨x,hx,-,e1⟩:=hwm o ho; rw [← e1]; rcases hx with hx | hx | hx
           ·exact hoB.out x hx
           ·exact h11.out.u x hx
           ·exact h11.out.d x hx) hnB k1 k2 k3 k4 k5 k6 _ _ _ _ wr (hNs.out.below goodOut hBr.out) hW.out.sl)
          replace hwm:=hid hwm; clear k1 k2 k3 k4 k5 k6
          go_wp2_with fail
          refine hsm.out.mono ?_; rintro e w13 ⟨rfl,hb13⟩; have b13:=b11.out.trans ((hBr.out.mono b11.out.size).trans (hb13.mono (Nat.le_trans b11.out.size hBr.out.size))); replace hb13:=hid hb13
          go_wp2_with fail
          go_ret; exact ⟨rfl,b13⟩
end Go.Proofs.YtfejagpjahoibaaGreatDoor
