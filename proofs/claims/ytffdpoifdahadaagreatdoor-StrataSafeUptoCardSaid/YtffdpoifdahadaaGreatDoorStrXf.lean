/- StrXf: StrXe, StrXf, in one text. -/
import Derived.Test.YtffdpoifdahadaaGreatDoorStrXb
set_option linter.unusedVariables false
set_option linter.unusedSimpArgs false
namespace Go.Proofs.YtffdpoifdahadaaGreatDoor
open Go.RowKit
open Go.Lib (hid)
theorem str_at {S:Foot} {w:World} {l:List (List UInt8)} {a:Option Addr} {n cap i:Nat} {x:List UInt8} (h:SlR 1 StrR S w l (.slice a n cap)) (hi:l[i]? = some x) :
  ∃ g o,(∀ kd W,(Instr.indexAt 36 (.slice a n cap) (.int kd i)).run Tryz.prog W=.ok (.pointer (some ⟨g,o,none⟩)) W)∧w.cell? ⟨g,o,none⟩=some (sv x):=by
 obtain ⟨g,o,cs,h1,h2,h3,h4,h5⟩:=h.at (P:=Tryz.prog) (t:=36) (by kernel_rfl) (fun _=>by kernel_rfl) hi; refine ⟨g,o,h1,?_⟩; have:=h4 0 (sv x) (by rw [show cs=[sv x] from h5]; rfl); simpa using this
theorem inti_at {S:Foot} {w:World} {l:List Int} {a:Option Addr} {n cap i:Nat} {x:Int} (h:SlR 1 IntR S w l (.slice a n cap)) (hi:l[i]? = some x) :
  ∃ g o,(∀ kd W,(Instr.indexAt 33 (.slice a n cap) (.int kd i)).run Tryz.prog W=.ok (.pointer (some ⟨g,o,none⟩)) W)∧w.cell? ⟨g,o,none⟩=some (iv x):=by
 obtain ⟨g,o,cs,h1,h2,h3,h4,h5⟩:=h.at (P:=Tryz.prog) (t:=33) (by kernel_rfl) (fun _=>by kernel_rfl) hi; refine ⟨g,o,h1,?_⟩; have:=h4 0 (iv x) (by rw [show cs=[iv x] from h5]; rfl); simpa using this
theorem so_sl {w:World} {l:List (List UInt8)} {v:Value} (h:SO w l v):SlR 1 StrR (fun k=>v.ownBlock=some k) w l v:=by
 rcases h.2 with ⟨rfl,h0⟩ | ⟨g,cap,cur,rfl,-,hg,hn,hm,hs,ht⟩
 ·have:l=[]:=List.length_eq_zero_iff.1 h0
  subst this; exact SlR.nil _ _ _ _ _
 ·refine ⟨some ⟨g,0,none⟩,cap,g,0,fun i=>[sv (l.getD i [])],rfl,hn,fun _=>⟨rfl,rfl,lt_of_some hg⟩,fun i hi j u hu=>?_,fun i x hx=>?_⟩
  ·have hj:j=0:=by
    have:=(List.getElem?_eq_some_iff.1 hu).1; simp at this; omega
   subst hj; simp at hu; subst hu; have hc:=(own_cell (i:=i) (x:=sv (l.getD i [])) h (by rw [List.getElem?_map,getD_some hi]; rfl)).1; simpa using hc
  ·show [sv (l.getD i [])]=[sv x]
   rw [List.getD_eq_getElem?_getD,hx]; rfl
theorem number_here {names:List Nm} {lv:List Int} {rel:Nm} {k:Nat} (hk:k < names.length) (hk2:k < lv.length) (hb:∀ i,i < k→names.getD i []≠rel) (he:names.getD k []=rel):numberA names lv rel=lv.getD k 0:=by
 unfold numberA
 have:(List.range (min names.length lv.length)).find? (fun i=>decide (names.getD i []=rel))=some k:=by
  rw [List.find?_eq_some_iff_getElem]; refine ⟨by simpa using he,k,by simp; omega,by simp,fun j hj=>?_⟩; simp only [List.getElem_range]; simpa using hb j hj
 rw [this]
theorem number_no {names:List Nm} {lv:List Int} {rel:Nm} {k:Nat} (hk:¬ (k < names.length∧k < lv.length)) (hb:∀ i,i < k→names.getD i []≠rel):numberA names lv rel = -1:=by
 unfold numberA
 have:(List.range (min names.length lv.length)).find? (fun i=>decide (names.getD i []=rel))=none:=by
  rw [List.find?_eq_none]; intro i hi; rw [List.mem_range] at hi; simpa using hb i (by omega)
 rw [this]
set_option maxHeartbeats 4000000 in
set_option maxRecDepth 100000 in
theorem number28_any (names:List Nm) (lv:List Int) (rel:Nm) (na la:Option Addr) (nc lc:Nat) (S T:Foot) (w:World) (h1:SlR 1 StrR S w names (.slice na names.length nc)) (h2:SlR 1 IntR T w lv (.slice la lv.length lc)) (hn:names.length≤2000000000000) (hl:lv.length≤2000000000000) :
  Calls Tryz.prog 23 #[.slice na names.length nc,.slice la lv.length lc,sv rel] w fun e w'=>e=.returned (iv (numberA names lv rel))∧w'=w:=by
 obtain ⟨R,hR⟩:∃ R,R=numberA names lv rel:=⟨_,rfl⟩; rw [← hR]; replace hR:=hid hR; replace h1:=hid h1; replace h2:=hid h2
 go_enter Tryz.func23,Tryz.ntmps23
 go_wp2_with fail
 go_loopg [7] names.length (fun f v7 wr=>∃ (k:Nat),v7=iv k∧k+f=names.length∧wr=w∧Hid (∀ i,i < k→names.getD i []≠rel))
 case atStart=>exact ⟨0,rfl,by omega,rfl,hid fun i hi=>by omega⟩
 case round =>
  obtain ⟨k,rfl,hkf,hww,hb⟩:=hrel; subst hww; by_cases hlt:k < names.length
  ·have q1:decide ((k:Int) < (names.length:Int))=true:=decide_eq_true (by omega)
   by_cases hlt2:k < lv.length
   ·have q2:decide ((k:Int) < (lv.length:Int))=true:=decide_eq_true (by omega)
    have q3:IntKind.i64.wrap ((k:Int)+1)=((k+1:Nat):Int):=by rw [IntKind.wrap_i64]; omega
    obtain ⟨x,hx⟩:∃ x,names[k]? = some x:=⟨_,List.getElem?_eq_getElem hlt⟩; obtain ⟨y,hy⟩:∃ y,lv[k]? = some y:=⟨_,List.getElem?_eq_getElem hlt2⟩; obtain ⟨g1,o1,i1,c1⟩:=str_at h1.out hx; obtain ⟨g2,o2,i2,c2⟩:=inti_at h2.out hy
    have hxd:names.getD k []=x:=by rw [List.getD_eq_getElem?_getD,hx]; rfl
    have hyd:lv.getD k 0=y:=by rw [List.getD_eq_getElem?_getD,hy]; rfl
    by_cases he:x=rel
    ·subst he
     have hF:=hid (show R=y from by rw [hR.out,number_here hlt hlt2 hb.out hxd,hyd]); replace hxd:=hid hxd; replace hyd:=hid hyd; replace hx:=hid hx; replace hy:=hid hy
     go_wp2_with fail
     go_ret; exact ⟨by rw [hF.out]; rfl,rfl⟩
    ·have hb2:=hid (show ∀ i,i < k+1→names.getD i []≠rel from fun i hi=>by
      by_cases e:i=k
      ·subst e; rw [hxd]; exact he
      ·exact hb.out i (by omega))
     have qs:(x == rel)=false:=by simpa using he
     replace he:=hid he; replace hxd:=hid hxd; replace hyd:=hid hyd; replace hx:=hid hx; replace hy:=hid hy
     go_wp2_with fail
     go_roundg (names.length - (k+1))
     case measure=>omega
     case rel=>exact ⟨k+1,rfl,by omega,rfl,hb2⟩
   ·have q2:decide ((k:Int) < (lv.length:Int))=false:=decide_eq_false (by omega)
    have hF:=hid (show R = -1 from by rw [hR.out]; exact number_no (fun h=>hlt2 h.2) hb.out)
    go_wp2_with fail
    go_ret; exact ⟨by rw [hF.out]; rfl,rfl⟩
  ·have q1:decide ((k:Int) < (names.length:Int))=false:=decide_eq_false (by omega)
   have hF:=hid (show R = -1 from by rw [hR.out]; exact number_no (fun h=>hlt h.1) hb.out)
   go_wp2_with fail
   go_ret; exact ⟨by rw [hF.out]; rfl,rfl⟩
set_option maxHeartbeats 4000000 in
set_option maxRecDepth 100000 in
theorem missing28_any (seen:List Nm) (sa:Option Addr) (sc:Nat) (x:Lg) (xa:Option Addr) (xc:Nat) (S T:Foot) (w:World) (h1:SlR 1 StrR T w seen (.slice sa seen.length sc)) (h:SlR 7 TgR S w x.args (.slice xa x.args.length xc)) (hS:∀ k,S k→k < w.heap.size) (hl:x.args.length≤1048576) (hv:∀ t∈x.args,t.var.length≤1048576) (hsl:seen.length≤2000000000000) :
  Calls Tryz.prog 11 #[.slice sa seen.length sc,.agg (lcells x.op x.nt x.rel (.slice xa x.args.length xc))] w fun e w'=>e=.returned (iv (missF seen x:Nat))∧Below w.heap.size w w':=by
 obtain ⟨M,hM⟩:∃ M,M=missF seen x:=⟨_,rfl⟩; rw [← hM]; replace hM:=hid hM; have hb0:Below w.heap.size w (w.alloc (.cells (lcells x.op x.nt x.rel (.slice xa x.args.length xc)) 24)):=(Below.refl _ w).alloc (Nat.le_refl _) _; have hk0:=heap_alloc_new' w (.cells (lcells x.op x.nt x.rel (.slice xa x.args.length xc)) 24); obtain ⟨w0,hw0⟩:∃ w0,w0=w.alloc (.cells (lcells x.op x.nt x.rel (.slice xa x.args.length xc)) 24):=⟨_,rfl⟩; rw [← hw0] at hb0 hk0; obtain ⟨c0,c1,c2,c3,-⟩:=lt_cells hk0; have hva:=hid (vars_any x xa xc S w0 (h.below goodTg hb0) (fun k hk=>Nat.lt_of_lt_of_le (hS k hk) hb0.size) hl hv); have hs0:=hid (h1.below goodStr hb0); replace hw0:=hid hw0; replace hb0:=hid hb0; clear h hk0 h1
 go_enter Tryz.func11,Tryz.ntmps11
 go_upto_region 1 with (fail)
 rw [← hw0.out]
 go_wp2_with fail
 with_reducible refine hva.out.mono ?_
 rintro e w1 ⟨v,rfl,hvr,-,hb1⟩; obtain ⟨va,vc,rfl,-,-⟩:=owns_form hvr; have hvs:=so_sl hvr; obtain ⟨vs,hvse⟩:∃ vs,vs=varsF x:=⟨_,rfl⟩; rw [← hvse] at hvs ⊢
 have hvl:vs.length≤1048576:=by rw [hvse]; exact Nat.le_trans (by rw [← accK_all x _ (Nat.le_refl _)]; exact accK_len _ _) hl
 have hm:missF seen x=(vs.filter fun v=>!decide (v∈seen)).length:=by unfold missF; rw [hvse]
 have hB1:=hid (hb0.out.trans (hb1.mono hb0.out.size)); have hs1:=hid (hs0.out.below goodStr hb1); have hv1:=hid hvs; replace hvse:=hid hvse; replace hm:=hid (hM.out.trans hm); clear hvr hva hb1 hs0 hvs c0 c1 c2 c3
 go_wp2_with fail
 go_loopg [6,7] vs.length (fun f v6 v7 wr=>∃ (k m:Nat),v6=iv m∧v7=iv k∧k+f=vs.length∧m≤k∧Hid (m=((vs.take k).filter fun v=>!decide (v∈seen)).length)∧Hid (Below w1.heap.size w1 wr))
 case atStart=>exact ⟨0,0,rfl,rfl,by omega,by omega,hid rfl,hid (Below.refl _ _)⟩
 case round =>
  obtain ⟨k,m,rfl,rfl,hkf,hmk,hmm,hB⟩:=hrel; by_cases hlt:k < vs.length
  ·have q1:decide ((k:Int) < (vs.length:Int))=true:=decide_eq_true (by omega)
   have q3:IntKind.i64.wrap ((k:Int)+1)=((k+1:Nat):Int):=by rw [IntKind.wrap_i64]; omega
   have q4:IntKind.i64.wrap ((m:Int)+1)=((m+1:Nat):Int):=by rw [IntKind.wrap_i64]; omega
   obtain ⟨x1,hx⟩:∃ x,vs[k]? = some x:=⟨_,List.getElem?_eq_getElem hlt⟩
   have htk:((vs.take (k+1)).filter fun v=>!decide (v∈seen)).length=m+if x1∈seen then 0 else 1:=by
    rw [List.take_add_one,hx,List.filter_append,List.length_append,← hmm.out]; by_cases e:x1∈seen <;> simp [e]
   have htk':=hid htk; clear htk
   go_wp2_with fail
   go_loopg [8,9] seen.length (fun f v8 v9 wr2=>∃ (j:Nat) (b:Bool),v8=.bool b∧v9=iv j∧j+f=seen.length∧Hid (b=decide (x1∈seen.take j))∧Hid (Below w1.heap.size w1 wr2))
   case atStart=>exact ⟨0,false,rfl,rfl,by omega,hid (by simp),hB⟩
   case round =>
    obtain ⟨j,b,rfl,rfl,hjf,hbj,hB2⟩:=hrel; by_cases hlj:j < seen.length
    ·have q5:decide ((j:Int) < (seen.length:Int))=true:=decide_eq_true (by omega)
     have q6:IntKind.i64.wrap ((j:Int)+1)=((j+1:Nat):Int):=by rw [IntKind.wrap_i64]; omega
     obtain ⟨y1,hy⟩:∃ y,seen[j]? = some y:=⟨_,List.getElem?_eq_getElem hlj⟩; obtain ⟨g1,o1,i1,e1⟩:=str_at (hv1.out.below goodStr hB2.out) hx; obtain ⟨g2,o2,i2,e2⟩:=str_at (hs1.out.below goodStr hB2.out) hy
     have hbn:decide (x1∈seen.take (j+1))=(b || decide (y1=x1)):=by
      rw [List.take_add_one,hy,hbj.out]; by_cases h1:x1∈seen.take j
      ·simp [h1]
      ·by_cases h2:y1=x1
       ·simp [h1,h2]
       ·simp [h1,h2,Ne.symm h2]
     have hB3:=hid (fun n=>hB2.out.trans ((below_drewM (Below.refl _ wr) n).mono hB2.out.size))
     cases b with
     | true =>
      have hb3:=hid (show true=decide (x1∈seen.take (j+1)) from by rw [hbn]; rfl); replace hbn:=hid hbn; replace hx:=hid hx; replace hy:=hid hy
      go_wp2_with fail
      go_quiet (fail)
      all_goals go_wp2_with fail
      all_goals go_roundg (seen.length - (j+1))
      case measure=>omega
      case rel=>exact ⟨j+1,true,rfl,rfl,by omega,hb3,hid (hB3.out nq)⟩
     | false =>
      by_cases he:y1=x1
      ·have qs:(y1 == x1)=true:=by simpa using he
       have hb3:=hid (show true=decide (x1∈seen.take (j+1)) from by rw [hbn,he]; simp); replace hbn:=hid hbn; replace hx:=hid hx; replace hy:=hid hy; have he':=hid he; clear he
       go_wp2_with fail
       go_quiet (fail)
       all_goals go_wp2_with fail
       all_goals go_roundg (seen.length - (j+1))
       case measure=>omega
       case rel=>exact ⟨j+1,true,rfl,rfl,by omega,hb3,hid (hB3.out nq)⟩
      ·have qs:(y1 == x1)=false:=by simpa using he
       have hb3:=hid (show false=decide (x1∈seen.take (j+1)) from by rw [hbn]; simp [he]); replace hbn:=hid hbn; replace hx:=hid hx; replace hy:=hid hy; have he':=hid he; clear he
       go_wp2_with fail
       go_quiet (fail)
       all_goals go_wp2_with fail
       all_goals go_roundg (seen.length - (j+1))
       case measure=>omega
       case rel=>exact ⟨j+1,false,rfl,rfl,by omega,hb3,hid (hB3.out nq)⟩
    ·have q5:decide ((j:Int) < (seen.length:Int))=false:=decide_eq_false (by omega)
     have hbf:=hbj.out; rw [List.take_of_length_le (by omega)] at hbf
     cases b with
     | true =>
      have hm2:=hid (show m=((vs.take (k+1)).filter fun v=>!decide (v∈seen)).length from by rw [htk'.out,if_pos (of_decide_eq_true hbf.symm)]; rfl); replace hbf:=hid hbf
      go_wp2_with fail
      go_roundg (vs.length - (k+1))
      case measure=>omega
      case rel=>exact ⟨k+1,m,rfl,rfl,by omega,by omega,hm2,hB2⟩
     | false =>
      have hm2:=hid (show m+1=((vs.take (k+1)).filter fun v=>!decide (v∈seen)).length from by rw [htk'.out,if_neg (of_decide_eq_false hbf.symm)]); replace hbf:=hid hbf
      go_wp2_with fail
      go_roundg (vs.length - (k+1))
      case measure=>omega
      case rel=>exact ⟨k+1,m+1,rfl,rfl,by omega,by omega,hm2,hB2⟩
  ·have q1:decide ((k:Int) < (vs.length:Int))=false:=decide_eq_false (by omega)
   have hfin:=hid (show m=M from by rw [hm.out,hmm.out,List.take_of_length_le (by omega)])
   go_wp2_with fail
   go_ret; exact ⟨by rw [← hfin.out]; rfl,hB1.out.trans (hB.out.mono hB1.out.size)⟩
--VALID
set_option maxHeartbeats 40000000 in
set_option maxRecDepth 100000 in
theorem valid28_any (q:Qg) (ra:Option Addr) (rc:Nat) (aa:Option Addr) (ac:Nat) (S:Foot) (names:List Nm) (lv:List Int) (na la:Option Addr) (nc lc:Nat) (S1 T1:Foot) (w:World) (h:QR q ra rc aa ac S w) (hnr:q.rules.length≤1048576) (hnb:∀ r∈q.rules,r.body.length≤1048576) (h1:SlR 1 StrR S1 w names (.slice na names.length nc)) (h2:SlR 1 IntR T1 w lv (.slice la lv.length lc)) (hn:names.length≤2000000000000) (hl:lv.length≤2000000000000) :
  Calls Tryz.prog 18 #[qval q ra rc aa ac,.slice na names.length nc,.slice la lv.length lc] w fun e w'=>e=.returned (.bool (validA q.rules names lv))∧Below w.heap.size w w':=by
 obtain ⟨R,hR⟩:∃ R,R=validA q.rules names lv:=⟨_,rfl⟩; rw [← hR]; replace hR:=hid hR; have hb0:Below w.heap.size w (w.alloc (.cells (qcells (.slice ra q.rules.length rc) q.goal.op q.goal.nt q.goal.rel (.slice aa q.goal.args.length ac)) 32)):=(Below.refl _ w).alloc (Nat.le_refl _) _; have hbn:=heap_alloc_new' w (.cells (qcells (.slice ra q.rules.length rc) q.goal.op q.goal.nt q.goal.rel (.slice aa q.goal.args.length ac)) 32); obtain ⟨w0,hw0⟩:∃ w0,w0=w.alloc (.cells (qcells (.slice ra q.rules.length rc) q.goal.op q.goal.nt q.goal.rel (.slice aa q.goal.args.length ac)) 32):=⟨_,rfl⟩; rw [← hw0] at hb0 hbn; have hh:=hid h; have hnum:=hid (fun (W:World) (hW:Below w.heap.size w W) (rel:Nm)=>number28_any names lv rel na la nc lc S1 T1 W (h1.below goodStr hW) (h2.below goodInt hW) hn hl)
 replace hnb:=hid hnb; replace hw0:=hid hw0; replace hb0:=hid hb0; replace hbn:=hid hbn; clear h h1 h2
 go_enter Tryz.func18,Tryz.ntmps18
 go_upto_region 1 with (fail)
 rw [← hw0.out]
 go_wp2_with fail
 go_loopg [7] q.rules.length (fun f v7 wr=>∃ (k:Nat),v7=iv k∧k+f=q.rules.length∧Hid (Below w.heap.size w wr)∧Hid (wr.heap[w.heap.size]? = some (.cells (qcells (.slice ra q.rules.length rc) q.goal.op q.goal.nt q.goal.rel (.slice aa q.goal.args.length ac)) 32 (0,0)))∧Hid (R=(q.rules.drop k).all (fitR names lv)))
 case atStart=>exact ⟨0,rfl,by omega,hb0,hbn,hid hR.out⟩
 case round =>
  obtain ⟨k,rfl,hkf,hB,hkq,hRk⟩:=hrel; clear hb0 hbn hw0; obtain ⟨c0,-⟩:=q_cells hkq.out; by_cases hlt:k < q.rules.length
  ·have q1:decide ((k:Int) < (q.rules.length:Int))=true:=decide_eq_true (by omega)
   have q3:IntKind.i64.wrap ((k:Int)+1)=((k+1:Nat):Int):=by rw [IntKind.wrap_i64]; omega
   obtain ⟨r,hr⟩:∃ r,q.rules[k]? = some r:=⟨_,List.getElem?_eq_getElem hlt⟩; have hbl:=hnb.out r (List.mem_of_getElem? hr); obtain ⟨g,o,cs,hidx,-,hg,hc,hrt⟩:=(hh.out.rl.below goodRg hB.out).at (P:=Tryz.prog) (t:=30) (by kernel_rfl) (fun _=>by kernel_rfl) hr; obtain ⟨ha,hcap,ba,bc,rfl,-,hSb⟩:=hrt; obtain ⟨e0,e1,e2,e3,e4,e5,e6⟩:=rg_cells hc; have hb3:Below wr.heap.size wr (wr.alloc (.cells (rucells r.head.op r.head.nt r.head.rel (.slice ha r.head.args.length hcap) r.agg r.at_ (.slice ba r.body.length bc)) 27)):=(Below.refl _ wr).alloc (Nat.le_refl _) _; have hk3:=heap_alloc_new' wr (.cells (rucells r.head.op r.head.nt r.head.rel (.slice ha r.head.args.length hcap) r.agg r.at_ (.slice ba r.body.length bc)) 27); obtain ⟨T,hT⟩:∃ T,T=wr.heap.size:=⟨_,rfl⟩
   obtain ⟨W3,hW3⟩:∃ W3,W3=wr.alloc (.cells (rucells r.head.op r.head.nt r.head.rel (.slice ha r.head.args.length hcap) r.agg r.at_ (.slice ba r.body.length bc)) 27):=⟨_,rfl⟩; rw [← hW3] at hb3 hk3; rw [← hT] at hk3; have hBw:=hid hB.out; have hB3:=hid (hB.out.trans (hb3.mono hB.out.size)); have hkq3:=hid (below_keep hb3 hkq.out (lt_of_heap hkq.out)); obtain ⟨v0,v1,v2,v3,v4,v5,v6,-⟩:=ru_cells hk3; have hnu:=hid (hnum.out W3 hB3.out r.head.rel); obtain ⟨n,hne⟩:∃ n,n=numberA names lv r.head.rel:=⟨_,rfl⟩; rw [← hne] at hnu
   have hdr:q.rules.drop k=r::q.rules.drop (k+1):=by rw [List.drop_eq_getElem_cons hlt]; congr 1; rw [List.getElem?_eq_getElem hlt] at hr; injection hr
   have hR3:=hid (show R=((r.body.drop 0).all (fitL names lv r n) && !decide (n < 0) && (q.rules.drop (k+1)).all (fitR names lv)) from by rw [hRk.out,hdr,hne]; rfl); have hk3':=hid hk3; replace hSb:=hid hSb; replace hT:=hid hT; replace hW3:=hid hW3; replace hne:=hid hne; replace hdr:=hid hdr; clear hc hb3 hk3 hRk hB hkq
   go_upto_region 5 with (fail)
   rw [← hW3.out,← hT.out]; clear e0 e1 e2 e3 e4 e5 e6 c0
   go_wp2_with fail
   with_reducible refine hnu.out.mono ?_
   rintro e wx ⟨rfl,hwx⟩; subst hwx; clear hnu
   go_wp2_with fail
   go_loopg [10] r.body.length (fun f v10 wr2=>∃ (j:Nat),v10=iv j∧j+f=r.body.length∧Hid (Below w.heap.size w wr2)∧Hid (wr2.heap[w.heap.size]? = some (.cells (qcells (.slice ra q.rules.length rc) q.goal.op q.goal.nt q.goal.rel (.slice aa q.goal.args.length ac)) 32 (0,0))∧wr2.heap[T]? = some (.cells (rucells r.head.op r.head.nt r.head.rel (.slice ha r.head.args.length hcap) r.agg r.at_ (.slice ba r.body.length bc)) 27 (0,0)))∧Hid (R=((r.body.drop j).all (fitL names lv r n) && !decide (n < 0) && (q.rules.drop (k+1)).all (fitR names lv))))
   case atStart=>exact ⟨0,rfl,by omega,hB3,hid ⟨hkq3.out,hk3'.out⟩,hR3⟩
   case round =>
    obtain ⟨j,rfl,hjf,hB5,hk5,hR4⟩:=hrel; clear v0 v1 v2 v3 v4 v5 v6 hB3 hkq3 hk3' hR3 hidx hg; obtain ⟨v0,v1,v2,v3,v4,v5,v6,-⟩:=ru_cells hk5.out.2; clear v0 v2 v3 v5; by_cases hlj:j < r.body.length
    ·have q5:decide ((j:Int) < (r.body.length:Int))=true:=decide_eq_true (by omega)
     have q6:IntKind.i64.wrap ((j:Int)+1)=((j+1:Nat):Int):=by rw [IntKind.wrap_i64]; omega
     obtain ⟨x,hx⟩:∃ x,r.body[j]? = some x:=⟨_,List.getElem?_eq_getElem hlj⟩; obtain ⟨g,o,cs,hidx,-,hg,hc,hrt⟩:=(sl_same goodLg hSb.out hh.out.lo hBw.out hB5.out).at (P:=Tryz.prog) (t:=25) (by kernel_rfl) (fun _=>by kernel_rfl) hx; obtain ⟨xa,xc,rfl,-⟩:=hrt; have d0:wr.cell? ⟨g,o+0,none⟩=some (iv x.op):=hc 0 _ rfl; have d1:wr.cell? ⟨g,o+1,none⟩=some (.bool x.nt):=hc 1 _ rfl; have d2:wr.cell? ⟨g,o+2,none⟩=some (sv x.rel):=hc 2 _ rfl; rw [Nat.add_zero] at d0; have hnu:=hid (hnum.out wr hB5.out x.rel); obtain ⟨m,hme⟩:∃ m,m=numberA names lv x.rel:=⟨_,rfl⟩; rw [← hme] at hnu
     have hdr2:r.body.drop j=x::r.body.drop (j+1):=by rw [List.drop_eq_getElem_cons hlj]; congr 1; rw [List.getElem?_eq_getElem hlj] at hx; injection hx
     have hfit:fitL names lv r n x=if x.op≠0∨m < 0 then true else !(decide (n < m) || (decide (n=m) && (x.nt || !decide (r.agg=0)))):=by rw [hme]; rfl
     have hR5:=hid (show R=(fitL names lv r n x && (r.body.drop (j+1)).all (fitL names lv r n) && !decide (n < 0) && (q.rules.drop (k+1)).all (fitR names lv)) from by rw [hR4.out,hdr2]; rfl); replace hme:=hid hme; replace hdr2:=hid hdr2; replace hfit:=hid hfit; clear hc hR4
     go_upto_region 10 with (go_at_call 23; (with_reducible refine hnu.out.mono ?_); rintro e wx ⟨rfl,hwx⟩; subst hwx)
     clear hnu; by_cases ho:x.op=0
     ·rw [ho] at d0
      by_cases hm0:m < 0
      ·have r0:decide (m < 0)=true:=decide_eq_true hm0
       have hR6:=hid (show R=((r.body.drop (j+1)).all (fitL names lv r n) && !decide (n < 0) && (q.rules.drop (k+1)).all (fitR names lv)) from by rw [hR5.out,hfit.out,if_pos (Or.inr hm0)]; rfl); replace hm0:=hid hm0; replace ho:=hid ho
       go_wp2_with fail
       all_goals go_roundg (r.body.length - (j+1))
       case measure=>omega
       case rel=>exact ⟨j+1,rfl,by omega,hB5,hk5,hR6⟩
      ·have r0:decide (m < 0)=false:=decide_eq_false hm0
       have hfit2:fitL names lv r n x = !(decide (n < m) || (decide (n=m) && (x.nt || !decide (r.agg=0)))):=by rw [hfit.out,if_neg (by rintro (h | h); exact h ho; exact hm0 h)]
       replace hm0:=hid hm0; replace ho:=hid ho; by_cases hnm:n < m
       ·have r1:decide (n < m)=true:=decide_eq_true hnm
        have hF:=hid (show R=false from by rw [hR5.out,hfit2,r1]; rfl); replace hnm:=hid hnm; replace hfit2:=hid hfit2
        go_wp2_with fail
        all_goals go_ret
        all_goals exact ⟨by rw [hF.out]; rfl,hB5.out⟩
       ·have r1:decide (n < m)=false:=decide_eq_false hnm
        replace hnm:=hid hnm; by_cases hq:n=m
        ·subst hq
         have r2:(n == n)=true:=by simp
         cases hnt:x.nt with
         | true =>
          rw [hnt] at d1; have hF:=hid (show R=false from by rw [hR5.out,hfit2,hnt,r1,decide_eq_true rfl]; rfl); replace hnt:=hid hnt; replace hfit2:=hid hfit2
          go_wp2_with fail
          all_goals go_ret
          all_goals exact ⟨by rw [hF.out]; rfl,hB5.out⟩
         | false =>
          rw [hnt] at d1; by_cases hag:r.agg=0
          ·rw [hag] at v4
           have hR6:=hid (show R=((r.body.drop (j+1)).all (fitL names lv r n) && !decide (n < 0) && (q.rules.drop (k+1)).all (fitR names lv)) from by rw [hR5.out,hfit2,hnt,r1,decide_eq_true rfl,hag]; rfl); replace hnt:=hid hnt; replace hag:=hid hag; replace hfit2:=hid hfit2
           go_wp2_with fail
           all_goals go_roundg (r.body.length - (j+1))
           case measure=>omega
           case rel=>exact ⟨j+1,rfl,by omega,hB5,hk5,hR6⟩
          ·have r3:(r.agg != 0)=true:=by simpa using hag
           have hF:=hid (show R=false from by rw [hR5.out,hfit2,hnt,r1,decide_eq_true rfl,decide_eq_false hag]; rfl); replace hnt:=hid hnt; replace hag:=hid hag; replace hfit2:=hid hfit2
           go_wp2_with fail
           all_goals go_ret
           all_goals exact ⟨by rw [hF.out]; rfl,hB5.out⟩
        ·have r2:(n == m)=false:=by simpa using hq
         have hR6:=hid (show R=((r.body.drop (j+1)).all (fitL names lv r n) && !decide (n < 0) && (q.rules.drop (k+1)).all (fitR names lv)) from by rw [hR5.out,hfit2,r1,decide_eq_false hq]; rfl); replace hq:=hid hq; replace hfit2:=hid hfit2
         go_wp2_with fail
         all_goals go_roundg (r.body.length - (j+1))
         case measure=>omega
         case rel=>exact ⟨j+1,rfl,by omega,hB5,hk5,hR6⟩
     ·have r0:(x.op != 0)=true:=by simpa using ho
      have hR6:=hid (show R=((r.body.drop (j+1)).all (fitL names lv r n) && !decide (n < 0) && (q.rules.drop (k+1)).all (fitR names lv)) from by rw [hR5.out,hfit.out,if_pos (Or.inl ho)]; rfl); replace ho:=hid ho
      go_wp2_with fail
      all_goals go_roundg (r.body.length - (j+1))
      all_goals first
       | omega
       | exact ⟨j+1,rfl,by omega,hB5,hk5,hR6⟩
      --=>omega
      --=>exact ⟨j+1,rfl,by omega,hB5,hk5,hR6⟩
    ·have q5:decide ((j:Int) < (r.body.length:Int))=false:=decide_eq_false (by omega)
     have hR5:=hid (show R=(!decide (n < 0) && (q.rules.drop (k+1)).all (fitR names lv)) from by rw [hR4.out,List.drop_of_length_le (by omega)]; rfl); have hkq5:=hid hk5.out.1; by_cases hn0:n < 0
     ·have r0:decide (n < 0)=true:=decide_eq_true hn0
      have hF:=hid (show R=false from by rw [hR5.out,r0]; rfl); replace hn0:=hid hn0
      go_wp2_with fail
      go_ret; exact ⟨by rw [hF.out]; rfl,hB5.out⟩
     ·have r0:decide (n < 0)=false:=decide_eq_false hn0
      have hR6:=hid (show R=(q.rules.drop (k+1)).all (fitR names lv) from by rw [hR5.out,r0]; rfl); replace hn0:=hid hn0
      go_wp2_with fail
      go_roundg (q.rules.length - (k+1))
      case measure=>omega
      case rel=>exact ⟨k+1,rfl,by omega,hB5,hkq5,hR6⟩
  ·have q1:decide ((k:Int) < (q.rules.length:Int))=false:=decide_eq_false (by omega)
   have hT:=hid (show R=true from by rw [hRk.out,List.drop_of_length_le (by omega)]; rfl)
   go_wp2_with fail
   go_ret; exact ⟨by rw [hT.out]; rfl,hB.out⟩
end Go.Proofs.YtffdpoifdahadaaGreatDoor
set_option linter.unusedSimpArgs false
namespace Go.Proofs.YtffdpoifdahadaaGreatDoor
open Go.RowKit
open Go.Lib (hid)
theorem level_here {rs:List Rg} {L:List (List Nat)} {rel:Nm} {n:Nat} (hn:n < L.length) (hb:∀ i,i < n→hasR rs L rel i=false) (he:hasR rs L rel n=true):levelA rs L rel=(n:Int):=by
 unfold levelA
 have:(List.range L.length).find? (hasR rs L rel)=some n:=by
  rw [List.find?_eq_some_iff_getElem]; refine ⟨he,n,by simpa using hn,by simp,fun j hj=>?_⟩; simp only [List.getElem_range]; simp [hb j hj]
 rw [this]
theorem level_no {rs:List Rg} {L:List (List Nat)} {rel:Nm} (hb:∀ i,i < L.length→hasR rs L rel i=false):levelA rs L rel = -1:=by
 unfold levelA
 have:(List.range L.length).find? (hasR rs L rel)=none:=by
  rw [List.find?_eq_none]; intro i hi; rw [List.mem_range] at hi; simp [hb i hi]
 rw [this]
set_option maxHeartbeats 40000000 in
set_option maxRecDepth 100000 in
theorem level28_any (q:Qg) (ra:Option Addr) (rc:Nat) (aa:Option Addr) (ac:Nat) (S:Foot) (L:List (List Nat)) (la:Option Addr) (lc:Nat) (T:Foot) (rel:Nm) (w:World) (h:QR q ra rc aa ac S w) (hnr:q.rules.length≤1048576) (h1:SlR 1 RowN T w L (.slice la L.length lc)) (hL:L.length≤2000000000000) (hLi:∀ l∈L,l.length≤2000000000000) :
  Calls Tryz.prog 15 #[qval q ra rc aa ac,.slice la L.length lc,sv rel] w fun e w'=>e=.returned (iv (levelA q.rules L rel))∧Below w.heap.size w w':=by
 obtain ⟨R,hR⟩:∃ R,R=levelA q.rules L rel:=⟨_,rfl⟩; rw [← hR]; replace hR:=hid hR; have hb0:Below w.heap.size w (w.alloc (.cells (qcells (.slice ra q.rules.length rc) q.goal.op q.goal.nt q.goal.rel (.slice aa q.goal.args.length ac)) 32)):=(Below.refl _ w).alloc (Nat.le_refl _) _; have hbn:=heap_alloc_new' w (.cells (qcells (.slice ra q.rules.length rc) q.goal.op q.goal.nt q.goal.rel (.slice aa q.goal.args.length ac)) 32); obtain ⟨w0,hw0⟩:∃ w0,w0=w.alloc (.cells (qcells (.slice ra q.rules.length rc) q.goal.op q.goal.nt q.goal.rel (.slice aa q.goal.args.length ac)) 32):=⟨_,rfl⟩; rw [← hw0] at hb0 hbn; have hh:=hid (h.below hb0); have hl0:=hid (h1.below goodRowN hb0); have hwl:=lt_of_heap hbn; replace hLi:=hid hLi; replace hw0:=hid hw0; replace hb0:=hid hb0; replace hbn:=hid hbn; clear h h1
 go_enter Tryz.func15,Tryz.ntmps15
 go_upto_region 1 with (fail)
 rw [← hw0.out]
 go_wp2_with fail
 go_loopg [7] L.length (fun f v7 wr=>∃ (n:Nat),v7=iv n∧n+f=L.length∧Hid (Below w0.heap.size w0 wr)∧Hid (∀ i,i < n→hasR q.rules L rel i=false))
 case atStart=>exact ⟨0,rfl,by omega,hid (Below.refl _ _),hid fun i hi=>by omega⟩
 case round =>
  obtain ⟨n,rfl,hnf,hB,hno⟩:=hrel; by_cases hlt:n < L.length
  ·have q1:decide ((n:Int) < (L.length:Int))=true:=decide_eq_true (by omega)
   have q3:IntKind.i64.wrap ((n:Int)+1)=((n+1:Nat):Int):=by rw [IntKind.wrap_i64]; omega
   obtain ⟨l,hl⟩:∃ l,L[n]? = some l:=⟨_,List.getElem?_eq_getElem hlt⟩
   have hlg:L.getD n []=l:=by rw [List.getD_eq_getElem?_getD,hl]; rfl
   have hll:=hLi.out l (List.mem_of_getElem? hl); replace hlg:=hid hlg
   go_wp2_with fail
   go_loopg [8] l.length (fun f v8 wr2=>∃ (i:Nat),v8=iv i∧i+f=l.length∧Hid (Below w0.heap.size w0 wr2)∧Hid (∀ k∈l.take i,¬ (k < q.rules.length∧relA q.rules k=rel)))
   case atStart=>exact ⟨0,rfl,by omega,hB,hid fun k hk=>by simp at hk⟩
   case round =>
    obtain ⟨i,rfl,hif,hB2,hni⟩:=hrel; obtain ⟨g,o,ai,ci,i1,e1,s1⟩:=row_at (hl0.out.below goodRowN hB2.out) hl; have c0:wr.cell? ⟨w.heap.size,0,none⟩=some (.slice ra q.rules.length rc):=(cell_of (below_keep hB2.out hbn.out hwl)).trans rfl; by_cases hli:i < l.length
    ·have q5:decide ((i:Int) < (l.length:Int))=true:=decide_eq_true (by omega)
     have q6:IntKind.i64.wrap ((i:Int)+1)=((i+1:Nat):Int):=by rw [IntKind.wrap_i64]; omega
     obtain ⟨x,hx⟩:∃ x,l[i]? = some x:=⟨_,List.getElem?_eq_getElem hli⟩; obtain ⟨g2,o2,i2,e2⟩:=nat_at s1 hx; have qx:decide ((0:Int)≤(x:Int))=true:=decide_eq_true (by omega); have hB3:=hid (fun n=>hB2.out.trans ((below_drewM (Below.refl _ wr) n).mono hB2.out.size)); by_cases hxr:x < q.rules.length
     ·have qr:decide ((x:Int) < (q.rules.length:Int))=true:=decide_eq_true (by omega)
      obtain ⟨r,hr⟩:∃ r,q.rules[x]? = some r:=⟨_,List.getElem?_eq_getElem hxr⟩
      have hrel:relA q.rules x=r.head.rel:=by
       rw [relA_get hxr]; rw [List.getElem?_eq_getElem hxr] at hr; injection hr with hr; rw [hr]
      obtain ⟨g3,o3,cs3,i3,-,hg3,hc3,hrt3⟩:=(hh.out.rl.below goodRg hB2.out).at (P:=Tryz.prog) (t:=30) (by kernel_rfl) (fun _=>by kernel_rfl) hr; obtain ⟨ha,hcap,ba,bc,rfl,-,-⟩:=hrt3; obtain ⟨-,-,f2,-,-,-,-⟩:=rg_cells hc3; by_cases he:r.head.rel=rel
      ·have qs:(r.head.rel == rel)=true:=by simpa using he
       have hfin:=hid (show R=(n:Int) from by
        rw [hR.out]; refine level_here hlt hno.out ?_; unfold hasR; rw [hlg.out,List.any_eq_true]
        exact ⟨x,List.mem_of_getElem? hx,by simp [hxr,hrel,he]⟩)
       replace he:=hid he; replace hx:=hid hx; replace hrel:=hid hrel; clear hc3 s1
       go_wp2_with fail
       go_quiet (fail)
       all_goals go_wp2_with fail
       all_goals go_ret
       all_goals exact ⟨by rw [hfin.out]; rfl,hb0.out.trans ((hB3.out _).mono hb0.out.size)⟩
      ·have qs:(r.head.rel == rel)=false:=by simpa using he
       have hni2:=hid (show ∀ k∈l.take (i+1),¬ (k < q.rules.length∧relA q.rules k=rel) from fun k hk=>by
        rw [List.take_add_one,hx] at hk; rcases List.mem_append.1 hk with hk | hk
        ·exact hni.out k hk
        ·simp at hk; subst hk; rintro ⟨-,h9⟩; exact he (hrel ▸ h9))
       replace he:=hid he; replace hx:=hid hx; replace hrel:=hid hrel; clear hc3 s1
       go_wp2_with fail
       go_quiet (fail)
       all_goals go_wp2_with fail
       all_goals go_roundg (l.length - (i+1))
       case measure=>omega
       case rel=>exact ⟨i+1,rfl,by omega,hid (hB3.out nq),hni2⟩
     ·have qr:decide ((x:Int) < (q.rules.length:Int))=false:=decide_eq_false (by omega)
      have hni2:=hid (show ∀ k∈l.take (i+1),¬ (k < q.rules.length∧relA q.rules k=rel) from fun k hk=>by
       rw [List.take_add_one,hx] at hk; rcases List.mem_append.1 hk with hk | hk
       ·exact hni.out k hk
       ·simp at hk; subst hk; rintro ⟨h9,-⟩; exact hxr h9)
      replace hx:=hid hx; clear s1
      go_wp2_with fail
      go_quiet (fail)
      all_goals go_wp2_with fail
      all_goals go_roundg (l.length - (i+1))
      case measure=>omega
      case rel=>exact ⟨i+1,rfl,by omega,hid (hB3.out nq),hni2⟩
    ·have q5:decide ((i:Int) < (l.length:Int))=false:=decide_eq_false (by omega)
     have hno2:=hid (show ∀ i,i < n+1→hasR q.rules L rel i=false from fun j hj=>by
      by_cases e:j=n
      ·subst e
       unfold hasR; rw [hlg.out,List.any_eq_false]; intro k hk; have:=hni.out k (by rw [List.take_of_length_le (by omega)]; exact hk)
       simpa using fun h8 h9=>this ⟨h8,h9⟩
      ·exact hno.out j (by omega))
     clear s1
     go_wp2_with fail
     go_roundg (L.length - (n+1))
     case measure=>omega
     case rel=>exact ⟨n+1,rfl,by omega,hB2,hno2⟩
  ·have q1:decide ((n:Int) < (L.length:Int))=false:=decide_eq_false (by omega)
   have hF:=hid (show R = -1 from by rw [hR.out]; exact level_no fun i hi=>hno.out i (by omega))
   go_wp2_with fail
   go_ret; exact ⟨by rw [hF.out]; rfl,hb0.out.trans (hB.out.mono hb0.out.size)⟩
end Go.Proofs.YtffdpoifdahadaaGreatDoor
