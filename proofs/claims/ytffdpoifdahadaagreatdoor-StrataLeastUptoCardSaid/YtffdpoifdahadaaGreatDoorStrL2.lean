/- strata, the law StrataLeast: the walk. -/
import Derived.Test.YtffdpoifdahadaaGreatDoorStrLp
set_option linter.unusedVariables false
set_option linter.unusedSimpArgs false
namespace Go.Proofs.YtffdpoifdahadaaGreatDoor
open Go.RowKit
open Go.Lib (hid)
set_option maxHeartbeats 40000000 in
set_option maxRecDepth 100000 in
theorem StrataLeast_walk (q:Qg) (ra:Option Addr) (rc:Nat) (aa:Option Addr) (ac:Nat) (S:Foot) (lv:List Int) (va:Option Addr) (vc:Nat) (T:Foot) (w:World) (hTab:Hid (Tab w)) (hq:QR q ra rc aa ac S w) (hM:QgM q) (hV:SlR 1 IntR T w lv (.slice va lv.length vc)) (hvl:lv.length≤1048576) :
  Calls Tryz.prog 6 #[.agg (qcells (.slice ra q.rules.length rc) q.goal.op q.goal.nt q.goal.rel (.slice aa q.goal.args.length ac)),.slice va lv.length vc] w fun e w'=>e=.returned (.bool true)∧Below w.heap.size w w':=by
 have hb0:Below w.heap.size w (w.alloc (.cells (qcells (.slice ra q.rules.length rc) q.goal.op q.goal.nt q.goal.rel (.slice aa q.goal.args.length ac)) 32)):=(Below.refl _ w).alloc (Nat.le_refl _) _; have hbn:=heap_alloc_new' w (.cells (qcells (.slice ra q.rules.length rc) q.goal.op q.goal.nt q.goal.rel (.slice aa q.goal.args.length ac)) 32); obtain ⟨W0,hW0⟩:∃ W0,W0=w.alloc (.cells (qcells (.slice ra q.rules.length rc) q.goal.op q.goal.nt q.goal.rel (.slice aa q.goal.args.length ac)) 32):=⟨_,rfl⟩; rw [← hW0] at hb0 hbn; have hwl:=lt_of_heap hbn; have hmove:=hid (fun (W:World) (hW:Below w.heap.size w W)=>(⟨hq.below hW,hV.below goodInt hW⟩:QR q ra rc aa ac S W∧SlR 1 IntR T W lv (.slice va lv.length vc))); have hsm:=hid (small28_any W0 (((TabN.of hTab.out (Nat.le_refl w.heap.size)).below hb0).tab))
 replace hW0:=hid hW0; replace hb0:=hid hb0; replace hbn:=hid hbn; replace hM:=hid hM; clear hq hV
 go_enter Tryz.func6,Tryz.ntmps6
 go_wp2_with fail
 rw [← hW0.out]
 with_reducible refine hsm.out.mono ?_
 rintro e w1 ⟨rfl,hb1⟩; have hB1:=hid (hb0.out.trans (hb1.mono hb0.out.size)); have hk1:=hid (below_keep hb1 hbn.out hwl); obtain ⟨v0,v1,v2,v3,v4,-⟩:=q_cells hk1.out; have hf:=hid (few28_any q ra rc aa ac S w1 (hmove.out w1 hB1.out).1 hM.out); clear hb1 hsm
 go_wp2_with fail
 with_reducible refine hf.out.mono ?_
 rintro e w2 ⟨hb2,b,rfl,hfew⟩; have hB2:=hid (hB1.out.trans (hb2.mono hB1.out.size)); have hk2:=hid (below_keep hb2 hk1.out (lt_of_heap hk1.out)); clear v0 v1 v2 v3 v4 hb2 hf
 cases b with
 | false =>
  go_wp2_with fail
  go_ret; exact ⟨rfl,hB2.out⟩
 | true =>
  replace hfew:=hid (hfew rfl); obtain ⟨v0,v1,v2,v3,v4,-⟩:=q_cells hk2.out; have hsmq:=hid hfew.out.sm; have hn16:=hfew.out.1; have hch:=hid (check_any q ra rc aa ac S w2 (hmove.out w2 hB2.out).1 hsmq.out (((TabN.of hTab.out (Nat.le_refl w.heap.size)).below hB2.out).tab))
  go_wp2_with fail
  with_reducible refine hch.out.mono ?_
  rintro e w3 ⟨hb3,vL,rfl,hL⟩; have hB3:=hid (hB2.out.trans (hb3.mono hB2.out.size)); have hk3:=hid (below_keep hb3 hk2.out (lt_of_heap hk2.out)); obtain ⟨R,hR⟩:∃ R,R=checkF arF q (textW q).isSome:=⟨_,rfl⟩; rw [← hR] at hL ⊢; obtain ⟨X,L⟩:=R; obtain ⟨La,Lc,rfl,-⟩:=hL.slice; have hL3:=hid hL; replace hR:=hid hR; clear v0 v1 v2 v3 v4 hb3 hch hL; obtain ⟨v0,v1,v2,v3,v4,-⟩:=q_cells hk3.out; have hde:=hid (derived_any q ra rc aa ac S w3 (hmove.out w3 hB3.out).1 (by omega))
  go_wp2_with fail
  with_reducible refine hde.out.mono ?_
  rintro e w5 ⟨vN,rfl,hN,hNge,hb5⟩; have hB5:=hid (hB3.out.trans (hb5.mono hB3.out.size)); have hk5:=hid (below_keep hb5 hk3.out (lt_of_heap hk3.out)); have hL5:=hid (hL3.out.below goodRowN hb5); have hdl:=derived_len q.rules; have hdn:=derived_nodup q.rules; obtain ⟨names,hnm⟩:∃ names,names=derivedF q.rules:=⟨_,rfl⟩; rw [← hnm] at hN hdl hdn; obtain ⟨Na,Nc,rfl,-,-⟩:=owns_form hN; have hN5:=hid (so_sl hN); replace hnm:=hid hnm; replace hdn:=hid hdn; clear v0 v1 v2 v3 v4 hb5 hde hN hNge hL3; obtain ⟨v0,v1,v2,v3,v4,-⟩:=q_cells hk5.out
  have hnb:∀ r∈q.rules,r.body.length≤1048576:=fun r hr=>by have:=(hfew.out.2.1 r hr).1; omega
  replace hnb:=hid hnb; have hQ:=hid (fun (W:World) (hW:Below w5.heap.size w5 W)=>(hmove.out W (hB5.out.trans (hW.mono hB5.out.size))).1); have hVm:=hid (fun (W:World) (hW:Below w5.heap.size w5 W)=>(hmove.out W (hB5.out.trans (hW.mono hB5.out.size))).2); have hNm:=hid (fun (W:World) (hW:Below w5.heap.size w5 W)=>hN5.out.below goodStr hW); have hLm:=hid (fun (W:World) (hW:Below w5.heap.size w5 W)=>hL5.out.below goodRowN hW); have hkm:=hid (fun (W:World) (hW:Below w5.heap.size w5 W)=>below_keep hW hk5.out (lt_of_heap hk5.out)); obtain ⟨fb,hfb⟩:∃ fb,fb=(decide (lv.length=names.length) && validA q.rules names lv):=⟨_,rfl⟩; replace hfb:=hid hfb; obtain ⟨nl,hnl⟩:∃ nl,nl=names.length:=⟨_,rfl⟩; rw [← hnl] at hdl; rw [← hnl]; replace hnl:=hid hnl
  go_upto_region 6 with (fail)
  go_cut [9] from 29 to 173 (fun v9 wx=>v9=.bool fb∧Hid (Below w5.heap.size w5 wx))
  case first =>
   by_cases hl:lv.length=nl
   ·have qe:((lv.length:Int) == (nl:Int))=true:=by simp [hl]
    have hva:=hid (valid28_any q ra rc aa ac S names lv Na va Nc vc _ T w5 (hQ.out w5 (Below.refl _ _)) (by omega) hnb.out (by have:=hNm.out w5 (Below.refl _ _); exact this) (hVm.out w5 (Below.refl _ _)) (by have:=hnl.out; omega) (by omega)); have hf2:=hid (show fb=validA q.rules names lv from by rw [hfb.out,← hnl.out,decide_eq_true hl]; rfl); rw [← hf2.out,← hnl.out] at hva; replace hl:=hid hl
    go_wp2_with fail
    with_reducible refine hva.out.mono ?_
    rintro e w6 ⟨rfl,hb6⟩
    go_wp2_with fail
    go_meet
    exact ⟨rfl,hid hb6⟩
   ·have qe:((lv.length:Int) == (nl:Int))=false:=by
     rw [beq_eq_false_iff_ne]; intro e; exact hl (by exact_mod_cast e)
    have hf2:=hid (show fb=false from by rw [hfb.out,← hnl.out,decide_eq_false hl]; rfl); replace hl:=hid hl
    go_wp2_with fail
    go_meet
    exact ⟨by rw [hf2.out],hid (Below.refl _ _)⟩
  case rest =>
   obtain ⟨rfl,hB6⟩:=hcut; clear v0 v1 v2 v3 v4; obtain ⟨v0,v1,v2,v3,v4,-⟩:=q_cells (hkm.out wc hB6.out); by_cases hX:X=0
   ·subst hX
    have hRo:=hR.out
    obtain ⟨nu,hnu,hLe⟩:∃ nu,levelsF q.rules=some nu∧L=strataF q.rules nu:=by
     have h1:=check_ok (ar:=arF) (q:=q) (b:=(textW q).isSome) (by rw [← hRo]); obtain ⟨-,-,nu,h2,h3⟩:=h1; exact ⟨nu,h2,by rw [← h3,← hRo]⟩
    obtain ⟨ht,hne,hst⟩:=strata_facts hnu hLe; have hLl:=(total_le L).2 hne; have hLi:=(total_le L).1; rw [ht] at hLl hLi; have hlev:=hid (fun (W:World) (hW:Below w5.heap.size w5 W) (rel:Nm)=>level28_any q ra rc aa ac S L La Lc _ rel W (hQ.out W hW) (by omega) (hLm.out W hW) (by omega) (fun l hl=>by have:=hLi l hl; omega))
    have hlow:=hid (fun (hf:fb=true) (k:Nat) (hk:k < nl)=>(show lv.length=nl∧(nu (names.getD k []):Int)≤lv.getD k 0 from by
     have h1:=hfb.out; rw [hf,← hnl.out] at h1; have h2:=(Bool.and_eq_true _ _).mp h1.symm; have h3:=of_decide_eq_true h2.1; have h4:=h2.2; rw [hnm.out] at h4 ⊢
     refine ⟨h3,least_some hnu (by rw [← hnm.out,← hnl.out]; exact h3) h4 (by rw [← hnm.out,← hnl.out]; exact hk)⟩))
    have hnuN:=hid (fun (n:Nm) (hn:n∈names)=>(show levelA q.rules L n=(nu n:Int) from by
     rw [hLe]; exact level_of (derived_mem.1 (hnm.out ▸ hn))))
    have hown:=hid (show validA q.rules names (names.map (levelA q.rules L))=true from by
     rw [hnm.out,hLe]; exact least_own hnu)
    have hO0:=hid (show OwnI w5 ((names.take 0).map (levelA q.rules L)) (.slice none 0 0) wc from ⟨⟨rfl,Or.inl ⟨rfl,rfl⟩⟩,fun k hk=>(by cases hk),hB6.out⟩); replace hnu:=hid hnu; replace hLe:=hid hLe; replace ht:=hid ht; replace hne:=hid hne; replace hst:=hid hst; replace hLi:=hid hLi; replace hRo:=hid hRo
    go_wp2_with fail
    go_loopg [10,12] nl (fun f v10 v12 wr=>∃ (k:Nat) (a10:Option Addr) (c10:Nat),v10=.slice a10 k c10∧v12=iv k∧k+f=nl∧Hid (OwnI w5 ((names.take k).map (levelA q.rules L)) (.slice a10 k c10) wr))
    case atStart=>exact ⟨0,none,0,rfl,rfl,by omega,hO0⟩
    case round =>
     obtain ⟨k,a10,c10,rfl,rfl,hkf,hO⟩:=hrel; clear hO0 hB6 v0 v1 v2 v3 v4; have hBr:=hid hO.out.bel; by_cases hlt:k < nl
     ·have q1:decide ((k:Int) < (nl:Int))=true:=decide_eq_true (by omega)
      have q3:IntKind.i64.wrap ((k:Int)+1)=((k+1:Nat):Int):=by rw [IntKind.wrap_i64]; omega
      obtain ⟨nm,hn⟩:∃ nm,names[k]? = some nm:=⟨_,List.getElem?_eq_getElem (by have:=hnl.out; omega)⟩; obtain ⟨g1,o1,i1,e1⟩:=str_at (hNm.out wr hBr.out) hn; rw [← hnl.out] at i1; obtain ⟨v0,v1,v2,v3,v4,-⟩:=q_cells (hkm.out wr hBr.out); have hdr:Below wr.heap.size wr wr.drew:=(Below.refl _ wr).drew; have hOd:=hid (hO.out.below hdr); have hle:=hid (hlev.out wr.drew hOd.out.bel nm); obtain ⟨d,hd⟩:∃ d,d=nu nm:=⟨_,rfl⟩; rw [hnuN.out nm (List.mem_of_getElem? hn),← hd] at hle
      have htk:=hid (show (names.take (k+1)).map (levelA q.rules L)=(names.take k).map (levelA q.rules L)++[(d:Int)] from by
       rw [List.take_add_one,hn,List.map_append]; show _++[levelA q.rules L nm]=_
       rw [hnuN.out nm (List.mem_of_getElem? hn),← hd])
      have hgd:names.getD k []=nm:=by rw [List.getD_eq_getElem?_getD,hn]; rfl
      have hlk:fb=true→lv.length=nl∧(d:Int)≤lv.getD k 0:=fun hf=>by
       have:=hlow.out hf k hlt; rw [hgd,← hd] at this; exact this
      replace hlk:=hid hlk; replace hgd:=hid hgd; replace hd:=hid hd; replace hn:=hid hn; clear hdr
      go_wp2_with fail
      go_still_tail 6,(by kernel_rfl)
      go_wp2_with fail
      with_reducible refine hle.out.mono ?_
      rintro e w7 ⟨rfl,hb7⟩; have hO7:=hOd.out.below hb7; obtain ⟨v',w8,hap,⟨a8,c8,hv8⟩,hO8⟩:=hO7.push (d:Int) (by rw [List.length_map,List.length_take]; omega); rw [List.length_map,List.length_take,Nat.min_eq_left (by have:=hnl.out; omega)] at hv8; subst hv8; rw [← htk.out] at hO8; replace hO8:=hid hO8; replace hap:=hid hap; replace hO7:=hid hO7; have qd:decide ((d:Int) < 0)=false:=decide_eq_false (by omega); clear hb7 hle hOd hO v0 v1 v2 v3 v4 i1 e1
      cases fb with
      | false =>
       go_wp2_with (at_builtin; refine wpList_append_shut rfl (.tmp 69) (.tmp 71) rfl rfl rfl hap.out ?_)
       go_roundg (nl - (k+1))
       case measure=>omega
       case rel=>exact ⟨k+1,a8,c8,rfl,rfl,by omega,hO8⟩
      | true =>
       obtain ⟨hll,hdz⟩:=hlk.out rfl; obtain ⟨z,hz⟩:∃ z,lv[k]? = some z:=⟨_,List.getElem?_eq_getElem (by omega)⟩; rw [List.getD_eq_getElem?_getD,hz] at hdz; have qz:decide (z < (d:Int))=false:=decide_eq_false (by have:(d:Int)≤z:=hdz; omega); obtain ⟨g2,o2,i2,e2⟩:=inti_at (hVm.out w8 hO8.out.bel) hz; replace hz:=hid hz; replace hdz:=hid hdz; replace hll:=hid hll
       go_wp2_with (at_builtin; refine wpList_append_shut rfl (.tmp 69) (.tmp 71) rfl rfl rfl hap.out ?_)
       go_roundg (nl - (k+1))
       case measure=>omega
       case rel=>exact ⟨k+1,a8,c8,rfl,rfl,by omega,hO8⟩
     ·have q1:decide ((k:Int) < (nl:Int))=false:=decide_eq_false (by omega)
      have hkn:k=nl:=by omega
      subst hkn
      have hO1:=hid (show OwnI w5 (names.map (levelA q.rules L)) (.slice a10 k c10) wr from by
       have:=hO.out
       rw [List.take_of_length_le (by have:=hnl.out; omega)] at this; exact this)
      clear hO hlow
      go_wp2_with fail
      go_loopg [11,14] L.length (fun f v11 v14 wr=>∃ (j c:Nat),v11=iv c∧v14=iv j∧j+f=L.length∧c≤16∧Hid (c=totalS (L.take j))∧Hid (OwnI w5 (names.map (levelA q.rules L)) (.slice a10 k c10) wr))
      case atStart=>exact ⟨0,0,rfl,rfl,by omega,by omega,hid rfl,hO1⟩
      case round =>
       obtain ⟨j,c,rfl,rfl,hjf,hc16,hcs,hO⟩:=hrel; clear hO1 hBr; have hBr:=hid hO.out.bel; by_cases hlj:j < L.length
       ·have q1:decide ((j:Int) < (L.length:Int))=true:=decide_eq_true (by omega)
        have q3:IntKind.i64.wrap ((j:Int)+1)=((j+1:Nat):Int):=by rw [IntKind.wrap_i64]; omega
        obtain ⟨l,hl⟩:∃ l,L[j]? = some l:=⟨_,List.getElem?_eq_getElem hlj⟩; obtain ⟨g1,o1,ai,ci,i1,e1,s1⟩:=row_at (hLm.out wr hBr.out) hl; obtain ⟨htt,htl⟩:=total_take hl; rw [ht.out,← hcs.out] at htl; rw [← hcs.out] at htt
        have q4:IntKind.i64.wrap ((c:Int)+(l.length:Int))=((c+l.length:Nat):Int):=by rw [IntKind.wrap_i64]; omega
        have hl0:0 < l.length:=List.length_pos_iff.2 (hne.out l (List.mem_of_getElem? hl)); obtain ⟨hasc,hin⟩:=hst.out j l hl; replace hasc:=hid hasc; replace hin:=hid hin; replace htt:=hid htt; replace s1:=hid s1
        go_wp2_with fail
        go_loopg [15] l.length (fun f v15 wx=>∃ (i:Nat),v15=iv i∧i+f=l.length∧Hid (OwnI w5 (names.map (levelA q.rules L)) (.slice a10 k c10) wx))
        case atStart=>exact ⟨0,rfl,by omega,hO⟩
        case round =>
         obtain ⟨i,rfl,hif,hOx⟩:=hrel; clear hO hBr s1 i1 e1; have hBx:=hid hOx.out.bel; obtain ⟨g1,o1,ai,ci,i1,e1,s1⟩:=row_at (hLm.out wr hBx.out) hl; by_cases hli:i < l.length
         ·have q5:decide ((i:Int) < (l.length:Int))=true:=decide_eq_true (by omega)
          have q6:IntKind.i64.wrap ((i:Int)+1)=((i+1:Nat):Int):=by rw [IntKind.wrap_i64]; omega
          obtain ⟨x,hx⟩:∃ x,l[i]? = some x:=⟨_,List.getElem?_eq_getElem hli⟩; obtain ⟨g2,o2,i2,e2⟩:=nat_at s1 hx; obtain ⟨hxr,hxl⟩:=hin.out x (List.mem_of_getElem? hx); have qa:decide ((x:Int) < 0)=false:=decide_eq_false (by omega); have qb:decide ((q.rules.length:Int)≤(x:Int))=false:=decide_eq_false (by omega); have qn:decide (q.rules.length≤x)=false:=decide_eq_false (by omega)
          have qj:((j:Int) != (j:Int))=false:=by simp
          obtain ⟨r,hr⟩:∃ r,q.rules[x]? = some r:=⟨_,List.getElem?_eq_getElem hxr⟩; rw [relA_get hxr,(List.getElem?_eq_some_iff.1 hr).2] at hxl; obtain ⟨g3,o3,cs3,i3,-,hg3,hc3,hrt⟩:=(hQ.out wr hBx.out).rl.at (P:=Tryz.prog) (t:=30) (by kernel_rfl) (fun _=>by kernel_rfl) hr; obtain ⟨ha3,hcap3,ba3,bc3,rfl,-,-⟩:=hrt; obtain ⟨-,-,f2,-,-,-,-⟩:=rg_cells hc3; obtain ⟨v0,v1,v2,v3,v4,-⟩:=q_cells (hkm.out wr hBx.out); have hdr:Below wr.heap.size wr wr.drew:=(Below.refl _ wr).drew; have hOd:=hid (hOx.out.below hdr); have hle:=hid (hlev.out wr.drew hOd.out.bel r.head.rel); rw [hxl] at hle; replace hxl:=hid hxl; replace hr:=hid hr; replace hl:=hid hl; clear hc3 hdr
          go_upto_region 26 with (fail)
          go_cut [153] from 115 to 153 (fun v wy=>v=.bool false∧Hid (OwnI w5 (names.map (levelA q.rules L)) (.slice a10 k c10) wy))
          case first =>
           by_cases hi0:i=0
           ·have qi:decide ((0:Int) < (i:Int))=false:=decide_eq_false (by omega)
            have ni:decide (0 < i)=false:=decide_eq_false (by omega); replace hi0:=hid hi0; replace hx:=hid hx; replace s1:=hid s1; clear i1 e1 i2 e2; refine wp_region_held_drew (S:=fun w'=>w'.cell? ⟨w.heap.size,0,none⟩=some (.slice ra q.rules.length rc)∧w'.cell? ⟨w.heap.size,1,none⟩=some (iv q.goal.op)∧w'.cell? ⟨w.heap.size,2,none⟩=some (.bool q.goal.nt)∧w'.cell? ⟨w.heap.size,3,none⟩=some (sv q.goal.rel)∧w'.cell? ⟨w.heap.size,4,none⟩=some (.slice aa q.goal.args.length ac)∧w'.cell? ⟨g3,o3+2,none⟩=some (sv r.head.rel)) (by kernel_rfl) ?_ (fun hHeld=>?_)
            ·exact ⟨v0,v1,v2,v3,v4,f2⟩
            refine wTk (i:=0) (v:=?_) rfl ?hy ?_
            case hy =>
             intro w hSw
             (try dsimp only at hSw)
             go_simp
             all_goals with_reducible rfl
            try simp only [Act.put,sI,sZ,sS]
            refine wTk (i:=1) (v:=?_) rfl ?hy ?_
            case hy =>
             intro w hSw
             (try dsimp only at hSw)
             go_simp
             all_goals with_reducible rfl
            try simp only [Act.put,sI,sZ,sS]
            refine wTk (i:=2) (v:=?_) rfl ?hy ?_
            case hy =>
             intro w hSw
             (try dsimp only at hSw)
             go_simp
             all_goals with_reducible rfl
            try simp only [Act.put,sI,sZ,sS]
            refine wTk (i:=3) (v:=?_) rfl ?hy ?_
            case hy =>
             intro w hSw
             (try dsimp only at hSw)
             go_simp
             all_goals with_reducible rfl
            try simp only [Act.put,sI,sZ,sS]
            refine wTk (i:=4) (v:=?_) rfl ?hy ?_
            case hy =>
             intro w hSw
             (try dsimp only at hSw)
             go_simp
             all_goals with_reducible rfl
            try simp only [Act.put,sI,sZ,sS]
            refine wTk (i:=5) (v:=?_) rfl ?hy ?_
            case hy =>
             intro w hSw
             (try dsimp only at hSw)
             go_simp
             all_goals with_reducible rfl
            try simp only [Act.put,sI,sZ,sS]
            refine wTk (i:=6) (v:=?_) rfl ?hy ?_
            case hy =>
             intro w hSw
             (try dsimp only at hSw)
             go_simp
             all_goals with_reducible rfl
            try simp only [Act.put,sI,sZ,sS]
            refine wTk (i:=7) (v:=?_) rfl ?hy ?_
            case hy =>
             intro w hSw
             (try dsimp only at hSw)
             go_simp
             all_goals with_reducible rfl
            try simp only [Act.put,sI,sZ,sS]
            refine wTk (i:=8) (v:=?_) rfl ?hy ?_
            case hy =>
             intro w hSw
             (try dsimp only at hSw)
             go_simp
             all_goals with_reducible rfl
            try simp only [Act.put,sI,sZ,sS]
            refine wTk (i:=9) (v:=?_) rfl ?hy ?_
            case hy =>
             intro w hSw
             (try dsimp only at hSw)
             go_simp
             all_goals with_reducible rfl
            try simp only [Act.put,sI,sZ,sS]
            refine wTk (i:=10) (v:=?_) rfl ?hy ?_
            case hy =>
             intro w hSw
             (try dsimp only at hSw)
             go_simp
             all_goals with_reducible rfl
            try simp only [Act.put,sI,sZ,sS]
            refine wTk (i:=11) (v:=?_) rfl ?hy ?_
            case hy =>
             intro w hSw
             (try dsimp only at hSw)
             go_simp
             all_goals with_reducible rfl
            try simp only [Act.put,sI,sZ,sS]
            refine wTk (i:=12) (v:=?_) rfl ?hy ?_
            case hy =>
             intro w hSw
             (try dsimp only at hSw)
             go_simp
             all_goals with_reducible rfl
            try simp only [Act.put,sI,sZ,sS]
            refine wpAnyH_take (i:=13) (oi:=⟨_,_,_,_,_,_⟩) (v:=undef) rfl (by as_aux_lemma=>kernel_rfl) (by as_aux_lemma=>kernel_rfl) (by as_aux_lemma=>kernel_rfl) (fun _ _ _ h=>h) (Or.inr ⟨by rfl,rfl⟩) (by assumption) ?_
            try simp only [Act.put,sI,sZ,sS]
            refine wpAnyH_take (i:=14) (oi:=⟨_,_,_,_,_,_⟩) (v:=undef) rfl (by as_aux_lemma=>kernel_rfl) (by as_aux_lemma=>kernel_rfl) (by as_aux_lemma=>kernel_rfl) (fun _ _ _ h=>h) (Or.inr ⟨by rfl,rfl⟩) (by assumption) ?_
            try simp only [Act.put,sI,sZ,sS]
            refine wpAnyH_take (i:=15) (oi:=⟨_,_,_,_,_,_⟩) (v:=undef) rfl (by as_aux_lemma=>kernel_rfl) (by as_aux_lemma=>kernel_rfl) (by as_aux_lemma=>kernel_rfl) (fun _ _ _ h=>h) (Or.inr ⟨by rfl,rfl⟩) (by assumption) ?_
            try simp only [Act.put,sI,sZ,sS]
            refine wpAnyH_take (i:=16) (oi:=⟨_,_,_,_,_,_⟩) (v:=undef) rfl (by as_aux_lemma=>kernel_rfl) (by as_aux_lemma=>kernel_rfl) (by as_aux_lemma=>kernel_rfl) (fun _ _ _ h=>h) (Or.inr ⟨by rfl,rfl⟩) (by assumption) ?_
            try simp only [Act.put,sI,sZ,sS]
            refine wpAnyH_take (i:=17) (oi:=⟨_,_,_,_,_,_⟩) (v:=undef) rfl (by as_aux_lemma=>kernel_rfl) (by as_aux_lemma=>kernel_rfl) (by as_aux_lemma=>kernel_rfl) (fun _ _ _ h=>h) (Or.inr ⟨by rfl,rfl⟩) (by assumption) ?_
            try simp only [Act.put,sI,sZ,sS]
            refine wpAnyH_take (i:=18) (oi:=⟨_,_,_,_,_,_⟩) (v:=undef) rfl (by as_aux_lemma=>kernel_rfl) (by as_aux_lemma=>kernel_rfl) (by as_aux_lemma=>kernel_rfl) (fun _ _ _ h=>h) (Or.inr ⟨by rfl,rfl⟩) (by assumption) ?_
            try simp only [Act.put,sI,sZ,sS]
            refine wpAnyH_take (i:=19) (oi:=⟨_,_,_,_,_,_⟩) (v:=undef) rfl (by as_aux_lemma=>kernel_rfl) (by as_aux_lemma=>kernel_rfl) (by as_aux_lemma=>kernel_rfl) (fun _ _ _ h=>h) (Or.inr ⟨by rfl,rfl⟩) (by assumption) ?_
            try simp only [Act.put,sI,sZ,sS]
            refine wpAnyH_take (i:=20) (oi:=⟨_,_,_,_,_,_⟩) (v:=undef) rfl (by as_aux_lemma=>kernel_rfl) (by as_aux_lemma=>kernel_rfl) (by as_aux_lemma=>kernel_rfl) (fun _ _ _ h=>h) (Or.inr ⟨by rfl,rfl⟩) (by assumption) ?_
            try simp only [Act.put,sI,sZ,sS]
            refine wpAnyH_take (i:=21) (oi:=⟨_,_,_,_,_,_⟩) (v:=undef) rfl (by as_aux_lemma=>kernel_rfl) (by as_aux_lemma=>kernel_rfl) (by as_aux_lemma=>kernel_rfl) (fun _ _ _ h=>h) (Or.inr ⟨by rfl,rfl⟩) (by assumption) ?_
            try simp only [Act.put,sI,sZ,sS]
            refine wpAnyH_take (i:=22) (oi:=⟨_,_,_,_,_,_⟩) (v:=undef) rfl (by as_aux_lemma=>kernel_rfl) (by as_aux_lemma=>kernel_rfl) (by as_aux_lemma=>kernel_rfl) (fun _ _ _ h=>h) (Or.inr ⟨by rfl,rfl⟩) (by assumption) ?_
            try simp only [Act.put,sI,sZ,sS]
            refine wTk (i:=23) (v:=?_) rfl ?hy ?_
            case hy =>
             intro w hSw
             (try dsimp only at hSw)
             go_simp
             all_goals with_reducible rfl
            try simp only [Act.put,sI,sZ,sS]
            refine wTk (i:=24) (v:=?_) rfl ?hy ?_
            case hy =>
             intro w hSw
             (try dsimp only at hSw)
             go_simp
             all_goals with_reducible rfl
            try simp only [Act.put,sI,sZ,sS]
            refine wTk (i:=25) (v:=?_) rfl ?hy ?_
            case hy =>
             intro w hSw
             (try dsimp only at hSw)
             go_simp
             all_goals with_reducible rfl
            try simp only [Act.put,sI,sZ,sS]
            refine wTk (i:=26) (v:=?_) rfl ?hy ?_
            case hy =>
             intro w hSw
             (try dsimp only at hSw)
             go_simp
             all_goals with_reducible rfl
            try simp only [Act.put,sI,sZ,sS]
            refine wTk (i:=27) (v:=?_) rfl ?hy ?_
            case hy =>
             intro w hSw
             (try dsimp only at hSw)
             go_simp
             all_goals with_reducible rfl
            try simp only [Act.put,sI,sZ,sS]
            refine wTk (i:=28) (v:=?_) rfl ?hy ?_
            case hy =>
             intro w hSw
             (try dsimp only at hSw)
             go_simp
             all_goals with_reducible rfl
            try simp only [Act.put,sI,sZ,sS]
            refine wTk (i:=29) (v:=?_) rfl ?hy ?_
            case hy =>
             intro w hSw
             (try dsimp only at hSw)
             go_simp
             all_goals with_reducible rfl
            try simp only [Act.put,sI,sZ,sS]
            refine wTk (i:=30) (v:=?_) rfl ?hy ?_
            case hy =>
             intro w hSw
             (try dsimp only at hSw)
             go_simp
             all_goals with_reducible rfl
            try simp only [Act.put,sI,sZ,sS]
            refine wTk (i:=31) (v:=?_) rfl ?hy ?_
            case hy =>
             intro w hSw
             (try dsimp only at hSw)
             go_simp
             all_goals with_reducible rfl
            try simp only [Act.put,sI,sZ,sS]
            refine wTk (i:=32) (v:=?_) rfl ?hy ?_
            case hy =>
             intro w hSw
             (try dsimp only at hSw)
             go_simp
             all_goals with_reducible rfl
            try simp only [Act.put,sI,sZ,sS]
            refine wTk (i:=33) (v:=?_) rfl ?hy ?_
            case hy =>
             intro w hSw
             (try dsimp only at hSw)
             go_simp
             all_goals with_reducible rfl
            try simp only [Act.put,sI,sZ,sS]
            refine wTk (i:=34) (v:=?_) rfl ?hy ?_
            case hy =>
             intro w hSw
             (try dsimp only at hSw)
             go_simp
             all_goals with_reducible rfl
            try simp only [Act.put,sI,sZ,sS]
            refine wTk (i:=36) (v:=?_) rfl ?hy ?_
            case hy =>
             intro w hSw
             (try dsimp only at hSw)
             go_simp
             all_goals with_reducible rfl
            try simp only [Act.put,sI,sZ,sS]
            refine wpAnyH_ready (rs:=[35]) (by as_aux_lemma=>kernel_rfl) (by simp) ?_; refine rdY rfl (fun K hK=>?_); go_simp
            go_at_call 15
            with_reducible refine hle.out.mono ?_
            rintro e w9 ⟨rfl,hb9⟩; have kp:=kp_drew hb9; have hO9:=hid (hOd.out.below hb9); replace hb9:=hid hb9; refine hK.out _ _ ?_ (fun hHeld2=>?_)
            ·exact ⟨kp _ _ v0,kp _ _ v1,kp _ _ v2,kp _ _ v3,kp _ _ v4,kp _ _ f2⟩
            clear hK K hHeld; have hHeld:=hHeld2; clear hHeld2
            try simp only [Act.put,sI,sZ,sS]
            refine wTk (i:=37) (v:=?_) rfl ?hy ?_
            case hy =>
             intro w hSw
             (try dsimp only at hSw)
             go_simp
             all_goals with_reducible rfl
            try simp only [Act.put,sI,sZ,sS]
            refine wTk (i:=38) (v:=?_) rfl ?hy ?_
            case hy =>
             intro w hSw
             (try dsimp only at hSw)
             go_simp
             all_goals with_reducible rfl
            try simp only [Act.put,sI,sZ,sS]
            refine wpAnyH_done (by as_aux_lemma=>kernel_rfl) ?_ _
            go_wp2_with fail
            go_meet
            exact ⟨rfl,hO9⟩
           ·have qi:decide ((0:Int) < (i:Int))=true:=decide_eq_true (by omega)
            have ni:decide (0 < i)=true:=decide_eq_true (by omega)
            have q7:IntKind.i64.wrap ((i:Int) - 1)=((i - 1:Nat):Int):=by rw [IntKind.wrap_i64]; omega
            obtain ⟨z,hz⟩:∃ z,l[i - 1]? = some z:=⟨_,List.getElem?_eq_getElem (by omega)⟩; have hzx:=asc_at hasc.out hz (by rw [Nat.sub_add_cancel (by omega)]; exact hx); have qz:decide ((x:Int)≤(z:Int))=false:=decide_eq_false (by omega); have nz:decide (x≤z)=false:=decide_eq_false (by omega); obtain ⟨g4,o4,i4,e4⟩:=nat_at s1 hz; replace hi0:=hid hi0; replace hx:=hid hx; replace hz:=hid hz; replace hzx:=hid hzx; replace s1:=hid s1; clear i2 e2
            go_region_held3 (fun w'=>w'.cell? ⟨w.heap.size,0,none⟩=some (.slice ra q.rules.length rc)∧w'.cell? ⟨w.heap.size,1,none⟩=some (iv q.goal.op)∧w'.cell? ⟨w.heap.size,2,none⟩=some (.bool q.goal.nt)∧w'.cell? ⟨w.heap.size,3,none⟩=some (sv q.goal.rel)∧w'.cell? ⟨w.heap.size,4,none⟩=some (.slice aa q.goal.args.length ac)∧w'.cell? ⟨g3,o3+2,none⟩=some (sv r.head.rel)∧w'.cell? ⟨g1,o1,none⟩=some (.slice ai l.length ci)∧w'.cell? ⟨g4,o4,none⟩=some (iv z)) (first | with_reducible exact ⟨v0,v1,v2,v3,v4,f2,e1,e4⟩ | exact ⟨kp _ _ v0,kp _ _ v1,kp _ _ v2,kp _ _ v3,kp _ _ v4,kp _ _ f2,kp _ _ e1,kp _ _ e4⟩ | go_keep) ((go_at_call 15; (with_reducible refine hle.out.mono ?_); rintro e w9 ⟨rfl,hb9⟩; have kp:=kp_drew hb9; have hO9:=hid (hOd.out.below hb9); replace hb9:=hid hb9))
            all_goals go_wp2_with fail
            all_goals go_meet
            all_goals exact ⟨rfl,hO9⟩
          case rest =>
           obtain ⟨rfl,hO9⟩:=hcut; clear v0 v1 v2 v3 v4 i1 e1 i2 e2 i3 f2; replace s1:=hid s1; replace hx:=hid hx
           go_wp2_with fail
           go_roundg (l.length - (i+1))
           case measure=>omega
           case rel=>exact ⟨i+1,rfl,by omega,hO9⟩
         ·have q5:decide ((i:Int) < (l.length:Int))=false:=decide_eq_false (by omega)
          have q8:((l.length:Int) == 0)=false:=by
           rw [beq_eq_false_iff_ne]; omega
          have hc2:=hid (show c+l.length=totalS (L.take (j+1)) from htt.out.symm); replace s1:=hid s1; replace hl:=hid hl
          go_wp2_with fail
          go_roundg (L.length - (j+1))
          case measure=>omega
          case rel=>exact ⟨j+1,c+l.length,rfl,rfl,by omega,by omega,hc2,hOx⟩
       ·have q1:decide ((j:Int) < (L.length:Int))=false:=decide_eq_false (by omega)
        have hct:c=q.rules.length:=by
         rw [hcs.out,List.take_of_length_le (by omega),ht.out]
        have qc:((c:Int) == (q.rules.length:Int))=true:=by rw [hct]; simp
        obtain ⟨v0,v1,v2,v3,v4,-⟩:=q_cells (hkm.out wr hBr.out); have hos:=hid (io_int hO.out.row)
        have hlen:(names.map (levelA q.rules L)).length=k:=by rw [List.length_map]; have:=hnl.out; omega
        have hva:=hid (valid28_any q ra rc aa ac S names (names.map (levelA q.rules L)) Na a10 Nc c10 _ _ wr (hQ.out wr hBr.out) (by omega) hnb.out (hNm.out wr hBr.out) (by rw [hlen]; exact hos.out) (by have:=hnl.out; omega) (by rw [hlen]; omega)); rw [hown.out,hlen,← hnl.out] at hva; replace hct:=hid hct; replace hlen:=hid hlen
        go_wp2_with fail
        with_reducible refine hva.out.mono ?_
        rintro e w9 ⟨rfl,hb9⟩
        go_wp2_with fail
        go_ret; exact ⟨rfl,hB5.out.trans ((hBr.out.trans (hb9.mono hBr.out.size)).mono hB5.out.size)⟩
   ·have hbad:L=[]:=by
     have h1:=check_bad (ar:=arF) (q:=q) (b:=(textW q).isSome) (by rw [← hR.out]; exact hX); rw [← hR.out] at h1; exact h1
    have qX:(X != 0)=true:=by simpa using hX
    have hr19:=hid (show X=19→fb=false from fun e=>by
     have h1:=check_rule (ar:=arF) (q:=q) (b:=(textW q).isSome) (by rw [← hR.out]; exact e)
     rw [hfb.out,hnm.out,least_none h1]; simp)
    subst hbad; by_cases h19:X=19
    ·have hF:=hr19.out h19
     subst hF; subst h19; replace hX:=hid hX
     go_wp2_with fail
     go_ret; exact ⟨rfl,hB5.out.trans (hB6.out.mono hB5.out.size)⟩
    ·have q19:(X != 19)=true:=by simpa using h19
     replace hX:=hid hX; replace h19:=hid h19
     go_wp2_with fail
     go_ret; exact ⟨rfl,hB5.out.trans (hB6.out.mono hB5.out.size)⟩
end Go.Proofs.YtffdpoifdahadaaGreatDoor
