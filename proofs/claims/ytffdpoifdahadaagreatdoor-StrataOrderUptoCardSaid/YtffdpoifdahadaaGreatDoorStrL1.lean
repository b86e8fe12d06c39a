/- strata, the law StrataOrder: the walk. -/
import Derived.Test.YtffdpoifdahadaaGreatDoorStrLo
set_option linter.unusedVariables false
set_option linter.unusedSimpArgs false
namespace Go.Proofs.YtffdpoifdahadaaGreatDoor
open Go.RowKit
open Go.Lib (hid)
set_option maxHeartbeats 40000000 in
set_option maxRecDepth 100000 in
theorem StrataOrder_walk (r:Rg) (ha:Option Addr) (hc:Nat) (ba:Option Addr) (bc:Nat) (S:Foot) (w:World) (hTab:Hid (Tab w)) (h1:SlR 7 TgR S w r.head.args (.slice ha r.head.args.length hc)) (h2:SlR 4 LgR S w r.body (.slice ba r.body.length bc)) (hS:∀ k,S k→k < w.heap.size) (hM:RgM r) :
  Calls Tryz.prog 3 #[.agg (rucells r.head.op r.head.nt r.head.rel (.slice ha r.head.args.length hc) r.agg r.at_ (.slice ba r.body.length bc))] w fun e w'=>e=.returned (.bool true)∧Below w.heap.size w w':=by
 have hb0:Below w.heap.size w (w.alloc (.cells (rucells r.head.op r.head.nt r.head.rel (.slice ha r.head.args.length hc) r.agg r.at_ (.slice ba r.body.length bc)) 27)):=(Below.refl _ w).alloc (Nat.le_refl _) _; have hbn:=heap_alloc_new' w (.cells (rucells r.head.op r.head.nt r.head.rel (.slice ha r.head.args.length hc) r.agg r.at_ (.slice ba r.body.length bc)) 27); obtain ⟨W0,hW0⟩:∃ W0,W0=w.alloc (.cells (rucells r.head.op r.head.nt r.head.rel (.slice ha r.head.args.length hc) r.agg r.at_ (.slice ba r.body.length bc)) 27):=⟨_,rfl⟩; rw [← hW0] at hb0 hbn; have hwl:=lt_of_heap hbn; have hmove:=hid (fun (W:World) (hW:Below w.heap.size w W)=>(⟨h1.below goodTg hW,h2.below goodLg hW⟩:SlR 7 TgR S W r.head.args (.slice ha r.head.args.length hc)∧SlR 4 LgR S W r.body (.slice ba r.body.length bc)))
 have hlt:=hid (fun (W:World) (hW:Below w.heap.size w W) (k:Nat) (hk:S k)=>Nat.lt_of_lt_of_le (hS k hk) hW.size); have hsm:=hid (small28_any W0 (((TabN.of hTab.out (Nat.le_refl w.heap.size)).below hb0).tab)); replace hW0:=hid hW0; replace hb0:=hid hb0; replace hbn:=hid hbn; replace hM:=hid hM; replace hS:=hid hS; clear h1 h2
 go_enter Tryz.func3,Tryz.ntmps3
 go_wp2_with fail
 rw [← hW0.out]
 with_reducible refine hsm.out.mono ?_
 rintro e w1 ⟨rfl,hb1⟩; have hB1:=hid (hb0.out.trans (hb1.mono hb0.out.size)); have hk1:=below_keep hb1 hbn.out hwl; obtain ⟨v0,v1,v2,v3,v4,v5,v6,-⟩:=ru_cells hk1; have hb2:Below w1.heap.size w1 (w1.alloc (.cells (rucells r.head.op r.head.nt r.head.rel (.slice ha r.head.args.length hc) r.agg r.at_ (.slice ba r.body.length bc)) 27)):=(Below.refl _ w1).alloc (Nat.le_refl _) _; have hq:=one_rule (hmove.out w1 hB1.out).1 (hmove.out w1 hB1.out).2 (hlt.out w1 hB1.out); obtain ⟨W2,hW2⟩:∃ W2,W2=w1.alloc (.cells (rucells r.head.op r.head.nt r.head.rel (.slice ha r.head.args.length hc) r.agg r.at_ (.slice ba r.body.length bc)) 27):=⟨_,rfl⟩; rw [← hW2] at hb2 hq; have hB2:=hid (hB1.out.trans (hb2.mono hB1.out.size)); have hk2:=hid (below_keep hb2 hk1 (lt_of_heap hk1))
 have hf:=hid (show Calls Tryz.prog 9 #[.agg #[.slice (some ⟨w1.heap.size,0,none⟩) 1 1,.int .i64 0,.bool false,.string ⟨#[]⟩,.slice none 0 0]] W2 (PB (Few28 ⟨[r],lit00⟩) W2) from few28_any ⟨[r],lit00⟩ (some ⟨w1.heap.size,0,none⟩) 1 none 0 _ W2 hq (qgm_one hM.out)); replace hW2:=hid hW2; replace hk1:=hid hk1; clear hb1 hsm hb2 hq
 go_wp2_with fail
 rw [← hW2.out]
 with_reducible refine hf.out.mono ?_
 rintro e w3 ⟨hb3,b,rfl,hfew⟩; have hB3:=hid (hB2.out.trans (hb3.mono hB2.out.size)); have hk3:=below_keep hb3 hk2.out (lt_of_heap hk2.out); clear v0 v1 v2 v3 v4 v5 v6 hb3 hf
 cases b with
 | false =>
  replace hk3:=hid hk3
  go_wp2_with fail
  go_ret; exact ⟨rfl,hB3.out⟩
 | true =>
  replace hfew:=hid (hfew rfl); obtain ⟨v0,v1,v2,v3,v4,v5,v6,-⟩:=ru_cells hk3; have hsh:=(hfew.out.2.1 r (by simp)).2.1; have hfr:=hfew.out.2.1 r (by simp); have hbl:=hfr.1; have ho:=hid (order_any r ha hc ba bc S w3 (hmove.out w3 hB3.out).1 (hmove.out w3 hB3.out).2 (hlt.out w3 hB3.out) (sh_sml hfew.out) (sh_tg hsh).1 (sh_tg hsh).2); replace hsh:=hid hsh; replace hfr:=hid hfr; replace hk3:=hid hk3
  go_wp2_with fail
  with_reducible refine ho.out.mono ?_
  intro e w4 h4; obtain ⟨hb4,h4⟩:=h4; have hB4:=hid (hB3.out.trans (hb4.mono hB3.out.size)); have hk4:=hid (below_keep hb4 hk3.out (lt_of_heap hk3.out)); clear v0 v1 v2 v3 v4 v5 v6 hb4 ho; obtain ⟨R,hR⟩:∃ R,R=orderF r.head r.body:=⟨_,rfl⟩; rw [← hR] at h4; replace hR:=hid hR
  cases R with
  | none =>
   subst h4
   go_wp2_with fail
   go_ret; exact ⟨rfl,hB4.out⟩
  | some l =>
   obtain ⟨vl,rfl,hIO,hge⟩:=h4; have hos:=order_some hR.out.symm; have hln:=hos.2.1; have hgo:=hid hos.1; obtain ⟨la,lc,hvl,-,-⟩:=owns_form hIO; rw [show (ilist l).length=l.length by simp] at hvl; subst hvl; have hL:=hid (io_nat hIO); have hS0:=hid (show SeenW w4 (seenV r.body (l.take 0)) (.slice none 0 0) w4 from ⟨⟨rfl,Or.inl ⟨rfl,rfl⟩⟩,fun k hk=>(by cases hk),Below.refl _ _⟩); have hn8:r.body.length≤8:=hbl
   have hl8:l.length≤8:=by omega
   have q0:((l.length:Int) != (r.body.length:Int))=false:=by simp [hln]
   replace hln:=hid hln; have hh0:=hid (order_head hR.out.symm); obtain ⟨v0,v1,v2,v3,v4,v5,v6,-⟩:=ru_cells hk4.out; clear hIO hge hos
   go_wp2_with fail
   go_loopg [6,7] l.length (fun f v6 v7 wr=>∃ (k:Nat) (a6:Option Addr) (c6 m:Nat),v6=.slice a6 m c6∧v7=iv k∧k+f=l.length∧m≤48∧Hid (m=(seenV r.body (l.take k)).length)∧Hid (SeenW w4 (seenV r.body (l.take k)) (.slice a6 m c6) wr))
   case atStart=>exact ⟨0,none,0,0,rfl,rfl,by omega,by omega,hid rfl,hS0⟩
   case round =>
    obtain ⟨k,a6,c6,m,rfl,rfl,hkf,hm48,hm,hSn⟩:=hrel; clear hS0 v0 v1 v2 v3 v4 v5 v6; have hBr:=hid (hB4.out.trans (hSn.out.bel.mono hB4.out.size)); have hkr:=below_keep hSn.out.bel hk4.out (lt_of_heap hk4.out); obtain ⟨v0,v1,v2,v3,v4,v5,v6,-⟩:=ru_cells hkr; replace hkr:=hid hkr; by_cases hlt2:k < l.length
    ·have q1:decide ((k:Int) < (l.length:Int))=true:=decide_eq_true (by omega)
     have q3:IntKind.i64.wrap ((k:Int)+1)=((k+1:Nat):Int):=by rw [IntKind.wrap_i64]; omega
     obtain ⟨y,hy⟩:∃ y,l[k]? = some y:=⟨_,List.getElem?_eq_getElem hlt2⟩; clear v0 v1 v2 v3 v4 v5 v6
     go_wp2_with fail
     go_loopg [8] k (fun f v8 wx=>∃ (j:Nat),v8=iv j∧j+f=k∧Hid (SeenW w4 (seenV r.body (l.take k)) (.slice a6 m c6) wx))
     case atStart=>exact ⟨0,rfl,by omega,hSn⟩
     case round =>
      obtain ⟨j,rfl,hjf,hSx⟩:=hrel; clear hSn hBr hkr; obtain ⟨g1,o1,i1,e1⟩:=nat_at (hL.out.below goodNat hSx.out.bel) hy; by_cases hlj:j < k
      ·have q5:decide ((j:Int) < (k:Int))=true:=decide_eq_true (by omega)
       have q6:IntKind.i64.wrap ((j:Int)+1)=((j+1:Nat):Int):=by rw [IntKind.wrap_i64]; omega
       obtain ⟨x,hx⟩:∃ x,l[j]? = some x:=⟨_,List.getElem?_eq_getElem (Nat.lt_trans hlj hlt2)⟩; obtain ⟨g2,o2,i2,e2⟩:=nat_at (hL.out.below goodNat hSx.out.bel) hx
       have hne:x≠y:=fun e=>by
        subst e; have:=(List.getElem?_inj (Nat.lt_trans hlj hlt2) hgo.out.1).1 (hx.trans hy.symm); omega
       have qe:((x:Int) == (y:Int))=false:=by
        rw [beq_eq_false_iff_ne]; intro e; exact hne (by exact_mod_cast e)
       have hSd:=hid (fun n=>hSx.out.below (below_drewM (Below.refl _ wr) n)); replace hx:=hid hx; replace hy:=hid hy; replace hne:=hid hne
       go_wp2_with fail
       go_quiet (fail)
       all_goals go_wp2_with fail
       all_goals go_roundg (k - (j+1))
       case measure=>omega
       case rel=>exact ⟨j+1,rfl,by omega,hid (hSd.out _)⟩
      ·have q5:decide ((j:Int) < (k:Int))=false:=decide_eq_false (by omega)
       have hyn:=hgo.out.2.1 y (List.mem_of_getElem? hy); have qa:decide ((y:Int) < 0)=false:=decide_eq_false (by omega); have qb:decide ((r.body.length:Int)≤(y:Int))=false:=decide_eq_false (by omega); obtain ⟨x,hx⟩:∃ x,r.body[y]? = some x:=⟨_,List.getElem?_eq_getElem hyn⟩; have hkx:=below_keep hSx.out.bel hk4.out (lt_of_heap hk4.out); obtain ⟨v0,v1,v2,v3,v4,v5,v6,-⟩:=ru_cells hkx; have hSd:=hid (fun n=>hSx.out.below (below_drewM (Below.refl _ wr) n)); replace hkx:=hid hkx; replace hy:=hid hy; replace hx:=hid hx; clear v0 v1 v2 v3 v4 v5
       go_upto_region 18 with (fail)
       go_cut [72] from 38 to 125 (fun v72 wx=>v72=.bool false∧Hid (SeenW w4 (seenV r.body (l.take k)) (.slice a6 m c6) wx))
       case first =>
        go_quiet (fail)
        all_goals go_wp2_with fail
        all_goals go_meet
        all_goals exact ⟨congrArg Value.bool (decide_eq_false (by omega)),hid (hSd.out _)⟩
       case rest =>
        obtain ⟨rfl,hS5⟩:=hcut; clear hSd hSx hkx i1 e1 v6; obtain ⟨T,hT⟩:∃ T,T=wc.heap.size:=⟨_,rfl⟩; obtain ⟨g1,o1,i1,e1⟩:=nat_at (hL.out.below goodNat hS5.out.bel) hy.out; have hB5:=hid (hB4.out.trans (hS5.out.bel.mono hB4.out.size)); have hk5:=below_keep hS5.out.bel hk4.out (lt_of_heap hk4.out); obtain ⟨v0,v1,v2,v3,v4,v5,v6,-⟩:=ru_cells hk5; obtain ⟨g2,o2,cs2,i2,-,hg2',hc2,hrt2⟩:=(hmove.out w4 hB4.out).2.at (P:=Tryz.prog) (t:=25) (by kernel_rfl) (fun _=>by kernel_rfl) hx.out; obtain ⟨xa,xc,rfl,hSA⟩:=hrt2; have hg2:g2 < wc.heap.size:=Nat.lt_of_lt_of_le hg2' hS5.out.bel.size; have d0:wc.cell? ⟨g2,o2+0,none⟩=some (iv x.op):=(hS5.out.bel.cell (p:=⟨g2,o2+0,none⟩) hg2').trans (hc2 0 _ rfl)
        have d1:wc.cell? ⟨g2,o2+1,none⟩=some (.bool x.nt):=(hS5.out.bel.cell (p:=⟨g2,o2+1,none⟩) hg2').trans (hc2 1 _ rfl); have d2:wc.cell? ⟨g2,o2+2,none⟩=some (sv x.rel):=(hS5.out.bel.cell (p:=⟨g2,o2+2,none⟩) hg2').trans (hc2 2 _ rfl); have d3:wc.cell? ⟨g2,o2+3,none⟩=some (.slice xa x.args.length xc):=(hS5.out.bel.cell (p:=⟨g2,o2+3,none⟩) hg2').trans (hc2 3 _ rfl); rw [Nat.add_zero] at d0; replace hg2':=hid hg2'
        have hfin:=hid (show SeenW w4 (seenV r.body (l.take k)) (.slice a6 m c6) (wc.alloc (.cells (lcells x.op x.nt x.rel (.slice xa x.args.length xc)) 24)).drew∧(wc.alloc (.cells (lcells x.op x.nt x.rel (.slice xa x.args.length xc)) 24)).drew.heap[T]? = some (.cells (lcells x.op x.nt x.rel (.slice xa x.args.length xc)) 24 (0,0)) from
         ⟨hS5.out.below ((Below.refl _ wc).alloc (Nat.le_refl _) _).drew,by rw [hT]; exact heap_alloc_new' wc _⟩)
        replace hk5:=hid hk5; replace hSA:=hid hSA; have hg1:=World.block_lt_of_cell? wc _ e1; have hg0:=World.block_lt_of_cell? wc _ v6; replace hT:=hid hT; clear hc2 v0 v1 v2 v3 v4 v5
        go_upto_region 20 with (fail)
        go_cut [9] from 38 to 125 (fun v9 wy=>v9=pt T∧Hid (SeenW w4 (seenV r.body (l.take k)) (.slice a6 m c6) wy)∧Hid (wy.heap[T]? = some (.cells (lcells x.op x.nt x.rel (.slice xa x.args.length xc)) 24 (0,0))))
        case first =>
         go_region
         all_goals go_wp2_with fail
         all_goals go_meet
         all_goals exact ⟨by rw [hT.out],hid hfin.out.1,hid hfin.out.2⟩
        case rest =>
         obtain ⟨rfl,hS6,hk6⟩:=hcut; clear hg1 hg0 hfin d0 d1 d2 d3 i2 hg2 v6 i1 e1 hS5 hk5 hB5 hT hg2'; have hxs:=hfr.out.2.2 x (List.mem_of_getElem? hx.out); have z0:wc.cell? ⟨T,0,none⟩=some (iv x.op):=(cell_of hk6.out).trans rfl; have z1:wc.cell? ⟨T,1,none⟩=some (.bool x.nt):=(cell_of hk6.out).trans rfl; have z2:wc.cell? ⟨T,2,none⟩=some (sv x.rel):=(cell_of hk6.out).trans rfl; have z3:wc.cell? ⟨T,3,none⟩=some (.slice xa x.args.length xc):=(cell_of hk6.out).trans rfl; have hmi:=hid (missing28_any (seenV r.body (l.take k)) a6 c6 x xa xc S _ wc (by rw [← hm.out]; exact so_sl hS6.out.row) (hSA.out.below goodTg hS6.out.bel) (hlt.out wc (hB4.out.trans (hS6.out.bel.mono hB4.out.size))) (sh_tg hxs).1 (sh_tg hxs).2 (by rw [← hm.out]; omega)); rw [← hm.out] at hmi
         obtain ⟨M,hMe⟩:∃ M,M=missF (seenV r.body (l.take k)) x:=⟨_,rfl⟩
         have hol:=order_lit hgo.out (show l=l.take k++y::l.drop (k+1) from by
          have e1:=List.drop_eq_getElem_cons hlt2; rw [(List.getElem?_eq_some_iff.1 hy.out).2] at e1
          rw [← e1,List.take_append_drop])
         rw [show litAt r.body y=x from by unfold litAt; rw [List.getD_eq_getElem?_getD,hx.out]; rfl,← hMe] at hol; rw [← hMe] at hmi; obtain ⟨ob,hob⟩:∃ ob,ob=(x.op == 1 || x.op == 5):=⟨_,rfl⟩; replace hol:=hid hol; replace hMe:=hid hMe; replace hob:=hid hob; replace hxs:=hid hxs
         go_upto_region 21 with (fail)
         go_wp2_with fail
         with_reducible refine hmi.out.mono ?_
         rintro e w7 ⟨rfl,hb7⟩; have hS7:=hid (hS6.out.below hb7); have hk7:=below_keep hb7 hk6.out (lt_of_heap hk6.out); clear z0 z1 z2 z3 hmi hb7 hS6 hk6; have z0:w7.cell? ⟨T,0,none⟩=some (iv x.op):=(cell_of hk7).trans rfl; have z1:w7.cell? ⟨T,1,none⟩=some (.bool x.nt):=(cell_of hk7).trans rfl; replace hk7:=hid hk7
         go_upto_region 22 with (fail)
         go_cut [11] from 84 to 125 (fun v11 wy=>v11=.bool ob∧w7=wy)
         case first =>
          by_cases o1:x.op=1
          ·rw [o1] at z0
           have hob1:=hid (show ob=true from by rw [hob.out,o1]; rfl); replace o1:=hid o1
           go_wp2_with fail
           go_meet
           exact ⟨by rw [hob1.out],rfl⟩
          ·have qo1:(x.op == 1)=false:=by simpa using o1
           have hob1:=hid (show ob=(x.op == 5) from by rw [hob.out,qo1]; rfl); replace o1:=hid o1
           go_wp2_with fail
           go_meet
           exact ⟨by rw [hob1.out],rfl⟩
         case rest =>
          obtain ⟨rfl,hwc⟩:=hcut; subst hwc
          go_upto_region 23 with (fail)
          go_cut [113] from 92 to 125 (fun v wy=>v=.bool false∧w7=wy)
          case first =>
           cases ob with
           | true =>
            have hM1:=hol.out.1 (by have:=hob.out; simpa using this.symm); have qM1:decide ((1:Int) < (M:Int))=false:=decide_eq_false (by omega); have nM1:decide (1 < M)=false:=decide_eq_false (by omega); by_cases hM0:M=0
            ·have qM0:decide ((0:Int) < (M:Int))=false:=decide_eq_false (by omega)
             have nM0:decide (0 < M)=false:=decide_eq_false (by omega); replace hM1:=hid hM1; replace hM0:=hid hM0
             go_wp2_with fail
             all_goals go_meet
             all_goals first | exact ⟨rfl,rfl⟩ | exact ⟨congrArg Value.bool (decide_eq_false (by omega)),rfl⟩
            ·have qM0:decide ((0:Int) < (M:Int))=true:=decide_eq_true (by omega)
             have nM0:decide (0 < M)=true:=decide_eq_true (by omega); replace hM1:=hid hM1; replace hM0:=hid hM0
             go_wp2_with fail
             all_goals go_meet
             all_goals first | exact ⟨rfl,rfl⟩ | exact ⟨congrArg Value.bool (decide_eq_false (by omega)),rfl⟩
           | false =>
            have hno:¬(x.op=1∨x.op=5):=fun h=>by have:=hob.out; rcases h with h | h <;> rw [h] at this <;> cases this
            by_cases hM0:M=0
            ·have qM1:decide ((1:Int) < (M:Int))=false:=decide_eq_false (by omega)
             have nM1:decide (1 < M)=false:=decide_eq_false (by omega); have qM0:decide ((0:Int) < (M:Int))=false:=decide_eq_false (by omega); have nM0:decide (0 < M)=false:=decide_eq_false (by omega); replace hno:=hid hno; replace hM0:=hid hM0
             go_wp2_with fail
             all_goals go_meet
             all_goals first | exact ⟨rfl,rfl⟩ | exact ⟨congrArg Value.bool (decide_eq_false (by omega)),rfl⟩
            ·have o0:x.op=0:=Classical.byContradiction fun h=>hM0 (hol.out.2 hno (Or.inl h))
             have hnt:x.nt=false:=by
              cases e:x.nt with
              | false=>rfl
              | true=>exact absurd (hol.out.2 hno (Or.inr e)) hM0
             rw [o0] at z0; rw [hnt] at z1; have qM0:decide ((0:Int) < (M:Int))=true:=decide_eq_true (by omega); have nM0:decide (0 < M)=true:=decide_eq_true (by omega); replace hno:=hid hno; replace hM0:=hid hM0; replace o0:=hid o0; replace hnt:=hid hnt; by_cases hM1:1 < M
             ·have qM1:decide ((1:Int) < (M:Int))=true:=decide_eq_true (by omega)
              have nM1:decide (1 < M)=true:=decide_eq_true (by omega); replace hM1:=hid hM1
              go_wp2_with fail
              all_goals go_meet
              all_goals first | exact ⟨rfl,rfl⟩ | exact ⟨congrArg Value.bool (decide_eq_false (by omega)),rfl⟩
             ·have qM1:decide ((1:Int) < (M:Int))=false:=decide_eq_false (by omega)
              have nM1:decide (1 < M)=false:=decide_eq_false (by omega); replace hM1:=hid hM1
              go_wp2_with fail
              all_goals go_meet
              all_goals first | exact ⟨rfl,rfl⟩ | exact ⟨congrArg Value.bool (decide_eq_false (by omega)),rfl⟩
          case rest =>
           obtain ⟨rfl,hwc⟩:=hcut; subst hwc; obtain ⟨bf,hbf⟩:∃ bf,bf=bindsF x:=⟨_,rfl⟩; have hss:=seen_succ hy.out hx.out; rw [← hbf] at hss; replace hss:=hid hss; replace hbf:=hid hbf
           go_upto_region 25 with (fail)
           go_cut [121] from 114 to 125 (fun v wy=>v=.bool bf∧w7=wy)
           case first =>
            by_cases o0:x.op=0
            ·rw [o0] at z0
             have hb0:=hid (show bf = !x.nt from by rw [hbf.out]; unfold bindsF; rw [o0]; rfl); replace o0:=hid o0
             go_wp2_with fail
             go_meet
             exact ⟨by rw [hb0.out],rfl⟩
            ·have q0:(x.op != 0)=true:=by simpa using o0
             have hb0:=hid (show bf=true from by rw [hbf.out]; unfold bindsF; rw [decide_eq_false o0]; rfl); replace o0:=hid o0
             go_wp2_with fail
             go_meet
             exact ⟨by rw [hb0.out],rfl⟩
           case rest =>
            obtain ⟨rfl,hwc⟩:=hcut; subst hwc; clear z0 z1
            cases bf with
            | false =>
             have hS8:=hid (show SeenW w4 (seenV r.body (l.take (k+1))) (.slice a6 m c6) w7 from by rw [hss.out,if_neg (by decide)]; exact hS7.out); have hm8:=hid (show m=(seenV r.body (l.take (k+1))).length from by rw [hss.out,if_neg (by decide)]; exact hm.out)
             go_wp2_with fail
             go_roundg (l.length - (k+1))
             case measure=>omega
             case rel=>exact ⟨k+1,a6,c6,m,rfl,rfl,by omega,hm48,hm8,hS8⟩
            | true =>
             have hvr:=hid (vars_any x xa xc S w7 (hSA.out.below goodTg hS7.out.bel) (hlt.out w7 (hB4.out.trans (hS7.out.bel.mono hB4.out.size))) (sh_tg hxs.out).1 (sh_tg hxs.out).2); obtain ⟨z0,z1,z2,z3⟩:w7.cell? ⟨T,0,none⟩=some (iv x.op)∧w7.cell? ⟨T,1,none⟩=some (.bool x.nt)∧w7.cell? ⟨T,2,none⟩=some (sv x.rel)∧w7.cell? ⟨T,3,none⟩=some (.slice xa x.args.length xc):=⟨(cell_of hk7.out).trans rfl,(cell_of hk7.out).trans rfl,(cell_of hk7.out).trans rfl,(cell_of hk7.out).trans rfl⟩
             go_wp2_with fail
             with_reducible refine hvr.out.mono ?_
             rintro e w8 ⟨vv,rfl,hvS,hvg,hb8⟩; have hS8:=hS7.out.below hb8; have hm8:=hm.out
             have hm49:(seenV r.body (l.take (k+1))).length≤48:=by
              have:=seen_len (fun x hx=>(hfr.out.2.2 x hx).1) (l.take (k+1)) []; rw [List.length_take] at this; simp only [List.length_nil] at this; unfold seenV; omega
             have hss2:seenV r.body (l.take (k+1))=seenV r.body (l.take k)++varsF x:=by rw [hss.out]; exact if_pos trivial
             have hlv:=vars_len x; obtain ⟨v',w9,hap,⟨a9,c9,hv9⟩,hr9,hge9,hF9⟩:=so_app hS8.row hvS (by have:=(sh_tg hxs.out).1; omega); rw [← hss2] at hv9 hr9; obtain ⟨m9,hm9⟩:∃ m9,m9=(seenV r.body (l.take (k+1))).length:=⟨_,rfl⟩; rw [← hm9] at hv9 hm49; subst hv9; have hS9:=hid (show SeenW w4 (seenV r.body (l.take (k+1))) (.slice a9 m9 c9) w9 from ⟨hr9,fun q hq=>(hge9 q hq).elim (hS8.ge q) fun e=>Nat.le_trans hS8.bel.size e,hS8.bel.trans (hF9.to_below hS8.bel.size fun q hq e=>Nat.not_le_of_lt hq (hS8.ge q e))⟩); replace hap:=hid hap; replace hm9:=hid hm9; replace hm8:=hid hm8; replace hS8:=hid hS8; replace hr9:=hid hr9; replace hF9:=hid hF9; replace hss2:=hid hss2; replace hlv:=hid hlv; clear hge9 hvS hvg hb8 z0 z1 z2 z3 hvr
             go_wp2_with (at_builtin; refine wpList_append_shut rfl (.tmp 122) (.tmp 124) rfl rfl rfl hap.out ?_)
             go_roundg (l.length - (k+1))
             case measure=>omega
             case rel=>exact ⟨k+1,a9,c9,m9,rfl,rfl,by omega,hm49,hm9,hS9⟩
    ·have q1:decide ((k:Int) < (l.length:Int))=false:=decide_eq_false (by omega)
     have hfin:l.take k=l:=List.take_of_length_le (by omega); rw [hfin] at hm hSn; have hmi:=hid (missing28_any (seenV r.body l) a6 c6 r.head ha hc S _ wr (by rw [← hm.out]; exact so_sl hSn.out.row) (hmove.out wr hBr.out).1 (hlt.out wr hBr.out) (sh_tg hsh.out).1 (sh_tg hsh.out).2 (by rw [← hm.out]; omega)); rw [← hm.out,hh0.out] at hmi; replace hfin:=hid hfin
     go_wp2_with fail
     with_reducible refine hmi.out.mono ?_
     rintro e w7 ⟨rfl,hb7⟩
     go_wp2_with fail
     go_ret; exact ⟨rfl,hBr.out.trans (hb7.mono hBr.out.size)⟩
end Go.Proofs.YtffdpoifdahadaaGreatDoor
