/- ask: writing heads. -/
import Derived.Test.YtffdpoifdahadaaGreatDoorAskYf
set_option linter.unusedVariables false
set_option linter.unusedSimpArgs false
set_option maxHeartbeats 40000000
set_option maxRecDepth 100000
namespace Go.Proofs.YtffdpoifdahadaaGreatDoor
open Go.RowKit
open Go.Lib (hid byteCells itoa)
def di (agg:Int):List UInt8:=if agg=1 then [99,111,117,110,116] else if agg=2 then [115,117,109] else if agg=3 then [109,105,110] else [109,97,120]
def bK (agg at_:Int):Nat->List Tg->List UInt8->Nat->Option (List UInt8 × Nat)
 | _,[],l,n=>some (l,n)
 | i,t::r,l,n=>(aX false t (if decide (agg≠0/\(i:Int)=at_)=true then (if decide (i=0)=true then l else l++[44,32])++(di agg++[40]) else (if decide (i=0)=true then l else l++[44,32])) n).bind fun p=>bK agg at_ (i+1) r (if decide (agg≠0/\(i:Int)=at_)=true then p.1++[41] else p.1) p.2
def gK (r:Rg) (l:List UInt8) (n:Nat):Option (List UInt8 × Nat) :=
 if r.agg < 0\/5<=r.agg\/(r.agg=0/\r.at_≠0) then none
 else if r.agg≠0/\(r.at_ < 0\/(r.head.args.length:Int)<=r.at_\/(r.head.args[r.at_.toNat]?.map Tg.var)=some []) then none
 else if r.head.op≠0\/r.head.nt=true\/dz r.head.rel=false then none
 else (bK r.agg r.at_ 0 r.head.args (l++(r.head.rel++[40])) n).map fun p=>(p.1++[41],p.2)
theorem se (i:Nat) (t:Tg) (r:List Tg) (l:List UInt8) (n:Nat):bK 0 0 i (t::r) l n=(aX false t (if decide (i=0)=true then l else l++[44,32]) n).bind fun p=>bK 0 0 (i+1) r p.1 p.2:=by
 rw [bK]; simp
theorem sf {agg:Int} (ha:agg≠0) (j i:Nat) (t:Tg) (r:List Tg) (l:List UInt8) (n:Nat):bK agg (j:Int) i (t::r) l n=(aX false t (if decide (i=j)=true then (if decide (i=0)=true then l else l++[44,32])++(di agg++[40]) else (if decide (i=0)=true then l else l++[44,32])) n).bind fun p=>bK agg (j:Int) (i+1) r (if decide (i=j)=true then p.1++[41] else p.1) p.2:=by
 rw [bK]
 have e:decide (agg≠0/\(i:Int)=(j:Int))=decide (i=j):=by
  by_cases h:i=j
  ·simp [h,ha]
  ·have:¬ (i:Int)=(j:Int):=by omega
   simp [h,this]
 rw [e]
theorem mt (agg:Int):(di agg).length<=5:=by unfold di; split; simp; split; simp; split <;> simp
abbrev fJ:Array Value:=#[.string ⟨#[]⟩,sv [99,111,117,110,116],sv [115,117,109],sv [109,105,110],sv [109,97,120]]
theorem nm_at {A:Nat} (h:1<=A/\A<=4):fJ[A]? = some (sv (di (A:Int))):=by
 have:A=1\/A=2\/A=3\/A=4:=by omega
 rcases this with rfl | rfl | rfl | rfl <;> rfl
theorem tA (G:aP) (B b:Nat) (l:List UInt8) (n:Nat) (r:Rg) (ha:Option Addr) (hc:Nat) (ba:Option Addr) (blen bc:Nat) (S:aP) (w:World) (h:WS G B b l n w) (hr:SlR 7 TgR S w r.head.args (.slice ha r.head.args.length hc)) (hS:∀ k,S k->¬ G k) (hl:l.length<=100000000000000) (hrl:r.head.rel.length<=40000) (hal:r.head.args.length<=100000) (hvl:∀ t∈r.head.args,t.var.length<=40000) (hn:n<=100000000000) :
  Calls Tryz.prog 68 #[pt b,.agg (aM r.head.op r.head.nt r.head.rel (.slice ha r.head.args.length hc) r.agg r.at_ (.slice ba blen bc))] w (PW G B b w (gK r l n)):=by
 obtain ⟨R,hR⟩:∃ R,R=gK r l n:=⟨_,rfl⟩; rw [← hR]; obtain ⟨⟨op,nt,rel,args⟩,agg,at_,body⟩:=r; simp only at hr hrl hal hvl
 replace hR:=hid (show R=if agg < 0\/5<=agg\/(agg=0/\at_≠0) then none
  else if agg≠0/\(at_ < 0\/(args.length:Int)<=at_\/(args[at_.toNat]?.map Tg.var)=some []) then none
  else if op≠0\/nt=true\/dz rel=false then none
  else (bK agg at_ 0 args (l++(rel++[40])) n).map fun p=>(p.1++[41],p.2) from hR)
 show Calls Tryz.prog 68 #[pt b,.agg (aM op nt rel (.slice ha args.length hc) agg at_ (.slice ba blen bc))] w _; have hbn:=af w (.cells (aM op nt rel (.slice ha args.length hc) agg at_ (.slice ba blen bc)) 27); have hW0:=h.box (aM op nt rel (.slice ha args.length hc) agg at_ (.slice ba blen bc)) (t:=27) (by decide); have hb1:Below w.heap.size w (w.alloc (.cells (aM op nt rel (.slice ha args.length hc) agg at_ (.slice ba blen bc)) 27)):=(zN _ w).alloc (zM _) _; have hb2:=hb1.alloc hb1.size (.cells fJ 166)
 have hs1:(w.alloc (.cells (aM op nt rel (.slice ha args.length hc) agg at_ (.slice ba blen bc)) 27)).heap.size=w.heap.size+1:=by simp
 have hbm:=af (w.alloc (.cells (aM op nt rel (.slice ha args.length hc) agg at_ (.slice ba blen bc)) 27)) (.cells fJ 166); rw [hs1] at hbm; have hW1':=hW0.box fJ (t:=166) (by decide); rw [hs1] at hW1'; have hW1:=hid hW1'; have hF1:=hid (Fr.of_below hb2 G); have hbk:=(z7 (w.alloc (.cells (aM op nt rel (.slice ha args.length hc) agg at_ (.slice ba blen bc)) 27)) (.cells fJ 166) w.heap.size (by omega)).trans hbn; have b0:=(aj (i:=0) hbk).trans (rfl:_=some (iv op)); have b1:=(aj (i:=1) hbk).trans (rfl:_=some (Value.bool nt)); have b2:=(aj (i:=2) hbk).trans (rfl:_=some (sv rel)); have b3:=(aj (i:=3) hbk).trans (rfl:_=some (Value.slice ha args.length hc)); have b4:=(aj (i:=4) hbk).trans (rfl:_=some (iv agg))
 have b5:=(aj (i:=5) hbk).trans (rfl:_=some (iv at_)); have b6:=(aj (i:=6) hbk).trans (rfl:_=some (Value.slice ba blen bc)); have hr0:=hid hr; have hrx:=hid (hr.below bZ hb2); replace h:=hid h; replace hS:=hid hS; replace hvl:=hid hvl; replace hr:=hid hr; replace hbk:=hid hbk; replace hbm:=hid hbm; replace hbn:=hid hbn; replace hW0:=hid hW0; clear hb1 hb2 hW1'; by_cases hneg:agg < 0
 ·have kneg:decide (agg < 0)=true:=zP hneg
  replace hR:=hid (show R=none from by rw [hR.out]; simp [hneg])
  go_enter Tryz.func68,Tryz.ntmps68
  go_wp2_with fail
  go_ret; exact ⟨by rw [hR.out]; rfl,hF1.out,fun x hx=>by rw [hR.out] at hx; cases hx⟩
 ·have kneg:decide (agg < 0)=false:=zO hneg
  by_cases hbig:5<=agg
  ·have kbig:decide (agg ≥ 5)=true:=zP hbig
   replace hR:=hid (show R=none from by rw [hR.out]; simp [hbig])
   go_enter Tryz.func68,Tryz.ntmps68
   go_wp2_with fail
   go_ret; exact ⟨by rw [hR.out]; rfl,hF1.out,fun x hx=>by rw [hR.out] at hx; cases hx⟩
  ·have kbig:decide (agg ≥ 5)=false:=zO hbig
   have hag:agg=0\/agg=1\/agg=2\/agg=3\/agg=4:=by omega
   clear kneg kbig hneg hbig; rcases hag with rfl | hag
   ·by_cases hat0:at_=0
    ·subst hat0
     replace hR:=hid (show R=if op≠0\/nt=true\/dz rel=false then none else (bK 0 0 0 args (l++(rel++[40])) n).map fun p=>(p.1++[41],p.2) from by rw [hR.out]; simp); by_cases hop:op=0
     ·have kop:(op == 0)=true:=by simp [hop]
      have kop2:(op != 0)=false:=by simp [hop]
      cases nt with
      | true =>
       replace hR:=hid (show R=none from by rw [hR.out]; simp); replace hop:=hid hop;go_enter Tryz.func68,Tryz.ntmps68;go_wp2_with fail
       go_ret; exact ⟨by rw [hR.out]; rfl,hF1.out,fun x hx=>by rw [hR.out] at hx; cases hx⟩
      | false =>
       subst hop; have hir:=hid (dO rel ((w.alloc (.cells (aM 0 false rel (.slice ha args.length hc) 0 0 (.slice ba blen bc)) 27)).alloc (.cells fJ 166)) (by omega)); obtain ⟨rf,hrf⟩:∃ rf,rf=dz rel:=⟨_,rfl⟩; rw [← hrf] at hir hR; replace hrf:=hid hrf;go_enter Tryz.func68,Tryz.ntmps68;go_wp2_with fail;(with_reducible refine hir.out.mono ?_);rintro e w1 ⟨rfl,hb1⟩; have hW2:=hid (hW1.out.below hb1); have hF2:=hid (hF1.out.trans (Fr.of_below hb1 _)); have hk2:=hid (an hb1 hbk.out (ae hbk.out)); have hm2:=hid (an hb1 hbm.out (ae hbm.out)); clear hir hb1 b0 b1 b2 b3 b4 b5 b6
       cases rf with
       | false =>
        replace hR:=hid (show R=none from by rw [hR.out]; simp); replace hF1:=hF2;go_wp2_with fail
        go_ret; exact ⟨by rw [hR.out]; rfl,hF1.out,fun x hx=>by rw [hR.out] at hx; cases hx⟩
       | true =>
        have hbl:=hid (ae hk2.out); have f2:w1.cell? ⟨w.heap.size,2,none⟩=some (sv rel):=(aj (i:=2) hk2.out).trans rfl; obtain ⟨s,hs⟩:∃ s,s=rel++[40]:=⟨_,rfl⟩; replace hR:=hid (show R=(bK 0 0 0 args (l++s) n).map fun p=>(p.1++[41],p.2) from by rw [hR.out,hs]; simp);(have hsl:s.length<=40001:=by rw [hs]; simp; omega);(have hcat:ByteArray.mk rel.toArray++ByteArray.mk #[40]=⟨s.toArray⟩:=by rw [hs]; simp [ByteArray.mk_append_mk]);(have hlN:¬ 9223372036854775807 < rel.length+1:=by omega);replace hs:=hid hs;go_wp2_with fail;refine wp_region_held_drew (S:=fun w'=>w'.cell? ⟨w.heap.size,2,none⟩=some (sv rel)) (by kernel_rfl) ?_ (fun hHeld=>?_)
        ·exact (aj (i:=2) hk2.out).trans rfl
        have hbd:Below w1.heap.size w1 w1.drew:=(zN _ w1).drew; have hWd:=hid (hW2.out.below hbd); have hFd:=hid (hF2.out.trans (Fr.of_below hbd _)); have hbl2:=hid (zS hbl.out hbd.size); have hbl3:=hid (zS (ae hm2.out) hbd.size); generalize w1.drew=wd at *; refine wTk (i:=0) (v:=?_) rfl ?hy ?_
        case hy =>
         intro w hSw; have hq:=hSw; go_simp
         all_goals with_reducible rfl
        (try simp only [Act.put,sI,sZ,sS]);refine wTk (i:=1) (v:=?_) rfl ?hy ?_
        case hy =>
         intro w hSw; have hq:=hSw; go_simp
         all_goals with_reducible rfl
        (try simp only [Act.put,sI,sZ,sS]);refine wTk (i:=2) (v:=?_) rfl ?hy ?_
        case hy =>
         intro w hSw; have hq:=hSw; go_simp
         all_goals with_reducible rfl
        (try simp only [Act.put,sI,sZ,sS]);refine wTk (i:=3) (v:=?_) rfl ?hy ?_
        case hy =>
         intro w hSw; have hq:=hSw; go_simp
         all_goals with_reducible rfl
        (try simp only [Act.put,sI,sZ,sS]);refine wTk (i:=4) (v:=?_) rfl ?hy ?_
        case hy =>
         intro w hSw; have hq:=hSw; go_simp
         all_goals with_reducible rfl
        (try simp only [Act.put,sI,sZ,sS]);refine wTk (i:=5) (v:=?_) rfl ?hy ?_
        case hy =>
         intro w hSw; have hq:=hSw; go_simp
         all_goals with_reducible rfl
        (try simp only [Act.put,sI,sZ,sS]);refine wTk (i:=6) (v:=?_) rfl ?hy ?_
        case hy =>
         intro w hSw; have hq:=hSw; go_simp
         all_goals with_reducible rfl
        (try simp only [Act.put,sI,sZ,sS]);refine wpAnyH_ready (rs:=[7]) (by as_aux_lemma=>kernel_rfl) (by simp) ?_; refine rdY rfl (fun K hK=>?_); go_simp;go_at_call 43;(with_reducible refine (hWd.out.write s (by omega)).mono ?_);rintro e w4 ⟨rfl,hW4,hf4⟩; replace hW4:=hid hW4; replace hf4:=hid hf4; refine hK.out _ _ ?_ (fun hHeld2=>?_)
        ·exact (Af (hf4.out.block _ hbl2.out (fun e=>e.1.2 rfl))).trans hHeld
        clear hK K; clear hHeld; have hHeld:=hHeld2; clear hHeld2;(try simp only [Act.put,sI,sZ,sS]);refine wpAnyH_done (by as_aux_lemma=>kernel_rfl) ?_ _; clear f2; have hF4:=hid (hFd.out.trans (hf4.out.mono fun k _ hk=>hk.1.1)); have hk4:=hid ((hf4.out.block _ hbl2.out (fun e=>e.1.2 rfl)).trans (an hbd hk2.out hbl.out)); have hm4:=hid ((hf4.out.block _ hbl3.out (fun e=>e.2 rfl)).trans (an hbd hm2.out (ae hm2.out))); have f3:w4.cell? ⟨w.heap.size,3,none⟩=some (.slice ha args.length hc):=(aj (i:=3) hk4.out).trans rfl;(have hlb:(l++s).length<=l.length+40005:=by rw [zQ]; omega);obtain ⟨l0,hl0⟩:∃ l0,l0=l++s:=⟨_,rfl⟩; rw [← hl0] at hW4 hlb hR; replace hl0:=hid hl0;go_wp2_with fail
        go_loopg [84] args.length (fun g i wr=>∃ (k:Nat) (l2:List UInt8) (n2:Nat),i=iv k/\k+g=args.length/\l2.length<=l.length+40005+k * 40020/\n2<=n+k/\Hid (R=(bK 0 0 k (args.drop k) l2 n2).map fun p=>(p.1++[41],p.2))/\Hid (WS (fun k=>(G k/\k≠w.heap.size)/\k≠w.heap.size+1) B b l2 n2 wr)/\Hid (Fr G w wr)/\Hid (wr.heap[w.heap.size]? = some (.cells (aM 0 false rel (.slice ha args.length hc) 0 0 (.slice ba blen bc)) 27 (0,0)))/\Hid (wr.heap[w.heap.size+1]? = some (.cells fJ 166 (0,0))))
        case atStart=>exact ⟨0,l0,n,rfl,by omega,by omega,by omega,hid hR.out,hW4,hF4,hk4,hm4⟩
        case round =>
         obtain ⟨k,l2,n2,rfl,hkg,hl2,hn2,hR2,hW5,hF5,hk5,hm5⟩:=hrel; clear hW4 hF4 hk4 hm4 f3; by_cases hlt:k < args.length
         ·have q1:decide ((k:Int) < (args.length:Int))=true:=zP (by omega)
          obtain ⟨t,ht⟩:∃ t,args[k]? = some t:=⟨_,zR hlt⟩;(have hdr:args.drop k=t::args.drop (k+1):=by rw [Ac hlt]; congr 1; rw [zR hlt] at ht; injection ht);rw [hdr] at hR2; have htv:=hvl.out t (zU ht); obtain ⟨g,o,cs,hidx,-,hg,hc',hrt⟩:=(hr0.out.fr bZ hF5.out hS.out).at (P:=Tryz.prog) (t:=22) (by kernel_rfl) (fun _=>by kernel_rfl) ht; obtain ⟨ta,tc,hrt'⟩:=hrt; subst hrt'; have d0:=hc' 0 _ rfl; have d1:=hc' 1 _ rfl; have d2:=hc' 2 _ rfl; have d3:=hc' 3 _ rfl; have d4:=hc' 4 _ rfl; have d5:=hc' 5 _ rfl; have d6:=hc' 6 _ rfl; rw [Nat.add_zero] at d0; have hW6:=hid (hW5.out.box (aR t ta tc) (t:=63) (by decide)); have hbT:Below wr.heap.size wr (wr.alloc (.cells (aR t ta tc) 63)):=(zN _ _).alloc (zM _) _; have hF6:=hid (Fr.of_below hbT (fun k=>(G k/\k≠w.heap.size)/\k≠w.heap.size+1)); have hkT:=hid (af wr (.cells (aR t ta tc) 63));(have e1:IntKind.i64.wrap ((k:Int)+1)=((k+1:Nat):Int):=by rw [zX]; omega);clear hc' hdr hbT;(obtain ⟨l3,hl3⟩:∃ l3,l3=if decide (k=0)=true then l2 else l2++[44,32]:=⟨_,rfl⟩)
          have hl3b:l3.length<=l2.length+2:=by rw [hl3]; split <;> simp
          replace hR2:=hid (show R=((aX false t l3 n2).bind fun p=>bK 0 0 (k+1) (args.drop (k+1)) p.1 p.2).map fun p=>(p.1++[41],p.2) from by rw [hl3,hR2.out,se]);(go_upto_if 90 with (fail))
          go_cut [] from 85 to 123 (fun wx=>Hid (WS (fun j=>((G j/\j≠w.heap.size)/\j≠w.heap.size+1)/\j≠wr.heap.size) B b l3 n2 wx)/\Hid (Fr (fun k=>(G k/\k≠w.heap.size)/\k≠w.heap.size+1) wr wx)/\Hid (wx.heap[wr.heap.size]? = some (.cells (aR t ta tc) 63 (0,0))))
          case first =>
           by_cases hk0:k=0
           ·have p1:decide ((k:Int) > 0)=false:=zO (by omega)
            (have p2:¬ (0:Int) < (k:Int):=by omega);(have e3:l3=l2:=by rw [hl3,zP hk0]; rfl);subst e3; replace hk0:=hid hk0;go_wp2_with fail;go_meet
            case rel=>exact ⟨hW6,hF6,hkT⟩
           ·have p1:decide ((k:Int) > 0)=true:=zP (by omega)
            (have p2:(0:Int) < (k:Int):=by omega);(have e3:l3=l2++[44,32]:=by rw [hl3,zO hk0]; rfl);subst e3; replace hk0:=hid hk0; have hwr:=hid (hW6.out.write [44,32] (by show _+2<=_; omega));go_wp2_with fail;(with_reducible refine hwr.out.mono ?_);rintro e w7 ⟨rfl,hW7,hf7⟩;go_wp2_with fail;go_meet
            case rel=>exact ⟨hid hW7,hid (hF6.out.trans (hf7.mono fun k _ hk=>hk.1)),hid ((dq hf7 (ae hkT.out)).trans hkT.out)⟩
          case rest =>
           obtain ⟨hW7,hF7,hkT7⟩:=hcut; have hk7:=hid ((hF7.out.block _ (ae hk5.out) (fun e=>e.1.2 rfl)).trans hk5.out); have hm7:=hid ((hF7.out.block _ (ae hm5.out) (fun e=>e.2 rfl)).trans hm5.out); clear d0 d1 d2 d3 d4 d5 d6; obtain ⟨d0,d1,d2,d3,d4,d5,d6⟩:=dY hkT7.out; have f4:wc.cell? ⟨w.heap.size,4,none⟩=some (iv 0):=(aj (i:=4) hk7.out).trans rfl; obtain ⟨wy,hwy⟩:∃ wy,wy=wc:=⟨_,rfl⟩; subst hwy; replace hR2:=hid (show R=((aX false t (l3) n2).bind fun p=>bK 0 0 (k+1) (args.drop (k+1)) (p.1) p.2).map fun p=>(p.1++[41],p.2) from by rw [hR2.out]); have htm:=hid (dU _ B b (l3) n2 false t ta tc wy hW7.out (by first | omega | (simp; omega)) htv (by omega))
           (have hlen2:=fun p (h:aX false t (l3) n2=some p)=>cZ htv h);obtain ⟨rt,hrt⟩:∃ rt,rt=aX false t (l3) n2:=⟨_,rfl⟩; rw [← hrt] at htm hlen2; replace hR2:=hR2.out; rw [← hrt] at hR2; replace hR2:=hid hR2; replace hrt:=hid hrt; replace hl3:=hid hl3;go_wp2_with fail;(with_reducible refine htm.out.mono ?_);rintro e w8 ⟨rfl,hF8,hW8⟩; have hF9:=hF7.out.trans (hF8.mono fun k _ hk=>hk.1); have hF10:=hid (hF5.out.trans (hF9.mono fun k _ hk=>hk.1.1))
           cases rt with
           | none =>
            replace hR2:=hid (show R=none from hR2.out);go_wp2_with fail
            go_ret; exact ⟨by rw [hR2.out]; rfl,hF10.out,fun x hx=>by rw [hR2.out] at hx; cases hx⟩
           | some p =>
            obtain ⟨l5,n4⟩:=p; obtain ⟨hl4,hn4⟩:=hlen2 _ rfl; replace hl4:l5.length<=(l3).length+40000:=hl4
            skip
            replace hn4:n4<=n2+1:=hn4; have hW9:=hid (show WS (fun k=>(G k/\k≠w.heap.size)/\k≠w.heap.size+1) B b l5 n4 w8 from hW5.out.out (hW8 _ rfl) hF9 fun k hk=>hk.1); have hk9:=hid ((hF9.block _ (ae hk5.out) (fun e=>e.1.2 rfl)).trans hk5.out); have hm9:=hid ((hF9.block _ (ae hm5.out) (fun e=>e.2 rfl)).trans hm5.out); clear htm hF8 hW8 hF9;go_wp2_with fail
            go_roundg (args.length - (k+1))
            case measure=>omega
            case rel=>exact ⟨k+1,l5,n4,rfl,by omega,by omega,by omega,hid hR2.out,hW9,hF10,hk9,hm9⟩
         ·have q1:decide ((k:Int) < (args.length:Int))=false:=zO (by omega)
          rw [List.drop_eq_nil_of_le (by omega)] at hR2; replace hR2:=hid (show R=some (l2++[41],n2) from hR2.out); have hwb:=hid (hW5.out.writeB 41 (by omega));go_wp2_with fail;refine hwb.out.mono ?_; rintro e w6 ⟨rfl,hW6,hf6⟩; have hF6:=hid (hF5.out.trans (hf6.mono fun k _ hk=>hk.1.1)); replace hW6:=hid hW6; clear hwb hf6;go_wp2_with fail;(go_ret; refine ⟨by rw [hR2.out]; rfl,hF6.out,fun x hx=>?_⟩; rw [hR2.out] at hx; injection hx with hx; subst hx);(exact h.out.out hW6.out hF6.out fun k hk=>hk.1.1)
     ·have kop:(op == 0)=false:=by simp [hop]
      (have kop2:(op != 0)=true:=by simp [hop]);replace hR:=hid (show R=none from by rw [hR.out]; simp [hop]); replace hop:=hid hop;go_enter Tryz.func68,Tryz.ntmps68;go_wp2_with fail
      go_ret; exact ⟨by rw [hR.out]; rfl,hF1.out,fun x hx=>by rw [hR.out] at hx; cases hx⟩
    ·have kat:(at_ == 0)=false:=by simp [hat0]
     (have kat2:(at_ != 0)=true:=by simp [hat0]);replace hR:=hid (show R=none from by rw [hR.out]; simp [hat0]); replace hat0:=hid hat0;go_enter Tryz.func68,Tryz.ntmps68;go_wp2_with fail
     go_ret; exact ⟨by rw [hR.out]; rfl,hF1.out,fun x hx=>by rw [hR.out] at hx; cases hx⟩
   ·obtain ⟨A,rfl⟩:∃ A:Nat,agg=(A:Int):=⟨agg.toNat,by omega⟩
    (have hA1:1<=A/\A<=4:=by omega);have ka1:decide ((A:Int) < 0)=false:=zO (by omega); have ka2:decide ((A:Int) ≥ 5)=false:=zO (by omega);(have ka3:((A:Int) == 0)=false:=by simp; omega);(have ka4:((A:Int) != 0)=true:=by simp; omega);(have ka5:¬ (5:Int)<=(A:Int):=by omega);(have ka6:¬ (A:Int) < 0:=by omega);(have ka7:¬ (A:Int)=0:=by omega);(have hA0:(A:Int)≠0:=by omega);clear hag
    replace hR:=hid (show R=if at_ < 0\/(args.length:Int)<=at_\/(args[at_.toNat]?.map Tg.var)=some [] then none
     else if op≠0\/nt=true\/dz rel=false then none
     else (bK (A:Int) at_ 0 args (l++(rel++[40])) n).map fun p=>(p.1++[41],p.2) from by
      rw [hR.out,if_neg (by rintro (h | h | h) <;> omega)]; by_cases hq:at_ < 0\/(args.length:Int)<=at_\/(args[at_.toNat]?.map Tg.var)=some []
      ·rw [if_pos ⟨hA0,hq⟩,if_pos hq]
      ·rw [if_neg (fun e=>hq e.2),if_neg hq])
    by_cases hneg:at_ < 0
    ·have kneg:decide (at_ < 0)=true:=zP hneg
     replace hR:=hid (show R=none from by rw [hR.out]; simp [hneg]);go_enter Tryz.func68,Tryz.ntmps68;go_wp2_with fail
     go_ret; exact ⟨by rw [hR.out]; rfl,hF1.out,fun x hx=>by rw [hR.out] at hx; cases hx⟩
    ·obtain ⟨j,rfl⟩:∃ j:Nat,at_=(j:Int):=⟨at_.toNat,by omega⟩
     have kneg:decide ((j:Int) < 0)=false:=zO hneg; by_cases hge:args.length<=j
     ·have kge:decide ((j:Int) ≥ (args.length:Int))=true:=zP (by omega)
      (have kgi:(args.length:Int)<=(j:Int):=by omega);replace hR:=hid (show R=none from by rw [hR.out]; simp [kgi]); replace hge:=hid hge;go_enter Tryz.func68,Tryz.ntmps68;go_wp2_with fail
      go_ret; exact ⟨by rw [hR.out]; rfl,hF1.out,fun x hx=>by rw [hR.out] at hx; cases hx⟩
     ·have kge:decide ((j:Int) ≥ (args.length:Int))=false:=zO (by omega)
      (have kgi:¬ (args.length:Int)<=(j:Int):=by omega);(have kgj:j < args.length:=by omega);obtain ⟨tj,htj⟩:∃ tj,args[j]? = some tj:=⟨_,zR kgj⟩; obtain ⟨gj,oj,csj,hidxj,-,hgj,hcj,hrj⟩:=hrx.out.at (P:=Tryz.prog) (t:=22) (by kernel_rfl) (fun _=>by kernel_rfl) htj; obtain ⟨tja,tjc,hrj'⟩:=hrj; subst hrj'; have dj0:=hcj 0 _ rfl; rw [Nat.add_zero] at dj0; clear hcj; by_cases htv:tj.var=[]
      ·have ktv:(tj.var == [])=true:=by simp [htv]
       replace hR:=hid (show R=none from by rw [hR.out]; simp [htj,htv]); replace htv:=hid htv; replace htj:=hid htj; replace hge:=hid hge;go_enter Tryz.func68,Tryz.ntmps68;go_wp2_with fail
       go_ret; exact ⟨by rw [hR.out]; rfl,hF1.out,fun x hx=>by rw [hR.out] at hx; cases hx⟩
      ·have ktv:(tj.var == [])=false:=by simp [htv]
       replace hR:=hid (show R=if op≠0\/nt=true\/dz rel=false then none else (bK (A:Int) (j:Int) 0 args (l++(rel++[40])) n).map fun p=>(p.1++[41],p.2) from by rw [hR.out]; simp [htj,htv,kgi,hneg]); replace htv:=hid htv; replace htj:=hid htj; replace hge:=hid hge; by_cases hop:op=0
       ·have kop:(op == 0)=true:=by simp [hop]
        have kop2:(op != 0)=false:=by simp [hop]
        cases nt with
        | true =>
         replace hR:=hid (show R=none from by rw [hR.out]; simp); replace hop:=hid hop;go_enter Tryz.func68,Tryz.ntmps68;go_wp2_with fail
         go_ret; exact ⟨by rw [hR.out]; rfl,hF1.out,fun x hx=>by rw [hR.out] at hx; cases hx⟩
        | false =>
         subst hop; have hir:=hid (dO rel ((w.alloc (.cells (aM 0 false rel (.slice ha args.length hc) (A:Int) (j:Int) (.slice ba blen bc)) 27)).alloc (.cells fJ 166)) (by omega)); obtain ⟨rf,hrf⟩:∃ rf,rf=dz rel:=⟨_,rfl⟩; rw [← hrf] at hir hR; replace hrf:=hid hrf;go_enter Tryz.func68,Tryz.ntmps68;go_wp2_with fail;(with_reducible refine hir.out.mono ?_);rintro e w1 ⟨rfl,hb1⟩; have hW2:=hid (hW1.out.below hb1); have hF2:=hid (hF1.out.trans (Fr.of_below hb1 _)); have hk2:=hid (an hb1 hbk.out (ae hbk.out)); have hm2:=hid (an hb1 hbm.out (ae hbm.out)); clear hir hb1 b0 b1 b2 b3 b4 b5 b6
         cases rf with
         | false =>
          replace hR:=hid (show R=none from by rw [hR.out]; simp); replace hF1:=hF2;go_wp2_with fail
          go_ret; exact ⟨by rw [hR.out]; rfl,hF1.out,fun x hx=>by rw [hR.out] at hx; cases hx⟩
         | true =>
          have hbl:=hid (ae hk2.out); have f2:w1.cell? ⟨w.heap.size,2,none⟩=some (sv rel):=(aj (i:=2) hk2.out).trans rfl; obtain ⟨s,hs⟩:∃ s,s=rel++[40]:=⟨_,rfl⟩; replace hR:=hid (show R=(bK (A:Int) (j:Int) 0 args (l++s) n).map fun p=>(p.1++[41],p.2) from by rw [hR.out,hs]; simp);(have hsl:s.length<=40001:=by rw [hs]; simp; omega);(have hcat:ByteArray.mk rel.toArray++ByteArray.mk #[40]=⟨s.toArray⟩:=by rw [hs]; simp [ByteArray.mk_append_mk]);(have hlN:¬ 9223372036854775807 < rel.length+1:=by omega);replace hs:=hid hs;go_wp2_with fail;refine wp_region_held_drew (S:=fun w'=>w'.cell? ⟨w.heap.size,2,none⟩=some (sv rel)) (by kernel_rfl) ?_ (fun hHeld=>?_)
          ·exact (aj (i:=2) hk2.out).trans rfl
          have hbd:Below w1.heap.size w1 w1.drew:=(zN _ w1).drew; have hWd:=hid (hW2.out.below hbd); have hFd:=hid (hF2.out.trans (Fr.of_below hbd _)); have hbl2:=hid (zS hbl.out hbd.size); have hbl3:=hid (zS (ae hm2.out) hbd.size); generalize w1.drew=wd at *; refine wTk (i:=0) (v:=?_) rfl ?hy ?_
          case hy =>
           intro w hSw; have hq:=hSw; go_simp
           all_goals with_reducible rfl
          (try simp only [Act.put,sI,sZ,sS]);refine wTk (i:=1) (v:=?_) rfl ?hy ?_
          case hy =>
           intro w hSw; have hq:=hSw; go_simp
           all_goals with_reducible rfl
          (try simp only [Act.put,sI,sZ,sS]);refine wTk (i:=2) (v:=?_) rfl ?hy ?_
          case hy =>
           intro w hSw; have hq:=hSw; go_simp
           all_goals with_reducible rfl
          (try simp only [Act.put,sI,sZ,sS]);refine wTk (i:=3) (v:=?_) rfl ?hy ?_
          case hy =>
           intro w hSw; have hq:=hSw; go_simp
           all_goals with_reducible rfl
          (try simp only [Act.put,sI,sZ,sS]);refine wTk (i:=4) (v:=?_) rfl ?hy ?_
          case hy =>
           intro w hSw; have hq:=hSw; go_simp
           all_goals with_reducible rfl
          (try simp only [Act.put,sI,sZ,sS]);refine wTk (i:=5) (v:=?_) rfl ?hy ?_
          case hy =>
           intro w hSw; have hq:=hSw; go_simp
           all_goals with_reducible rfl
          (try simp only [Act.put,sI,sZ,sS]);refine wTk (i:=6) (v:=?_) rfl ?hy ?_
          case hy =>
           intro w hSw; have hq:=hSw; go_simp
           all_goals with_reducible rfl
          (try simp only [Act.put,sI,sZ,sS]);refine wpAnyH_ready (rs:=[7]) (by as_aux_lemma=>kernel_rfl) (by simp) ?_; refine rdY rfl (fun K hK=>?_); go_simp;go_at_call 43;(with_reducible refine (hWd.out.write s (by omega)).mono ?_);rintro e w4 ⟨rfl,hW4,hf4⟩; replace hW4:=hid hW4; replace hf4:=hid hf4; refine hK.out _ _ ?_ (fun hHeld2=>?_)
          ·exact (Af (hf4.out.block _ hbl2.out (fun e=>e.1.2 rfl))).trans hHeld
          clear hK K; clear hHeld; have hHeld:=hHeld2; clear hHeld2;(try simp only [Act.put,sI,sZ,sS]);refine wpAnyH_done (by as_aux_lemma=>kernel_rfl) ?_ _; clear f2; have hF4:=hid (hFd.out.trans (hf4.out.mono fun k _ hk=>hk.1.1)); have hk4:=hid ((hf4.out.block _ hbl2.out (fun e=>e.1.2 rfl)).trans (an hbd hk2.out hbl.out)); have hm4:=hid ((hf4.out.block _ hbl3.out (fun e=>e.2 rfl)).trans (an hbd hm2.out (ae hm2.out))); have f3:w4.cell? ⟨w.heap.size,3,none⟩=some (.slice ha args.length hc):=(aj (i:=3) hk4.out).trans rfl;(have hlb:(l++s).length<=l.length+40005:=by rw [zQ]; omega);obtain ⟨l0,hl0⟩:∃ l0,l0=l++s:=⟨_,rfl⟩; rw [← hl0] at hW4 hlb hR; replace hl0:=hid hl0;go_wp2_with fail
          go_loopg [84] args.length (fun g i wr=>∃ (k:Nat) (l2:List UInt8) (n2:Nat),i=iv k/\k+g=args.length/\l2.length<=l.length+40005+k * 40020/\n2<=n+k/\Hid (R=(bK (A:Int) (j:Int) k (args.drop k) l2 n2).map fun p=>(p.1++[41],p.2))/\Hid (WS (fun k=>(G k/\k≠w.heap.size)/\k≠w.heap.size+1) B b l2 n2 wr)/\Hid (Fr G w wr)/\Hid (wr.heap[w.heap.size]? = some (.cells (aM 0 false rel (.slice ha args.length hc) (A:Int) (j:Int) (.slice ba blen bc)) 27 (0,0)))/\Hid (wr.heap[w.heap.size+1]? = some (.cells fJ 166 (0,0))))
          case atStart=>exact ⟨0,l0,n,rfl,by omega,by omega,by omega,hid hR.out,hW4,hF4,hk4,hm4⟩
          case round =>
           obtain ⟨k,l2,n2,rfl,hkg,hl2,hn2,hR2,hW5,hF5,hk5,hm5⟩:=hrel; clear hW4 hF4 hk4 hm4 f3; by_cases hlt:k < args.length
           ·have q1:decide ((k:Int) < (args.length:Int))=true:=zP (by omega)
            obtain ⟨t,ht⟩:∃ t,args[k]? = some t:=⟨_,zR hlt⟩;(have hdr:args.drop k=t::args.drop (k+1):=by rw [Ac hlt]; congr 1; rw [zR hlt] at ht; injection ht);rw [hdr] at hR2; have htv:=hvl.out t (zU ht); obtain ⟨g,o,cs,hidx,-,hg,hc',hrt⟩:=(hr0.out.fr bZ hF5.out hS.out).at (P:=Tryz.prog) (t:=22) (by kernel_rfl) (fun _=>by kernel_rfl) ht; obtain ⟨ta,tc,hrt'⟩:=hrt; subst hrt'; have d0:=hc' 0 _ rfl; have d1:=hc' 1 _ rfl; have d2:=hc' 2 _ rfl; have d3:=hc' 3 _ rfl; have d4:=hc' 4 _ rfl; have d5:=hc' 5 _ rfl; have d6:=hc' 6 _ rfl; rw [Nat.add_zero] at d0; have hW6:=hid (hW5.out.box (aR t ta tc) (t:=63) (by decide)); have hbT:Below wr.heap.size wr (wr.alloc (.cells (aR t ta tc) 63)):=(zN _ _).alloc (zM _) _; have hF6:=hid (Fr.of_below hbT (fun k=>(G k/\k≠w.heap.size)/\k≠w.heap.size+1)); have hkT:=hid (af wr (.cells (aR t ta tc) 63));(have e1:IntKind.i64.wrap ((k:Int)+1)=((k+1:Nat):Int):=by rw [zX]; omega);clear hc' hdr hbT;(obtain ⟨l3,hl3⟩:∃ l3,l3=if decide (k=0)=true then l2 else l2++[44,32]:=⟨_,rfl⟩)
            have hl3b:l3.length<=l2.length+2:=by rw [hl3]; split <;> simp
            replace hR2:=hid (show R=((aX false t (if decide (k=j)=true then l3++(di A++[40]) else l3) n2).bind fun p=>bK (A:Int) (j:Int) (k+1) (args.drop (k+1)) (if decide (k=j)=true then p.1++[41] else p.1) p.2).map fun p=>(p.1++[41],p.2) from by rw [hl3,hR2.out,sf hA0]);(go_upto_if 90 with (fail))
            go_cut [] from 85 to 123 (fun wx=>Hid (WS (fun j=>((G j/\j≠w.heap.size)/\j≠w.heap.size+1)/\j≠wr.heap.size) B b l3 n2 wx)/\Hid (Fr (fun k=>(G k/\k≠w.heap.size)/\k≠w.heap.size+1) wr wx)/\Hid (wx.heap[wr.heap.size]? = some (.cells (aR t ta tc) 63 (0,0))))
            case first =>
             by_cases hk0:k=0
             ·have p1:decide ((k:Int) > 0)=false:=zO (by omega)
              (have p2:¬ (0:Int) < (k:Int):=by omega);(have e3:l3=l2:=by rw [hl3,zP hk0]; rfl);subst e3; replace hk0:=hid hk0;go_wp2_with fail;go_meet
              case rel=>exact ⟨hW6,hF6,hkT⟩
             ·have p1:decide ((k:Int) > 0)=true:=zP (by omega)
              (have p2:(0:Int) < (k:Int):=by omega);(have e3:l3=l2++[44,32]:=by rw [hl3,zO hk0]; rfl);subst e3; replace hk0:=hid hk0; have hwr:=hid (hW6.out.write [44,32] (by show _+2<=_; omega));go_wp2_with fail;(with_reducible refine hwr.out.mono ?_);rintro e w7 ⟨rfl,hW7,hf7⟩;go_wp2_with fail;go_meet
              case rel=>exact ⟨hid hW7,hid (hF6.out.trans (hf7.mono fun k _ hk=>hk.1)),hid ((dq hf7 (ae hkT.out)).trans hkT.out)⟩
            case rest =>
             obtain ⟨hW7,hF7,hkT7⟩:=hcut; have hk7:=hid ((hF7.out.block _ (ae hk5.out) (fun e=>e.1.2 rfl)).trans hk5.out); have hm7:=hid ((hF7.out.block _ (ae hm5.out) (fun e=>e.2 rfl)).trans hm5.out); clear d0 d1 d2 d3 d4 d5 d6; obtain ⟨d0,d1,d2,d3,d4,d5,d6⟩:=dY hkT7.out; have f4:wc.cell? ⟨w.heap.size,4,none⟩=some (iv (A:Int)):=(aj (i:=4) hk7.out).trans rfl; have f5:wc.cell? ⟨w.heap.size,5,none⟩=some (iv (j:Int)):=(aj (i:=5) hk7.out).trans rfl; by_cases hkj:k=j
             ·have p5:((k:Int) == (j:Int))=true:=by simp [hkj]
              obtain ⟨N1,hN1⟩:∃ N1:List UInt8,N1=di A:=⟨_,rfl⟩; obtain ⟨s2,hs2⟩:∃ s2,s2=N1++[40]:=⟨_,rfl⟩;(have hs2l:s2.length<=6:=by rw [hs2,hN1,zQ]; have:=mt (A:Int); simp only [zT,z_]; omega);(have hN1l:N1.length<=5:=by rw [hN1]; exact mt _);(have hcat2:ByteArray.mk N1.toArray++ByteArray.mk #[40]=⟨s2.toArray⟩:=by rw [hs2]; simp [ByteArray.mk_append_mk]);(have hlN2:¬ 9223372036854775807 < N1.length+1:=by omega);replace hR2:=hid (show R=((aX false t (l3++s2) n2).bind fun p=>bK (A:Int) (j:Int) (k+1) (args.drop (k+1)) (p.1++[41]) p.2).map fun p=>(p.1++[41],p.2) from by rw [hR2.out,zP hkj,hs2,hN1]; rfl); replace hN1:=hid hN1; replace hs2:=hid hs2; replace hkj:=hid hkj;go_wp2_with fail;refine wp_region_held_drew (S:=fun w'=>w'.cell? ⟨w.heap.size,4,none⟩=some (iv (A:Int))/\w'.cell? ⟨w.heap.size+1,A,none⟩=some (sv N1)) (by kernel_rfl) ?_ (fun hHeld=>?_)
              ·exact ⟨(aj (i:=4) hk7.out).trans rfl,(aj (i:=A) hm7.out).trans (by rw [hN1.out]; exact nm_at hA1)⟩
              have hbd:Below wc.heap.size wc wc.drew:=(zN _ wc).drew; have hWd:=hid (hW7.out.below hbd); have hFd:=hid (hF7.out.trans (Fr.of_below hbd _)); have hbl2:=hid (zS (ae hk7.out) hbd.size); have hbl3:=hid (zS (ae hm7.out) hbd.size); have hbl4:=hid (zS (ae hkT7.out) hbd.size); have hkTd:=hid (an hbd hkT7.out (ae hkT7.out)); generalize wc.drew=wd at *; refine wTk (i:=0) (v:=?_) rfl ?hy ?_
              case hy =>
               intro w hSw; obtain ⟨o1,o2⟩:=hSw; go_simp
               all_goals with_reducible rfl
              (try simp only [Act.put,sI,sZ,sS]);refine wTk (i:=1) (v:=?_) rfl ?hy ?_
              case hy =>
               intro w hSw; obtain ⟨o1,o2⟩:=hSw; go_simp
               all_goals with_reducible rfl
              (try simp only [Act.put,sI,sZ,sS]);refine wTk (i:=2) (v:=?_) rfl ?hy ?_
              case hy =>
               intro w hSw; obtain ⟨o1,o2⟩:=hSw; go_simp
               all_goals with_reducible rfl
              (try simp only [Act.put,sI,sZ,sS]);refine wTk (i:=3) (v:=?_) rfl ?hy ?_
              case hy =>
               intro w hSw; obtain ⟨o1,o2⟩:=hSw; go_simp
               all_goals with_reducible rfl
              (try simp only [Act.put,sI,sZ,sS]);refine wTk (i:=4) (v:=?_) rfl ?hy ?_
              case hy =>
               intro w hSw; obtain ⟨o1,o2⟩:=hSw; go_simp
               all_goals with_reducible rfl
              (try simp only [Act.put,sI,sZ,sS]);refine wTk (i:=5) (v:=?_) rfl ?hy ?_
              case hy =>
               intro w hSw; obtain ⟨o1,o2⟩:=hSw; go_simp
               all_goals with_reducible rfl
              (try simp only [Act.put,sI,sZ,sS]);refine wTk (i:=6) (v:=?_) rfl ?hy ?_
              case hy =>
               intro w hSw; obtain ⟨o1,o2⟩:=hSw; go_simp
               all_goals with_reducible rfl
              (try simp only [Act.put,sI,sZ,sS]);refine wTk (i:=7) (v:=?_) rfl ?hy ?_
              case hy =>
               intro w hSw; obtain ⟨o1,o2⟩:=hSw; go_simp
               all_goals with_reducible rfl
              (try simp only [Act.put,sI,sZ,sS]);refine wpAnyH_ready (rs:=[8]) (by as_aux_lemma=>kernel_rfl) (by simp) ?_; refine rdY rfl (fun K hK=>?_); go_simp;go_at_call 43;(with_reducible refine (hWd.out.write s2 (by omega)).mono ?_);rintro e wy ⟨rfl,hWy,hfy⟩; replace hWy:=hid hWy; replace hfy:=hid hfy; refine hK.out _ _ ?_ (fun hHeld2=>?_)
              ·exact ⟨(Af (hfy.out.block _ hbl2.out (fun e=>e.1.1.2 rfl))).trans hHeld.1,(Af (hfy.out.block _ hbl3.out (fun e=>e.1.2 rfl))).trans hHeld.2⟩
              clear hK K; clear hHeld; have hHeld:=hHeld2; clear hHeld2;(try simp only [Act.put,sI,sZ,sS])
              refine wpAnyH_done (by as_aux_lemma=>kernel_rfl) ?_ _; have hF7y:=hid (hFd.out.trans (hfy.out.mono fun k _ hk=>hk.1)); have hkT8:=hid ((hfy.out.block _ hbl4.out (fun e=>e.2 rfl)).trans hkTd.out); obtain ⟨d0,d1,d2,d3,d4,d5,d6⟩:=dY hkT8.out; clear hW7 hF7; have hW7:=hWy; have hF7:=hF7y; replace hR2:=hid (show R=((aX false t (l3++s2) n2).bind fun p=>bK (A:Int) (j:Int) (k+1) (args.drop (k+1)) (p.1++[41]) p.2).map fun p=>(p.1++[41],p.2) from by rw [hR2.out]); have htm:=hid (dU _ B b (l3++s2) n2 false t ta tc wy hW7.out (by first | omega | (simp; omega)) htv (by omega))
              (have hlen2:=fun p (h:aX false t (l3++s2) n2=some p)=>cZ htv h);obtain ⟨rt,hrt⟩:∃ rt,rt=aX false t (l3++s2) n2:=⟨_,rfl⟩; rw [← hrt] at htm hlen2; replace hR2:=hR2.out; rw [← hrt] at hR2; replace hR2:=hid hR2; replace hrt:=hid hrt; replace hl3:=hid hl3;go_wp2_with fail;(with_reducible refine htm.out.mono ?_);rintro e w8 ⟨rfl,hF8,hW8⟩; have hF9:=hF7.out.trans (hF8.mono fun k _ hk=>hk.1); have hF10:=hid (hF5.out.trans (hF9.mono fun k _ hk=>hk.1.1))
              cases rt with
              | none =>
               replace hR2:=hid (show R=none from hR2.out);go_wp2_with fail
               go_ret; exact ⟨by rw [hR2.out]; rfl,hF10.out,fun x hx=>by rw [hR2.out] at hx; cases hx⟩
              | some p =>
               obtain ⟨l5,n4⟩:=p; obtain ⟨hl4,hn4⟩:=hlen2 _ rfl; replace hl4:l5.length<=(l3++s2).length+40000:=hl4; rw [zQ] at hl4; replace hn4:n4<=n2+1:=hn4; have hW9:=hid (show WS (fun k=>(G k/\k≠w.heap.size)/\k≠w.heap.size+1) B b l5 n4 w8 from hW5.out.out (hW8 _ rfl) hF9 fun k hk=>hk.1); have hk9:=hid ((hF9.block _ (ae hk5.out) (fun e=>e.1.2 rfl)).trans hk5.out); have hm9:=hid ((hF9.block _ (ae hm5.out) (fun e=>e.2 rfl)).trans hm5.out); have hwb:=hid (hW9.out.writeB 41 (by omega)); clear htm hF8 hW8 hF9;go_wp2_with fail;refine hwb.out.mono ?_; rintro e w9 ⟨rfl,hW10,hf10⟩; have hk10:=hid ((hf10.block _ (ae hk9.out) (fun e=>e.1.2 rfl)).trans hk9.out); have hm10:=hid ((hf10.block _ (ae hm9.out) (fun e=>e.2 rfl)).trans hm9.out); have hF11:=hid (hF10.out.trans (hf10.mono fun k _ hk=>hk.1.1)); replace hW10:=hid hW10; clear hwb hf10;go_wp2_with fail
               go_roundg (args.length - (k+1))
               case measure=>omega
               case rel=>exact ⟨k+1,l5++[41],n4,rfl,by omega,by simp; omega,by omega,hid hR2.out,hW10,hF11,hk10,hm10⟩
             ·have p5:((k:Int) == (j:Int))=false:=by simp; omega
              replace hR2:=hid (show R=((aX false t l3 n2).bind fun p=>bK (A:Int) (j:Int) (k+1) (args.drop (k+1)) p.1 p.2).map fun p=>(p.1++[41],p.2) from by rw [hR2.out,zO hkj]; rfl); replace hkj:=hid hkj; obtain ⟨wy,hwy⟩:∃ wy,wy=wc:=⟨_,rfl⟩; subst hwy; replace hR2:=hid (show R=((aX false t (l3) n2).bind fun p=>bK (A:Int) (j:Int) (k+1) (args.drop (k+1)) (p.1) p.2).map fun p=>(p.1++[41],p.2) from by rw [hR2.out]); have htm:=hid (dU _ B b (l3) n2 false t ta tc wy hW7.out (by first | omega | (simp; omega)) htv (by omega))
              (have hlen2:=fun p (h:aX false t (l3) n2=some p)=>cZ htv h);obtain ⟨rt,hrt⟩:∃ rt,rt=aX false t (l3) n2:=⟨_,rfl⟩; rw [← hrt] at htm hlen2; replace hR2:=hR2.out; rw [← hrt] at hR2; replace hR2:=hid hR2; replace hrt:=hid hrt; replace hl3:=hid hl3;go_wp2_with fail;(with_reducible refine htm.out.mono ?_);rintro e w8 ⟨rfl,hF8,hW8⟩; have hF9:=hF7.out.trans (hF8.mono fun k _ hk=>hk.1); have hF10:=hid (hF5.out.trans (hF9.mono fun k _ hk=>hk.1.1))
              cases rt with
              | none =>
               replace hR2:=hid (show R=none from hR2.out);go_wp2_with fail
               go_ret; exact ⟨by rw [hR2.out]; rfl,hF10.out,fun x hx=>by rw [hR2.out] at hx; cases hx⟩
              | some p =>
               obtain ⟨l5,n4⟩:=p; obtain ⟨hl4,hn4⟩:=hlen2 _ rfl; replace hl4:l5.length<=(l3).length+40000:=hl4
               skip
               replace hn4:n4<=n2+1:=hn4; have hW9:=hid (show WS (fun k=>(G k/\k≠w.heap.size)/\k≠w.heap.size+1) B b l5 n4 w8 from hW5.out.out (hW8 _ rfl) hF9 fun k hk=>hk.1); have hk9:=hid ((hF9.block _ (ae hk5.out) (fun e=>e.1.2 rfl)).trans hk5.out); have hm9:=hid ((hF9.block _ (ae hm5.out) (fun e=>e.2 rfl)).trans hm5.out); clear htm hF8 hW8 hF9;go_wp2_with fail
               go_roundg (args.length - (k+1))
               case measure=>omega
               case rel=>exact ⟨k+1,l5,n4,rfl,by omega,by omega,by omega,hid hR2.out,hW9,hF10,hk9,hm9⟩
           ·have q1:decide ((k:Int) < (args.length:Int))=false:=zO (by omega)
            rw [List.drop_eq_nil_of_le (by omega)] at hR2; replace hR2:=hid (show R=some (l2++[41],n2) from hR2.out); have hwb:=hid (hW5.out.writeB 41 (by omega));go_wp2_with fail;refine hwb.out.mono ?_; rintro e w6 ⟨rfl,hW6,hf6⟩; have hF6:=hid (hF5.out.trans (hf6.mono fun k _ hk=>hk.1.1)); replace hW6:=hid hW6; clear hwb hf6;go_wp2_with fail;(go_ret; refine ⟨by rw [hR2.out]; rfl,hF6.out,fun x hx=>?_⟩; rw [hR2.out] at hx; injection hx with hx; subst hx);(exact h.out.out hW6.out hF6.out fun k hk=>hk.1.1)
       ·have kop:(op == 0)=false:=by simp [hop]
        (have kop2:(op != 0)=true:=by simp [hop]);replace hR:=hid (show R=none from by rw [hR.out]; simp [hop]); replace hop:=hid hop;go_enter Tryz.func68,Tryz.ntmps68;go_wp2_with fail
        go_ret; exact ⟨by rw [hR.out]; rfl,hF1.out,fun x hx=>by rw [hR.out] at hx; cases hx⟩
end Go.Proofs.YtffdpoifdahadaaGreatDoor
