/- ask: writing literals. -/
import Derived.Test.YtffdpoifdahadaaGreatDoorAskYe
set_option linter.unusedVariables false
set_option linter.unusedSimpArgs false
set_option maxHeartbeats 40000000
set_option maxRecDepth 100000
namespace Go.Proofs.YtffdpoifdahadaaGreatDoor
open Go.RowKit
open Go.Lib (hid byteCells itoa)
def mkW (op:Int):List UInt8:=if op=2 then [32,33,61,32] else if op=3 then [32,60,32] else if op=4 then [32,60,61,32] else [32,61,32]
def dK (mk:List UInt8):Nat->List Tg->List UInt8->Nat->Option (List UInt8 × Nat)
 | _,[],l,n=>some (l,n)
 | i,t::r,l,n=>(aX false t (if i=1 then l++mk else if i=2 then l++[32,43,32] else l) n).bind fun p=>dK mk (i+1) r p.1 p.2
def fa (x:Lg) (l:List UInt8) (n:Nat):Option (List UInt8 × Nat) :=
 if x.op=0 then iQ x l n
 else if x.op < 0\/6<=x.op\/x.rel≠[]\/x.nt=true then none
 else if x.args.length≠(if x.op=5 then 3 else 2) then none
 else dK (mkW x.op) 0 x.args l n
abbrev dW:Array Value:=#[.string ⟨#[]⟩,sv [32,61,32],sv [32,33,61,32],sv [32,60,32],sv [32,60,61,32],sv [32,61,32]]
theorem pg (G:aP) (B b:Nat) (l:List UInt8) (n:Nat) (x:Lg) (a:Option Addr) (c:Nat) (S:aP) (w:World) (h:WS G B b l n w) (hr:SlR 7 TgR S w x.args (.slice a x.args.length c)) (hS:∀ k,S k->¬ G k) (hl:l.length<=100000000000000) (hrl:x.rel.length<=40000) (hal:x.args.length<=100000) (hvl:∀ t∈x.args,t.var.length<=40000) (hn:n<=100000000000) :
  Calls Tryz.prog 44 #[pt b,.agg (ap x.op x.nt x.rel (.slice a x.args.length c))] w (PW G B b w (fa x l n)):=by
 obtain ⟨R,hR⟩:∃ R,R=fa x l n:=⟨_,rfl⟩; rw [← hR]; have hbn:=af w (.cells (ap x.op x.nt x.rel (.slice a x.args.length c)) 24); have hW0:=h.box (ap x.op x.nt x.rel (.slice a x.args.length c)) (t:=24) (by decide); have hb1:Below w.heap.size w (w.alloc (.cells (ap x.op x.nt x.rel (.slice a x.args.length c)) 24)):=(zN _ w).alloc (zM _) _; have hb2:=hb1.alloc hb1.size (.cells dW 136)
 have hs1:(w.alloc (.cells (ap x.op x.nt x.rel (.slice a x.args.length c)) 24)).heap.size=w.heap.size+1:=by simp
 have hbm:=af (w.alloc (.cells (ap x.op x.nt x.rel (.slice a x.args.length c)) 24)) (.cells dW 136); rw [hs1] at hbm; have hW1':=hW0.box dW (t:=136) (by decide); rw [hs1] at hW1'; have hW1:=hid hW1'; clear hW1'; have hF1:=hid (Fr.of_below hb2 G); have hbk:=(z7 (w.alloc (.cells (ap x.op x.nt x.rel (.slice a x.args.length c)) 24)) (.cells dW 136) w.heap.size (by omega)).trans hbn; obtain ⟨b0,b1,b2,b3,-⟩:=aK hbk; have hr1:=hr.below bZ hb2; by_cases h0:x.op=0
 ·have k0:(x.op == 0)=true:=by simp [h0]
  replace hR:=hid (show R=iQ x l n from by rw [hR]; unfold fa; rw [if_pos h0]); have hat:=hid (tB _ B b l n x a c S _ hW1.out hr1 (fun k hk e=>hS k hk e.1.1) hl hrl hal hvl hn); replace h:=hid h; replace hr:=hid hr; replace hr1:=hid hr1; replace hbk:=hid hbk; replace hbm:=hid hbm; replace hbn:=hid hbn; replace h0:=hid h0; replace hW0:=hid hW0; clear hb1 hb2
  go_enter Tryz.func44,Tryz.ntmps44
  go_wp2_with fail
  with_reducible refine hat.out.mono ?_
  intro e w1 hp; have hP:=hid (PW.lift h.out hF1.out (fun k hk=>hk.1.1) hp); obtain ⟨he,-,-⟩:=hp; subst he
  go_wp2_with fail
  go_ret; rw [hR.out]; exact hP.out
 ·have k0:(x.op == 0)=false:=by simp [h0]
  replace hR:=hid (show R=if x.op < 0\/6<=x.op\/x.rel≠[]\/x.nt=true then none else if x.args.length≠(if x.op=5 then 3 else 2) then none else dK (mkW x.op) 0 x.args l n from by rw [hR]; unfold fa; rw [if_neg h0]); replace h:=hid h; have hr0:=hid hr; replace hS:=hid hS; replace hvl:=hid hvl; replace hr:=hid hr; replace hr1:=hid hr1; replace hbk:=hid hbk; replace hbm:=hid hbm; replace hbn:=hid hbn; replace hW0:=hid hW0; clear hb1 hb2; obtain ⟨op,nt,rel,args⟩:=x; simp only at k0 h0 hal hrl; replace hR:=hid (show R=if op < 0\/6<=op\/rel≠[]\/nt=true then none else if args.length≠(if op=5 then 3 else 2) then none else dK (mkW op) 0 args l n from hR.out); replace hr0:=hid (show SlR 7 TgR S w args (.slice a args.length c) from hr0.out)
  replace hvl:=hid (show ∀ t∈args,t.var.length<=40000 from hvl.out); replace b0:((w.alloc (.cells (ap op nt rel (.slice a args.length c)) 24)).alloc (.cells dW 136)).cell? ⟨w.heap.size,0,none⟩=some (iv op):=b0; replace b1:((w.alloc (.cells (ap op nt rel (.slice a args.length c)) 24)).alloc (.cells dW 136)).cell? ⟨w.heap.size,1,none⟩=some (.bool nt):=b1; replace b2:((w.alloc (.cells (ap op nt rel (.slice a args.length c)) 24)).alloc (.cells dW 136)).cell? ⟨w.heap.size,2,none⟩=some (sv rel):=b2; replace b3:((w.alloc (.cells (ap op nt rel (.slice a args.length c)) 24)).alloc (.cells dW 136)).cell? ⟨w.heap.size,3,none⟩=some (.slice a args.length c):=b3
  show Calls Tryz.prog 44 #[pt b,.agg (ap op nt rel (.slice a args.length c))] w _; by_cases hneg:op < 0
  ·have kneg:decide (op < 0)=true:=zP hneg
   replace hR:=hid (show R=none from by rw [hR.out]; simp [hneg]); replace h0:=hid h0
   go_enter Tryz.func44,Tryz.ntmps44
   go_wp2_with fail
   go_ret; exact ⟨by rw [hR.out]; rfl,hF1.out,fun x hx=>by rw [hR.out] at hx; cases hx⟩
  ·have kneg:decide (op < 0)=false:=zO hneg
   by_cases hbig:6<=op
   ·have kbig:decide (op ≥ 6)=true:=zP hbig
    replace hR:=hid (show R=none from by rw [hR.out]; simp [hbig]); replace h0:=hid h0;go_enter Tryz.func44,Tryz.ntmps44;go_wp2_with fail
    go_ret; exact ⟨by rw [hR.out]; rfl,hF1.out,fun x hx=>by rw [hR.out] at hx; cases hx⟩
   ·have kbig:decide (op ≥ 6)=false:=zO hbig
    by_cases hrel:rel=[]
    ·have krel:(rel == [])=true:=by simp [hrel]
     have krel2:(rel != [])=false:=by simp [hrel]
     cases nt with
     | true =>
      replace hR:=hid (show R=none from by rw [hR.out]; simp); replace h0:=hid h0; replace hrel:=hid hrel;go_enter Tryz.func44,Tryz.ntmps44;go_wp2_with fail
      go_ret; exact ⟨by rw [hR.out]; rfl,hF1.out,fun x hx=>by rw [hR.out] at hx; cases hx⟩
     | false =>
      replace hR:=hid (show R=if args.length≠(if op=5 then 3 else 2) then none else dK (mkW op) 0 args l n from by rw [hR.out]; simp [hneg,hbig,hrel]); subst hrel;(have hop:op=1\/op=2\/op=3\/op=4\/op=5:=by omega);(clear k0 kneg kbig krel krel2 hneg hbig h0; rcases hop with rfl | rfl | rfl | rfl | rfl)
      ·go_enter Tryz.func44,Tryz.ntmps44
       replace hR:=hid (show R=if args.length≠2 then none else dK [32,61,32] 0 args l n from by rw [hR.out]; rfl); by_cases hlen:args.length=2
       ·have ql:((args.length:Int) == 2)=true:=by simp [hlen]
        (have ql2:((args.length:Int) != 2)=false:=by simp [bne,hlen]);replace hR:=hid (show R=dK [32,61,32] 0 args l n from by rw [hR.out]; simp [hlen]); have hlen':=hlen; replace hlen:=hid hlen; clear hlen';go_wp2_with fail
        go_loopg [44] args.length (fun g i wr=>∃ (k:Nat) (l2:List UInt8) (n2:Nat),i=iv k/\k+g=args.length/\l2.length<=l.length+k * 40010/\n2<=n+k/\Hid (R=dK [32,61,32] k (args.drop k) l2 n2)/\Hid (WS (fun k=>(G k/\k≠w.heap.size)/\k≠w.heap.size+1) B b l2 n2 wr)/\Hid (Fr G w wr)/\Hid (wr.heap[w.heap.size]? = some (.cells (ap 1 false [] (.slice a args.length c)) 24 (0,0)))/\Hid (wr.heap[w.heap.size+1]? = some (.cells dW 136 (0,0))))
        case atStart=>exact ⟨0,l,n,rfl,by omega,by omega,by omega,hR,hW1,hF1,hbk,hbm⟩
        case round =>
         obtain ⟨k,l2,n2,rfl,hkg,hl2,hn2,hR2,hW5,hF5,hk5,hm5⟩:=hrel; clear hW1 hF1 hbk hbm b0 b1 b2 b3; by_cases hlt:k < args.length
         ·have q1:decide ((k:Int) < (args.length:Int))=true:=zP (by omega)
          obtain ⟨t,ht⟩:∃ t,args[k]? = some t:=⟨_,zR hlt⟩;(have hdr:args.drop k=t::args.drop (k+1):=by rw [Ac hlt]; congr 1; rw [zR hlt] at ht; injection ht);rw [hdr] at hR2; have htv:=hvl.out t (zU ht); obtain ⟨g,o,cs,hidx,-,hg,hc,hrt⟩:=(hr0.out.fr bZ hF5.out hS.out).at (P:=Tryz.prog) (t:=22) (by kernel_rfl) (fun _=>by kernel_rfl) ht; obtain ⟨ta,tc,hrt'⟩:=hrt; subst hrt'; have d0:=hc 0 _ rfl; have d1:=hc 1 _ rfl; have d2:=hc 2 _ rfl; have d3:=hc 3 _ rfl; have d4:=hc 4 _ rfl; have d5:=hc 5 _ rfl; have d6:=hc 6 _ rfl; rw [Nat.add_zero] at d0; have hW6:=hid (hW5.out.box (aR t ta tc) (t:=63) (by decide)); have hbT:Below wr.heap.size wr (wr.alloc (.cells (aR t ta tc) 63)):=(zN _ _).alloc (zM _) _; have hF6:=hid (Fr.of_below hbT (fun k=>(G k/\k≠w.heap.size)/\k≠w.heap.size+1)); have hk6:=hid (an hbT hk5.out (ae hk5.out));have hm6:=hid (an hbT hm5.out (ae hm5.out)); have hkT:=hid (af wr (.cells (aR t ta tc) 63));(have e1:IntKind.i64.wrap ((k:Int)+1)=((k+1:Nat):Int):=by rw [zX]; omega);clear hc hdr hbT;(obtain ⟨l3,hl3⟩:∃ l3,l3=if k=1 then l2++[32,61,32] else if k=2 then l2++[32,43,32] else l2:=⟨_,rfl⟩)
          have hl3b:l3.length<=l2.length+4:=by rw [hl3]; split; simp; split <;> simp
          replace hR2:=hid (show R=(aX false t l3 n2).bind fun p=>dK [32,61,32] (k+1) (args.drop (k+1)) p.1 p.2 from by rw [hl3]; exact hR2.out);(go_upto_block 2 with (fail))
          go_cut [] from 49 to 70 (fun wx=>Hid (WS (fun j=>((G j/\j≠w.heap.size)/\j≠w.heap.size+1)/\j≠wr.heap.size) B b l3 n2 wx)/\Hid (Fr (fun k=>(G k/\k≠w.heap.size)/\k≠w.heap.size+1) wr wx)/\Hid (wx.heap[wr.heap.size]? = some (.cells (aR t ta tc) 63 (0,0))))
          case first =>
           by_cases hk1:k=1
           ·have e3:l3=l2++[32,61,32]:=by rw [hl3,if_pos hk1]
            subst e3; subst hk1;go_wp2_with fail;generalize wr.alloc (.cells (aR t ta tc) 63)=W6 at *; refine wp_region_held_drew (S:=fun w'=>w'.cell? ⟨w.heap.size,0,none⟩=some (iv 1)/\w'.cell? ⟨w.heap.size+1,1,none⟩=some (sv [32,61,32])) (by kernel_rfl) ?_ (fun hHeld=>?_)
            ·exact ⟨(aj (i:=0) hk6.out).trans rfl,(aj (i:=1) hm6.out).trans rfl⟩
            have hbd:Below W6.heap.size W6 W6.drew:=(zN _ W6).drew; have hWd:=hid (hW6.out.below hbd); have hFd:=hid (hF6.out.trans (Fr.of_below hbd _)); have hbl2:=hid (zS (ae hk6.out) hbd.size); have hbl3:=hid (zS (ae hm6.out) hbd.size); have hbl4:=hid (zS (ae hkT.out) hbd.size); have hkTd:=hid (an hbd hkT.out (ae hkT.out)); generalize W6.drew=wd at *; refine wTk (i:=0) (v:=?_) rfl ?hy ?_
            case hy =>
             intro w hSw; obtain ⟨o1,o2⟩:=hSw; go_simp
             all_goals with_reducible rfl
            (try simp only [Act.put,sI,sZ,sS]);refine wTk (i:=1) (v:=?_) rfl ?hy ?_
            case hy =>
             intro w hSw; obtain ⟨o1,o2⟩:=hSw; go_simp
             all_goals with_reducible rfl
            (try simp only [Act.put,sI,sZ,sS]);refine wTk (i:=2) (v:=?_) rfl ?hy ?_
            case hy =>
             intro w hSw; obtain ⟨o1,o2⟩:=hSw; go_simp
             all_goals with_reducible rfl
            (try simp only [Act.put,sI,sZ,sS]);refine wTk (i:=3) (v:=?_) rfl ?hy ?_
            case hy =>
             intro w hSw; obtain ⟨o1,o2⟩:=hSw; go_simp
             all_goals with_reducible rfl
            (try simp only [Act.put,sI,sZ,sS]);refine wTk (i:=4) (v:=?_) rfl ?hy ?_
            case hy =>
             intro w hSw; obtain ⟨o1,o2⟩:=hSw; go_simp
             all_goals with_reducible rfl
            (try simp only [Act.put,sI,sZ,sS]);refine wTk (i:=5) (v:=?_) rfl ?hy ?_
            case hy =>
             intro w hSw; obtain ⟨o1,o2⟩:=hSw; go_simp
             all_goals with_reducible rfl
            (try simp only [Act.put,sI,sZ,sS]);refine wTk (i:=6) (v:=?_) rfl ?hy ?_
            case hy =>
             intro w hSw; obtain ⟨o1,o2⟩:=hSw; go_simp
             all_goals with_reducible rfl
            (try simp only [Act.put,sI,sZ,sS]);refine wpAnyH_ready (rs:=[7]) (by as_aux_lemma=>kernel_rfl) (by simp) ?_; refine rdY rfl (fun K hK=>?_); go_simp;go_at_call 43;(with_reducible refine (hWd.out.write [32,61,32] (by simp; omega)).mono ?_);rintro e w7 ⟨rfl,hW7,hf7⟩; replace hW7:=hid hW7; replace hf7:=hid hf7; refine hK.out _ _ ?_ (fun hHeld2=>?_)
            ·exact ⟨(Af (hf7.out.block _ hbl2.out (fun e=>e.1.1.2 rfl))).trans hHeld.1,(Af (hf7.out.block _ hbl3.out (fun e=>e.1.2 rfl))).trans hHeld.2⟩
            clear hK K; clear hHeld; have hHeld:=hHeld2; clear hHeld2;(try simp only [Act.put,sI,sZ,sS]);refine wpAnyH_done (by as_aux_lemma=>kernel_rfl) ?_ _; have hF7:=hid (hFd.out.trans (hf7.out.mono fun k _ hk=>hk.1)); have hkT7:=hid ((hf7.out.block _ hbl4.out (fun e=>e.2 rfl)).trans hkTd.out);go_wp2_with fail;go_meet
            case rel=>exact ⟨hW7,hF7,hkT7⟩
           ·have p1:((k:Int) == 1)=false:=by simp; omega
            have p1i:¬ (k:Int)=1:=by omega
            by_cases hk2:k=2
            ·have e3:l3=l2++[32,43,32]:=by rw [hl3,if_neg hk1,if_pos hk2]
             subst e3; subst hk2; have hwr:=hid (hW6.out.write [32,43,32] (by show _+3<=_; omega)); replace hk1:=hid hk1;go_wp2_with fail;(with_reducible refine hwr.out.mono ?_);rintro e w7 ⟨rfl,hW7,hf7⟩;go_wp2_with fail;go_meet
             case rel=>exact ⟨hid hW7,hid (hF6.out.trans (hf7.mono fun k _ hk=>hk.1)),hid ((dq hf7 (ae hkT.out)).trans hkT.out)⟩
            ·have p2:((k:Int) == 2)=false:=by simp; omega
             (have p2i:¬ (k:Int)=2:=by omega);(have e3:l3=l2:=by rw [hl3,if_neg hk1,if_neg hk2]);subst e3; replace hk1:=hid hk1; replace hk2:=hid hk2;go_wp2_with fail;go_meet
             case rel=>exact ⟨hW6,hF6,hkT⟩
          case rest =>
           obtain ⟨hW7,hF7,hk7⟩:=hcut; clear d0 d1 d2 d3 d4 d5 d6; obtain ⟨d0,d1,d2,d3,d4,d5,d6⟩:=dY hk7.out; have htm:=hid (dU _ B b l3 n2 false t ta tc wc hW7.out (by omega) htv (by omega));(have hlen2:=fun p (h:aX false t l3 n2=some p)=>cZ htv h);obtain ⟨rt,hrt⟩:∃ rt,rt=aX false t l3 n2:=⟨_,rfl⟩; rw [← hrt] at htm hlen2; replace hR2:=hR2.out; rw [← hrt] at hR2; replace hR2:=hid hR2; replace hrt:=hid hrt; replace hl3:=hid hl3;go_wp2_with fail;(with_reducible refine htm.out.mono ?_);rintro e w8 ⟨rfl,hF8,hW8⟩; have hF9:=hF7.out.trans (hF8.mono fun k _ hk=>hk.1); have hF10:=hid (hF5.out.trans (hF9.mono fun k _ hk=>hk.1.1))
           cases rt with
           | none =>
            replace hR2:=hid (show R=none from hR2.out);go_wp2_with fail
            go_ret; exact ⟨by rw [hR2.out]; rfl,hF10.out,fun x hx=>by rw [hR2.out] at hx; cases hx⟩
           | some p =>
            obtain ⟨l4,n4⟩:=p; obtain ⟨hl4,hn4⟩:=hlen2 _ rfl; replace hl4:l4.length<=l3.length+40000:=hl4; replace hn4:n4<=n2+1:=hn4; have hW9:=hid (hW5.out.out (hW8 _ rfl) hF9 fun k hk=>hk.1); have hk9:=hid ((hF9.block _ (ae hk5.out) (fun e=>e.1.2 rfl)).trans hk5.out); have hm9:=hid ((hF9.block _ (ae hm5.out) (fun e=>e.2 rfl)).trans hm5.out); clear htm hF8 hW8 hF9;go_wp2_with fail
            go_roundg (args.length - (k+1))
            case measure=>omega
            case rel=>exact ⟨k+1,l4,n4,rfl,by omega,by omega,by omega,hid hR2.out,hW9,hF10,hk9,hm9⟩
         ·have q1:decide ((k:Int) < (args.length:Int))=false:=zO (by omega)
          rw [List.drop_eq_nil_of_le (by omega)] at hR2; replace hR2:=hid (show R=some (l2,n2) from hR2.out);go_wp2_with fail;(go_ret; refine ⟨by rw [hR2.out]; rfl,hF5.out,fun x hx=>?_⟩; rw [hR2.out] at hx; injection hx with hx; subst hx);(exact h.out.out hW5.out hF5.out fun k hk=>hk.1.1)
       ·have ql:((args.length:Int) == 2)=false:=by simp; omega
        (have ql2:((args.length:Int) != 2)=true:=by simp [bne]; omega);(have qli:¬ (args.length:Int)=2:=by omega);replace hR:=hid (show R=none from by rw [hR.out]; simp [hlen]); replace hlen:=hid hlen;go_wp2_with fail
        go_ret; exact ⟨by rw [hR.out]; rfl,hF1.out,fun x hx=>by rw [hR.out] at hx; cases hx⟩
      ·go_enter Tryz.func44,Tryz.ntmps44
       replace hR:=hid (show R=if args.length≠2 then none else dK [32,33,61,32] 0 args l n from by rw [hR.out]; rfl); by_cases hlen:args.length=2
       ·have ql:((args.length:Int) == 2)=true:=by simp [hlen]
        (have ql2:((args.length:Int) != 2)=false:=by simp [bne,hlen]);replace hR:=hid (show R=dK [32,33,61,32] 0 args l n from by rw [hR.out]; simp [hlen]); have hlen':=hlen; replace hlen:=hid hlen; clear hlen';go_wp2_with fail
        go_loopg [44] args.length (fun g i wr=>∃ (k:Nat) (l2:List UInt8) (n2:Nat),i=iv k/\k+g=args.length/\l2.length<=l.length+k * 40010/\n2<=n+k/\Hid (R=dK [32,33,61,32] k (args.drop k) l2 n2)/\Hid (WS (fun k=>(G k/\k≠w.heap.size)/\k≠w.heap.size+1) B b l2 n2 wr)/\Hid (Fr G w wr)/\Hid (wr.heap[w.heap.size]? = some (.cells (ap 2 false [] (.slice a args.length c)) 24 (0,0)))/\Hid (wr.heap[w.heap.size+1]? = some (.cells dW 136 (0,0))))
        case atStart=>exact ⟨0,l,n,rfl,by omega,by omega,by omega,hR,hW1,hF1,hbk,hbm⟩
        case round =>
         obtain ⟨k,l2,n2,rfl,hkg,hl2,hn2,hR2,hW5,hF5,hk5,hm5⟩:=hrel; clear hW1 hF1 hbk hbm b0 b1 b2 b3; by_cases hlt:k < args.length
         ·have q1:decide ((k:Int) < (args.length:Int))=true:=zP (by omega)
          obtain ⟨t,ht⟩:∃ t,args[k]? = some t:=⟨_,zR hlt⟩;(have hdr:args.drop k=t::args.drop (k+1):=by rw [Ac hlt]; congr 1; rw [zR hlt] at ht; injection ht);rw [hdr] at hR2; have htv:=hvl.out t (zU ht); obtain ⟨g,o,cs,hidx,-,hg,hc,hrt⟩:=(hr0.out.fr bZ hF5.out hS.out).at (P:=Tryz.prog) (t:=22) (by kernel_rfl) (fun _=>by kernel_rfl) ht; obtain ⟨ta,tc,hrt'⟩:=hrt; subst hrt'; have d0:=hc 0 _ rfl; have d1:=hc 1 _ rfl; have d2:=hc 2 _ rfl; have d3:=hc 3 _ rfl; have d4:=hc 4 _ rfl; have d5:=hc 5 _ rfl; have d6:=hc 6 _ rfl; rw [Nat.add_zero] at d0; have hW6:=hid (hW5.out.box (aR t ta tc) (t:=63) (by decide)); have hbT:Below wr.heap.size wr (wr.alloc (.cells (aR t ta tc) 63)):=(zN _ _).alloc (zM _) _; have hF6:=hid (Fr.of_below hbT (fun k=>(G k/\k≠w.heap.size)/\k≠w.heap.size+1)); have hk6:=hid (an hbT hk5.out (ae hk5.out));have hm6:=hid (an hbT hm5.out (ae hm5.out)); have hkT:=hid (af wr (.cells (aR t ta tc) 63));(have e1:IntKind.i64.wrap ((k:Int)+1)=((k+1:Nat):Int):=by rw [zX]; omega);clear hc hdr hbT;(obtain ⟨l3,hl3⟩:∃ l3,l3=if k=1 then l2++[32,33,61,32] else if k=2 then l2++[32,43,32] else l2:=⟨_,rfl⟩)
          have hl3b:l3.length<=l2.length+4:=by rw [hl3]; split; simp; split <;> simp
          replace hR2:=hid (show R=(aX false t l3 n2).bind fun p=>dK [32,33,61,32] (k+1) (args.drop (k+1)) p.1 p.2 from by rw [hl3]; exact hR2.out);(go_upto_block 2 with (fail))
          go_cut [] from 49 to 70 (fun wx=>Hid (WS (fun j=>((G j/\j≠w.heap.size)/\j≠w.heap.size+1)/\j≠wr.heap.size) B b l3 n2 wx)/\Hid (Fr (fun k=>(G k/\k≠w.heap.size)/\k≠w.heap.size+1) wr wx)/\Hid (wx.heap[wr.heap.size]? = some (.cells (aR t ta tc) 63 (0,0))))
          case first =>
           by_cases hk1:k=1
           ·have e3:l3=l2++[32,33,61,32]:=by rw [hl3,if_pos hk1]
            subst e3; subst hk1;go_wp2_with fail;generalize wr.alloc (.cells (aR t ta tc) 63)=W6 at *; refine wp_region_held_drew (S:=fun w'=>w'.cell? ⟨w.heap.size,0,none⟩=some (iv 2)/\w'.cell? ⟨w.heap.size+1,2,none⟩=some (sv [32,33,61,32])) (by kernel_rfl) ?_ (fun hHeld=>?_)
            ·exact ⟨(aj (i:=0) hk6.out).trans rfl,(aj (i:=2) hm6.out).trans rfl⟩
            have hbd:Below W6.heap.size W6 W6.drew:=(zN _ W6).drew; have hWd:=hid (hW6.out.below hbd); have hFd:=hid (hF6.out.trans (Fr.of_below hbd _)); have hbl2:=hid (zS (ae hk6.out) hbd.size); have hbl3:=hid (zS (ae hm6.out) hbd.size); have hbl4:=hid (zS (ae hkT.out) hbd.size); have hkTd:=hid (an hbd hkT.out (ae hkT.out)); generalize W6.drew=wd at *; refine wTk (i:=0) (v:=?_) rfl ?hy ?_
            case hy =>
             intro w hSw; obtain ⟨o1,o2⟩:=hSw; go_simp
             all_goals with_reducible rfl
            (try simp only [Act.put,sI,sZ,sS]);refine wTk (i:=1) (v:=?_) rfl ?hy ?_
            case hy =>
             intro w hSw; obtain ⟨o1,o2⟩:=hSw; go_simp
             all_goals with_reducible rfl
            (try simp only [Act.put,sI,sZ,sS]);refine wTk (i:=2) (v:=?_) rfl ?hy ?_
            case hy =>
             intro w hSw; obtain ⟨o1,o2⟩:=hSw; go_simp
             all_goals with_reducible rfl
            (try simp only [Act.put,sI,sZ,sS]);refine wTk (i:=3) (v:=?_) rfl ?hy ?_
            case hy =>
             intro w hSw; obtain ⟨o1,o2⟩:=hSw; go_simp
             all_goals with_reducible rfl
            (try simp only [Act.put,sI,sZ,sS]);refine wTk (i:=4) (v:=?_) rfl ?hy ?_
            case hy =>
             intro w hSw; obtain ⟨o1,o2⟩:=hSw; go_simp
             all_goals with_reducible rfl
            (try simp only [Act.put,sI,sZ,sS]);refine wTk (i:=5) (v:=?_) rfl ?hy ?_
            case hy =>
             intro w hSw; obtain ⟨o1,o2⟩:=hSw; go_simp
             all_goals with_reducible rfl
            (try simp only [Act.put,sI,sZ,sS]);refine wTk (i:=6) (v:=?_) rfl ?hy ?_
            case hy =>
             intro w hSw; obtain ⟨o1,o2⟩:=hSw; go_simp
             all_goals with_reducible rfl
            (try simp only [Act.put,sI,sZ,sS]);refine wpAnyH_ready (rs:=[7]) (by as_aux_lemma=>kernel_rfl) (by simp) ?_; refine rdY rfl (fun K hK=>?_); go_simp;go_at_call 43;(with_reducible refine (hWd.out.write [32,33,61,32] (by simp; omega)).mono ?_);rintro e w7 ⟨rfl,hW7,hf7⟩; replace hW7:=hid hW7; replace hf7:=hid hf7; refine hK.out _ _ ?_ (fun hHeld2=>?_)
            ·exact ⟨(Af (hf7.out.block _ hbl2.out (fun e=>e.1.1.2 rfl))).trans hHeld.1,(Af (hf7.out.block _ hbl3.out (fun e=>e.1.2 rfl))).trans hHeld.2⟩
            clear hK K; clear hHeld; have hHeld:=hHeld2; clear hHeld2;(try simp only [Act.put,sI,sZ,sS]);refine wpAnyH_done (by as_aux_lemma=>kernel_rfl) ?_ _; have hF7:=hid (hFd.out.trans (hf7.out.mono fun k _ hk=>hk.1)); have hkT7:=hid ((hf7.out.block _ hbl4.out (fun e=>e.2 rfl)).trans hkTd.out);go_wp2_with fail;go_meet
            case rel=>exact ⟨hW7,hF7,hkT7⟩
           ·have p1:((k:Int) == 1)=false:=by simp; omega
            have p1i:¬ (k:Int)=1:=by omega
            by_cases hk2:k=2
            ·have e3:l3=l2++[32,43,32]:=by rw [hl3,if_neg hk1,if_pos hk2]
             subst e3; subst hk2; have hwr:=hid (hW6.out.write [32,43,32] (by show _+3<=_; omega)); replace hk1:=hid hk1;go_wp2_with fail;(with_reducible refine hwr.out.mono ?_);rintro e w7 ⟨rfl,hW7,hf7⟩;go_wp2_with fail;go_meet
             case rel=>exact ⟨hid hW7,hid (hF6.out.trans (hf7.mono fun k _ hk=>hk.1)),hid ((dq hf7 (ae hkT.out)).trans hkT.out)⟩
            ·have p2:((k:Int) == 2)=false:=by simp; omega
             (have p2i:¬ (k:Int)=2:=by omega);(have e3:l3=l2:=by rw [hl3,if_neg hk1,if_neg hk2]);subst e3; replace hk1:=hid hk1; replace hk2:=hid hk2;go_wp2_with fail;go_meet
             case rel=>exact ⟨hW6,hF6,hkT⟩
          case rest =>
           obtain ⟨hW7,hF7,hk7⟩:=hcut; clear d0 d1 d2 d3 d4 d5 d6; obtain ⟨d0,d1,d2,d3,d4,d5,d6⟩:=dY hk7.out; have htm:=hid (dU _ B b l3 n2 false t ta tc wc hW7.out (by omega) htv (by omega));(have hlen2:=fun p (h:aX false t l3 n2=some p)=>cZ htv h);obtain ⟨rt,hrt⟩:∃ rt,rt=aX false t l3 n2:=⟨_,rfl⟩; rw [← hrt] at htm hlen2; replace hR2:=hR2.out; rw [← hrt] at hR2; replace hR2:=hid hR2; replace hrt:=hid hrt; replace hl3:=hid hl3;go_wp2_with fail;(with_reducible refine htm.out.mono ?_);rintro e w8 ⟨rfl,hF8,hW8⟩; have hF9:=hF7.out.trans (hF8.mono fun k _ hk=>hk.1); have hF10:=hid (hF5.out.trans (hF9.mono fun k _ hk=>hk.1.1))
           cases rt with
           | none =>
            replace hR2:=hid (show R=none from hR2.out);go_wp2_with fail
            go_ret; exact ⟨by rw [hR2.out]; rfl,hF10.out,fun x hx=>by rw [hR2.out] at hx; cases hx⟩
           | some p =>
            obtain ⟨l4,n4⟩:=p; obtain ⟨hl4,hn4⟩:=hlen2 _ rfl; replace hl4:l4.length<=l3.length+40000:=hl4; replace hn4:n4<=n2+1:=hn4; have hW9:=hid (hW5.out.out (hW8 _ rfl) hF9 fun k hk=>hk.1); have hk9:=hid ((hF9.block _ (ae hk5.out) (fun e=>e.1.2 rfl)).trans hk5.out); have hm9:=hid ((hF9.block _ (ae hm5.out) (fun e=>e.2 rfl)).trans hm5.out); clear htm hF8 hW8 hF9;go_wp2_with fail
            go_roundg (args.length - (k+1))
            case measure=>omega
            case rel=>exact ⟨k+1,l4,n4,rfl,by omega,by omega,by omega,hid hR2.out,hW9,hF10,hk9,hm9⟩
         ·have q1:decide ((k:Int) < (args.length:Int))=false:=zO (by omega)
          rw [List.drop_eq_nil_of_le (by omega)] at hR2; replace hR2:=hid (show R=some (l2,n2) from hR2.out);go_wp2_with fail;(go_ret; refine ⟨by rw [hR2.out]; rfl,hF5.out,fun x hx=>?_⟩; rw [hR2.out] at hx; injection hx with hx; subst hx);(exact h.out.out hW5.out hF5.out fun k hk=>hk.1.1)
       ·have ql:((args.length:Int) == 2)=false:=by simp; omega
        (have ql2:((args.length:Int) != 2)=true:=by simp [bne]; omega);(have qli:¬ (args.length:Int)=2:=by omega);replace hR:=hid (show R=none from by rw [hR.out]; simp [hlen]); replace hlen:=hid hlen;go_wp2_with fail
        go_ret; exact ⟨by rw [hR.out]; rfl,hF1.out,fun x hx=>by rw [hR.out] at hx; cases hx⟩
      ·go_enter Tryz.func44,Tryz.ntmps44
       replace hR:=hid (show R=if args.length≠2 then none else dK [32,60,32] 0 args l n from by rw [hR.out]; rfl); by_cases hlen:args.length=2
       ·have ql:((args.length:Int) == 2)=true:=by simp [hlen]
        (have ql2:((args.length:Int) != 2)=false:=by simp [bne,hlen]);replace hR:=hid (show R=dK [32,60,32] 0 args l n from by rw [hR.out]; simp [hlen]); have hlen':=hlen; replace hlen:=hid hlen; clear hlen';go_wp2_with fail
        go_loopg [44] args.length (fun g i wr=>∃ (k:Nat) (l2:List UInt8) (n2:Nat),i=iv k/\k+g=args.length/\l2.length<=l.length+k * 40010/\n2<=n+k/\Hid (R=dK [32,60,32] k (args.drop k) l2 n2)/\Hid (WS (fun k=>(G k/\k≠w.heap.size)/\k≠w.heap.size+1) B b l2 n2 wr)/\Hid (Fr G w wr)/\Hid (wr.heap[w.heap.size]? = some (.cells (ap 3 false [] (.slice a args.length c)) 24 (0,0)))/\Hid (wr.heap[w.heap.size+1]? = some (.cells dW 136 (0,0))))
        case atStart=>exact ⟨0,l,n,rfl,by omega,by omega,by omega,hR,hW1,hF1,hbk,hbm⟩
        case round =>
         obtain ⟨k,l2,n2,rfl,hkg,hl2,hn2,hR2,hW5,hF5,hk5,hm5⟩:=hrel; clear hW1 hF1 hbk hbm b0 b1 b2 b3; by_cases hlt:k < args.length
         ·have q1:decide ((k:Int) < (args.length:Int))=true:=zP (by omega)
          obtain ⟨t,ht⟩:∃ t,args[k]? = some t:=⟨_,zR hlt⟩;(have hdr:args.drop k=t::args.drop (k+1):=by rw [Ac hlt]; congr 1; rw [zR hlt] at ht; injection ht);rw [hdr] at hR2; have htv:=hvl.out t (zU ht); obtain ⟨g,o,cs,hidx,-,hg,hc,hrt⟩:=(hr0.out.fr bZ hF5.out hS.out).at (P:=Tryz.prog) (t:=22) (by kernel_rfl) (fun _=>by kernel_rfl) ht; obtain ⟨ta,tc,hrt'⟩:=hrt; subst hrt'; have d0:=hc 0 _ rfl; have d1:=hc 1 _ rfl; have d2:=hc 2 _ rfl; have d3:=hc 3 _ rfl; have d4:=hc 4 _ rfl; have d5:=hc 5 _ rfl; have d6:=hc 6 _ rfl; rw [Nat.add_zero] at d0; have hW6:=hid (hW5.out.box (aR t ta tc) (t:=63) (by decide)); have hbT:Below wr.heap.size wr (wr.alloc (.cells (aR t ta tc) 63)):=(zN _ _).alloc (zM _) _; have hF6:=hid (Fr.of_below hbT (fun k=>(G k/\k≠w.heap.size)/\k≠w.heap.size+1)); have hk6:=hid (an hbT hk5.out (ae hk5.out));have hm6:=hid (an hbT hm5.out (ae hm5.out)); have hkT:=hid (af wr (.cells (aR t ta tc) 63));(have e1:IntKind.i64.wrap ((k:Int)+1)=((k+1:Nat):Int):=by rw [zX]; omega);clear hc hdr hbT;(obtain ⟨l3,hl3⟩:∃ l3,l3=if k=1 then l2++[32,60,32] else if k=2 then l2++[32,43,32] else l2:=⟨_,rfl⟩)
          have hl3b:l3.length<=l2.length+4:=by rw [hl3]; split; simp; split <;> simp
          replace hR2:=hid (show R=(aX false t l3 n2).bind fun p=>dK [32,60,32] (k+1) (args.drop (k+1)) p.1 p.2 from by rw [hl3]; exact hR2.out);(go_upto_block 2 with (fail))
          go_cut [] from 49 to 70 (fun wx=>Hid (WS (fun j=>((G j/\j≠w.heap.size)/\j≠w.heap.size+1)/\j≠wr.heap.size) B b l3 n2 wx)/\Hid (Fr (fun k=>(G k/\k≠w.heap.size)/\k≠w.heap.size+1) wr wx)/\Hid (wx.heap[wr.heap.size]? = some (.cells (aR t ta tc) 63 (0,0))))
          case first =>
           by_cases hk1:k=1
           ·have e3:l3=l2++[32,60,32]:=by rw [hl3,if_pos hk1]
            subst e3; subst hk1;go_wp2_with fail;generalize wr.alloc (.cells (aR t ta tc) 63)=W6 at *; refine wp_region_held_drew (S:=fun w'=>w'.cell? ⟨w.heap.size,0,none⟩=some (iv 3)/\w'.cell? ⟨w.heap.size+1,3,none⟩=some (sv [32,60,32])) (by kernel_rfl) ?_ (fun hHeld=>?_)
            ·exact ⟨(aj (i:=0) hk6.out).trans rfl,(aj (i:=3) hm6.out).trans rfl⟩
            have hbd:Below W6.heap.size W6 W6.drew:=(zN _ W6).drew; have hWd:=hid (hW6.out.below hbd); have hFd:=hid (hF6.out.trans (Fr.of_below hbd _)); have hbl2:=hid (zS (ae hk6.out) hbd.size); have hbl3:=hid (zS (ae hm6.out) hbd.size); have hbl4:=hid (zS (ae hkT.out) hbd.size); have hkTd:=hid (an hbd hkT.out (ae hkT.out)); generalize W6.drew=wd at *; refine wTk (i:=0) (v:=?_) rfl ?hy ?_
            case hy =>
             intro w hSw; obtain ⟨o1,o2⟩:=hSw; go_simp
             all_goals with_reducible rfl
            (try simp only [Act.put,sI,sZ,sS]);refine wTk (i:=1) (v:=?_) rfl ?hy ?_
            case hy =>
             intro w hSw; obtain ⟨o1,o2⟩:=hSw; go_simp
             all_goals with_reducible rfl
            (try simp only [Act.put,sI,sZ,sS]);refine wTk (i:=2) (v:=?_) rfl ?hy ?_
            case hy =>
             intro w hSw; obtain ⟨o1,o2⟩:=hSw; go_simp
             all_goals with_reducible rfl
            (try simp only [Act.put,sI,sZ,sS]);refine wTk (i:=3) (v:=?_) rfl ?hy ?_
            case hy =>
             intro w hSw; obtain ⟨o1,o2⟩:=hSw; go_simp
             all_goals with_reducible rfl
            (try simp only [Act.put,sI,sZ,sS]);refine wTk (i:=4) (v:=?_) rfl ?hy ?_
            case hy =>
             intro w hSw; obtain ⟨o1,o2⟩:=hSw; go_simp
             all_goals with_reducible rfl
            (try simp only [Act.put,sI,sZ,sS]);refine wTk (i:=5) (v:=?_) rfl ?hy ?_
            case hy =>
             intro w hSw; obtain ⟨o1,o2⟩:=hSw; go_simp
             all_goals with_reducible rfl
            (try simp only [Act.put,sI,sZ,sS]);refine wTk (i:=6) (v:=?_) rfl ?hy ?_
            case hy =>
             intro w hSw; obtain ⟨o1,o2⟩:=hSw; go_simp
             all_goals with_reducible rfl
            (try simp only [Act.put,sI,sZ,sS]);refine wpAnyH_ready (rs:=[7]) (by as_aux_lemma=>kernel_rfl) (by simp) ?_; refine rdY rfl (fun K hK=>?_); go_simp;go_at_call 43;(with_reducible refine (hWd.out.write [32,60,32] (by simp; omega)).mono ?_);rintro e w7 ⟨rfl,hW7,hf7⟩; replace hW7:=hid hW7; replace hf7:=hid hf7; refine hK.out _ _ ?_ (fun hHeld2=>?_)
            ·exact ⟨(Af (hf7.out.block _ hbl2.out (fun e=>e.1.1.2 rfl))).trans hHeld.1,(Af (hf7.out.block _ hbl3.out (fun e=>e.1.2 rfl))).trans hHeld.2⟩
            clear hK K; clear hHeld; have hHeld:=hHeld2; clear hHeld2;(try simp only [Act.put,sI,sZ,sS]);refine wpAnyH_done (by as_aux_lemma=>kernel_rfl) ?_ _; have hF7:=hid (hFd.out.trans (hf7.out.mono fun k _ hk=>hk.1)); have hkT7:=hid ((hf7.out.block _ hbl4.out (fun e=>e.2 rfl)).trans hkTd.out);go_wp2_with fail;go_meet
            case rel=>exact ⟨hW7,hF7,hkT7⟩
           ·have p1:((k:Int) == 1)=false:=by simp; omega
            have p1i:¬ (k:Int)=1:=by omega
            by_cases hk2:k=2
            ·have e3:l3=l2++[32,43,32]:=by rw [hl3,if_neg hk1,if_pos hk2]
             subst e3; subst hk2; have hwr:=hid (hW6.out.write [32,43,32] (by show _+3<=_; omega)); replace hk1:=hid hk1;go_wp2_with fail;(with_reducible refine hwr.out.mono ?_);rintro e w7 ⟨rfl,hW7,hf7⟩;go_wp2_with fail;go_meet
             case rel=>exact ⟨hid hW7,hid (hF6.out.trans (hf7.mono fun k _ hk=>hk.1)),hid ((dq hf7 (ae hkT.out)).trans hkT.out)⟩
            ·have p2:((k:Int) == 2)=false:=by simp; omega
             (have p2i:¬ (k:Int)=2:=by omega);(have e3:l3=l2:=by rw [hl3,if_neg hk1,if_neg hk2]);subst e3; replace hk1:=hid hk1; replace hk2:=hid hk2;go_wp2_with fail;go_meet
             case rel=>exact ⟨hW6,hF6,hkT⟩
          case rest =>
           obtain ⟨hW7,hF7,hk7⟩:=hcut; clear d0 d1 d2 d3 d4 d5 d6; obtain ⟨d0,d1,d2,d3,d4,d5,d6⟩:=dY hk7.out; have htm:=hid (dU _ B b l3 n2 false t ta tc wc hW7.out (by omega) htv (by omega));(have hlen2:=fun p (h:aX false t l3 n2=some p)=>cZ htv h);obtain ⟨rt,hrt⟩:∃ rt,rt=aX false t l3 n2:=⟨_,rfl⟩; rw [← hrt] at htm hlen2; replace hR2:=hR2.out; rw [← hrt] at hR2; replace hR2:=hid hR2; replace hrt:=hid hrt; replace hl3:=hid hl3;go_wp2_with fail;(with_reducible refine htm.out.mono ?_);rintro e w8 ⟨rfl,hF8,hW8⟩; have hF9:=hF7.out.trans (hF8.mono fun k _ hk=>hk.1); have hF10:=hid (hF5.out.trans (hF9.mono fun k _ hk=>hk.1.1))
           cases rt with
           | none =>
            replace hR2:=hid (show R=none from hR2.out);go_wp2_with fail
            go_ret; exact ⟨by rw [hR2.out]; rfl,hF10.out,fun x hx=>by rw [hR2.out] at hx; cases hx⟩
           | some p =>
            obtain ⟨l4,n4⟩:=p; obtain ⟨hl4,hn4⟩:=hlen2 _ rfl; replace hl4:l4.length<=l3.length+40000:=hl4; replace hn4:n4<=n2+1:=hn4; have hW9:=hid (hW5.out.out (hW8 _ rfl) hF9 fun k hk=>hk.1); have hk9:=hid ((hF9.block _ (ae hk5.out) (fun e=>e.1.2 rfl)).trans hk5.out); have hm9:=hid ((hF9.block _ (ae hm5.out) (fun e=>e.2 rfl)).trans hm5.out); clear htm hF8 hW8 hF9;go_wp2_with fail
            go_roundg (args.length - (k+1))
            case measure=>omega
            case rel=>exact ⟨k+1,l4,n4,rfl,by omega,by omega,by omega,hid hR2.out,hW9,hF10,hk9,hm9⟩
         ·have q1:decide ((k:Int) < (args.length:Int))=false:=zO (by omega)
          rw [List.drop_eq_nil_of_le (by omega)] at hR2; replace hR2:=hid (show R=some (l2,n2) from hR2.out);go_wp2_with fail;(go_ret; refine ⟨by rw [hR2.out]; rfl,hF5.out,fun x hx=>?_⟩; rw [hR2.out] at hx; injection hx with hx; subst hx);(exact h.out.out hW5.out hF5.out fun k hk=>hk.1.1)
       ·have ql:((args.length:Int) == 2)=false:=by simp; omega
        (have ql2:((args.length:Int) != 2)=true:=by simp [bne]; omega);(have qli:¬ (args.length:Int)=2:=by omega);replace hR:=hid (show R=none from by rw [hR.out]; simp [hlen]); replace hlen:=hid hlen;go_wp2_with fail
        go_ret; exact ⟨by rw [hR.out]; rfl,hF1.out,fun x hx=>by rw [hR.out] at hx; cases hx⟩
      ·go_enter Tryz.func44,Tryz.ntmps44
       replace hR:=hid (show R=if args.length≠2 then none else dK [32,60,61,32] 0 args l n from by rw [hR.out]; rfl); by_cases hlen:args.length=2
       ·have ql:((args.length:Int) == 2)=true:=by simp [hlen]
        (have ql2:((args.length:Int) != 2)=false:=by simp [bne,hlen]);replace hR:=hid (show R=dK [32,60,61,32] 0 args l n from by rw [hR.out]; simp [hlen]); have hlen':=hlen; replace hlen:=hid hlen; clear hlen';go_wp2_with fail
        go_loopg [44] args.length (fun g i wr=>∃ (k:Nat) (l2:List UInt8) (n2:Nat),i=iv k/\k+g=args.length/\l2.length<=l.length+k * 40010/\n2<=n+k/\Hid (R=dK [32,60,61,32] k (args.drop k) l2 n2)/\Hid (WS (fun k=>(G k/\k≠w.heap.size)/\k≠w.heap.size+1) B b l2 n2 wr)/\Hid (Fr G w wr)/\Hid (wr.heap[w.heap.size]? = some (.cells (ap 4 false [] (.slice a args.length c)) 24 (0,0)))/\Hid (wr.heap[w.heap.size+1]? = some (.cells dW 136 (0,0))))
        case atStart=>exact ⟨0,l,n,rfl,by omega,by omega,by omega,hR,hW1,hF1,hbk,hbm⟩
        case round =>
         obtain ⟨k,l2,n2,rfl,hkg,hl2,hn2,hR2,hW5,hF5,hk5,hm5⟩:=hrel; clear hW1 hF1 hbk hbm b0 b1 b2 b3; by_cases hlt:k < args.length
         ·have q1:decide ((k:Int) < (args.length:Int))=true:=zP (by omega)
          obtain ⟨t,ht⟩:∃ t,args[k]? = some t:=⟨_,zR hlt⟩;(have hdr:args.drop k=t::args.drop (k+1):=by rw [Ac hlt]; congr 1; rw [zR hlt] at ht; injection ht);rw [hdr] at hR2; have htv:=hvl.out t (zU ht); obtain ⟨g,o,cs,hidx,-,hg,hc,hrt⟩:=(hr0.out.fr bZ hF5.out hS.out).at (P:=Tryz.prog) (t:=22) (by kernel_rfl) (fun _=>by kernel_rfl) ht; obtain ⟨ta,tc,hrt'⟩:=hrt; subst hrt'; have d0:=hc 0 _ rfl; have d1:=hc 1 _ rfl; have d2:=hc 2 _ rfl; have d3:=hc 3 _ rfl; have d4:=hc 4 _ rfl; have d5:=hc 5 _ rfl; have d6:=hc 6 _ rfl; rw [Nat.add_zero] at d0; have hW6:=hid (hW5.out.box (aR t ta tc) (t:=63) (by decide)); have hbT:Below wr.heap.size wr (wr.alloc (.cells (aR t ta tc) 63)):=(zN _ _).alloc (zM _) _; have hF6:=hid (Fr.of_below hbT (fun k=>(G k/\k≠w.heap.size)/\k≠w.heap.size+1)); have hk6:=hid (an hbT hk5.out (ae hk5.out));have hm6:=hid (an hbT hm5.out (ae hm5.out)); have hkT:=hid (af wr (.cells (aR t ta tc) 63));(have e1:IntKind.i64.wrap ((k:Int)+1)=((k+1:Nat):Int):=by rw [zX]; omega);clear hc hdr hbT;(obtain ⟨l3,hl3⟩:∃ l3,l3=if k=1 then l2++[32,60,61,32] else if k=2 then l2++[32,43,32] else l2:=⟨_,rfl⟩)
          have hl3b:l3.length<=l2.length+4:=by rw [hl3]; split; simp; split <;> simp
          replace hR2:=hid (show R=(aX false t l3 n2).bind fun p=>dK [32,60,61,32] (k+1) (args.drop (k+1)) p.1 p.2 from by rw [hl3]; exact hR2.out);(go_upto_block 2 with (fail))
          go_cut [] from 49 to 70 (fun wx=>Hid (WS (fun j=>((G j/\j≠w.heap.size)/\j≠w.heap.size+1)/\j≠wr.heap.size) B b l3 n2 wx)/\Hid (Fr (fun k=>(G k/\k≠w.heap.size)/\k≠w.heap.size+1) wr wx)/\Hid (wx.heap[wr.heap.size]? = some (.cells (aR t ta tc) 63 (0,0))))
          case first =>
           by_cases hk1:k=1
           ·have e3:l3=l2++[32,60,61,32]:=by rw [hl3,if_pos hk1]
            subst e3; subst hk1;go_wp2_with fail;generalize wr.alloc (.cells (aR t ta tc) 63)=W6 at *; refine wp_region_held_drew (S:=fun w'=>w'.cell? ⟨w.heap.size,0,none⟩=some (iv 4)/\w'.cell? ⟨w.heap.size+1,4,none⟩=some (sv [32,60,61,32])) (by kernel_rfl) ?_ (fun hHeld=>?_)
            ·exact ⟨(aj (i:=0) hk6.out).trans rfl,(aj (i:=4) hm6.out).trans rfl⟩
            have hbd:Below W6.heap.size W6 W6.drew:=(zN _ W6).drew; have hWd:=hid (hW6.out.below hbd); have hFd:=hid (hF6.out.trans (Fr.of_below hbd _)); have hbl2:=hid (zS (ae hk6.out) hbd.size); have hbl3:=hid (zS (ae hm6.out) hbd.size); have hbl4:=hid (zS (ae hkT.out) hbd.size); have hkTd:=hid (an hbd hkT.out (ae hkT.out)); generalize W6.drew=wd at *; refine wTk (i:=0) (v:=?_) rfl ?hy ?_
            case hy =>
             intro w hSw; obtain ⟨o1,o2⟩:=hSw; go_simp
             all_goals with_reducible rfl
            (try simp only [Act.put,sI,sZ,sS]);refine wTk (i:=1) (v:=?_) rfl ?hy ?_
            case hy =>
             intro w hSw; obtain ⟨o1,o2⟩:=hSw; go_simp
             all_goals with_reducible rfl
            (try simp only [Act.put,sI,sZ,sS]);refine wTk (i:=2) (v:=?_) rfl ?hy ?_
            case hy =>
             intro w hSw; obtain ⟨o1,o2⟩:=hSw; go_simp
             all_goals with_reducible rfl
            (try simp only [Act.put,sI,sZ,sS]);refine wTk (i:=3) (v:=?_) rfl ?hy ?_
            case hy =>
             intro w hSw; obtain ⟨o1,o2⟩:=hSw; go_simp
             all_goals with_reducible rfl
            (try simp only [Act.put,sI,sZ,sS]);refine wTk (i:=4) (v:=?_) rfl ?hy ?_
            case hy =>
             intro w hSw; obtain ⟨o1,o2⟩:=hSw; go_simp
             all_goals with_reducible rfl
            (try simp only [Act.put,sI,sZ,sS]);refine wTk (i:=5) (v:=?_) rfl ?hy ?_
            case hy =>
             intro w hSw; obtain ⟨o1,o2⟩:=hSw; go_simp
             all_goals with_reducible rfl
            (try simp only [Act.put,sI,sZ,sS]);refine wTk (i:=6) (v:=?_) rfl ?hy ?_
            case hy =>
             intro w hSw; obtain ⟨o1,o2⟩:=hSw; go_simp
             all_goals with_reducible rfl
            (try simp only [Act.put,sI,sZ,sS]);refine wpAnyH_ready (rs:=[7]) (by as_aux_lemma=>kernel_rfl) (by simp) ?_; refine rdY rfl (fun K hK=>?_); go_simp;go_at_call 43;(with_reducible refine (hWd.out.write [32,60,61,32] (by simp; omega)).mono ?_);rintro e w7 ⟨rfl,hW7,hf7⟩; replace hW7:=hid hW7; replace hf7:=hid hf7; refine hK.out _ _ ?_ (fun hHeld2=>?_)
            ·exact ⟨(Af (hf7.out.block _ hbl2.out (fun e=>e.1.1.2 rfl))).trans hHeld.1,(Af (hf7.out.block _ hbl3.out (fun e=>e.1.2 rfl))).trans hHeld.2⟩
            clear hK K; clear hHeld; have hHeld:=hHeld2; clear hHeld2;(try simp only [Act.put,sI,sZ,sS]);refine wpAnyH_done (by as_aux_lemma=>kernel_rfl) ?_ _; have hF7:=hid (hFd.out.trans (hf7.out.mono fun k _ hk=>hk.1)); have hkT7:=hid ((hf7.out.block _ hbl4.out (fun e=>e.2 rfl)).trans hkTd.out);go_wp2_with fail;go_meet
            case rel=>exact ⟨hW7,hF7,hkT7⟩
           ·have p1:((k:Int) == 1)=false:=by simp; omega
            have p1i:¬ (k:Int)=1:=by omega
            by_cases hk2:k=2
            ·have e3:l3=l2++[32,43,32]:=by rw [hl3,if_neg hk1,if_pos hk2]
             subst e3; subst hk2; have hwr:=hid (hW6.out.write [32,43,32] (by show _+3<=_; omega)); replace hk1:=hid hk1;go_wp2_with fail;(with_reducible refine hwr.out.mono ?_);rintro e w7 ⟨rfl,hW7,hf7⟩;go_wp2_with fail;go_meet
             case rel=>exact ⟨hid hW7,hid (hF6.out.trans (hf7.mono fun k _ hk=>hk.1)),hid ((dq hf7 (ae hkT.out)).trans hkT.out)⟩
            ·have p2:((k:Int) == 2)=false:=by simp; omega
             (have p2i:¬ (k:Int)=2:=by omega);(have e3:l3=l2:=by rw [hl3,if_neg hk1,if_neg hk2]);subst e3; replace hk1:=hid hk1; replace hk2:=hid hk2;go_wp2_with fail;go_meet
             case rel=>exact ⟨hW6,hF6,hkT⟩
          case rest =>
           obtain ⟨hW7,hF7,hk7⟩:=hcut; clear d0 d1 d2 d3 d4 d5 d6; obtain ⟨d0,d1,d2,d3,d4,d5,d6⟩:=dY hk7.out; have htm:=hid (dU _ B b l3 n2 false t ta tc wc hW7.out (by omega) htv (by omega));(have hlen2:=fun p (h:aX false t l3 n2=some p)=>cZ htv h);obtain ⟨rt,hrt⟩:∃ rt,rt=aX false t l3 n2:=⟨_,rfl⟩; rw [← hrt] at htm hlen2; replace hR2:=hR2.out; rw [← hrt] at hR2; replace hR2:=hid hR2; replace hrt:=hid hrt; replace hl3:=hid hl3;go_wp2_with fail;(with_reducible refine htm.out.mono ?_);rintro e w8 ⟨rfl,hF8,hW8⟩; have hF9:=hF7.out.trans (hF8.mono fun k _ hk=>hk.1); have hF10:=hid (hF5.out.trans (hF9.mono fun k _ hk=>hk.1.1))
           cases rt with
           | none =>
            replace hR2:=hid (show R=none from hR2.out);go_wp2_with fail
            go_ret; exact ⟨by rw [hR2.out]; rfl,hF10.out,fun x hx=>by rw [hR2.out] at hx; cases hx⟩
           | some p =>
            obtain ⟨l4,n4⟩:=p; obtain ⟨hl4,hn4⟩:=hlen2 _ rfl; replace hl4:l4.length<=l3.length+40000:=hl4; replace hn4:n4<=n2+1:=hn4; have hW9:=hid (hW5.out.out (hW8 _ rfl) hF9 fun k hk=>hk.1); have hk9:=hid ((hF9.block _ (ae hk5.out) (fun e=>e.1.2 rfl)).trans hk5.out); have hm9:=hid ((hF9.block _ (ae hm5.out) (fun e=>e.2 rfl)).trans hm5.out); clear htm hF8 hW8 hF9;go_wp2_with fail
            go_roundg (args.length - (k+1))
            case measure=>omega
            case rel=>exact ⟨k+1,l4,n4,rfl,by omega,by omega,by omega,hid hR2.out,hW9,hF10,hk9,hm9⟩
         ·have q1:decide ((k:Int) < (args.length:Int))=false:=zO (by omega)
          rw [List.drop_eq_nil_of_le (by omega)] at hR2; replace hR2:=hid (show R=some (l2,n2) from hR2.out);go_wp2_with fail;(go_ret; refine ⟨by rw [hR2.out]; rfl,hF5.out,fun x hx=>?_⟩; rw [hR2.out] at hx; injection hx with hx; subst hx);(exact h.out.out hW5.out hF5.out fun k hk=>hk.1.1)
       ·have ql:((args.length:Int) == 2)=false:=by simp; omega
        (have ql2:((args.length:Int) != 2)=true:=by simp [bne]; omega);(have qli:¬ (args.length:Int)=2:=by omega);replace hR:=hid (show R=none from by rw [hR.out]; simp [hlen]); replace hlen:=hid hlen;go_wp2_with fail
        go_ret; exact ⟨by rw [hR.out]; rfl,hF1.out,fun x hx=>by rw [hR.out] at hx; cases hx⟩
      ·go_enter Tryz.func44,Tryz.ntmps44
       replace hR:=hid (show R=if args.length≠3 then none else dK [32,61,32] 0 args l n from by rw [hR.out]; rfl); by_cases hlen:args.length=3
       ·have ql:((args.length:Int) == 3)=true:=by simp [hlen]
        (have ql2:((args.length:Int) != 3)=false:=by simp [bne,hlen]);replace hR:=hid (show R=dK [32,61,32] 0 args l n from by rw [hR.out]; simp [hlen]); have hlen':=hlen; replace hlen:=hid hlen; clear hlen';go_wp2_with fail
        go_loopg [44] args.length (fun g i wr=>∃ (k:Nat) (l2:List UInt8) (n2:Nat),i=iv k/\k+g=args.length/\l2.length<=l.length+k * 40010/\n2<=n+k/\Hid (R=dK [32,61,32] k (args.drop k) l2 n2)/\Hid (WS (fun k=>(G k/\k≠w.heap.size)/\k≠w.heap.size+1) B b l2 n2 wr)/\Hid (Fr G w wr)/\Hid (wr.heap[w.heap.size]? = some (.cells (ap 5 false [] (.slice a args.length c)) 24 (0,0)))/\Hid (wr.heap[w.heap.size+1]? = some (.cells dW 136 (0,0))))
        case atStart=>exact ⟨0,l,n,rfl,by omega,by omega,by omega,hR,hW1,hF1,hbk,hbm⟩
        case round =>
         obtain ⟨k,l2,n2,rfl,hkg,hl2,hn2,hR2,hW5,hF5,hk5,hm5⟩:=hrel; clear hW1 hF1 hbk hbm b0 b1 b2 b3; by_cases hlt:k < args.length
         ·have q1:decide ((k:Int) < (args.length:Int))=true:=zP (by omega)
          obtain ⟨t,ht⟩:∃ t,args[k]? = some t:=⟨_,zR hlt⟩;(have hdr:args.drop k=t::args.drop (k+1):=by rw [Ac hlt]; congr 1; rw [zR hlt] at ht; injection ht);rw [hdr] at hR2; have htv:=hvl.out t (zU ht); obtain ⟨g,o,cs,hidx,-,hg,hc,hrt⟩:=(hr0.out.fr bZ hF5.out hS.out).at (P:=Tryz.prog) (t:=22) (by kernel_rfl) (fun _=>by kernel_rfl) ht; obtain ⟨ta,tc,hrt'⟩:=hrt; subst hrt'; have d0:=hc 0 _ rfl; have d1:=hc 1 _ rfl; have d2:=hc 2 _ rfl; have d3:=hc 3 _ rfl; have d4:=hc 4 _ rfl; have d5:=hc 5 _ rfl; have d6:=hc 6 _ rfl; rw [Nat.add_zero] at d0; have hW6:=hid (hW5.out.box (aR t ta tc) (t:=63) (by decide)); have hbT:Below wr.heap.size wr (wr.alloc (.cells (aR t ta tc) 63)):=(zN _ _).alloc (zM _) _; have hF6:=hid (Fr.of_below hbT (fun k=>(G k/\k≠w.heap.size)/\k≠w.heap.size+1)); have hk6:=hid (an hbT hk5.out (ae hk5.out));have hm6:=hid (an hbT hm5.out (ae hm5.out)); have hkT:=hid (af wr (.cells (aR t ta tc) 63));(have e1:IntKind.i64.wrap ((k:Int)+1)=((k+1:Nat):Int):=by rw [zX]; omega);clear hc hdr hbT;(obtain ⟨l3,hl3⟩:∃ l3,l3=if k=1 then l2++[32,61,32] else if k=2 then l2++[32,43,32] else l2:=⟨_,rfl⟩)
          have hl3b:l3.length<=l2.length+4:=by rw [hl3]; split; simp; split <;> simp
          replace hR2:=hid (show R=(aX false t l3 n2).bind fun p=>dK [32,61,32] (k+1) (args.drop (k+1)) p.1 p.2 from by rw [hl3]; exact hR2.out);(go_upto_block 2 with (fail))
          go_cut [] from 49 to 70 (fun wx=>Hid (WS (fun j=>((G j/\j≠w.heap.size)/\j≠w.heap.size+1)/\j≠wr.heap.size) B b l3 n2 wx)/\Hid (Fr (fun k=>(G k/\k≠w.heap.size)/\k≠w.heap.size+1) wr wx)/\Hid (wx.heap[wr.heap.size]? = some (.cells (aR t ta tc) 63 (0,0))))
          case first =>
           by_cases hk1:k=1
           ·have e3:l3=l2++[32,61,32]:=by rw [hl3,if_pos hk1]
            subst e3; subst hk1;go_wp2_with fail;generalize wr.alloc (.cells (aR t ta tc) 63)=W6 at *; refine wp_region_held_drew (S:=fun w'=>w'.cell? ⟨w.heap.size,0,none⟩=some (iv 5)/\w'.cell? ⟨w.heap.size+1,5,none⟩=some (sv [32,61,32])) (by kernel_rfl) ?_ (fun hHeld=>?_)
            ·exact ⟨(aj (i:=0) hk6.out).trans rfl,(aj (i:=5) hm6.out).trans rfl⟩
            have hbd:Below W6.heap.size W6 W6.drew:=(zN _ W6).drew; have hWd:=hid (hW6.out.below hbd); have hFd:=hid (hF6.out.trans (Fr.of_below hbd _)); have hbl2:=hid (zS (ae hk6.out) hbd.size); have hbl3:=hid (zS (ae hm6.out) hbd.size); have hbl4:=hid (zS (ae hkT.out) hbd.size); have hkTd:=hid (an hbd hkT.out (ae hkT.out)); generalize W6.drew=wd at *; refine wTk (i:=0) (v:=?_) rfl ?hy ?_
            case hy =>
             intro w hSw; obtain ⟨o1,o2⟩:=hSw; go_simp
             all_goals with_reducible rfl
            (try simp only [Act.put,sI,sZ,sS]);refine wTk (i:=1) (v:=?_) rfl ?hy ?_
            case hy =>
             intro w hSw; obtain ⟨o1,o2⟩:=hSw; go_simp
             all_goals with_reducible rfl
            (try simp only [Act.put,sI,sZ,sS]);refine wTk (i:=2) (v:=?_) rfl ?hy ?_
            case hy =>
             intro w hSw; obtain ⟨o1,o2⟩:=hSw; go_simp
             all_goals with_reducible rfl
            (try simp only [Act.put,sI,sZ,sS]);refine wTk (i:=3) (v:=?_) rfl ?hy ?_
            case hy =>
             intro w hSw; obtain ⟨o1,o2⟩:=hSw; go_simp
             all_goals with_reducible rfl
            (try simp only [Act.put,sI,sZ,sS]);refine wTk (i:=4) (v:=?_) rfl ?hy ?_
            case hy =>
             intro w hSw; obtain ⟨o1,o2⟩:=hSw; go_simp
             all_goals with_reducible rfl
            (try simp only [Act.put,sI,sZ,sS]);refine wTk (i:=5) (v:=?_) rfl ?hy ?_
            case hy =>
             intro w hSw; obtain ⟨o1,o2⟩:=hSw; go_simp
             all_goals with_reducible rfl
            (try simp only [Act.put,sI,sZ,sS]);refine wTk (i:=6) (v:=?_) rfl ?hy ?_
            case hy =>
             intro w hSw; obtain ⟨o1,o2⟩:=hSw; go_simp
             all_goals with_reducible rfl
            (try simp only [Act.put,sI,sZ,sS]);refine wpAnyH_ready (rs:=[7]) (by as_aux_lemma=>kernel_rfl) (by simp) ?_; refine rdY rfl (fun K hK=>?_); go_simp;go_at_call 43;(with_reducible refine (hWd.out.write [32,61,32] (by simp; omega)).mono ?_);rintro e w7 ⟨rfl,hW7,hf7⟩; replace hW7:=hid hW7; replace hf7:=hid hf7; refine hK.out _ _ ?_ (fun hHeld2=>?_)
            ·exact ⟨(Af (hf7.out.block _ hbl2.out (fun e=>e.1.1.2 rfl))).trans hHeld.1,(Af (hf7.out.block _ hbl3.out (fun e=>e.1.2 rfl))).trans hHeld.2⟩
            clear hK K; clear hHeld; have hHeld:=hHeld2; clear hHeld2;(try simp only [Act.put,sI,sZ,sS]);refine wpAnyH_done (by as_aux_lemma=>kernel_rfl) ?_ _; have hF7:=hid (hFd.out.trans (hf7.out.mono fun k _ hk=>hk.1)); have hkT7:=hid ((hf7.out.block _ hbl4.out (fun e=>e.2 rfl)).trans hkTd.out);go_wp2_with fail;go_meet
            case rel=>exact ⟨hW7,hF7,hkT7⟩
           ·have p1:((k:Int) == 1)=false:=by simp; omega
            have p1i:¬ (k:Int)=1:=by omega
            by_cases hk2:k=2
            ·have e3:l3=l2++[32,43,32]:=by rw [hl3,if_neg hk1,if_pos hk2]
             subst e3; subst hk2; have hwr:=hid (hW6.out.write [32,43,32] (by show _+3<=_; omega)); replace hk1:=hid hk1;go_wp2_with fail;(with_reducible refine hwr.out.mono ?_);rintro e w7 ⟨rfl,hW7,hf7⟩;go_wp2_with fail;go_meet
             case rel=>exact ⟨hid hW7,hid (hF6.out.trans (hf7.mono fun k _ hk=>hk.1)),hid ((dq hf7 (ae hkT.out)).trans hkT.out)⟩
            ·have p2:((k:Int) == 2)=false:=by simp; omega
             (have p2i:¬ (k:Int)=2:=by omega);(have e3:l3=l2:=by rw [hl3,if_neg hk1,if_neg hk2]);subst e3; replace hk1:=hid hk1; replace hk2:=hid hk2;go_wp2_with fail;go_meet
             case rel=>exact ⟨hW6,hF6,hkT⟩
          case rest =>
           obtain ⟨hW7,hF7,hk7⟩:=hcut; clear d0 d1 d2 d3 d4 d5 d6; obtain ⟨d0,d1,d2,d3,d4,d5,d6⟩:=dY hk7.out; have htm:=hid (dU _ B b l3 n2 false t ta tc wc hW7.out (by omega) htv (by omega));(have hlen2:=fun p (h:aX false t l3 n2=some p)=>cZ htv h);obtain ⟨rt,hrt⟩:∃ rt,rt=aX false t l3 n2:=⟨_,rfl⟩; rw [← hrt] at htm hlen2; replace hR2:=hR2.out; rw [← hrt] at hR2; replace hR2:=hid hR2; replace hrt:=hid hrt; replace hl3:=hid hl3;go_wp2_with fail;(with_reducible refine htm.out.mono ?_);rintro e w8 ⟨rfl,hF8,hW8⟩; have hF9:=hF7.out.trans (hF8.mono fun k _ hk=>hk.1); have hF10:=hid (hF5.out.trans (hF9.mono fun k _ hk=>hk.1.1))
           cases rt with
           | none =>
            replace hR2:=hid (show R=none from hR2.out);go_wp2_with fail
            go_ret; exact ⟨by rw [hR2.out]; rfl,hF10.out,fun x hx=>by rw [hR2.out] at hx; cases hx⟩
           | some p =>
            obtain ⟨l4,n4⟩:=p; obtain ⟨hl4,hn4⟩:=hlen2 _ rfl; replace hl4:l4.length<=l3.length+40000:=hl4; replace hn4:n4<=n2+1:=hn4; have hW9:=hid (hW5.out.out (hW8 _ rfl) hF9 fun k hk=>hk.1); have hk9:=hid ((hF9.block _ (ae hk5.out) (fun e=>e.1.2 rfl)).trans hk5.out); have hm9:=hid ((hF9.block _ (ae hm5.out) (fun e=>e.2 rfl)).trans hm5.out); clear htm hF8 hW8 hF9;go_wp2_with fail
            go_roundg (args.length - (k+1))
            case measure=>omega
            case rel=>exact ⟨k+1,l4,n4,rfl,by omega,by omega,by omega,hid hR2.out,hW9,hF10,hk9,hm9⟩
         ·have q1:decide ((k:Int) < (args.length:Int))=false:=zO (by omega)
          rw [List.drop_eq_nil_of_le (by omega)] at hR2; replace hR2:=hid (show R=some (l2,n2) from hR2.out);go_wp2_with fail;(go_ret; refine ⟨by rw [hR2.out]; rfl,hF5.out,fun x hx=>?_⟩; rw [hR2.out] at hx; injection hx with hx; subst hx);(exact h.out.out hW5.out hF5.out fun k hk=>hk.1.1)
       ·have ql:((args.length:Int) == 3)=false:=by simp; omega
        (have ql2:((args.length:Int) != 3)=true:=by simp [bne]; omega);(have qli:¬ (args.length:Int)=3:=by omega);replace hR:=hid (show R=none from by rw [hR.out]; simp [hlen]); replace hlen:=hid hlen;go_wp2_with fail
        go_ret; exact ⟨by rw [hR.out]; rfl,hF1.out,fun x hx=>by rw [hR.out] at hx; cases hx⟩
    ·have krel:(rel == [])=false:=by simp [hrel]
     (have krel2:(rel != [])=true:=by simp [hrel]);replace hR:=hid (show R=none from by rw [hR.out]; simp [hrel]); replace h0:=hid h0; replace hrel:=hid hrel;go_enter Tryz.func44,Tryz.ntmps44;go_wp2_with fail
     go_ret; exact ⟨by rw [hR.out]; rfl,hF1.out,fun x hx=>by rw [hR.out] at hx; cases hx⟩
end Go.Proofs.YtffdpoifdahadaaGreatDoor
