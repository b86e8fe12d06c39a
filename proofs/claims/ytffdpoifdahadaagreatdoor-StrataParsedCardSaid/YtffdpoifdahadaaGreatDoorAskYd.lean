/- ask: writing terms: term. -/
import Derived.Test.YtffdpoifdahadaaGreatDoorAskYc
set_option linter.unusedVariables false
set_option linter.unusedSimpArgs false
set_option maxHeartbeats 40000000
set_option maxRecDepth 100000
namespace Go.Proofs.YtffdpoifdahadaaGreatDoor
open Go.RowKit
open Go.Lib (hid byteCells itoa)
theorem PW.lift {G G':aP} {B b n:Nat} {l:List UInt8} {w w0 w':World} {r:Option (List UInt8 × Nat)} {e:Ending} (h:WS G B b l n w) (hf:Fr G w w0) (hs:∀ k,G' k->G k) (hp:PW G' B b w0 r e w'):PW G B b w r e w':=by
 obtain ⟨h1,h2,h3⟩:=hp; have hF:=hf.trans (h2.mono fun k _ hk=>hs k hk); exact ⟨h1,hF,fun x hx=>h.out (h3 x hx) hF hs⟩
theorem dY {w:World} {R:Nat} {t:Tg} {a:Option Addr} {c:Nat} (h:w.heap[R]? = some (.cells (aR t a c) 63 (0,0))):w.cell? ⟨R,0,none⟩=some (sv t.var)/\w.cell? ⟨R,1,none⟩=some (iv t.kind)/\w.cell? ⟨R,2,none⟩=some (sv t.vt)/\w.cell? ⟨R,3,none⟩=some (iv t.n)/\w.cell? ⟨R,4,none⟩=some (iv t.m)/\w.cell? ⟨R,5,none⟩=some (sv t.vs)/\w.cell? ⟨R,6,none⟩=some (.slice a t.ln c) :=
 ⟨(aj (i:=0) h).trans rfl,(aj (i:=1) h).trans rfl,(aj (i:=2) h).trans rfl,(aj (i:=3) h).trans rfl,(aj (i:=4) h).trans rfl,(aj (i:=5) h).trans rfl,(aj (i:=6) h).trans rfl⟩
theorem sB {w:World} {R:Nat} {t:Tg} {a:Option Addr} {c:Nat} (h:w.heap[R]? = some (.cells (eU t a c) 61 (0,0))):w.cell? ⟨R,0,none⟩=some (iv t.kind)/\w.cell? ⟨R,1,none⟩=some (sv t.vt)/\w.cell? ⟨R,2,none⟩=some (iv t.n)/\w.cell? ⟨R,3,none⟩=some (iv t.m)/\w.cell? ⟨R,4,none⟩=some (sv t.vs)/\w.cell? ⟨R,5,none⟩=some (.slice a t.ln c) :=
 ⟨(aj (i:=0) h).trans rfl,(aj (i:=1) h).trans rfl,(aj (i:=2) h).trans rfl,(aj (i:=3) h).trans rfl,(aj (i:=4) h).trans rfl,(aj (i:=5) h).trans rfl⟩
theorem dU (G:aP) (B b:Nat) (l:List UInt8) (n:Nat) (al:Bool) (t:Tg) (a:Option Addr) (c:Nat) (w:World) (h:WS G B b l n w) (hl:l.length<=140737480000000) (hvl:t.var.length<=40000) (hn:n<=1000000000000) :
  Calls Tryz.prog 71 #[pt b,.agg (aR t a c),.bool al] w (PW G B b w (aX al t l n)):=by
 obtain ⟨R,hR⟩:∃ R,R=aX al t l n:=⟨_,rfl⟩; rw [← hR]; unfold aX at hR; have hbn:=af w (.cells (aR t a c) 63); have hW0:=hid (h.box (aR t a c) (t:=63) (by decide)); have hF0:=hid (Fr.of_below ((zN _ w).alloc (zM _) (.cells (aR t a c) 63)) G); replace h:=hid h; by_cases hv:t.var=[]
 ·have kv:(t.var == [])=true:=by simp [hv]
  rw [if_pos hv] at hR; have hcn:=oZ _ B b l n t a c _ hW0.out (by omega); rw [← hR] at hcn; replace hcn:=hid hcn; replace hR:=hid hR; replace hv:=hid hv; obtain ⟨g0,g1,g2,g3,g4,g5,g6⟩:=dY hbn; replace hbn:=hid hbn
  go_enter Tryz.func71,Tryz.ntmps71
  go_wp2_with fail
  with_reducible refine hcn.out.mono ?_
  intro e w1 hp; have hP:=hid (PW.lift h.out hF0.out (fun k hk=>hk.1) hp); obtain ⟨he,-,-⟩:=hp; subst he
  go_wp2_with fail
  go_ret; exact hP.out
 ·have kv:(t.var == [])=false:=by simp [hv]
  rw [if_neg hv] at hR; have hbn2:=af (w.alloc (.cells (aR t a c) 63)) (.cells (eU t a c) 61); have hW1:=hid (hW0.out.box (eU t a c) (t:=61) (by decide)); have hF1:=hid (hF0.out.trans (Fr.of_below ((zN _ _).alloc (zM _) (.cells (eU t a c) 61)) G)); have hbnk:=(z7 (w.alloc (.cells (aR t a c) 63)) (.cells (eU t a c) 61) w.heap.size (by simp)).trans hbn; obtain ⟨g0,g1,g2,g3,g4,g5,g6⟩:=dY hbn; obtain ⟨x0,x1,x2,x3,x4,x5,x6⟩:=dY hbnk; rw [show (w.alloc (.cells (aR t a c) 63)).heap.size=w.heap.size+1 from by simp] at hbn2; obtain ⟨v0,v1,v2,v3,v4,v5⟩:=sB hbn2
  have hpl:=hid (nL t a c ((w.alloc (.cells (aR t a c) 63)).alloc (.cells (eU t a c) 61))); replace hv:=hid hv; replace hbn:=hid hbn; by_cases hk0:t.kind=0
  ·have kk:(t.kind == 0)=true:=by simp [hk0]
   have kk2:(t.kind != 0)=false:=by simp [hk0]
   by_cases hn0:t.n=0
   ·have kn:(t.n == 0)=true:=by simp [hn0]
    (have kn2:(t.n != 0)=false:=by simp [hn0]);replace hR:=hid (show R=(if d_ t=false\/t.vs≠[] then none else if eT t.var=true then if al=true/\t.var=[95]++itoa ((n+1:Nat):Int) then some (l++[95],n+1) else none else if et t.var=true then some (l++t.var,n) else none) from by rw [hR]; simp [hk0,hn0]); replace hk0:=hid hk0; replace hn0:=hid hn0;go_enter Tryz.func71,Tryz.ntmps71;go_wp2_with fail;(with_reducible refine hpl.out.mono ?_);rintro e w2 ⟨rfl,hb2⟩; have hW2:=hid (hW1.out.below hb2); have hF2:=hid (hF1.out.trans (Fr.of_below hb2 _)); obtain ⟨y0,y1,y2,y3,y4,y5,y6⟩:=dY (an hb2 hbnk (by have:=ae hbnk; exact this)); obtain ⟨z0,z1,z2,z3,z4,z5⟩:=sB (an hb2 hbn2 (ae hbn2)); have hbl:=hid (ae (an hb2 hbnk (ae hbnk))); obtain ⟨pl,hp⟩:∃ pl,pl=d_ t:=⟨_,rfl⟩; rw [← hp]; rw [← hp] at hR; replace hp:=hid hp; replace hbnk:=hid hbnk; replace hbn2:=hid hbn2; replace hF1:=hid hF2.out; clear hpl hb2 x0 x1 x2 x3 x4 x5 x6 v0 v1 v2 v3 v4 v5 g0 g1 g2 g3 g4 g5 g6
    cases pl with
    | false =>
     replace hR:=hid (show R=none from by rw [hR.out]; simp);go_wp2_with fail
     go_ret; exact ⟨by rw [hR.out]; rfl,hF1.out,fun x hx=>by rw [hR.out] at hx; cases hx⟩
    | true =>
     by_cases hvs:t.vs=[]
     ·have ks:(t.vs == [])=true:=by simp [hvs]
      (have ks2:(t.vs != [])=false:=by simp [hvs]);replace hR:=hid (show R=(if eT t.var=true then if al=true/\t.var=[95]++itoa ((n+1:Nat):Int) then some (l++[95],n+1) else none else if et t.var=true then some (l++t.var,n) else none) from by rw [hR.out]; simp [hvs]); have hwl:=hid (jG t a c w2 (by omega)); obtain ⟨wf,hwf⟩:∃ wf,wf=eT t.var:=⟨_,rfl⟩; rw [← hwf] at hR hwl; replace hvs:=hid hvs; replace hwf:=hid hwf;go_wp2_with fail;(with_reducible refine hwl.out.mono ?_);rintro e w3 ⟨rfl,hb3⟩; have hW3:=hid (hW2.out.below hb3); have hF3:=hid (hF2.out.trans (Fr.of_below hb3 _)); have y0':=(Af (hb3.block w.heap.size hbl.out)).trans y0; have hbl3:=hid (zS hbl.out hb3.size); clear hwl hb3 y0 y1 y2 y3 y4 y5 y6 z0 z1 z2 z3 z4 z5; have y0:=y0'; clear y0'
      cases wf with
      | false =>
       replace hR:=hid (show R=if et t.var=true then some (l++t.var,n) else none from hR.out); obtain ⟨vf,hvf⟩:∃ vf,vf=et t.var:=⟨_,rfl⟩; rw [← hvf] at hR; have hiv:=hid (fun W=>fZ t.var W (by omega)); rw [← hvf] at hiv; replace hvf:=hid hvf;go_wp2_with fail;refine wp_region_held_drew (S:=fun w'=>w'.cell? ⟨w.heap.size,0,none⟩=some (sv t.var)) (by kernel_rfl) ?_ (fun hHeld=>?_)
       ·exact y0
       have hbd:Below w3.heap.size w3 w3.drew:=(zN _ w3).drew; have hWd:=hid (hW3.out.below hbd); have hFd:=hid (hF3.out.trans (Fr.of_below hbd _)); have hbl2:=hid (zS hbl3.out hbd.size); generalize w3.drew=wd at *; refine wTk (i:=0) (v:=?_) rfl ?hy ?_
       case hy =>
        intro w hSw; have hq:=hSw; go_simp
        all_goals with_reducible rfl
       (try simp only [Act.put,sI,sZ,sS]);refine wTk (i:=1) (v:=?_) rfl ?hy ?_
       case hy =>
        intro w hSw; have hq:=hSw; go_simp
        all_goals with_reducible rfl
       (try simp only [Act.put,sI,sZ,sS]);refine wTk (i:=2) (v:=?_) rfl ?hy ?_
       case hy =>
        intro w hSw; have hq:=hSw; go_simp
        all_goals with_reducible rfl
       (try simp only [Act.put,sI,sZ,sS]);refine wTk (i:=3) (v:=?_) rfl ?hy ?_
       case hy =>
        intro w hSw; have hq:=hSw; go_simp
        all_goals with_reducible rfl
       (try simp only [Act.put,sI,sZ,sS]);refine wTk (i:=4) (v:=?_) rfl ?hy ?_
       case hy =>
        intro w hSw; have hq:=hSw; go_simp
        all_goals with_reducible rfl
       (try simp only [Act.put,sI,sZ,sS]);refine wpAnyH_ready (rs:=[5]) (by as_aux_lemma=>kernel_rfl) (by simp) ?_; refine rdY rfl (fun K hK=>?_); go_simp;go_at_call 43;(with_reducible refine (hWd.out.write t.var (by omega)).mono ?_);rintro e w4 ⟨rfl,hW4,hf4⟩; replace hW4:=hid hW4; replace hf4:=hid hf4; refine hK.out _ _ ?_ (fun hHeld2=>?_)
       ·exact (Af (hf4.out.block _ hbl2.out (fun e=>e.1.2 rfl))).trans hHeld
       clear hK K; clear hHeld; have hHeld:=hHeld2; clear hHeld2;(try simp only [Act.put,sI,sZ,sS]);refine wpAnyH_done (by as_aux_lemma=>kernel_rfl) ?_ _; have y5:=hHeld;go_wp2_with fail;(with_reducible refine (hiv.out _).mono ?_);rintro e w5 ⟨rfl,hb5⟩; have hF5:=hid ((hFd.out.trans (hf4.out.mono fun k _ hk=>hk.1.1)).trans (Fr.of_below hb5 _)); have hW5:=hid (hW4.out.below hb5); clear hb5;go_wp2_with fail;go_ret
       cases vf with
       | true =>
        (replace hR:=hid (show R=some (l++t.var,n) from hR.out); refine ⟨by rw [hR.out]; rfl,hF5.out,fun x hx=>?_⟩; rw [hR.out] at hx; injection hx with hx; subst hx);(exact h.out.out hW5.out hF5.out fun k hk=>hk.1.1)
       | false =>
        replace hR:=hid (show R=none from hR.out); exact ⟨by rw [hR.out]; rfl,hF5.out,fun x hx=>by rw [hR.out] at hx; cases hx⟩
      | true =>
       obtain ⟨m1,hm1⟩:∃ m1,m1=n+1:=⟨_,rfl⟩; replace hR:=hid (show R=if al=true/\t.var=[95]++itoa (m1:Int) then some (l++[95],m1) else none from by rw [hm1]; exact hR.out);(have e4:IntKind.i64.wrap ((n:Int)+1)=(m1:Int):=by rw [zX]; omega);obtain ⟨q1,q2⟩:=hW3.out.bld.wild; obtain ⟨hs1,hs2⟩:=hW3.out.bld.setWild m1; have hW4:=hid (hW3.out.fr hs2 hs1); have hF4:=hid (hF3.out.trans (hs2.mono fun k _ hk=>hk.1.1)); have y0':=(Af (hs2.block w.heap.size hbl3.out (fun e=>e.1.2 rfl))).trans y0; have hbl4:=hid (zS hbl3.out hs2.size);(have hm1b:m1<=1000000000001:=by omega);have hwr:=hid (hW4.out.write [95] (by simp; omega)); have hil:=fR m1 (by omega) (by omega); replace hm1:=hid hm1; clear hs1 hs2;go_wp2_with fail;(with_reducible refine hwr.out.mono ?_);rintro e w6 ⟨rfl,hW6,hf6⟩; replace hF6:=hid (hF4.out.trans (hf6.mono fun k _ hk=>hk.1.1)); have hbl6:=hid (zS hbl4.out hf6.size); have y0:=(Af (hf6.block w.heap.size hbl4.out (fun e=>e.1.2 rfl))).trans y0'; obtain ⟨q3,q4⟩:=hW6.bld.wild; replace hW6:=hid hW6; obtain ⟨N,hNN⟩:∃ N,N=itoa (m1:Int):=⟨_,rfl⟩; rw [← hNN] at hil hR; obtain ⟨s,hs⟩:∃ s,s=[95]++N:=⟨_,rfl⟩; rw [← hs] at hR;(have hcat:ByteArray.mk #[95]++⟨N.toArray⟩=⟨s.toArray⟩:=by rw [hs]; simp [ByteArray.mk_append_mk]);(have hlN:¬ 9223372036854775807 < 1+N.length:=by omega);replace hs:=hid hs; replace hNN:=hid hNN; clear hwr hf6 y0' q1 q2 e4
       cases al with
       | false =>
        replace hR:=hid (show R=none from by rw [hR.out]; simp);go_wp2_with fail;refine wp_region_held_drew (S:=fun w'=>w'.cell? ⟨w.heap.size,0,none⟩=some (sv t.var)/\w'.cell? ⟨b,2,none⟩=some (iv m1)) (by kernel_rfl) ?_ (fun hHeld=>?_)
        ·exact ⟨y0,hW6.out.bld.wild.1⟩
        refine wTk (i:=0) (v:=?_) rfl ?hy ?_
        case hy =>
         intro w hSw; obtain ⟨o1,o2⟩:=hSw; go_simp
         all_goals with_reducible rfl
        (try simp only [Act.put,sI,sZ,sS]);refine wTk (i:=1) (v:=?_) rfl ?hy ?_
        case hy =>
         intro w hSw; obtain ⟨o1,o2⟩:=hSw; go_simp
         all_goals with_reducible rfl
        (try simp only [Act.put,sI,sZ,sS]);refine wpAnyH_take (i:=2) (oi:=⟨_,_,_,_,_,_⟩) (v:=undef) rfl (by as_aux_lemma=>kernel_rfl) (by as_aux_lemma=>kernel_rfl) (by as_aux_lemma=>kernel_rfl) (fun _ _ _ h=>h) (Or.inr ⟨by rfl,rfl⟩) (by assumption) ?_;(try simp only [Act.put,sI,sZ,sS]);refine wpAnyH_take (i:=3) (oi:=⟨_,_,_,_,_,_⟩) (v:=undef) rfl (by as_aux_lemma=>kernel_rfl) (by as_aux_lemma=>kernel_rfl) (by as_aux_lemma=>kernel_rfl) (fun _ _ _ h=>h) (Or.inr ⟨by rfl,rfl⟩) (by assumption) ?_;(try simp only [Act.put,sI,sZ,sS]);refine wpAnyH_take (i:=4) (oi:=⟨_,_,_,_,_,_⟩) (v:=undef) rfl (by as_aux_lemma=>kernel_rfl) (by as_aux_lemma=>kernel_rfl) (by as_aux_lemma=>kernel_rfl) (fun _ _ _ h=>h) (Or.inr ⟨by rfl,rfl⟩) (by assumption) ?_;(try simp only [Act.put,sI,sZ,sS]);refine wpAnyH_take (i:=5) (oi:=⟨_,_,_,_,_,_⟩) (v:=undef) rfl (by as_aux_lemma=>kernel_rfl) (by as_aux_lemma=>kernel_rfl) (by as_aux_lemma=>kernel_rfl) (fun _ _ _ h=>h) (Or.inr ⟨by rfl,rfl⟩) (by assumption) ?_;(try simp only [Act.put,sI,sZ,sS]);refine wpAnyH_take (i:=6) (oi:=⟨_,_,_,_,_,_⟩) (v:=undef) rfl (by as_aux_lemma=>kernel_rfl) (by as_aux_lemma=>kernel_rfl) (by as_aux_lemma=>kernel_rfl) (fun _ _ _ h=>h) (Or.inr ⟨by rfl,rfl⟩) (by assumption) ?_;(try simp only [Act.put,sI,sZ,sS]);refine wpAnyH_take (i:=7) (oi:=⟨_,_,_,_,_,_⟩) (v:=undef) rfl (by as_aux_lemma=>kernel_rfl) (by as_aux_lemma=>kernel_rfl) (by as_aux_lemma=>kernel_rfl) (fun _ _ _ h=>h) (Or.inr ⟨by rfl,rfl⟩) (by assumption) ?_;(try simp only [Act.put,sI,sZ,sS]);refine wpAnyH_take (i:=8) (oi:=⟨_,_,_,_,_,_⟩) (v:=undef) rfl (by as_aux_lemma=>kernel_rfl) (by as_aux_lemma=>kernel_rfl) (by as_aux_lemma=>kernel_rfl) (fun _ _ _ h=>h) (Or.inr ⟨by rfl,rfl⟩) (by assumption) ?_;(try simp only [Act.put,sI,sZ,sS]);refine wpAnyH_take (i:=9) (oi:=⟨_,_,_,_,_,_⟩) (v:=undef) rfl (by as_aux_lemma=>kernel_rfl) (by as_aux_lemma=>kernel_rfl) (by as_aux_lemma=>kernel_rfl) (fun _ _ _ h=>h) (Or.inr ⟨by rfl,rfl⟩) (by assumption) ?_;(try simp only [Act.put,sI,sZ,sS]);refine wpAnyH_take (i:=10) (oi:=⟨_,_,_,_,_,_⟩) (v:=undef) rfl (by as_aux_lemma=>kernel_rfl) (by as_aux_lemma=>kernel_rfl) (by as_aux_lemma=>kernel_rfl) (fun _ _ _ h=>h) (Or.inr ⟨by rfl,rfl⟩) (by assumption) ?_;(try simp only [Act.put,sI,sZ,sS]);refine wTk (i:=11) (v:=?_) rfl ?hy ?_
        case hy =>
         intro w hSw; obtain ⟨o1,o2⟩:=hSw; go_simp
         all_goals with_reducible rfl
        (try simp only [Act.put,sI,sZ,sS]);refine wTk (i:=12) (v:=?_) rfl ?hy ?_
        case hy =>
         intro w hSw; obtain ⟨o1,o2⟩:=hSw; go_simp
         all_goals with_reducible rfl
        (try simp only [Act.put,sI,sZ,sS]);refine wpAnyH_done (by as_aux_lemma=>kernel_rfl) ?_ _; have hF9:=hid (hF6.out.trans (Fr.of_below ((zN _ w6).drew) _));go_wp2_with fail
        go_ret; exact ⟨by rw [hR.out]; rfl,hF9.out,fun x hx=>by rw [hR.out] at hx; cases hx⟩
       | true =>
        by_cases hvv:t.var=s
        ·have kvv:(t.var == s)=true:=by simp [hvv]
         replace hR:=hid (show R=some (l++[95],m1) from by rw [hR.out]; simp [hvv]); replace hvv:=hid hvv;go_wp2_with fail;refine wp_region_held_drew (S:=fun w'=>w'.cell? ⟨w.heap.size,0,none⟩=some (sv t.var)/\w'.cell? ⟨b,2,none⟩=some (iv m1)) (by kernel_rfl) ?_ (fun hHeld=>?_)
         ·exact ⟨y0,hW6.out.bld.wild.1⟩
         have hbd:Below w6.heap.size w6 w6.drew:=(zN _ w6).drew; have hWd:=hid (hW6.out.below hbd); have hFd:=hid (hF6.out.trans (Fr.of_below hbd _)); have hbl2:=hid (zS hbl6.out hbd.size); generalize w6.drew=wd at *; refine wTk (i:=0) (v:=?_) rfl ?hy ?_
         case hy =>
          intro w hSw; obtain ⟨o1,o2⟩:=hSw; go_simp
          all_goals with_reducible rfl
         (try simp only [Act.put,sI,sZ,sS]);refine wTk (i:=1) (v:=?_) rfl ?hy ?_
         case hy =>
          intro w hSw; obtain ⟨o1,o2⟩:=hSw; go_simp
          all_goals with_reducible rfl
         (try simp only [Act.put,sI,sZ,sS]);refine wTk (i:=2) (v:=?_) rfl ?hy ?_
         case hy =>
          intro w hSw; obtain ⟨o1,o2⟩:=hSw; go_simp
          all_goals with_reducible rfl
         (try simp only [Act.put,sI,sZ,sS]);refine wTk (i:=3) (v:=?_) rfl ?hy ?_
         case hy =>
          intro w hSw; obtain ⟨o1,o2⟩:=hSw; go_simp
          all_goals with_reducible rfl
         (try simp only [Act.put,sI,sZ,sS]);refine wTk (i:=4) (v:=?_) rfl ?hy ?_
         case hy =>
          intro w hSw; obtain ⟨o1,o2⟩:=hSw; go_simp
          all_goals with_reducible rfl
         (try simp only [Act.put,sI,sZ,sS]);refine wTk (i:=5) (v:=?_) rfl ?hy ?_
         case hy =>
          intro w hSw; obtain ⟨o1,o2⟩:=hSw; go_simp
          all_goals with_reducible rfl
         (try simp only [Act.put,sI,sZ,sS]);refine wTk (i:=6) (v:=?_) rfl ?hy ?_
         case hy =>
          intro w hSw; obtain ⟨o1,o2⟩:=hSw; go_simp
          all_goals with_reducible rfl
         (try simp only [Act.put,sI,sZ,sS]);refine wTk (i:=7) (v:=?_) rfl ?hy ?_
         case hy =>
          intro w hSw; obtain ⟨o1,o2⟩:=hSw; go_simp
          all_goals with_reducible rfl
         (try simp only [Act.put,sI,sZ,sS]);refine wpAnyH_ready (rs:=[8]) (by as_aux_lemma=>kernel_rfl) (by simp) ?_; refine rdY rfl (fun K hK=>?_); go_simp;go_at_call 97;(with_reducible refine (fl (m1:Int) wd (by omega) (by omega) (hid hWd.out.tab.tab)).mono ?_);rintro e w7 ⟨rfl,hb7⟩; have hW7:=hid (hWd.out.below hb7); have hF7:=hid (hFd.out.trans (Fr.of_below hb7 _)); rw [← hNN.out]; refine hK.out _ _ ?_ (fun hHeld2=>?_)
         ·exact ⟨(Af (hb7.block _ hbl2.out)).trans hHeld.1,(Af (hb7.block _ hWd.out.bld.lt)).trans hHeld.2⟩
         clear hK K; clear hHeld; have hHeld:=hHeld2; clear hHeld2;(try simp only [Act.put,sI,sZ,sS]);refine wTk (i:=9) (v:=?_) rfl ?hy ?_
         case hy =>
          intro w hSw; obtain ⟨o1,o2⟩:=hSw; go_simp
          all_goals with_reducible rfl
         (try simp only [Act.put,sI,sZ,sS]);refine wTk (i:=10) (v:=?_) rfl ?hy ?_
         case hy =>
          intro w hSw; obtain ⟨o1,o2⟩:=hSw; go_simp
          all_goals with_reducible rfl
         (try simp only [Act.put,sI,sZ,sS]);refine wTk (i:=11) (v:=?_) rfl ?hy ?_
         case hy =>
          intro w hSw; obtain ⟨o1,o2⟩:=hSw; go_simp
          all_goals with_reducible rfl
         (try simp only [Act.put,sI,sZ,sS]);refine wTk (i:=12) (v:=?_) rfl ?hy ?_
         case hy =>
          intro w hSw; obtain ⟨o1,o2⟩:=hSw; go_simp
          all_goals with_reducible rfl
         (try simp only [Act.put,sI,sZ,sS]);refine wpAnyH_done (by as_aux_lemma=>kernel_rfl) ?_ _;go_wp2_with fail;(go_ret; refine ⟨by rw [hR.out]; rfl,hF7.out,fun x hx=>?_⟩; rw [hR.out] at hx; injection hx with hx; subst hx);(exact h.out.out hW7.out hF7.out fun k hk=>hk.1.1)
        ·have kvv:(t.var == s)=false:=by simp [hvv]
         replace hR:=hid (show R=none from by rw [hR.out]; simp [hvv]); replace hvv:=hid hvv;go_wp2_with fail;refine wp_region_held_drew (S:=fun w'=>w'.cell? ⟨w.heap.size,0,none⟩=some (sv t.var)/\w'.cell? ⟨b,2,none⟩=some (iv m1)) (by kernel_rfl) ?_ (fun hHeld=>?_)
         ·exact ⟨y0,hW6.out.bld.wild.1⟩
         have hbd:Below w6.heap.size w6 w6.drew:=(zN _ w6).drew; have hWd:=hid (hW6.out.below hbd); have hFd:=hid (hF6.out.trans (Fr.of_below hbd _)); have hbl2:=hid (zS hbl6.out hbd.size); generalize w6.drew=wd at *; refine wTk (i:=0) (v:=?_) rfl ?hy ?_
         case hy =>
          intro w hSw; obtain ⟨o1,o2⟩:=hSw; go_simp
          all_goals with_reducible rfl
         (try simp only [Act.put,sI,sZ,sS]);refine wTk (i:=1) (v:=?_) rfl ?hy ?_
         case hy =>
          intro w hSw; obtain ⟨o1,o2⟩:=hSw; go_simp
          all_goals with_reducible rfl
         (try simp only [Act.put,sI,sZ,sS]);refine wTk (i:=2) (v:=?_) rfl ?hy ?_
         case hy =>
          intro w hSw; obtain ⟨o1,o2⟩:=hSw; go_simp
          all_goals with_reducible rfl
         (try simp only [Act.put,sI,sZ,sS]);refine wTk (i:=3) (v:=?_) rfl ?hy ?_
         case hy =>
          intro w hSw; obtain ⟨o1,o2⟩:=hSw; go_simp
          all_goals with_reducible rfl
         (try simp only [Act.put,sI,sZ,sS]);refine wTk (i:=4) (v:=?_) rfl ?hy ?_
         case hy =>
          intro w hSw; obtain ⟨o1,o2⟩:=hSw; go_simp
          all_goals with_reducible rfl
         (try simp only [Act.put,sI,sZ,sS]);refine wTk (i:=5) (v:=?_) rfl ?hy ?_
         case hy =>
          intro w hSw; obtain ⟨o1,o2⟩:=hSw; go_simp
          all_goals with_reducible rfl
         (try simp only [Act.put,sI,sZ,sS]);refine wTk (i:=6) (v:=?_) rfl ?hy ?_
         case hy =>
          intro w hSw; obtain ⟨o1,o2⟩:=hSw; go_simp
          all_goals with_reducible rfl
         (try simp only [Act.put,sI,sZ,sS]);refine wTk (i:=7) (v:=?_) rfl ?hy ?_
         case hy =>
          intro w hSw; obtain ⟨o1,o2⟩:=hSw; go_simp
          all_goals with_reducible rfl
         (try simp only [Act.put,sI,sZ,sS]);refine wpAnyH_ready (rs:=[8]) (by as_aux_lemma=>kernel_rfl) (by simp) ?_; refine rdY rfl (fun K hK=>?_); go_simp;go_at_call 97;(with_reducible refine (fl (m1:Int) wd (by omega) (by omega) (hid hWd.out.tab.tab)).mono ?_);rintro e w7 ⟨rfl,hb7⟩; have hW7:=hid (hWd.out.below hb7); have hF7:=hid (hFd.out.trans (Fr.of_below hb7 _)); rw [← hNN.out]; refine hK.out _ _ ?_ (fun hHeld2=>?_)
         ·exact ⟨(Af (hb7.block _ hbl2.out)).trans hHeld.1,(Af (hb7.block _ hWd.out.bld.lt)).trans hHeld.2⟩
         clear hK K; clear hHeld; have hHeld:=hHeld2; clear hHeld2;(try simp only [Act.put,sI,sZ,sS]);refine wTk (i:=9) (v:=?_) rfl ?hy ?_
         case hy =>
          intro w hSw; obtain ⟨o1,o2⟩:=hSw; go_simp
          all_goals with_reducible rfl
         (try simp only [Act.put,sI,sZ,sS]);refine wTk (i:=10) (v:=?_) rfl ?hy ?_
         case hy =>
          intro w hSw; obtain ⟨o1,o2⟩:=hSw; go_simp
          all_goals with_reducible rfl
         (try simp only [Act.put,sI,sZ,sS]);refine wTk (i:=11) (v:=?_) rfl ?hy ?_
         case hy =>
          intro w hSw; obtain ⟨o1,o2⟩:=hSw; go_simp
          all_goals with_reducible rfl
         (try simp only [Act.put,sI,sZ,sS]);refine wTk (i:=12) (v:=?_) rfl ?hy ?_
         case hy =>
          intro w hSw; obtain ⟨o1,o2⟩:=hSw; go_simp
          all_goals with_reducible rfl
         (try simp only [Act.put,sI,sZ,sS]);refine wpAnyH_done (by as_aux_lemma=>kernel_rfl) ?_ _;go_wp2_with fail
         go_ret; exact ⟨by rw [hR.out]; rfl,hF7.out,fun x hx=>by rw [hR.out] at hx; cases hx⟩
     ·have ks:(t.vs == [])=false:=by simp [hvs]
      (have ks2:(t.vs != [])=true:=by simp [hvs]);replace hR:=hid (show R=none from by rw [hR.out]; simp [hvs]); replace hvs:=hid hvs;go_wp2_with fail
      go_ret; exact ⟨by rw [hR.out]; rfl,hF1.out,fun x hx=>by rw [hR.out] at hx; cases hx⟩
   ·have kn:(t.n == 0)=false:=by simp [hn0]
    (have kn2:(t.n != 0)=true:=by simp [hn0]);replace hR:=hid (show R=none from by rw [hR]; simp [hn0]); replace hn0:=hid hn0; replace hk0:=hid hk0;go_enter Tryz.func71,Tryz.ntmps71;go_wp2_with fail
    go_ret; exact ⟨by rw [hR.out]; rfl,hF1.out,fun x hx=>by rw [hR.out] at hx; cases hx⟩
  ·have kk:(t.kind == 0)=false:=by simp [hk0]
   have kk2:(t.kind != 0)=true:=by simp [hk0]
   replace hR:=hid (show R=none from by rw [hR]; simp [hk0]); replace hk0:=hid hk0
   go_enter Tryz.func71,Tryz.ntmps71
   go_wp2_with fail
   go_ret; exact ⟨by rw [hR.out]; rfl,hF1.out,fun x hx=>by rw [hR.out] at hx; cases hx⟩
end Go.Proofs.YtffdpoifdahadaaGreatDoor
