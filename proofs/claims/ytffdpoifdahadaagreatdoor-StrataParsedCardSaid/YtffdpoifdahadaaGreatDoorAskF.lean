/- ask: the head of a rule. -/
import Derived.Test.YtffdpoifdahadaaGreatDoorAskE
set_option linter.unusedVariables false
set_option maxHeartbeats 40000000
set_option maxRecDepth 100000
namespace Go.Proofs.YtffdpoifdahadaaGreatDoor
open Go.RowKit
open Go.Lib (hid)
structure Hd where
 rel:List UInt8
 args:List Tm
 agg:Int
 at_:Nat
def bV (ts:List Tw) (st:PSt) (h:Hd):Option Hd × PSt :=
 if (br ts st.nx).kind=1/\ga (br ts st.nx).text≠0/\h.agg=0 then
  if (aW ts (am st) [40]).1=true then
   match eH ts (aW ts (am st) [40]).2 with
   | (none,s2)=>(none,s2)
   | (some t,s2)=>if (aW ts s2 [41]).1=true then (some ⟨h.rel,h.args++[t],ga (br ts st.nx).text,h.args.length⟩,(aW ts s2 [41]).2) else (none,(aW ts s2 [41]).2)
  else (none,(aW ts (am st) [40]).2)
 else match aT ts st with
  | (none,s1)=>(none,s1)
  | (some t,s1)=>(some ⟨h.rel,h.args++[t],h.agg,h.at_⟩,s1)
abbrev l8 (rel:List UInt8) (v:Value) (agg:Int) (at_:Nat) (body:Value):Array Value:=#[iv 0,.bool false,sv rel,v,iv agg,iv at_,body]
structure HM (pb rb T:Nat) (K:PK) (st:PSt) (x:Hd) (w0 w:World):Prop where
 base:∃ st0,PM pb K st0 w0
 pm:PM pb K st w
 fr:Fr (one pb) w0 w
 row:∃ a c,w.heap[rb]? = some (.cells (l8 x.rel (.slice a x.args.length c) x.agg x.at_ (.slice none 0 0)) 27 (0,0))/\aO 63 7 FlR (fun q=>rb < q/\q≠T) w x.args (.slice a x.args.length c)
 h0:w0.heap.size<=rb
 h1:pb < rb
section
variable {pb rb T:Nat} {K:PK} {st st':PSt} {x:Hd} {w0 w w':World}
theorem HM.lt (h:HM pb rb T K st x w0 w):rb < w.heap.size:=by obtain ⟨a,c,h1,_⟩:=h.row; exact ae h1
theorem HM.call (h:HM pb rb T K st x w0 w) (hp:PM pb K st' w') (hf:Fr (one pb) w w'):HM pb rb T K st' x w0 w':=by
 have hl:=h.lt; have e1:=h.h1; obtain ⟨a,c,h3,h4⟩:=h.row; exact ⟨h.base,hp,h.fr.trans hf,⟨a,c,(hf.block _ hl (by unfold one; omega)).trans h3,h4.fr aD hf (fun q hq e=>by unfold one at e; omega)⟩,h.h0,e1⟩
theorem HM.below (h:HM pb rb T K st x w0 w) (hb:Below w.heap.size w w'):HM pb rb T K st x w0 w':=h.call (h.pm.below hb) (Fr.of_below hb (one pb))
theorem HM.tag (h:HM pb rb T K st x w0 w) (o:Obj):HM pb rb w.heap.size K st x w0 (w.alloc o):=by
 have h':=h.below ((zN _ w).alloc (zM _) o); obtain ⟨a,c,h3,h4⟩:=h.row; have hl:=h.lt; refine ⟨h'.base,h'.pm,h'.fr,⟨a,c,(z7 _ _ _ hl).trans h3,h4.move aD fun k hk hk2=>⟨⟨hk2.1,by omega⟩,z7 _ _ _ hk⟩⟩,h'.h0,h'.h1⟩
theorem HM.setTm (h:HM pb rb T K st x w0 w) (hT:rb < T) (t:Tm):HM pb rb T K st x w0 (setTm w T t):=by
 have e0:=h.h0; have e1:=h.h1; obtain ⟨a,c,h3,h4⟩:=h.row; obtain ⟨st0,hb⟩:=h.base; have hF:=h.fr.setTm (R:=T) (by omega) t; exact ⟨h.base,hb.fr hF ((a_ (by omega)).trans h.pm.blk) h.pm.nx,hF,⟨a,c,(a_ (by omega)).trans h3,h4.move aD fun k hk hk2=>⟨hk2,a_ hk2.2⟩⟩,e0,e1⟩
theorem HM.setAgg (h:HM pb rb T K st x w0 w) (g:Int) (n:Nat):HM pb rb T K st ⟨x.rel,x.args,g,n⟩ w0 ((w.setCell ⟨rb,4,none⟩ (iv g)).setCell ⟨rb,5,none⟩ (iv n)):=by
 have e0:=h.h0; have e1:=h.h1; obtain ⟨a,c,h3,h4⟩:=h.row; obtain ⟨st0,hb⟩:=h.base; have hF:=(h.fr.setCell (p:=⟨rb,4,none⟩) (Or.inr e0) (iv g)).setCell (p:=⟨rb,5,none⟩) (Or.inr e0) (iv n)
 have ho:∀ k,k≠rb->((w.setCell ⟨rb,4,none⟩ (iv g)).setCell ⟨rb,5,none⟩ (iv n)).heap[k]? = w.heap[k]?:=fun k hk=>(ak _ hk).trans (ak _ hk)
 refine ⟨h.base,hb.fr hF ((ho _ (by omega)).trans h.pm.blk) h.pm.nx,hF,⟨a,c,?_,h4.move aD fun k hk hk2=>⟨hk2,ho k (by omega)⟩⟩,e0,e1⟩; have:=aC (aC h3 (i:=4) (iv g)) (i:=5) (iv n); simpa using this
theorem HM.push (h:HM pb rb T K st x w0 w) (hT:T < w.heap.size) (t:Tm) (hl:x.args.length<=1048576) :
  ∃ a0 c0,w.cell? ⟨rb,3,none⟩=some (.slice a0 x.args.length c0)/\∃ a c W,cH Tryz.prog 22 22 22 (.slice a0 x.args.length c0) (.slice (some ⟨w.heap.size,0,none⟩) 1 1) (.slice a (x.args.length+1) c) (w.alloc (.cells (aB t) 63)) W/\W.frozen? ⟨rb,3,none⟩=false/\(∃ v,W.cell? ⟨rb,3,none⟩=some v)/\HM pb rb 0 K st ⟨x.rel,x.args++[t],x.agg,x.at_⟩ w0 (W.setCell ⟨rb,3,none⟩ (.slice a (x.args.length+1) c)):=by
 have e0:=h.h0; have e1:=h.h1; have hlt:=h.lt; obtain ⟨a0,c0,h3,h4⟩:=h.row; obtain ⟨st0,hb⟩:=h.base; obtain ⟨a,c,W,g1,g2,g3⟩:=re t h4 (fun q hq=>⟨by omega,by omega⟩) hl; have hrb:W.heap[rb]? = some (.cells (l8 x.rel (.slice a0 x.args.length c0) x.agg x.at_ (.slice none 0 0)) 27 (0,0)):=(g3.block rb hlt (fun e=>absurd e.1 (Nat.lt_irrefl _))).trans h3; have hF:Fr (one pb) w0 W:=h.fr.trans' g3 (fun _ x=>x) (fun i hi e=>absurd e.1 (by omega)); have hF2:=hF.setCell (p:=⟨rb,3,none⟩) (Or.inr (show w0.heap.size<=rb by omega)) (.slice a (x.args.length+1) c)
 have hother:∀ k,k≠rb->(W.setCell ⟨rb,3,none⟩ (.slice a (x.args.length+1) c)).heap[k]? = W.heap[k]?:=fun k hk=>ak _ hk
 refine ⟨a0,c0,(aj h3).trans rfl,a,c,W,g1,bX hrb,⟨_,(aj hrb).trans rfl⟩,h.base,hb.fr hF2 ((hother _ (by omega)).trans ((g3.block pb h.pm.lt (fun e=>absurd e.1 (by omega))).trans h.pm.blk)) h.pm.nx,hF2,⟨a,c,?_,?_⟩,e0,e1⟩
 ·have:=aC hrb (i:=3) (.slice a (x.args.length+1) c)
  simp only [zQ,zT,z_]; simpa using this
 ·simp only [zQ,zT,z_]
  exact g2.move aD fun k hk hk2=>⟨⟨hk2.1,by omega⟩,hother k (by omega)⟩
theorem gE {rel:List UInt8} {v body:Value} {agg:Int} {at_:Nat} (h:w.heap[rb]? = some (.cells (l8 rel v agg at_ body) 27 (0,0))):w.cell? ⟨rb,0,none⟩=some (iv 0)/\w.cell? ⟨rb,1,none⟩=some (.bool false)/\w.cell? ⟨rb,2,none⟩=some (sv rel)/\w.cell? ⟨rb,3,none⟩=some v/\w.cell? ⟨rb,4,none⟩=some (iv agg)/\w.cell? ⟨rb,5,none⟩=some (iv at_)/\w.cell? ⟨rb,6,none⟩=some body/\∀ i,w.frozen? ⟨rb,i,none⟩=false :=
 ⟨(aj h).trans rfl,(aj h).trans rfl,(aj h).trans rfl,(aj h).trans rfl,(aj h).trans rfl,(aj h).trans rfl,(aj h).trans rfl,fun i=>bX h⟩
end
def PHd (pb rb:Nat) (K:PK) (w0:World) (r:Option Hd × PSt) (e:Ending) (w':World):Prop :=
 e=.returned (.bool r.1.isSome)/\PM pb K r.2 w'/\Fr (one pb) w0 w'/\∀ x,r.1=some x->HM pb rb 0 K r.2 x w0 w'
theorem qk (pb rb:Nat) (K:PK) (st:PSt) (x:Hd) (w0 w:World) (h:HM pb rb 0 K st x w0 w) (hxl:x.args.length<=1048576) :
  Calls Tryz.prog 89 #[pt pb,pt rb] w (PHd pb rb K w0 (bV K.ts st x)):=by
 have hA0:=hid (h.tag (.cells #[.string ⟨#[]⟩,.int .i64 0,.string ⟨#[]⟩,.int .i64 0,.int .i64 0,.string ⟨#[]⟩,.slice none 0 0] 63)); have hrT0:=hid (show (w.alloc (.cells #[.string ⟨#[]⟩,.int .i64 0,.string ⟨#[]⟩,.int .i64 0,.int .i64 0,.string ⟨#[]⟩,.slice none 0 0] 63)).heap[w.heap.size]? = some (.cells (aB tm0) 63 (0,0)) from af w _)
 have hp0:=hid (show Calls Tryz.prog 90 #[pt pb,.int .i64 0] (w.alloc (.cells #[.string ⟨#[]⟩,.int .i64 0,.string ⟨#[]⟩,.int .i64 0,.int .i64 0,.string ⟨#[]⟩,.slice none 0 0] 63)) fun e w'=>e=.returned (.agg #[iv (cV K st.nx).kind,sv (cV K st.nx).text,iv (cV K st.nx).n,iv (cV K st.nx).pos])/\Below (w.alloc (.cells #[.string ⟨#[]⟩,.int .i64 0,.string ⟨#[]⟩,.int .i64 0,.int .i64 0,.string ⟨#[]⟩,.slice none 0 0] 63)).heap.size (w.alloc (.cells #[.string ⟨#[]⟩,.int .i64 0,.string ⟨#[]⟩,.int .i64 0,.int .i64 0,.string ⟨#[]⟩,.slice none 0 0] 63)) w' from fo pb K st 0 (by decide) _ hA0.out.pm); have hw:=iy K st.nx; have hkn0:=iV (K:=K) (i:=st.nx); have hok:=h.pm.tok_ok st.nx; rw [← hw] at hok hkn0; have hn:=h.pm.nx
 have hl:=h.pm.len; have hpl:=h.pm.lt; have hrl:=h.lt; have hpr:=h.h1; obtain ⟨R,hR⟩:∃ R,R=bV K.ts st x:=⟨_,rfl⟩; rw [← hR]; unfold bV at hR; rw [← hw] at hR; obtain ⟨t,ht⟩:∃ t,t=cV K st.nx:=⟨_,rfl⟩; rw [← ht] at hp0 hR hok hkn0; replace hR:=hid hR; have hkn:t.kind≠0->st.nx < K.toks.length:=hkn0; have hv:=hid (fun w=>nj t.text w); obtain ⟨ag,hag⟩:∃ ag,ga t.text=ag:=⟨_,rfl⟩; rw [hag] at hv
 replace hR:=hid (show R=if t.kind=1/\ag≠0/\x.agg=0 then
  if (aW K.ts (am st) [40]).1=true then
   match eH K.ts (aW K.ts (am st) [40]).2 with
   | (none,s2)=>(none,s2)
   | (some u,s2)=>if (aW K.ts s2 [41]).1=true then (some ⟨x.rel,x.args++[u],ag,x.args.length⟩,(aW K.ts s2 [41]).2) else (none,(aW K.ts s2 [41]).2)
  else (none,(aW K.ts (am st) [40]).2)
 else match aT K.ts st with
  | (none,s1)=>(none,s1)
  | (some u,s1)=>(some ⟨x.rel,x.args++[u],x.agg,x.at_⟩,s1) from by rw [← hag]; exact hR.out)
 clear h hw hok hkn0; replace ht:=hid ht; replace hag:=hid hag
 have hszA:(w.alloc (.cells #[.string ⟨#[]⟩,.int .i64 0,.string ⟨#[]⟩,.int .i64 0,.int .i64 0,.string ⟨#[]⟩,.slice none 0 0] 63)).heap.size=w.heap.size+1:=by simp
 by_cases hc:t.kind=1/\ag≠0/\x.agg=0
 ·obtain ⟨a1,a2,a3⟩:=hc
  have b1:(t.kind == 1)=true:=by simpa using a1
  have b2:(ag != 0)=true:=by simpa using a2
  have b3:(x.agg == 0)=true:=by simpa using a3
  replace hR:=hid (hR.out.trans (if_pos ⟨a1,a2,a3⟩)); have hnl:=hkn (by rw [a1]; decide)
  have e1:IntKind.i64.wrap ((st.nx:Int)+1)=((st.nx+1:Nat):Int):=by rw [zX]; omega
  replace a1:=hid a1; replace a2:=hid a2; replace a3:=hid a3
  go_enter Tryz.func89,Tryz.ntmps89
  go_wp2_with fail
  with_reducible refine hp0.out.mono ?_
  rintro e w1 ⟨rfl,hb⟩; have hA1:=hid ((hA0.out.below hb).below ((zN w1.heap.size w1).alloc (zM _) (.cells #[iv t.kind,sv t.text,iv t.n,iv t.pos] 95))); have hl1:w.heap.size < w1.heap.size:=zS (by rw [hszA]; omega) hb.size; have hrT1:=hid (show (w1.alloc (.cells #[iv t.kind,sv t.text,iv t.n,iv t.pos] 95)).heap[w.heap.size]? = some (.cells (aB tm0) 63 (0,0)) from (z7 _ _ _ hl1).trans ((hb.block w.heap.size (by rw [hszA]; omega)).trans hrT0.out)); obtain ⟨d0,d1,d2,d3⟩:=bY (af w1 (.cells #[iv t.kind,sv t.text,iv t.n,iv t.pos] 95)); obtain ⟨ax,cx,hrow,-⟩:=hA1.out.row; obtain ⟨r0,r1,r2,r3,r4,r5,r6,rz⟩:=gE hrow; clear hb hA0 hrT0 rz; replace hrow:=hid hrow; have c1:=hA1.out.pm.cell (i:=1) (v:=iv st.nx) rfl
  have f1:=hA1.out.pm.free 1
  go_wp2_with fail
  with_reducible refine (hv.out _).mono ?_
  rintro e w2 ⟨rfl,rfl⟩; have hA2:=hid (show HM pb rb w.heap.size K (am st) x w0 ((w1.alloc (.cells #[iv t.kind,sv t.text,iv t.n,iv t.pos] 95)).setCell ⟨pb,1,none⟩ (.int .i64 ((st.nx:Int)+1))) from hA1.out.call (hA1.out.pm.setNx (st.nx+1) hnl) ((Fr.refl _ _).setCell (p:=⟨pb,1,none⟩) (Or.inl (show one pb pb from rfl)) _))
  have hpT:¬ w.heap.size=pb:=by omega
  have hrT2:=hid (show ((w1.alloc (.cells #[iv t.kind,sv t.text,iv t.n,iv t.pos] 95)).setCell ⟨pb,1,none⟩ (.int .i64 ((st.nx:Int)+1))).heap[w.heap.size]? = some (.cells (aB tm0) 63 (0,0)) from (ak _ hpT).trans hrT1.out); have hrK2:=hid (show ((w1.alloc (.cells #[iv t.kind,sv t.text,iv t.n,iv t.pos] 95)).setCell ⟨pb,1,none⟩ (.int .i64 ((st.nx:Int)+1))).heap[w1.heap.size]? = some (.cells #[iv t.kind,sv t.text,iv t.n,iv t.pos] 95) from (ak _ (by omega)).trans (af w1 (.cells #[iv t.kind,sv t.text,iv t.n,iv t.pos] 95))); have hneed:=hid (gH pb K (am st) [40] _ hA2.out.pm); obtain ⟨nb,hnb⟩:∃ nb,nb=aW K.ts (am st) [40]:=⟨_,rfl⟩; rw [← hnb] at hneed
  replace hR:=hid (show R=if nb.1=true then
    match eH K.ts nb.2 with
    | (none,s2)=>(none,s2)
    | (some u,s2)=>if (aW K.ts s2 [41]).1=true then (some ⟨x.rel,x.args++[u],ag,x.args.length⟩,(aW K.ts s2 [41]).2) else (none,(aW K.ts s2 [41]).2)
   else (none,nb.2) from by rw [hnb]; exact hR.out)
  replace hnb:=hid hnb; obtain ⟨nz,st2⟩:=nb
  go_wp2_with fail
  with_reducible refine hneed.out.mono ?_
  rintro e w3 ⟨rfl,hM3,hf3⟩; have hA3:=hid (show HM pb rb w.heap.size K st2 x w0 w3 from hA2.out.call hM3 hf3)
  have hpK:¬ w1.heap.size=pb:=by omega
  have hrT3:=hid ((hf3.block w.heap.size (aL hrT2.out) (fun e=>by unfold one at e; omega)).trans hrT2.out); have hrK3:=hid ((hf3.block w1.heap.size (aL hrK2.out) (fun e=>by unfold one at e; omega)).trans hrK2.out); clear hneed hM3 hf3 hrT2 hrK2 hA2 hA1 hrT1 hp0 r0 r1 r2 r3 r4 r5 r6 hrow
  cases nz with
  | false =>
   replace hR:=hid (show R=(none,st2) from hR.out)
   go_wp2_with fail
   go_ret; exact ⟨by rw [hR.out]; rfl,by rw [hR.out]; exact hA3.out.pm,hA3.out.fr,fun y hy=>by rw [hR.out] at hy; cases hy⟩
  | true =>
   replace hR:=hid (show R=(match eH K.ts st2 with
    | (none,s2)=>(none,s2)
    | (some u,s2)=>if (aW K.ts s2 [41]).1=true then (some ⟨x.rel,x.args++[u],ag,x.args.length⟩,(aW K.ts s2 [41]).2) else (none,(aW K.ts s2 [41]).2)) from hR.out)
   have hcall:=hid (jI pb K st2 w3 hA3.out.pm); generalize eH K.ts st2=ro at *; obtain ⟨ot,st3⟩:=ro
   go_wp2_with fail
   with_reducible refine hcall.out.mono ?_
   rintro e w4 ⟨rfl,hM4,hf4⟩; have hA4:=hid (show HM pb rb w.heap.size K st3 x w0 w4 from hA3.out.call hM4 hf4); have hrT4:=hid ((hf4.block w.heap.size (aL hrT3.out) (fun e=>by unfold one at e; omega)).trans hrT3.out); have hrK4:=hid ((hf4.block w1.heap.size (aL hrK3.out) (fun e=>by unfold one at e; omega)).trans hrK3.out); clear hcall hM4 hf4 hA3 hrT3 hrK3; obtain ⟨z0,z1,z2,z3,z4,z5,z6,fz⟩:=aH hrT4.out; have fz0:=fz 0; have fz1:=fz 1; have fz2:=fz 2; have fz3:=fz 3; have fz4:=fz 4; have fz5:=fz 5; have fz6:=fz 6; clear fz
   cases ot with
   | none =>
    replace hR:=hid (show R=(none,st3) from hR.out); have hA5:=hid (show HM pb rb w.heap.size K st3 x w0 (setTm w4 w.heap.size tm0) from hA4.out.setTm hrl tm0);go_wp2_with fail
    go_ret; exact ⟨by rw [hR.out]; rfl,by rw [hR.out]; exact hA5.out.pm,hA5.out.fr,fun y hy=>by rw [hR.out] at hy; cases hy⟩
   | some u =>
    replace hR:=hid (show R=(if (aW K.ts st3 [41]).1=true then (some ⟨x.rel,x.args++[u],ag,x.args.length⟩,(aW K.ts st3 [41]).2) else (none,(aW K.ts st3 [41]).2)) from hR.out); have hA5:=hid (show HM pb rb w.heap.size K st3 x w0 (setTm w4 w.heap.size u) from hA4.out.setTm hrl u); have hrT5:=hid (cK hrT4.out u); have hrK5:=hid (show (setTm w4 w.heap.size u).heap[w1.heap.size]? = some (.cells #[iv t.kind,sv t.text,iv t.n,iv t.pos] 95) from (a_ (by omega)).trans hrK4.out); have hneed:=hid (gH pb K st3 [41] _ hA5.out.pm); obtain ⟨nb,hnb⟩:∃ nb,nb=aW K.ts st3 [41]:=⟨_,rfl⟩; rw [← hnb] at hneed; replace hR:=hid (show R=if nb.1=true then (some ⟨x.rel,x.args++[u],ag,x.args.length⟩,nb.2) else (none,nb.2) from by rw [hnb]; exact hR.out); replace hnb:=hid hnb; obtain ⟨nz,st4⟩:=nb;go_wp2_with fail;(with_reducible refine hneed.out.mono ?_);rintro e w6 ⟨rfl,hM6,hf6⟩; have hA6:=hid (show HM pb rb w.heap.size K st4 x w0 w6 from hA5.out.call hM6 hf6); have hrT6:=hid ((hf6.block w.heap.size (aL hrT5.out) (fun e=>by unfold one at e; omega)).trans hrT5.out); have hrK6:=hid ((hf6.block w1.heap.size (aL hrK5.out) (fun e=>by unfold one at e; omega)).trans hrK5.out); clear hneed hM6 hf6 hA5 hrT5 hrK5 hA4 hrT4 hrK4 z0 z1 z2 z3 z4 z5 z6 fz0 fz1 fz2 fz3 fz4 fz5 fz6 d0 d1 d2 d3
    cases nz with
    | false =>
     replace hR:=hid (show R=(none,st4) from hR.out);go_wp2_with fail
     go_ret; exact ⟨by rw [hR.out]; rfl,by rw [hR.out]; exact hA6.out.pm,hA6.out.fr,fun y hy=>by rw [hR.out] at hy; cases hy⟩
    | true =>
     replace hR:=hid (show R=(some ⟨x.rel,x.args++[u],ag,x.args.length⟩,st4) from hR.out); have hrl6:=hA6.out.lt; obtain ⟨d0,d1,d2,d3⟩:=bY hrK6.out; obtain ⟨ax,cx,hrow,-⟩:=hA6.out.row; obtain ⟨r0,r1,r2,r3,r4,r5,r6,rz⟩:=gE hrow; have rz4:=rz 4; have rz5:=rz 5; clear rz; replace hrow:=hid hrow; have hA7:=hid ((hA6.out.below ((zN _ w6).drew)).setAgg ag x.args.length);(have hpr2:¬ w1.heap.size=rb:=by omega);(have hpr3:¬ rb=w1.heap.size:=by omega);have o1:((w6.setCell ⟨rb,4,none⟩ (iv ag))).cell? ⟨w1.heap.size,1,none⟩=some (sv t.text):=(aj ((ak _ hpr2).trans hrK6.out)).trans rfl; have o2:(((w6.setCell ⟨rb,4,none⟩ (iv ag))).setCell ⟨rb,5,none⟩ (iv x.args.length)).cell? ⟨w1.heap.size,1,none⟩=some (sv t.text):=(aj ((ak _ hpr2).trans ((ak _ hpr2).trans hrK6.out))).trans rfl; have o3:((w6.setCell ⟨rb,4,none⟩ (iv ag))).cell? ⟨rb,3,none⟩=some (.slice ax x.args.length cx):=(aj (aC hrow.out (i:=4) (iv ag))).trans (by simp);have o4:(((w6.setCell ⟨rb,4,none⟩ (iv ag))).setCell ⟨rb,5,none⟩ (iv x.args.length)).cell? ⟨rb,3,none⟩=some (.slice ax x.args.length cx):=(aj (aC (aC hrow.out (i:=4) (iv ag)) (i:=5) (iv x.args.length))).trans (by simp);go_wp2_with fail;refine wp_region_held_drew (S:=fun w'=>w'.cell? ⟨w1.heap.size,1,none⟩=some (sv t.text)/\w'.cell? ⟨rb,3,none⟩=some (.slice ax x.args.length cx)) (by kernel_rfl) ?_ (fun hHeld=>?_)
     ·exact ⟨d1,r3⟩
     refine wTk (i:=0) (v:=?_) rfl ?hy ?_
     case hy =>
      intro w hSw; obtain ⟨s0,s1⟩:=hSw; go_simp
      all_goals with_reducible rfl
     (try simp only [Act.put,sI,sZ,sS]);refine wTk (i:=1) (v:=?_) rfl ?hy ?_
     case hy =>
      intro w hSw; obtain ⟨s0,s1⟩:=hSw; go_simp
      all_goals with_reducible rfl
     (try simp only [Act.put,sI,sZ,sS]);refine wTk (i:=2) (v:=?_) rfl ?hy ?_
     case hy =>
      intro w hSw; obtain ⟨s0,s1⟩:=hSw; go_simp
      all_goals with_reducible rfl
     (try simp only [Act.put,sI,sZ,sS]);refine wTk (i:=3) (v:=?_) rfl ?hy ?_
     case hy =>
      intro w hSw; obtain ⟨s0,s1⟩:=hSw; go_simp
      all_goals with_reducible rfl
     (try simp only [Act.put,sI,sZ,sS]);refine wTk (i:=5) (v:=?_) rfl ?hy ?_
     case hy =>
      intro w hSw; obtain ⟨s0,s1⟩:=hSw; go_simp
      all_goals with_reducible rfl
     (try simp only [Act.put,sI,sZ,sS]);refine wTk (i:=6) (v:=?_) rfl ?hy ?_
     case hy =>
      intro w hSw; obtain ⟨s0,s1⟩:=hSw; go_simp
      all_goals with_reducible rfl
     (try simp only [Act.put,sI,sZ,sS]);refine wTk (i:=7) (v:=?_) rfl ?hy ?_
     case hy =>
      intro w hSw; obtain ⟨s0,s1⟩:=hSw; go_simp
      all_goals with_reducible rfl
     (try simp only [Act.put,sI,sZ,sS]);refine wTk (i:=8) (v:=?_) rfl ?hy ?_
     case hy =>
      intro w hSw; obtain ⟨s0,s1⟩:=hSw; go_simp
      all_goals with_reducible rfl
     (try simp only [Act.put,sI,sZ,sS]);refine wTk (i:=9) (v:=?_) rfl ?hy ?_
     case hy =>
      intro w hSw; obtain ⟨s0,s1⟩:=hSw; go_simp
      all_goals with_reducible rfl
     (try simp only [Act.put,sI,sZ,sS]);refine wTk (i:=10) (v:=?_) rfl ?hy ?_
     case hy =>
      intro w hSw; obtain ⟨s0,s1⟩:=hSw; go_simp
      all_goals with_reducible rfl
     (try simp only [Act.put,sI,sZ,sS]);refine wpAnyH_ready (rs:=[4]) (by as_aux_lemma=>kernel_rfl) (by simp) ?_; refine rdY rfl (fun K hK=>?_); go_simp;go_at_call 111;(with_reducible refine (hv.out _).mono ?_);rintro e w9 ⟨rfl,rfl⟩; refine hK.out _ _ ?_ (fun hHeld2=>?_)
     ·exact ⟨d1,r3⟩
     clear hK K hHeld; have hHeld:=hHeld2; clear hHeld2;(try simp only [Act.put,sI,sZ,sS]);refine wTk (i:=11) (v:=?_) rfl ?hy ?_
     case hy =>
      intro w hSw; obtain ⟨s0,s1⟩:=hSw; go_simp
      all_goals with_reducible rfl
     (try simp only [Act.put,sI,sZ,sS]);refine wTk (i:=12) (v:=?_) rfl ?hy ?_
     case hy =>
      intro w hSw; obtain ⟨s0,s1⟩:=hSw; go_simp
      all_goals with_reducible rfl
     (try simp only [Act.put,sI,sZ,sS]);refine wpAnyH_ready (rs:=[13]) (by as_aux_lemma=>kernel_rfl) (by simp) ?_; refine rdY rfl (fun K hK=>?_); go_simp
     skip
     refine hK.out _ _ ?_ (fun hHeld2=>?_)
     ·exact ⟨o1,o3⟩
     clear hK K hHeld; have hHeld:=hHeld2; clear hHeld2;(try simp only [Act.put,sI,sZ,sS]);refine wTk (i:=14) (v:=?_) rfl ?hy ?_
     case hy =>
      intro w hSw; obtain ⟨s0,s1⟩:=hSw; go_simp
      all_goals with_reducible rfl
     (try simp only [Act.put,sI,sZ,sS]);refine wTk (i:=15) (v:=?_) rfl ?hy ?_
     case hy =>
      intro w hSw; obtain ⟨s0,s1⟩:=hSw; go_simp
      all_goals with_reducible rfl
     (try simp only [Act.put,sI,sZ,sS]);refine wpAnyH_ready (rs:=[16]) (by as_aux_lemma=>kernel_rfl) (by simp) ?_; refine rdY rfl (fun K hK=>?_); go_simp
     skip
     refine hK.out _ _ ?_ (fun hHeld2=>?_)
     ·exact ⟨o2,o4⟩
     clear hK K hHeld; have hHeld:=hHeld2; clear hHeld2;(try simp only [Act.put,sI,sZ,sS]);refine wpAnyH_done (by as_aux_lemma=>kernel_rfl) ?_ _;go_wp2_with fail;change Code.wp _ _ _ _ ((w6.drew.setCell ⟨rb,4,none⟩ (iv ag)).setCell ⟨rb,5,none⟩ (iv x.args.length)); have hrT7:=hid (show ((w6.drew.setCell ⟨rb,4,none⟩ (iv ag)).setCell ⟨rb,5,none⟩ (iv x.args.length)).heap[w.heap.size]? = some (.cells (aB u) 63 (0,0)) from (ak _ (by omega)).trans ((ak _ (by omega)).trans hrT6.out)); clear hA6 hrT6 hrK6 r0 r1 r2 r3 r4 r5 r6 hrow rz4 rz5 o1 o2 o3 o4 d0 d1 d2 d3; obtain ⟨x2,hx2⟩:∃ x2:Hd,x2=⟨x.rel,x.args,ag,x.args.length⟩:=⟨_,rfl⟩; rw [← hx2] at hA7;(have hxl2:x2.args.length<=1048576:=by rw [hx2]; exact hxl);replace hR:=hid (show R=(some ⟨x2.rel,x2.args++[u],x2.agg,x2.at_⟩,st4) from by rw [hx2]; exact hR.out); replace hx2:=hid hx2; generalize (w6.drew.setCell ⟨rb,4,none⟩ (iv ag)).setCell ⟨rb,5,none⟩ (iv x.args.length)=W4 at *; have hA5:=hid (hA7.out.below ((zN _ W4).drew)); have hrT5:W4.drew.heap[w.heap.size]? = some (.cells (aB u) 63 (0,0)):=hrT7.out; obtain ⟨ay,cy,k0,az,cz,W5,hap,k1,⟨kv,k2⟩,hA6⟩:=hA5.out.push (aL hrT5) u hxl2; obtain ⟨m0,m1,m2,m3,m4,m5,m6,-⟩:=aH hrT5; have k3:(W4.drew.alloc (.cells (aB u) 63)).cell? ⟨rb,3,none⟩=some (.slice ay x2.args.length cy):=(World.cell?_alloc_some _ _ _ (by rw [k0]; rfl)).trans k0; have k4:(W4.alloc (.cells (aB u) 63)).cell? ⟨rb,3,none⟩=some (.slice ay x2.args.length cy):=k3;have k5:W4.cell? ⟨rb,3,none⟩=some (.slice ay x2.args.length cy):=k0; replace hrT5:=hid hrT5; replace hA6:=hid hA6; clear hA7 hrT7;go_region_law (refine cq (by rfl) (.tmp 75) (.tmp 77) (by rfl) (by rfl) (by rfl) hap ?_)
     all_goals go_wp2_with fail
     all_goals go_ret
     all_goals exact ⟨by rw [hR.out]; rfl,by rw [hR.out]; exact hA6.out.pm,hA6.out.fr,fun y hy=>by rw [hR.out] at hy; cases hy; rw [hR.out]; exact hA6.out⟩
 ·replace hR:=hid (hR.out.trans (if_neg hc))
  have hcall:=hid (fun w' (hp:PM pb K st w')=>lP pb K st w' hp); generalize aT K.ts st=ro at *; obtain ⟨ot,st3⟩:=ro; replace hcall:=hid (fun w' (hp:PM pb K st w')=>hcall.out w' hp)
  have hcs:(¬ t.kind=1)\/(t.kind=1/\ag=0)\/(t.kind=1/\¬ ag=0/\¬ x.agg=0):=by
   by_cases a1:t.kind=1
   ·by_cases a2:ag=0
    ·exact Or.inr (Or.inl ⟨a1,a2⟩)
    ·exact Or.inr (Or.inr ⟨a1,a2,fun a3=>hc ⟨a1,a2,a3⟩⟩)
   ·exact Or.inl a1
  clear hc; rcases hcs with a1 | ⟨a1,a2⟩ | ⟨a1,a2,a3⟩
  ·have b1:(t.kind == 1)=false:=by simpa using a1
   replace a1:=hid a1
   go_enter Tryz.func89,Tryz.ntmps89
   go_wp2_with fail
   with_reducible refine hp0.out.mono ?_
   rintro e w1 ⟨rfl,hb⟩; have hA1:=hid ((hA0.out.below hb).below ((zN w1.heap.size w1).alloc (zM _) (.cells #[iv t.kind,sv t.text,iv t.n,iv t.pos] 95))); have hl1:w.heap.size < w1.heap.size:=zS (by rw [hszA]; omega) hb.size; have hrT1:=hid (show (w1.alloc (.cells #[iv t.kind,sv t.text,iv t.n,iv t.pos] 95)).heap[w.heap.size]? = some (.cells (aB tm0) 63 (0,0)) from (z7 _ _ _ hl1).trans ((hb.block w.heap.size (by rw [hszA]; omega)).trans hrT0.out)); obtain ⟨d0,d1,d2,d3⟩:=bY (af w1 (.cells #[iv t.kind,sv t.text,iv t.n,iv t.pos] 95)); obtain ⟨ax,cx,hrow,-⟩:=hA1.out.row; obtain ⟨r0,r1,r2,r3,r4,r5,r6,rz⟩:=gE hrow; clear hb hA0 hrT0 rz; replace hrow:=hid hrow
   go_wp2_with fail
   with_reducible refine (hcall.out _ hA1.out.pm).mono ?_
   rintro e w3 ⟨rfl,hM3,hf3⟩; have hA3:=hid (hA1.out.call hM3 hf3); have hlT:w.heap.size < (w1.alloc (.cells #[iv t.kind,sv t.text,iv t.n,iv t.pos] 95)).heap.size:=aL hrT1.out; have hrT3:=hid ((hf3.block w.heap.size hlT (fun e=>by unfold one at e; omega)).trans hrT1.out); obtain ⟨z0,z1,z2,z3,z4,z5,z6,fz⟩:=aH hrT3.out; have fz0:=fz 0; have fz1:=fz 1; have fz2:=fz 2; have fz3:=fz 3; have fz4:=fz 4; have fz5:=fz 5; have fz6:=fz 6; clear fz hM3 hf3 hrT1
   cases ot with
   | none =>
    replace hR:=hid (show R=(none,st3) from hR.out); have hA4:=hid (show HM pb rb w.heap.size K st3 x w0 (setTm w3 w.heap.size tm0) from hA3.out.setTm hrl tm0);go_wp2_with fail
    go_ret; exact ⟨by rw [hR.out]; rfl,by rw [hR.out]; exact hA4.out.pm,hA4.out.fr,fun y hy=>by rw [hR.out] at hy; cases hy⟩
   | some u =>
    replace hR:=hid (show R=(some ⟨x.rel,x.args++[u],x.agg,x.at_⟩,st3) from hR.out); have hA4:=hid (show HM pb rb w.heap.size K st3 x w0 (setTm w3 w.heap.size u) from hA3.out.setTm hrl u); have hrT4:=hid (cK hrT3.out u);go_wp2_with fail;change Code.wp _ _ _ _ (setTm w3 w.heap.size u); clear fz0 fz1 fz2 fz3 fz4 fz5 fz6 z0 z1 z2 z3 z4 z5 z6 hA3 hrT3 r0 r1 r2 r3 r4 r5 r6 hrow; generalize setTm w3 w.heap.size u=W4 at *; have hA5:=hid (hA4.out.below ((zN _ W4).drew)); have hrT5:W4.drew.heap[w.heap.size]? = some (.cells (aB u) 63 (0,0)):=hrT4.out; obtain ⟨ay,cy,k0,az,cz,W5,hap,k1,⟨kv,k2⟩,hA6⟩:=hA5.out.push (aL hrT5) u hxl; obtain ⟨m0,m1,m2,m3,m4,m5,m6,-⟩:=aH hrT5; have k3:(W4.drew.alloc (.cells (aB u) 63)).cell? ⟨rb,3,none⟩=some (.slice ay x.args.length cy):=(World.cell?_alloc_some _ _ _ (by rw [k0]; rfl)).trans k0; have k4:(W4.alloc (.cells (aB u) 63)).cell? ⟨rb,3,none⟩=some (.slice ay x.args.length cy):=k3; have k5:W4.cell? ⟨rb,3,none⟩=some (.slice ay x.args.length cy):=k0;replace hrT5:=hid hrT5; replace hA6:=hid hA6; clear hA4 hrT4;go_region_law (refine cq (by rfl) (.tmp 75) (.tmp 77) (by rfl) (by rfl) (by rfl) hap ?_)
    all_goals go_wp2_with fail
    all_goals go_ret
    all_goals exact ⟨by rw [hR.out]; rfl,by rw [hR.out]; exact hA6.out.pm,hA6.out.fr,fun y hy=>by rw [hR.out] at hy; cases hy; rw [hR.out]; exact hA6.out⟩
  ·have b1:(t.kind == 1)=true:=by simpa using a1
   have b2:(ag != 0)=false:=by simpa using a2
   replace a1:=hid a1; replace a2:=hid a2
   go_enter Tryz.func89,Tryz.ntmps89
   go_wp2_with fail
   with_reducible refine hp0.out.mono ?_
   rintro e w1 ⟨rfl,hb⟩; have hA1:=hid ((hA0.out.below hb).below ((zN w1.heap.size w1).alloc (zM _) (.cells #[iv t.kind,sv t.text,iv t.n,iv t.pos] 95))); have hl1:w.heap.size < w1.heap.size:=zS (by rw [hszA]; omega) hb.size; have hrT1:=hid (show (w1.alloc (.cells #[iv t.kind,sv t.text,iv t.n,iv t.pos] 95)).heap[w.heap.size]? = some (.cells (aB tm0) 63 (0,0)) from (z7 _ _ _ hl1).trans ((hb.block w.heap.size (by rw [hszA]; omega)).trans hrT0.out)); obtain ⟨d0,d1,d2,d3⟩:=bY (af w1 (.cells #[iv t.kind,sv t.text,iv t.n,iv t.pos] 95)); obtain ⟨ax,cx,hrow,-⟩:=hA1.out.row; obtain ⟨r0,r1,r2,r3,r4,r5,r6,rz⟩:=gE hrow; clear hb hA0 hrT0 rz; replace hrow:=hid hrow
   go_wp2_with fail
   with_reducible refine (hv.out _).mono ?_
   rintro e w2 ⟨rfl,rfl⟩
   go_wp2_with fail
   with_reducible refine (hcall.out _ hA1.out.pm).mono ?_
   rintro e w3 ⟨rfl,hM3,hf3⟩; have hA3:=hid (hA1.out.call hM3 hf3); have hlT:w.heap.size < (w1.alloc (.cells #[iv t.kind,sv t.text,iv t.n,iv t.pos] 95)).heap.size:=aL hrT1.out; have hrT3:=hid ((hf3.block w.heap.size hlT (fun e=>by unfold one at e; omega)).trans hrT1.out); obtain ⟨z0,z1,z2,z3,z4,z5,z6,fz⟩:=aH hrT3.out; have fz0:=fz 0; have fz1:=fz 1; have fz2:=fz 2; have fz3:=fz 3; have fz4:=fz 4; have fz5:=fz 5; have fz6:=fz 6; clear fz hM3 hf3 hrT1
   cases ot with
   | none =>
    replace hR:=hid (show R=(none,st3) from hR.out); have hA4:=hid (show HM pb rb w.heap.size K st3 x w0 (setTm w3 w.heap.size tm0) from hA3.out.setTm hrl tm0);go_wp2_with fail
    go_ret; exact ⟨by rw [hR.out]; rfl,by rw [hR.out]; exact hA4.out.pm,hA4.out.fr,fun y hy=>by rw [hR.out] at hy; cases hy⟩
   | some u =>
    replace hR:=hid (show R=(some ⟨x.rel,x.args++[u],x.agg,x.at_⟩,st3) from hR.out); have hA4:=hid (show HM pb rb w.heap.size K st3 x w0 (setTm w3 w.heap.size u) from hA3.out.setTm hrl u); have hrT4:=hid (cK hrT3.out u);go_wp2_with fail;change Code.wp _ _ _ _ (setTm w3 w.heap.size u); clear fz0 fz1 fz2 fz3 fz4 fz5 fz6 z0 z1 z2 z3 z4 z5 z6 hA3 hrT3 r0 r1 r2 r3 r4 r5 r6 hrow; generalize setTm w3 w.heap.size u=W4 at *; have hA5:=hid (hA4.out.below ((zN _ W4).drew)); have hrT5:W4.drew.heap[w.heap.size]? = some (.cells (aB u) 63 (0,0)):=hrT4.out; obtain ⟨ay,cy,k0,az,cz,W5,hap,k1,⟨kv,k2⟩,hA6⟩:=hA5.out.push (aL hrT5) u hxl; obtain ⟨m0,m1,m2,m3,m4,m5,m6,-⟩:=aH hrT5; have k3:(W4.drew.alloc (.cells (aB u) 63)).cell? ⟨rb,3,none⟩=some (.slice ay x.args.length cy):=(World.cell?_alloc_some _ _ _ (by rw [k0]; rfl)).trans k0; have k4:(W4.alloc (.cells (aB u) 63)).cell? ⟨rb,3,none⟩=some (.slice ay x.args.length cy):=k3; have k5:W4.cell? ⟨rb,3,none⟩=some (.slice ay x.args.length cy):=k0;replace hrT5:=hid hrT5; replace hA6:=hid hA6; clear hA4 hrT4;go_region_law (refine cq (by rfl) (.tmp 75) (.tmp 77) (by rfl) (by rfl) (by rfl) hap ?_)
    all_goals go_wp2_with fail
    all_goals go_ret
    all_goals exact ⟨by rw [hR.out]; rfl,by rw [hR.out]; exact hA6.out.pm,hA6.out.fr,fun y hy=>by rw [hR.out] at hy; cases hy; rw [hR.out]; exact hA6.out⟩
  ·have b1:(t.kind == 1)=true:=by simpa using a1
   have b2:(ag != 0)=true:=by simpa using a2
   have b3:(x.agg == 0)=false:=by simpa using a3
   replace a1:=hid a1; replace a2:=hid a2; replace a3:=hid a3
   go_enter Tryz.func89,Tryz.ntmps89
   go_wp2_with fail
   with_reducible refine hp0.out.mono ?_
   rintro e w1 ⟨rfl,hb⟩; have hA1:=hid ((hA0.out.below hb).below ((zN w1.heap.size w1).alloc (zM _) (.cells #[iv t.kind,sv t.text,iv t.n,iv t.pos] 95))); have hl1:w.heap.size < w1.heap.size:=zS (by rw [hszA]; omega) hb.size; have hrT1:=hid (show (w1.alloc (.cells #[iv t.kind,sv t.text,iv t.n,iv t.pos] 95)).heap[w.heap.size]? = some (.cells (aB tm0) 63 (0,0)) from (z7 _ _ _ hl1).trans ((hb.block w.heap.size (by rw [hszA]; omega)).trans hrT0.out)); obtain ⟨d0,d1,d2,d3⟩:=bY (af w1 (.cells #[iv t.kind,sv t.text,iv t.n,iv t.pos] 95)); obtain ⟨ax,cx,hrow,-⟩:=hA1.out.row; obtain ⟨r0,r1,r2,r3,r4,r5,r6,rz⟩:=gE hrow; clear hb hA0 hrT0 rz; replace hrow:=hid hrow
   go_wp2_with fail
   with_reducible refine (hv.out _).mono ?_
   rintro e w2 ⟨rfl,rfl⟩
   go_wp2_with fail
   with_reducible refine (hcall.out _ hA1.out.pm).mono ?_
   rintro e w3 ⟨rfl,hM3,hf3⟩; have hA3:=hid (hA1.out.call hM3 hf3); have hlT:w.heap.size < (w1.alloc (.cells #[iv t.kind,sv t.text,iv t.n,iv t.pos] 95)).heap.size:=aL hrT1.out; have hrT3:=hid ((hf3.block w.heap.size hlT (fun e=>by unfold one at e; omega)).trans hrT1.out); obtain ⟨z0,z1,z2,z3,z4,z5,z6,fz⟩:=aH hrT3.out; have fz0:=fz 0; have fz1:=fz 1; have fz2:=fz 2; have fz3:=fz 3; have fz4:=fz 4; have fz5:=fz 5; have fz6:=fz 6; clear fz hM3 hf3 hrT1
   cases ot with
   | none =>
    replace hR:=hid (show R=(none,st3) from hR.out); have hA4:=hid (show HM pb rb w.heap.size K st3 x w0 (setTm w3 w.heap.size tm0) from hA3.out.setTm hrl tm0);go_wp2_with fail
    go_ret; exact ⟨by rw [hR.out]; rfl,by rw [hR.out]; exact hA4.out.pm,hA4.out.fr,fun y hy=>by rw [hR.out] at hy; cases hy⟩
   | some u =>
    replace hR:=hid (show R=(some ⟨x.rel,x.args++[u],x.agg,x.at_⟩,st3) from hR.out); have hA4:=hid (show HM pb rb w.heap.size K st3 x w0 (setTm w3 w.heap.size u) from hA3.out.setTm hrl u); have hrT4:=hid (cK hrT3.out u);go_wp2_with fail;change Code.wp _ _ _ _ (setTm w3 w.heap.size u); clear fz0 fz1 fz2 fz3 fz4 fz5 fz6 z0 z1 z2 z3 z4 z5 z6 hA3 hrT3 r0 r1 r2 r3 r4 r5 r6 hrow; generalize setTm w3 w.heap.size u=W4 at *; have hA5:=hid (hA4.out.below ((zN _ W4).drew)); have hrT5:W4.drew.heap[w.heap.size]? = some (.cells (aB u) 63 (0,0)):=hrT4.out; obtain ⟨ay,cy,k0,az,cz,W5,hap,k1,⟨kv,k2⟩,hA6⟩:=hA5.out.push (aL hrT5) u hxl; obtain ⟨m0,m1,m2,m3,m4,m5,m6,-⟩:=aH hrT5; have k3:(W4.drew.alloc (.cells (aB u) 63)).cell? ⟨rb,3,none⟩=some (.slice ay x.args.length cy):=(World.cell?_alloc_some _ _ _ (by rw [k0]; rfl)).trans k0; have k4:(W4.alloc (.cells (aB u) 63)).cell? ⟨rb,3,none⟩=some (.slice ay x.args.length cy):=k3; have k5:W4.cell? ⟨rb,3,none⟩=some (.slice ay x.args.length cy):=k0;replace hrT5:=hid hrT5; replace hA6:=hid hA6; clear hA4 hrT4;go_region_law (refine cq (by rfl) (.tmp 75) (.tmp 77) (by rfl) (by rfl) (by rfl) hap ?_)
    all_goals go_wp2_with fail
    all_goals go_ret
    all_goals exact ⟨by rw [hR.out]; rfl,by rw [hR.out]; exact hA6.out.pm,hA6.out.fr,fun y hy=>by rw [hR.out] at hy; cases hy; rw [hR.out]; exact hA6.out⟩
end Go.Proofs.YtffdpoifdahadaaGreatDoor
