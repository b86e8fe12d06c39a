/- ask: writing rules and queries. -/
import Derived.Test.YtffdpoifdahadaaGreatDoorAskYg
set_option linter.unusedVariables false
set_option linter.unusedSimpArgs false
set_option maxHeartbeats 40000000
set_option maxRecDepth 100000
namespace Go.Proofs.YtffdpoifdahadaaGreatDoor
open Go.RowKit
open Go.Lib (hid byteCells itoa)
def LgB (x:Lg):Prop:=x.rel.length<=40000/\x.args.length<=100000/\∀ t∈x.args,t.var.length<=40000
def RgB (r:Rg):Prop:=LgB r.head/\r.body.length<=100000/\∀ x∈r.body,LgB x
theorem oh (al:Bool):∀ (args:List Tg) (first:Bool) (l:List UInt8) (n:Nat) (p:List UInt8 × Nat),(∀ t∈args,t.var.length<=40000)->eo al first args l n=some p->p.1.length<=l.length+args.length * 40002/\p.2<=n+args.length
 | [],_,l,n,p,_,h=>by injection h with h; subst h; exact ⟨by show l.length<=_; omega,by show n<=_; omega⟩
 | t::r,first,l,n,p,hv,h=>by
  unfold eo at h
  cases ht:aX al t (if first then l else l++[44,32]) n with
  | none=>rw [ht] at h; cases h
  | some q =>
   rw [ht] at h; have h1:=cZ (hv t (by simp)) ht; have h2:=oh al r false q.1 q.2 p (fun t ht=>hv t (by simp [ht])) h
   have h3:(if first=true then l else l++[44,32]).length<=l.length+2:=by cases first <;> simp
   simp only [zT,Nat.succ_mul]; omega
theorem uO {x:Lg} {l:List UInt8} {n:Nat} {p:List UInt8 × Nat} (hb:LgB x) (h:iQ x l n=some p):p.1.length<=l.length+4000300000/\p.2<=n+100000:=by
 obtain ⟨h1,h2,h3⟩:=hb; unfold iQ at h; split at h
 ·cases h
 ·cases ha:eo true true x.args ((if x.nt then l++[110,111,116,32] else l)++(x.rel++[40])) n with
  | none=>rw [ha] at h; cases h
  | some q =>
   rw [ha] at h; injection h with h; subst h; have h4:=oh true _ _ _ _ _ h3 ha
   have h5:((if x.nt then l++[110,111,116,32] else l)++(x.rel++[40])).length<=l.length+40005:=by
    cases x.nt <;> simp <;> omega
   have h6:x.args.length * 40002<=100000 * 40002:=Ak _ h2; refine ⟨?_,by show q.2<=_; omega⟩; show (q.1++[41]).length<=_; rw [zQ]; simp only [zT,z_]; omega
theorem pL (mk:List UInt8) (hm:mk.length<=4):∀ (args:List Tg) (i:Nat) (l:List UInt8) (n:Nat) (p:List UInt8 × Nat),(∀ t∈args,t.var.length<=40000)->dK mk i args l n=some p->p.1.length<=l.length+args.length * 40010/\p.2<=n+args.length
 | [],_,l,n,p,_,h=>by injection h with h; subst h; exact ⟨by show l.length<=_; omega,by show n<=_; omega⟩
 | t::r,i,l,n,p,hv,h=>by
  unfold dK at h
  cases ht:aX false t (if i=1 then l++mk else if i=2 then l++[32,43,32] else l) n with
  | none=>rw [ht] at h; cases h
  | some q =>
   rw [ht] at h; have h1:=cZ (hv t (by simp)) ht; have h2:=pL mk hm r (i+1) q.1 q.2 p (fun t ht=>hv t (by simp [ht])) h
   have h3:(if i=1 then l++mk else if i=2 then l++[32,43,32] else l).length<=l.length+4:=by
    split
    ·simp; omega
    ·split <;> simp
   simp only [zT,Nat.succ_mul]; omega
theorem sQ (op:Int):(mkW op).length<=4:=by unfold mkW; split; simp; split; simp; split <;> simp
theorem wF {x:Lg} {l:List UInt8} {n:Nat} {p:List UInt8 × Nat} (hb:LgB x) (h:fa x l n=some p):p.1.length<=l.length+4002000000/\p.2<=n+100000:=by
 unfold fa at h; split at h
 ·have:=uO hb h; omega
 ·split at h
  ·cases h
  ·by_cases hc:x.args.length≠(if x.op=5 then 3 else 2)
   ·rw [if_pos hc] at h; cases h
   ·rw [if_neg hc] at h
    have h1:=pL _ (sQ _) _ _ _ _ _ hb.2.2 h; have h6:x.args.length * 40010<=100000 * 40010:=Ak _ hb.2.1; have:=hb.2.1; omega
theorem mH (agg at_:Int):∀ (args:List Tg) (i:Nat) (l:List UInt8) (n:Nat) (p:List UInt8 × Nat),(∀ t∈args,t.var.length<=40000)->bK agg at_ i args l n=some p->p.1.length<=l.length+args.length * 40020/\p.2<=n+args.length
 | [],_,l,n,p,_,h=>by injection h with h; subst h; exact ⟨by show l.length<=_; omega,by show n<=_; omega⟩
 | t::r,i,l,n,p,hv,h=>by
  unfold bK at h
  have hn:(di agg).length<=5:=by unfold di; split; simp; split; simp; split <;> simp
  have h3:(if decide (agg≠0/\(i:Int)=at_)=true then (if decide (i=0)=true then l else l++[44,32])++(di agg++[40]) else (if decide (i=0)=true then l else l++[44,32])).length<=l.length+8:=by
   have h4:(if decide (i=0)=true then l else l++[44,32]).length<=l.length+2:=by split <;> simp
   split
   ·rw [zQ,zQ]; simp only [zT,z_]; omega
   ·omega
  generalize (if decide (agg≠0/\(i:Int)=at_)=true then (if decide (i=0)=true then l else l++[44,32])++(di agg++[40]) else (if decide (i=0)=true then l else l++[44,32]))=L at h h3
  cases ht:aX false t L n with
  | none=>rw [ht] at h; cases h
  | some q =>
   rw [ht] at h; have h1:=cZ (hv t (by simp)) ht; have h2:=mH agg at_ r (i+1) _ q.2 p (fun t ht=>hv t (by simp [ht])) h
   have h5:(if decide (agg≠0/\(i:Int)=at_)=true then q.1++[41] else q.1).length<=q.1.length+1:=by split <;> simp
   simp only [zT,Nat.succ_mul]; omega
theorem n9 {r:Rg} {l:List UInt8} {n:Nat} {p:List UInt8 × Nat} (hb:LgB r.head) (h:gK r l n=some p):p.1.length<=l.length+4003000000/\p.2<=n+100000:=by
 obtain ⟨h1,h2,h3⟩:=hb; unfold gK at h; split at h
 ·cases h
 ·split at h
  ·cases h
  ·split at h
   ·cases h
   ·cases ha:bK r.agg r.at_ 0 r.head.args (l++(r.head.rel++[40])) n with
    | none=>rw [ha] at h; cases h
    | some q =>
     rw [ha] at h; injection h with h; subst h; have h4:=mH _ _ _ _ _ _ _ h3 ha; rw [zQ,zQ] at h4; simp only [zT,z_] at h4; have h6:r.head.args.length * 40020<=100000 * 40020:=Ak _ h2; refine ⟨?_,by show q.2<=_; omega⟩; show (q.1++[41]).length<=_; rw [zQ]; simp only [zT,z_]; omega
def dD:Nat->List Lg->List UInt8->Nat->Option (List UInt8 × Nat)
 | _,[],l,n=>some (l,n)
 | i,x::r,l,n=>(fa x (l++(if decide (i=0)=true then [32,58,45,32] else [44,32])) n).bind fun p=>if 32768 < p.1.length then none else dD (i+1) r p.1 p.2
def gC (r:Rg) (l:List UInt8):Option (List UInt8 × Nat):=(gK r l 0).bind fun p=>(dD 0 r.body p.1 p.2).map fun q=>(q.1++[46,10],q.2)
def eY:List Rg->List UInt8->Option (List UInt8)
 | [],l=>some l
 | r::rs,l=>(gC r l).bind fun p=>eY rs p.1
def cI (q:Qg):Option (List UInt8) :=
 if 64 < q.rules.length\/q.goal.op≠0\/q.goal.nt=true then none
 else (eY q.rules []).bind fun l=>(fa q.goal (l++[63,32]) 0).bind fun p=>if 32768 < p.1.length then none else some p.1
theorem uL:∀ (body:List Lg) (i:Nat) (l:List UInt8) (n:Nat) (p:List UInt8 × Nat),dD i body l n=some p->p.1.length<=l.length+32768
 | [],_,l,n,p,h=>by injection h with h; subst h; show l.length<=_; omega
 | x::r,i,l,n,p,h=>by
  unfold dD at h
  cases ht:fa x (l++(if decide (i=0)=true then [32,58,45,32] else [44,32])) n with
  | none=>rw [ht] at h; cases h
  | some q =>
   rw [ht] at h; replace h:(if 32768 < q.1.length then none else dD (i+1) r q.1 q.2)=some p:=h; split at h
   ·cases h
   ·rename_i hq
    have:=bodyW_body r (i+1) q.1 q.2 p h; omega
where bodyW_body:∀ (body:List Lg) (i:Nat) (l:List UInt8) (n:Nat) (p:List UInt8 × Nat),dD i body l n=some p->p.1.length<=max l.length 32768
 | [],_,l,n,p,h=>by injection h with h; subst h; show l.length<=_; omega
 | x::r,i,l,n,p,h=>by
  unfold dD at h
  cases ht:fa x (l++(if decide (i=0)=true then [32,58,45,32] else [44,32])) n with
  | none=>rw [ht] at h; cases h
  | some q =>
   rw [ht] at h; replace h:(if 32768 < q.1.length then none else dD (i+1) r q.1 q.2)=some p:=h; split at h
   ·cases h
   ·rename_i hq
    have:=bodyW_body r (i+1) q.1 q.2 p h; omega
theorem tT {r:Rg} {l:List UInt8} {p:List UInt8 × Nat} (hb:LgB r.head) (h:gC r l=some p):p.1.length<=l.length+4004000000:=by
 unfold gC at h
 cases hh:gK r l 0 with
 | none=>rw [hh] at h; cases h
 | some q =>
  rw [hh] at h; have h1:=n9 hb hh; replace h:(dD 0 r.body q.1 q.2).map (fun q=>(q.1++[46,10],q.2))=some p:=h
  cases hbd:dD 0 r.body q.1 q.2 with
  | none=>rw [hbd] at h; cases h
  | some u =>
   rw [hbd] at h; injection h with h; subst h; have h2:=uL _ _ _ _ _ hbd; show (u.1++[46,10]).length<=_; rw [zQ]; simp only [zT,z_]; omega
theorem tp (G:aP) (B b:Nat) (l:List UInt8) (n:Nat) (r:Rg) (ha:Option Addr) (hc:Nat) (ba:Option Addr) (bc:Nat) (S:aP) (w:World) (h:WS G B b l n w) (hr:SlR 7 TgR S w r.head.args (.slice ha r.head.args.length hc)) (hbr:SlR 4 LgR S w r.body (.slice ba r.body.length bc)) (hS:∀ k,S k->¬ G k) (hl:l.length<=1000000000000) (hB:RgB r) :
  Calls Tryz.prog 42 #[pt b,.agg (aM r.head.op r.head.nt r.head.rel (.slice ha r.head.args.length hc) r.agg r.at_ (.slice ba r.body.length bc))] w (PW G B b w (gC r l)):=by
 obtain ⟨R,hR⟩:∃ R,R=gC r l:=⟨_,rfl⟩; rw [← hR]; replace hR:=hid hR; have hBh:=hB.1; have hBl:=hB.2.1; have hBb:=hid hB.2.2; have hbn:=af w (.cells (aM r.head.op r.head.nt r.head.rel (.slice ha r.head.args.length hc) r.agg r.at_ (.slice ba r.body.length bc)) 27); have hW0:=h.box (aM r.head.op r.head.nt r.head.rel (.slice ha r.head.args.length hc) r.agg r.at_ (.slice ba r.body.length bc)) (t:=27) (by decide); have hb1:Below w.heap.size w (w.alloc (.cells (aM r.head.op r.head.nt r.head.rel (.slice ha r.head.args.length hc) r.agg r.at_ (.slice ba r.body.length bc)) 27)):=(zN _ w).alloc (zM _) _; obtain ⟨q1,q2⟩:=hW0.bld.wild
 have hs1:dx (fun k=>G k/\k≠w.heap.size) b l 0 ((w.alloc (.cells (aM r.head.op r.head.nt r.head.rel (.slice ha r.head.args.length hc) r.agg r.at_ (.slice ba r.body.length bc)) 27)).setCell ⟨b,2,none⟩ (.int .i64 0)):=(hW0.bld.setWild 0).1; have hs2:Fr (fun k=>G k/\k≠w.heap.size) _ ((w.alloc (.cells (aM r.head.op r.head.nt r.head.rel (.slice ha r.head.args.length hc) r.agg r.at_ (.slice ba r.body.length bc)) 27)).setCell ⟨b,2,none⟩ (.int .i64 0)):=(hW0.bld.setWild 0).2; have hW1:=hid (hW0.fr hs2 hs1); have hF1:=hid ((Fr.of_below hb1 G).trans (hs2.mono fun k _ hk=>hk.1)); have hbw:=hW0.bld.lt; have hk1:=hid ((dq hs2 (by simp)).trans hbn)
 have b0:((w.alloc (.cells (aM r.head.op r.head.nt r.head.rel (.slice ha r.head.args.length hc) r.agg r.at_ (.slice ba r.body.length bc)) 27)).setCell ⟨b,2,none⟩ (.int .i64 0)).cell? ⟨w.heap.size,0,none⟩=some (iv r.head.op):=(aj (i:=0) hk1.out).trans rfl; have b1:((w.alloc (.cells (aM r.head.op r.head.nt r.head.rel (.slice ha r.head.args.length hc) r.agg r.at_ (.slice ba r.body.length bc)) 27)).setCell ⟨b,2,none⟩ (.int .i64 0)).cell? ⟨w.heap.size,1,none⟩=some (.bool r.head.nt):=(aj (i:=1) hk1.out).trans rfl; have b2:((w.alloc (.cells (aM r.head.op r.head.nt r.head.rel (.slice ha r.head.args.length hc) r.agg r.at_ (.slice ba r.body.length bc)) 27)).setCell ⟨b,2,none⟩ (.int .i64 0)).cell? ⟨w.heap.size,2,none⟩=some (sv r.head.rel):=(aj (i:=2) hk1.out).trans rfl
 have b3:((w.alloc (.cells (aM r.head.op r.head.nt r.head.rel (.slice ha r.head.args.length hc) r.agg r.at_ (.slice ba r.body.length bc)) 27)).setCell ⟨b,2,none⟩ (.int .i64 0)).cell? ⟨w.heap.size,3,none⟩=some (.slice ha r.head.args.length hc):=(aj (i:=3) hk1.out).trans rfl; have b4:((w.alloc (.cells (aM r.head.op r.head.nt r.head.rel (.slice ha r.head.args.length hc) r.agg r.at_ (.slice ba r.body.length bc)) 27)).setCell ⟨b,2,none⟩ (.int .i64 0)).cell? ⟨w.heap.size,4,none⟩=some (iv r.agg):=(aj (i:=4) hk1.out).trans rfl; have b5:((w.alloc (.cells (aM r.head.op r.head.nt r.head.rel (.slice ha r.head.args.length hc) r.agg r.at_ (.slice ba r.body.length bc)) 27)).setCell ⟨b,2,none⟩ (.int .i64 0)).cell? ⟨w.heap.size,5,none⟩=some (iv r.at_):=(aj (i:=5) hk1.out).trans rfl
 have b6:((w.alloc (.cells (aM r.head.op r.head.nt r.head.rel (.slice ha r.head.args.length hc) r.agg r.at_ (.slice ba r.body.length bc)) 27)).setCell ⟨b,2,none⟩ (.int .i64 0)).cell? ⟨w.heap.size,6,none⟩=some (.slice ba r.body.length bc):=(aj (i:=6) hk1.out).trans rfl; have hr0:=hid hr; have hbr0:=hid hbr; have hhd:=hid (tA _ B b l 0 r ha hc ba r.body.length bc S _ hW1.out (hr.fr bZ hF1.out hS) (fun k hk e=>hS k hk e.1) (by omega) hBh.1 hBh.2.1 hBh.2.2 (by omega))
 have hhl:=fun p (h:gK r l 0=some p)=>n9 hBh h
 obtain ⟨rh,hrh⟩:∃ rh,rh=gK r l 0:=⟨_,rfl⟩; rw [← hrh] at hhd hhl; replace hR:=hid (show R=rh.bind fun p=>(dD 0 r.body p.1 p.2).map fun q=>(q.1++[46,10],q.2) from by rw [hR.out,hrh]; rfl); replace hrh:=hid hrh; replace h:=hid h; replace hS:=hid hS; replace hr:=hid hr; replace hbr:=hid hbr; replace hB:=hid hB; replace hBh:=hid hBh; replace hW0:=hid hW0; replace hbn:=hid hbn; clear hb1 hs1 hs2
 go_enter Tryz.func42,Tryz.ntmps42
 go_wp2_with fail
 with_reducible refine hhd.out.mono ?_
 rintro e w2 ⟨rfl,hF2,hW2⟩; have hF2':=hid (hF1.out.trans (hF2.mono fun k _ hk=>hk.1)); have hk2:=hid ((dq hF2 (ae hk1.out)).trans hk1.out); clear b0 b1 b2 b3 b4 b5 b6 hhd hF2 hF1; have hF1:=hF2'
 cases rh with
 | none =>
  replace hR:=hid (show R=none from hR.out)
  go_wp2_with fail
  go_ret; exact ⟨by rw [hR.out]; rfl,hF1.out,fun x hx=>by rw [hR.out] at hx; cases hx⟩
 | some p =>
  obtain ⟨l1,n1⟩:=p; obtain ⟨hl1,hn1⟩:=hhl _ rfl; replace hl1:l1.length<=l.length+4003000000:=hl1; replace hn1:n1<=0+100000:=hn1; replace hW2:=hid (show WS (fun k=>G k/\k≠w.heap.size) B b l1 n1 w2 from hW2 _ rfl); replace hR:=hid (show R=(dD 0 r.body l1 n1).map fun q=>(q.1++[46,10],q.2) from hR.out); have b6:w2.cell? ⟨w.heap.size,6,none⟩=some (.slice ba r.body.length bc):=(aj (i:=6) hk2.out).trans rfl
  go_wp2_with fail
  go_loopg [17] r.body.length (fun g i wr=>∃ (k:Nat) (l2:List UInt8) (n2:Nat),i=iv k/\k+g=r.body.length/\l2.length<=l.length+4003032768/\n2<=100000+k * 100000/\Hid (R=(dD k (r.body.drop k) l2 n2).map fun q=>(q.1++[46,10],q.2))/\Hid (WS (fun k=>G k/\k≠w.heap.size) B b l2 n2 wr)/\Hid (Fr G w wr)/\Hid (wr.heap[w.heap.size]? = some (.cells (aM r.head.op r.head.nt r.head.rel (.slice ha r.head.args.length hc) r.agg r.at_ (.slice ba r.body.length bc)) 27 (0,0))))
  case atStart=>exact ⟨0,l1,n1,rfl,by omega,by omega,by omega,hR,hW2,hF1,hk2⟩
  case round =>
   obtain ⟨k,l2,n2,rfl,hkg,hl2,hn2,hR2,hW5,hF5,hk5⟩:=hrel; clear b6 hW2 hF1 hk2; by_cases hlt:k < r.body.length
   ·have q1:decide ((k:Int) < (r.body.length:Int))=true:=zP (by omega)
    obtain ⟨x,hx⟩:∃ x,r.body[k]? = some x:=⟨_,zR hlt⟩;(have hdr:r.body.drop k=x::r.body.drop (k+1):=by rw [Ac hlt]; congr 1; rw [zR hlt] at hx; injection hx);rw [hdr] at hR2; have hxB:=hBb.out x (zU hx); obtain ⟨g,o,cs,hidx,-,hg,hc',hrt⟩:=(hbr0.out.fr eA hF5.out hS.out).at (P:=Tryz.prog) (t:=25) (by kernel_rfl) (fun _=>by kernel_rfl) hx; obtain ⟨ta,tc,hrt',hrs⟩:=hrt; subst hrt'; have d0:=hc' 0 _ rfl; have d1:=hc' 1 _ rfl; have d2:=hc' 2 _ rfl; have d3:=hc' 3 _ rfl; rw [Nat.add_zero] at d0; have hW6:=hid (hW5.out.box (ap x.op x.nt x.rel (.slice ta x.args.length tc)) (t:=24) (by decide)); have hbT:Below wr.heap.size wr (wr.alloc (.cells (ap x.op x.nt x.rel (.slice ta x.args.length tc)) 24)):=(zN _ _).alloc (zM _) _; have hF6:=hid (Fr.of_below hbT (fun k=>G k/\k≠w.heap.size)); have hkT:=hid (af wr (.cells (ap x.op x.nt x.rel (.slice ta x.args.length tc)) 24));(have e1:IntKind.i64.wrap ((k:Int)+1)=((k+1:Nat):Int):=by rw [zX]; omega);have hrs0:=hid hrs; clear hc' hdr hbT; obtain ⟨l3,hl3⟩:∃ l3,l3=l2++(if decide (k=0)=true then [32,58,45,32] else [44,32]):=⟨_,rfl⟩
    have hl3b:l3.length<=l2.length+4:=by rw [hl3,zQ]; split <;> simp
    replace hR2:=hid (show R=((fa x l3 n2).bind fun p=>if 32768 < p.1.length then none else dD (k+1) (r.body.drop (k+1)) p.1 p.2).map fun q=>(q.1++[46,10],q.2) from by rw [hl3]; exact hR2.out);(go_upto_if 23 with (fail))
    go_cut [] from 18 to 43 (fun wx=>Hid (WS (fun j=>(G j/\j≠w.heap.size)/\j≠wr.heap.size) B b l3 n2 wx)/\Hid (Fr (fun k=>G k/\k≠w.heap.size) wr wx)/\Hid (wx.heap[wr.heap.size]? = some (.cells (ap x.op x.nt x.rel (.slice ta x.args.length tc)) 24 (0,0))))
    case first =>
     by_cases hk0:k=0
     ·have p1:((k:Int) == 0)=true:=by simp [hk0]
      (have e3:l3=l2++[32,58,45,32]:=by rw [hl3,zP hk0]; rfl);subst e3; replace hk0:=hid hk0; have hwr:=hid (hW6.out.write [32,58,45,32] (by show _+4<=_; omega));go_wp2_with fail;(with_reducible refine hwr.out.mono ?_);rintro e w7 ⟨rfl,hW7,hf7⟩;go_wp2_with fail;go_meet
      case rel=>exact ⟨hid hW7,hid (hF6.out.trans (hf7.mono fun k _ hk=>hk.1)),hid ((dq hf7 (ae hkT.out)).trans hkT.out)⟩
     ·have p1:((k:Int) == 0)=false:=by simp; omega
      (have p1i:¬ (k:Int)=0:=by omega);(have e3:l3=l2++[44,32]:=by rw [hl3,zO hk0]; rfl);subst e3; replace hk0:=hid hk0; have hwr:=hid (hW6.out.write [44,32] (by show _+2<=_; omega));go_wp2_with fail;(with_reducible refine hwr.out.mono ?_);rintro e w7 ⟨rfl,hW7,hf7⟩;go_wp2_with fail;go_meet
      case rel=>exact ⟨hid hW7,hid (hF6.out.trans (hf7.mono fun k _ hk=>hk.1)),hid ((dq hf7 (ae hkT.out)).trans hkT.out)⟩
    case rest =>
     obtain ⟨hW7,hF7,hk7⟩:=hcut; clear d0 d1 d2 d3; obtain ⟨d0,d1,d2,d3,-⟩:=aK hk7.out; have hFw:Fr G w wc:=hF5.out.trans (hF7.out.mono fun k _ hk=>hk.1); have hrs7:SlR 7 TgR (fun k=>S k\/False) wc x.args (.slice ta x.args.length tc):=(hrs0.out.mono (T:=fun k=>S k\/False) bZ fun k _ hk=>Or.inl hk).fr bZ hF7.out (fun k hk e=>by rcases hk with hk | hk; exact hS.out k hk e.1; exact hk); have hlt2:=hid (pg _ B b l3 n2 x ta tc _ wc hW7.out hrs7 (fun k hk e=>by rcases hk with hk | hk; exact hS.out k hk e.1.1; exact hk) (by omega) hxB.1 hxB.2.1 hxB.2.2 (by omega));(have hlen2:=fun p (h:fa x l3 n2=some p)=>wF hxB h);obtain ⟨rt,hrt⟩:∃ rt,rt=fa x l3 n2:=⟨_,rfl⟩; rw [← hrt] at hlt2 hlen2; replace hR2:=hR2.out; rw [← hrt] at hR2; replace hR2:=hid hR2; replace hrt:=hid hrt; replace hl3:=hid hl3; replace hFw:=hid hFw; clear hrs7;go_wp2_with fail;(with_reducible refine hlt2.out.mono ?_);rintro e w8 ⟨rfl,hF8,hW8⟩; have hF9:=hF7.out.trans (hF8.mono fun k _ hk=>hk.1); have hF10:=hid (hF5.out.trans (hF9.mono fun k _ hk=>hk.1))
     cases rt with
     | none =>
      replace hR2:=hid (show R=none from hR2.out);go_wp2_with fail
      go_ret; exact ⟨by rw [hR2.out]; rfl,hF10.out,fun x hx=>by rw [hR2.out] at hx; cases hx⟩
     | some p =>
      obtain ⟨l4,n4⟩:=p; obtain ⟨hl4,hn4⟩:=hlen2 _ rfl; replace hl4:l4.length<=l3.length+4002000000:=hl4; replace hn4:n4<=n2+100000:=hn4; have hW9:=hid (show WS (fun k=>G k/\k≠w.heap.size) B b l4 n4 w8 from hW5.out.out (hW8 _ rfl) hF9 fun k hk=>hk.1); have hk9:=hid ((dq hF9 (ae hk5.out)).trans hk5.out); have hln:=hid (qM _ b l4 n4 w8 hW9.out.bld); clear hlt2 hF8 hW8 hF9;go_wp2_with fail;(with_reducible refine hln.out.mono ?_);rintro e w9 ⟨rfl,rfl⟩; by_cases hbig:32768 < l4.length
      ·have kb:decide ((l4.length:Int) > 32768)=true:=zP (by omega)
       (have kbi:(32768:Int) < (l4.length:Int):=by omega);replace hR2:=hid (show R=none from by have:=hR2.out; simp [hbig] at this; exact this); replace hbig:=hid hbig;go_wp2_with fail
       go_ret; exact ⟨by rw [hR2.out]; rfl,hF10.out,fun x hx=>by rw [hR2.out] at hx; cases hx⟩
      ·have kb:decide ((l4.length:Int) > 32768)=false:=zO (by omega)
       (have kbi:¬ (32768:Int) < (l4.length:Int):=by omega);replace hR2:=hid (show R=(dD (k+1) (r.body.drop (k+1)) l4 n4).map fun q=>(q.1++[46,10],q.2) from by have:=hR2.out; simp [hbig] at this; exact this);(have hsm:l4.length<=32768:=by omega);replace hbig:=hid hbig;go_wp2_with fail
       go_roundg (r.body.length - (k+1))
       case measure=>omega
       case rel=>exact ⟨k+1,l4,n4,rfl,by omega,by omega,by omega,hR2,hW9,hF10,hk9⟩
   ·have q1:decide ((k:Int) < (r.body.length:Int))=false:=zO (by omega)
    rw [List.drop_eq_nil_of_le (by omega)] at hR2; replace hR2:=hid (show R=some (l2++[46,10],n2) from hR2.out); have hwr:=hid (hW5.out.write [46,10] (by show _+2<=_; omega));go_wp2_with fail;(with_reducible refine hwr.out.mono ?_);rintro e w6 ⟨rfl,hW6,hf6⟩; have hF6:=hid (hF5.out.trans (hf6.mono fun k _ hk=>hk.1)); replace hW6:=hid hW6; clear hwr hf6;go_wp2_with fail;(go_ret; refine ⟨by rw [hR2.out]; rfl,hF6.out,fun x hx=>?_⟩; rw [hR2.out] at hx; injection hx with hx; subst hx);(exact h.out.out hW6.out hF6.out fun k hk=>hk.1)
theorem lQ {al:Bool} {t:Tg} {l:List UInt8} {n:Nat} {p:List UInt8 × Nat} (h:aX al t l n=some p):l.length<=p.1.length:=by
 unfold aX at h; split at h
 ·cases hc:dS t with
  | none=>rw [hc] at h; cases h
  | some s=>rw [hc] at h; injection h with h; subst h; show l.length<=(l++s).length; simp
 ·split at h
  ·cases h
  ·split at h
   ·split at h
    ·injection h with h; subst h; show l.length<=(l++[95]).length; simp
    ·cases h
   ·split at h
    ·injection h with h; subst h; show l.length<=(l++t.var).length; simp
    ·cases h
theorem mU (al:Bool):∀ (args:List Tg) (first:Bool) (l:List UInt8) (n:Nat) (p:List UInt8 × Nat),eo al first args l n=some p->l.length<=p.1.length
 | [],_,l,n,p,h=>by injection h with h; subst h; exact zM _
 | t::r,first,l,n,p,h=>by
  unfold eo at h
  cases ht:aX al t (if first then l else l++[44,32]) n with
  | none=>rw [ht] at h; cases h
  | some q =>
   rw [ht] at h; have h1:=lQ ht; have h2:=mU al r false q.1 q.2 p h
   have h3:l.length<=(if first=true then l else l++[44,32]).length:=by cases first <;> simp
   omega
theorem nO (mk:List UInt8):∀ (args:List Tg) (i:Nat) (l:List UInt8) (n:Nat) (p:List UInt8 × Nat),dK mk i args l n=some p->l.length<=p.1.length
 | [],_,l,n,p,h=>by injection h with h; subst h; exact zM _
 | t::r,i,l,n,p,h=>by
  unfold dK at h
  cases ht:aX false t (if i=1 then l++mk else if i=2 then l++[32,43,32] else l) n with
  | none=>rw [ht] at h; cases h
  | some q =>
   rw [ht] at h; have h1:=lQ ht; have h2:=nO mk r (i+1) q.1 q.2 p h
   have h3:l.length<=(if i=1 then l++mk else if i=2 then l++[32,43,32] else l).length:=by
    split
    ·simp
    ·split <;> simp
   omega
theorem yl {x:Lg} {l:List UInt8} {n:Nat} {p:List UInt8 × Nat} (h:fa x (l++[63,32]) n=some p):p.1≠[]:=by
 have hg:(l++[63,32]).length<=p.1.length:=by
  unfold fa at h; split at h
  ·unfold iQ at h
   split at h
   ·cases h
   ·cases ha:eo true true x.args ((if x.nt then (l++[63,32])++[110,111,116,32] else (l++[63,32]))++(x.rel++[40])) n with
    | none=>rw [ha] at h; cases h
    | some q =>
     rw [ha] at h; injection h with h; subst h; have h4:=mU true _ _ _ _ _ ha
     have h5:(l++[63,32]).length<=((if x.nt then (l++[63,32])++[110,111,116,32] else (l++[63,32]))++(x.rel++[40])).length:=by cases x.nt <;> simp <;> omega
     (have h6:(q.1++[41]).length=q.1.length+1:=by simp);show _<=(q.1++[41]).length; omega
  ·split at h
   ·cases h
   ·by_cases hc:x.args.length≠(if x.op=5 then 3 else 2)
    ·rw [if_pos hc] at h; cases h
    ·rw [if_neg hc] at h
     exact nO _ _ _ _ _ _ h
 intro e; rw [e] at hg; simp at hg
def yS (q:Qg) (w:World) (e:Ending) (w':World):Prop:=Below w.heap.size w w'/\e=.returned (.tuple #[sv ((cI q).getD []),.bool (cI q).isSome])
def QgB (q:Qg):Prop:=(∀ r∈q.rules,RgB r)/\LgB q.goal
def qr (q:Qg) (l:List UInt8):Option (List UInt8):=(fa q.goal (l++[63,32]) 0).bind fun p=>if 32768 < p.1.length then none else some p.1
theorem np (q:Qg) (ra:Option Addr) (rc:Nat) (aa:Option Addr) (ac:Nat) (S:aP) (w:World) (hr:SlR 7 RgR S w q.rules (.slice ra q.rules.length rc)) (hg:SlR 7 TgR S w q.goal.args (.slice aa q.goal.args.length ac)) (hS:∀ k,S k->k < w.heap.size) (hTab:Tab w) (hB:QgB q) :
  Calls Tryz.prog 31 #[.agg (aG (.slice ra q.rules.length rc) q.goal.op q.goal.nt q.goal.rel (.slice aa q.goal.args.length ac))] w (yS q w):=by
 obtain ⟨R,hR⟩:∃ R,R=cI q:=⟨_,rfl⟩; unfold yS; rw [← hR]; replace hR:=hid hR; have hBg:=hB.2; have hBr:=hid hB.1; have hb1:Below w.heap.size w (w.alloc (.cells (aG (.slice ra q.rules.length rc) q.goal.op q.goal.nt q.goal.rel (.slice aa q.goal.args.length ac)) 32)):=(zN _ w).alloc (zM _) _; have hb2:Below w.heap.size w ((w.alloc (.cells (aG (.slice ra q.rules.length rc) q.goal.op q.goal.nt q.goal.rel (.slice aa q.goal.args.length ac)) 32)).alloc (.cells #[.pointer none,.slice none 0 0,iv 0] 111)):=hb1.alloc hb1.size _
 have hs1:(w.alloc (.cells (aG (.slice ra q.rules.length rc) q.goal.op q.goal.nt q.goal.rel (.slice aa q.goal.args.length ac)) 32)).heap.size=w.heap.size+1:=by simp
 have hbn:=af w (.cells (aG (.slice ra q.rules.length rc) q.goal.op q.goal.nt q.goal.rel (.slice aa q.goal.args.length ac)) 32); have gok0:GOk (aF w.heap.size) w.heap.size w:=⟨fun k h=>h,fun k h=>h,fun k h1 h2=>by omega,zM _⟩; have gok1:GOk (fun k=>aF w.heap.size k/\k≠w.heap.size) w.heap.size (w.alloc (.cells (aG (.slice ra q.rules.length rc) q.goal.op q.goal.nt q.goal.rel (.slice aa q.goal.args.length ac)) 32)):=gok0.box (t:=32) (by decide); have hTB:nk w.heap.size w:=(da.of hTab (zM w.heap.size)).tabB (Fr.refl _ _); have hbld:=dx.new (fun k=>aF w.heap.size k/\k≠w.heap.size) (w.alloc (.cells (aG (.slice ra q.rules.length rc) q.goal.op q.goal.nt q.goal.rel (.slice aa q.goal.args.length ac)) 32)) ⟨by unfold aF; omega,by omega⟩
 rw [hs1] at hbld; have hW0:=hid (show WS (fun k=>aF w.heap.size k/\k≠w.heap.size) w.heap.size (w.heap.size+1) [] 0 ((w.alloc (.cells (aG (.slice ra q.rules.length rc) q.goal.op q.goal.nt q.goal.rel (.slice aa q.goal.args.length ac)) 32)).alloc (.cells #[.pointer none,.slice none 0 0,iv 0] 111)) from ⟨hbld,gok1.below ((zN _ _).alloc (zM _) _),hTB.fr (Fr.of_below hb2 (fun _=>False)) (fun _ x=>x.elim)⟩); have hk0:=hid ((z7 (w.alloc (.cells (aG (.slice ra q.rules.length rc) q.goal.op q.goal.nt q.goal.rel (.slice aa q.goal.args.length ac)) 32)) (.cells #[.pointer none,.slice none 0 0,iv 0] 111) w.heap.size (by omega)).trans hbn); have hF0:=hid (Fr.of_below hb2 (fun k=>aF w.heap.size k/\k≠w.heap.size))
 have b0:(w.alloc (.cells (aG (.slice ra q.rules.length rc) q.goal.op q.goal.nt q.goal.rel (.slice aa q.goal.args.length ac)) 32)).cell? ⟨w.heap.size,0,none⟩=some (.slice ra q.rules.length rc):=(aj (i:=0) hbn).trans rfl; have b1:(w.alloc (.cells (aG (.slice ra q.rules.length rc) q.goal.op q.goal.nt q.goal.rel (.slice aa q.goal.args.length ac)) 32)).cell? ⟨w.heap.size,1,none⟩=some (iv q.goal.op):=(aj (i:=1) hbn).trans rfl; have b2:(w.alloc (.cells (aG (.slice ra q.rules.length rc) q.goal.op q.goal.nt q.goal.rel (.slice aa q.goal.args.length ac)) 32)).cell? ⟨w.heap.size,2,none⟩=some (.bool q.goal.nt):=(aj (i:=2) hbn).trans rfl
 have d0:((w.alloc (.cells (aG (.slice ra q.rules.length rc) q.goal.op q.goal.nt q.goal.rel (.slice aa q.goal.args.length ac)) 32)).alloc (.cells #[.pointer none,.slice none 0 0,iv 0] 111)).cell? ⟨w.heap.size,0,none⟩=some (.slice ra q.rules.length rc):=(aj (i:=0) hk0.out).trans rfl; have hbo:=hid hb1; have hr0:=hid hr; have hg0:=hid hg; have hSG:=hid (fun k (hk:S k) (e:(fun k=>aF w.heap.size k/\k≠w.heap.size) k)=>(by have:=hS k hk; have:=e.1; unfold aF at this; omega:False)); replace hr:=hid hr; replace hg:=hid hg; replace hB:=hid hB; replace hS:=hid hS; replace hbn:=hid hbn; replace hTab:=hid hTab; clear hb1 hb2 gok0 gok1 hTB hbld; by_cases h64:64 < q.rules.length
 ·have k64:decide ((q.rules.length:Int) > 64)=true:=zP (by omega)
  have k64i:(64:Int) < (q.rules.length:Int):=by omega
  replace hR:=hid (show R=none from by rw [hR.out]; unfold cI; simp [h64]); replace h64:=hid h64
  go_enter Tryz.func31,Tryz.ntmps31
  go_wp2_with fail
  go_ret2
  refine ⟨hbo.out,?_⟩; rw [hR.out]; rfl
 ·have k64:decide ((q.rules.length:Int) > 64)=false:=zO (by omega)
  have k64i:¬ (64:Int) < (q.rules.length:Int):=by omega
  by_cases hop:q.goal.op=0
  ·have kop:(q.goal.op == 0)=true:=by simp [hop]
   have kop2:(q.goal.op != 0)=false:=by simp [hop]
   by_cases hnt:q.goal.nt=true
   ·replace hR:=hid (show R=none from by rw [hR.out]; unfold cI; simp [hnt])
    replace h64:=hid h64; replace hop:=hid hop; simp only [hnt] at b0 b1 b2 d0 hbo hW0 hF0 hk0;go_enter Tryz.func31,Tryz.ntmps31;go_wp2_with fail;go_ret2;refine ⟨hbo.out,?_⟩; rw [hR.out]; rfl
   ·have hntf:q.goal.nt=false:=by simpa using hnt
    replace hR:=hid (show R=(eY q.rules []).bind (qr q) from by rw [hR.out]; unfold cI; simp [h64,hop,hntf]; rfl);(have hql:q.rules.length<=64:=by omega);replace h64:=hid h64; replace hop:=hid hop; replace hnt:=hid hnt; simp only [hntf] at b0 b1 b2 d0 hbo hW0 hF0 hk0;go_enter Tryz.func31,Tryz.ntmps31;go_wp2_with fail
    go_loopg [27] q.rules.length (fun g i wr=>∃ (k:Nat) (l2:List UInt8) (n2:Nat),i=iv k/\k+g=q.rules.length/\l2.length<=k * 4004000000/\Hid (R=(eY (q.rules.drop k) l2).bind (qr q))/\Hid (WS (fun k=>aF w.heap.size k/\k≠w.heap.size) w.heap.size (w.heap.size+1) l2 n2 wr)/\Hid (Fr (fun k=>aF w.heap.size k/\k≠w.heap.size) w wr)/\Hid (wr.heap[w.heap.size]? = some (.cells (aG (.slice ra q.rules.length rc) q.goal.op false q.goal.rel (.slice aa q.goal.args.length ac)) 32 (0,0))))
    case atStart=>exact ⟨0,[],0,rfl,by omega,by simp,hR,hW0,hF0,hk0⟩
    case round =>
     obtain ⟨k,l2,n2,rfl,hkg,hl2,hR2,hW5,hF5,hk5⟩:=hrel; clear b0 b1 b2 d0 hW0 hF0 hk0 hbo hs1; replace hntf:=hid hntf;(have hlow:∀ W,Fr (fun k=>aF w.heap.size k/\k≠w.heap.size) w W->Below w.heap.size w W:=fun W hf=>hf.to_below (zM _) (fun k hk e=>by have:=e.1; unfold aF at this; omega));replace hlow:=hid hlow; by_cases hlt:k < q.rules.length
     ·have q1:decide ((k:Int) < (q.rules.length:Int))=true:=zP (by omega)
      obtain ⟨r,hx⟩:∃ x,q.rules[k]? = some x:=⟨_,zR hlt⟩;(have hdr:q.rules.drop k=r::q.rules.drop (k+1):=by rw [Ac hlt]; congr 1; rw [zR hlt] at hx; injection hx);rw [hdr] at hR2; have hxB:=hBr.out r (zU hx); obtain ⟨g,o,cs,hidx,-,hgl,hc',hrt⟩:=(hr0.out.fr eR hF5.out hSG.out).at (P:=Tryz.prog) (t:=30) (by kernel_rfl) (fun _=>by kernel_rfl) hx; obtain ⟨ha,hc,ba,bc,hrt',hrh,hrb⟩:=hrt; subst hrt'; have d0:=hc' 0 _ rfl; have d1:=hc' 1 _ rfl; have d2:=hc' 2 _ rfl; have d3:=hc' 3 _ rfl; have d4:=hc' 4 _ rfl; have d5:=hc' 5 _ rfl; have d6:=hc' 6 _ rfl; rw [Nat.add_zero] at d0; have hbT:Below wr.heap.size wr (wr.alloc (.cells (aM r.head.op r.head.nt r.head.rel (.slice ha r.head.args.length hc) r.agg r.at_ (.slice ba r.body.length bc)) 27)):=(zN _ _).alloc (zM _) _; have hW6:=hid (hW5.out.below hbT); have hF6:=hid (hF5.out.trans (Fr.of_below hbT _)); have hk6:=hid (an hbT hk5.out (ae hk5.out));have hnT:=af wr (.cells (aM r.head.op r.head.nt r.head.rel (.slice ha r.head.args.length hc) r.agg r.at_ (.slice ba r.body.length bc)) 27); have m0:(wr.alloc (.cells (aM r.head.op r.head.nt r.head.rel (.slice ha r.head.args.length hc) r.agg r.at_ (.slice ba r.body.length bc)) 27)).cell? ⟨wr.heap.size,0,none⟩=some (iv r.head.op):=(aj (i:=0) hnT).trans rfl; have m1:(wr.alloc (.cells (aM r.head.op r.head.nt r.head.rel (.slice ha r.head.args.length hc) r.agg r.at_ (.slice ba r.body.length bc)) 27)).cell? ⟨wr.heap.size,1,none⟩=some (.bool r.head.nt):=(aj (i:=1) hnT).trans rfl;have m2:(wr.alloc (.cells (aM r.head.op r.head.nt r.head.rel (.slice ha r.head.args.length hc) r.agg r.at_ (.slice ba r.body.length bc)) 27)).cell? ⟨wr.heap.size,2,none⟩=some (sv r.head.rel):=(aj (i:=2) hnT).trans rfl; have m3:(wr.alloc (.cells (aM r.head.op r.head.nt r.head.rel (.slice ha r.head.args.length hc) r.agg r.at_ (.slice ba r.body.length bc)) 27)).cell? ⟨wr.heap.size,3,none⟩=some (.slice ha r.head.args.length hc):=(aj (i:=3) hnT).trans rfl; have m4:(wr.alloc (.cells (aM r.head.op r.head.nt r.head.rel (.slice ha r.head.args.length hc) r.agg r.at_ (.slice ba r.body.length bc)) 27)).cell? ⟨wr.heap.size,4,none⟩=some (iv r.agg):=(aj (i:=4) hnT).trans rfl;have m5:(wr.alloc (.cells (aM r.head.op r.head.nt r.head.rel (.slice ha r.head.args.length hc) r.agg r.at_ (.slice ba r.body.length bc)) 27)).cell? ⟨wr.heap.size,5,none⟩=some (iv r.at_):=(aj (i:=5) hnT).trans rfl; have m6:(wr.alloc (.cells (aM r.head.op r.head.nt r.head.rel (.slice ha r.head.args.length hc) r.agg r.at_ (.slice ba r.body.length bc)) 27)).cell? ⟨wr.heap.size,6,none⟩=some (.slice ba r.body.length bc):=(aj (i:=6) hnT).trans rfl;(have e1:IntKind.i64.wrap ((k:Int)+1)=((k+1:Nat):Int):=by rw [zX]; omega);have hru:=hid (tp _ w.heap.size (w.heap.size+1) l2 n2 r ha hc ba bc _ _ hW6.out (hrh.below bZ hbT) (hrb.below eA hbT) hSG.out (by omega) hxB);(have hlen2:=fun p (h:gC r l2=some p)=>tT hxB.1 h);obtain ⟨rt,hrt⟩:∃ rt,rt=gC r l2:=⟨_,rfl⟩; replace hR2:=hid (show R=((gC r l2).bind fun p=>eY (q.rules.drop (k+1)) p.1).bind (qr q) from hR2.out); rw [← hrt] at hru hlen2; replace hR2:=hR2.out; rw [← hrt] at hR2; replace hR2:=hid hR2; replace hrt:=hid hrt; replace hnT:=hid hnT; clear hc' hdr hbT;go_wp2_with fail;(with_reducible refine hru.out.mono ?_);rintro e w8 ⟨rfl,hF8,hW8⟩; have hF9:=hid (hF6.out.trans hF8)
      cases rt with
      | none =>
       replace hR2:=hid (show R=none from hR2.out);go_wp2_with fail;go_ret2;refine ⟨hlow.out _ hF9.out,?_⟩; rw [hR2.out]; rfl
      | some p =>
       obtain ⟨l4,n4⟩:=p; have hl4:l4.length<=l2.length+4004000000:=hlen2 _ rfl; have hW9:=hid (show WS (fun k=>aF w.heap.size k/\k≠w.heap.size) w.heap.size (w.heap.size+1) l4 n4 w8 from hW8 _ rfl); have hk9:=hid ((dq hF8 (ae hk6.out)).trans hk6.out); replace hR2:=hid (show R=(eY (q.rules.drop (k+1)) l4).bind (qr q) from hR2.out); clear hru hF8 hW8;go_wp2_with fail
       go_roundg (q.rules.length - (k+1))
       case measure=>omega
       case rel=>exact ⟨k+1,l4,n4,rfl,by omega,by omega,hR2,hW9,hF9,hk9⟩
     ·have q1:decide ((k:Int) < (q.rules.length:Int))=false:=zO (by omega)
      rw [List.drop_eq_nil_of_le (by omega)] at hR2; replace hR2:=hid (show R=qr q l2 from hR2.out); have hwr:=hid (hW5.out.write [63,32] (by show _+2<=_; omega));go_wp2_with fail;(with_reducible refine hwr.out.mono ?_);rintro e w6 ⟨rfl,hW6,hf6⟩; obtain ⟨u1,u2⟩:=hW6.bld.wild; have hs1:dx (fun k=>aF w.heap.size k/\k≠w.heap.size) (w.heap.size+1) (l2++[63,32]) 0 (w6.setCell ⟨w.heap.size+1,2,none⟩ (.int .i64 0)):=(hW6.bld.setWild 0).1; have hs2:Fr (fun k=>aF w.heap.size k/\k≠w.heap.size) w6 (w6.setCell ⟨w.heap.size+1,2,none⟩ (.int .i64 0)):=(hW6.bld.setWild 0).2; have hW7:=hid (hW6.fr hs2 hs1); have hF7:=hid ((hF5.out.trans hf6).trans hs2); have hk7:=hid ((dq (hf6.trans hs2) (ae hk5.out)).trans hk5.out); have m1:(w6.setCell ⟨w.heap.size+1,2,none⟩ (.int .i64 0)).cell? ⟨w.heap.size,1,none⟩=some (iv q.goal.op):=(aj (i:=1) hk7.out).trans rfl;have m2:(w6.setCell ⟨w.heap.size+1,2,none⟩ (.int .i64 0)).cell? ⟨w.heap.size,2,none⟩=some (.bool false):=(aj (i:=2) hk7.out).trans rfl; have m3:(w6.setCell ⟨w.heap.size+1,2,none⟩ (.int .i64 0)).cell? ⟨w.heap.size,3,none⟩=some (sv q.goal.rel):=(aj (i:=3) hk7.out).trans rfl; have m4:(w6.setCell ⟨w.heap.size+1,2,none⟩ (.int .i64 0)).cell? ⟨w.heap.size,4,none⟩=some (.slice aa q.goal.args.length ac):=(aj (i:=4) hk7.out).trans rfl; have hlt2:=(pg _ w.heap.size (w.heap.size+1) (l2++[63,32]) 0 q.goal aa ac _ _ hW7.out (hg0.out.fr bZ hF7.out hSG.out) hSG.out (by simp; omega) hBg.1 hBg.2.1 hBg.2.2 (by omega)); rw [hntf.out] at hlt2; replace hlt2:=hid hlt2; obtain ⟨rt,hrt⟩:∃ rt,rt=fa q.goal (l2++[63,32]) 0:=⟨_,rfl⟩;replace hR2:=hid (show R=(fa q.goal (l2++[63,32]) 0).bind fun p=>if 32768 < p.1.length then none else some p.1 from hR2.out);(have hne:=fun p (h:fa q.goal (l2++[63,32]) 0=some p)=>yl h);rw [← hrt] at hlt2 hne; replace hR2:=hR2.out; rw [← hrt] at hR2; replace hR2:=hid hR2; replace hrt:=hid hrt; replace hW6:=hid hW6; clear hwr hf6 hs1 hs2;go_wp2_with fail;(with_reducible refine hlt2.out.mono ?_);rintro e w8 ⟨rfl,hF8,hW8⟩; have hF9:=hid (hF7.out.trans hF8)
      cases rt with
      | none =>
       replace hR2:=hid (show R=none from hR2.out);go_wp2_with fail;go_ret2;refine ⟨hlow.out _ hF9.out,?_⟩; rw [hR2.out]; rfl
      | some p =>
       obtain ⟨l4,n4⟩:=p; have hW9:=hid (show WS (fun k=>aF w.heap.size k/\k≠w.heap.size) w.heap.size (w.heap.size+1) l4 n4 w8 from hW8 _ rfl); have hne4:l4≠[]:=hne _ rfl; have hln:=hid (qM _ (w.heap.size+1) l4 n4 w8 hW9.out.bld); have hst:=hid (qL _ w.heap.size (w.heap.size+1) l4 n4 w8 hW9.out.bld (fun k hk=>hk.1) hne4); replace hne4:=hid hne4; clear hlt2 hF8 hW8 m1 m2 m3 m4;go_wp2_with fail;(with_reducible refine hln.out.mono ?_);rintro e w9 ⟨rfl,rfl⟩; by_cases hbig:32768 < l4.length
       ·have kb:decide ((l4.length:Int) > 32768)=true:=zP (by omega)
        (have kbi:(32768:Int) < (l4.length:Int):=by omega);replace hR2:=hid (show R=none from by have:=hR2.out; simp [hbig] at this; exact this); replace hbig:=hid hbig;go_wp2_with fail;go_ret2;refine ⟨hlow.out _ hF9.out,?_⟩; rw [hR2.out]; rfl
       ·have kb:decide ((l4.length:Int) > 32768)=false:=zO (by omega)
        (have kbi:¬ (32768:Int) < (l4.length:Int):=by omega);replace hR2:=hid (show R=some l4 from by have:=hR2.out; simp [hbig] at this; exact this); replace hbig:=hid hbig;go_wp2_with fail;(with_reducible refine hst.out.mono ?_);rintro e w10 ⟨rfl,hb10⟩; have hfin:=hid ((hlow.out _ hF9.out).trans hb10); clear hb10;go_wp2_with fail;go_ret2;refine ⟨hfin.out,?_⟩; rw [hR2.out]; rfl
  ·have kop:(q.goal.op == 0)=false:=by simp [hop]
   have kop2:(q.goal.op != 0)=true:=by simp [hop]
   replace hR:=hid (show R=none from by rw [hR.out]; unfold cI; simp [hop]); replace h64:=hid h64; replace hop:=hid hop
   go_enter Tryz.func31,Tryz.ntmps31
   go_wp2_with fail
   go_ret2
   refine ⟨hbo.out,?_⟩; rw [hR.out]; rfl
theorem xB (q:Qg) (ra:Option Addr) (rc:Nat) (aa:Option Addr) (ac:Nat) (S:aP) (w:World) (hr:SlR 7 RgR S w q.rules (.slice ra q.rules.length rc)) (hg:SlR 7 TgR S w q.goal.args (.slice aa q.goal.args.length ac)) (hS:∀ k,S k->k < w.heap.size) (hTab:Tab w) (hB:QgB q) :
  Calls Tryz.prog 20 #[.agg (aG (.slice ra q.rules.length rc) q.goal.op q.goal.nt q.goal.rel (.slice aa q.goal.args.length ac))] w fun e w'=>e=.returned (sv ((cI q).getD []))/\Below w.heap.size w w':=by
 have hb1:Below w.heap.size w (w.alloc (.cells (aG (.slice ra q.rules.length rc) q.goal.op q.goal.nt q.goal.rel (.slice aa q.goal.args.length ac)) 32)):=(zN _ w).alloc (zM _) _; have hbn:=af w (.cells (aG (.slice ra q.rules.length rc) q.goal.op q.goal.nt q.goal.rel (.slice aa q.goal.args.length ac)) 32); have b0:(w.alloc (.cells (aG (.slice ra q.rules.length rc) q.goal.op q.goal.nt q.goal.rel (.slice aa q.goal.args.length ac)) 32)).cell? ⟨w.heap.size,0,none⟩=some (.slice ra q.rules.length rc):=(aj (i:=0) hbn).trans rfl; have b1:(w.alloc (.cells (aG (.slice ra q.rules.length rc) q.goal.op q.goal.nt q.goal.rel (.slice aa q.goal.args.length ac)) 32)).cell? ⟨w.heap.size,1,none⟩=some (iv q.goal.op):=(aj (i:=1) hbn).trans rfl
 have b2:(w.alloc (.cells (aG (.slice ra q.rules.length rc) q.goal.op q.goal.nt q.goal.rel (.slice aa q.goal.args.length ac)) 32)).cell? ⟨w.heap.size,2,none⟩=some (.bool q.goal.nt):=(aj (i:=2) hbn).trans rfl; have b3:(w.alloc (.cells (aG (.slice ra q.rules.length rc) q.goal.op q.goal.nt q.goal.rel (.slice aa q.goal.args.length ac)) 32)).cell? ⟨w.heap.size,3,none⟩=some (sv q.goal.rel):=(aj (i:=3) hbn).trans rfl; have b4:(w.alloc (.cells (aG (.slice ra q.rules.length rc) q.goal.op q.goal.nt q.goal.rel (.slice aa q.goal.args.length ac)) 32)).cell? ⟨w.heap.size,4,none⟩=some (.slice aa q.goal.args.length ac):=(aj (i:=4) hbn).trans rfl
 have htx:=hid (np q ra rc aa ac S (w.alloc (.cells (aG (.slice ra q.rules.length rc) q.goal.op q.goal.nt q.goal.rel (.slice aa q.goal.args.length ac)) 32)) (hr.below eR hb1) (hg.below bZ hb1) (fun k hk=>by have:=hS k hk; simp; omega) ((da.of hTab (zM w.heap.size)).below hb1).tab hB); have hbo:=hid hb1; replace hr:=hid hr; replace hg:=hid hg; replace hB:=hid hB; replace hS:=hid hS; replace hbn:=hid hbn; replace hTab:=hid hTab; clear hb1
 go_enter Tryz.func20,Tryz.ntmps20
 go_wp2_with fail
 with_reducible refine htx.out.mono ?_
 rintro e w1 ⟨hb2,rfl⟩; have hb3:=hid (hbo.out.trans (hb2.mono (by simp))); clear hb2 b0 b1 b2 b3 b4
 go_wp2_with fail
 go_ret; exact ⟨rfl,hb3.out⟩
theorem xX (q:Qg) (ra:Option Addr) (rc:Nat) (aa:Option Addr) (ac:Nat) (S:aP) (w:World) (hr:SlR 7 RgR S w q.rules (.slice ra q.rules.length rc)) (hg:SlR 7 TgR S w q.goal.args (.slice aa q.goal.args.length ac)) (hS:∀ k,S k->k < w.heap.size) (hTab:Tab w) (hB:QgB q) :
  Calls Tryz.prog 13 #[.agg (aG (.slice ra q.rules.length rc) q.goal.op q.goal.nt q.goal.rel (.slice aa q.goal.args.length ac))] w fun e w'=>e=.returned (.bool (cI q).isSome)/\Below w.heap.size w w':=by
 have hb1:Below w.heap.size w (w.alloc (.cells (aG (.slice ra q.rules.length rc) q.goal.op q.goal.nt q.goal.rel (.slice aa q.goal.args.length ac)) 32)):=(zN _ w).alloc (zM _) _; have hbn:=af w (.cells (aG (.slice ra q.rules.length rc) q.goal.op q.goal.nt q.goal.rel (.slice aa q.goal.args.length ac)) 32); have b0:(w.alloc (.cells (aG (.slice ra q.rules.length rc) q.goal.op q.goal.nt q.goal.rel (.slice aa q.goal.args.length ac)) 32)).cell? ⟨w.heap.size,0,none⟩=some (.slice ra q.rules.length rc):=(aj (i:=0) hbn).trans rfl; have b1:(w.alloc (.cells (aG (.slice ra q.rules.length rc) q.goal.op q.goal.nt q.goal.rel (.slice aa q.goal.args.length ac)) 32)).cell? ⟨w.heap.size,1,none⟩=some (iv q.goal.op):=(aj (i:=1) hbn).trans rfl
 have b2:(w.alloc (.cells (aG (.slice ra q.rules.length rc) q.goal.op q.goal.nt q.goal.rel (.slice aa q.goal.args.length ac)) 32)).cell? ⟨w.heap.size,2,none⟩=some (.bool q.goal.nt):=(aj (i:=2) hbn).trans rfl; have b3:(w.alloc (.cells (aG (.slice ra q.rules.length rc) q.goal.op q.goal.nt q.goal.rel (.slice aa q.goal.args.length ac)) 32)).cell? ⟨w.heap.size,3,none⟩=some (sv q.goal.rel):=(aj (i:=3) hbn).trans rfl; have b4:(w.alloc (.cells (aG (.slice ra q.rules.length rc) q.goal.op q.goal.nt q.goal.rel (.slice aa q.goal.args.length ac)) 32)).cell? ⟨w.heap.size,4,none⟩=some (.slice aa q.goal.args.length ac):=(aj (i:=4) hbn).trans rfl
 have htx:=hid (np q ra rc aa ac S (w.alloc (.cells (aG (.slice ra q.rules.length rc) q.goal.op q.goal.nt q.goal.rel (.slice aa q.goal.args.length ac)) 32)) (hr.below eR hb1) (hg.below bZ hb1) (fun k hk=>by have:=hS k hk; simp; omega) ((da.of hTab (zM w.heap.size)).below hb1).tab hB); have hbo:=hid hb1; replace hr:=hid hr; replace hg:=hid hg; replace hB:=hid hB; replace hS:=hid hS; replace hbn:=hid hbn; replace hTab:=hid hTab; clear hb1
 go_enter Tryz.func13,Tryz.ntmps13
 go_wp2_with fail
 with_reducible refine htx.out.mono ?_
 rintro e w1 ⟨hb2,rfl⟩; have hb3:=hid (hbo.out.trans (hb2.mono (by simp))); clear hb2 b0 b1 b2 b3 b4
 go_wp2_with fail
 go_ret; exact ⟨rfl,hb3.out⟩
end Go.Proofs.YtffdpoifdahadaaGreatDoor
