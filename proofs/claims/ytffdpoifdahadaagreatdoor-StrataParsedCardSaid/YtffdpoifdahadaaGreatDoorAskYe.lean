/- ask: writing atoms. -/
import Derived.Test.YtffdpoifdahadaaGreatDoorAskYd
set_option linter.unusedVariables false
set_option linter.unusedSimpArgs false
set_option maxHeartbeats 40000000
set_option maxRecDepth 100000
namespace Go.Proofs.YtffdpoifdahadaaGreatDoor
open Go.RowKit
open Go.Lib (hid byteCells itoa)
structure Lg where
 op:Int
 nt:Bool
 rel:List UInt8
 args:List Tg
structure Rg where
 head:Lg
 agg:Int
 at_:Int
 body:List Lg
structure Qg where
 rules:List Rg
 goal:Lg
def TgR:Rel Tg:=fun _ _ t cs=>∃ a c,cs=(aR t a c).toList
theorem bZ:dA 7 TgR:=⟨fun h=>by obtain ⟨a,c,rfl⟩:=h; rfl,fun h=>by obtain ⟨a,c,rfl⟩:=h; intro u hu; simp at hu; rcases hu with rfl | rfl | rfl | rfl | rfl | rfl | rfl <;> rfl,fun h _=>h⟩
def LgR:Rel Lg:=fun S w x cs=>∃ a c,cs=(ap x.op x.nt x.rel (.slice a x.args.length c)).toList/\SlR 7 TgR S w x.args (.slice a x.args.length c)
theorem eA:dA 4 LgR:=by
 refine ⟨fun h=>by obtain ⟨a,c,rfl,-⟩:=h; rfl,fun h u hu=>?_,fun h hm=>?_⟩
 ·obtain ⟨a,c,rfl,-⟩:=h
  simp at hu; rcases hu with rfl | rfl | rfl | rfl <;> rfl
 ·obtain ⟨a,c,rfl,ho⟩:=h
  exact ⟨a,c,rfl,ho.move bZ hm⟩
def RgR:Rel Rg:=fun S w x cs=>∃ ha hc ba bc,cs=(aM x.head.op x.head.nt x.head.rel (.slice ha x.head.args.length hc) x.agg x.at_ (.slice ba x.body.length bc)).toList/\SlR 7 TgR S w x.head.args (.slice ha x.head.args.length hc)/\SlR 4 LgR S w x.body (.slice ba x.body.length bc)
theorem eR:dA 7 RgR:=by
 refine ⟨fun h=>by obtain ⟨a,c,d,e,rfl,-⟩:=h; rfl,fun h u hu=>?_,fun h hm=>?_⟩
 ·obtain ⟨a,c,d,e,rfl,-⟩:=h
  simp at hu; rcases hu with rfl | rfl | rfl | rfl | rfl | rfl | rfl <;> rfl
 ·obtain ⟨a,c,d,e,rfl,ho,hb⟩:=h
  exact ⟨a,c,d,e,rfl,ho.move bZ hm,hb.move eA hm⟩
def eo (al:Bool):Bool->List Tg->List UInt8->Nat->Option (List UInt8 × Nat)
 | _,[],l,n=>some (l,n)
 | first,t::r,l,n=>(aX al t (if first then l else l++[44,32]) n).bind fun p=>eo al false r p.1 p.2
def iQ (x:Lg) (l:List UInt8) (n:Nat):Option (List UInt8 × Nat) :=
 if dz x.rel=false then none else (eo true true x.args ((if x.nt then l++[110,111,116,32] else l)++(x.rel++[40])) n).map fun p=>(p.1++[41],p.2)
theorem si {t:Tg} {s:List UInt8} (h:dS t=some s):s.length<=8194:=by
 unfold dS at h; split at h
 ·cases h
 ·split at h
  ·rename_i hc
   injection h with h; subst h; have:=fR t.n (by omega) (by omega); omega
  ·split at h
   ·rename_i hc
    injection h with h; subst h; exact lG t.vs hc.2.2
   ·cases h
theorem cZ {al:Bool} {t:Tg} {l:List UInt8} {n:Nat} {p:List UInt8 × Nat} (hv:t.var.length<=40000) (h:aX al t l n=some p):p.1.length<=l.length+40000/\p.2<=n+1:=by
 unfold aX at h; split at h
 ·cases hc:dS t with
  | none=>rw [hc] at h; cases h
  | some s =>
   rw [hc] at h; injection h with h; subst h; have:=si hc; exact ⟨by show (l++s).length<=_; rw [zQ]; omega,Nat.le_succ _⟩
 ·split at h
  ·cases h
  ·split at h
   ·split at h
    ·injection h with h; subst h; exact ⟨by show (l++[95]).length<=_; simp,zM _⟩
    ·cases h
   ·split at h
    ·injection h with h; subst h; exact ⟨by show (l++t.var).length<=_; rw [zQ]; omega,Nat.le_succ _⟩
    ·cases h
theorem dq {G:aP} {w w':World} {m:Nat} (hf:Fr (fun k=>G k/\k≠m) w w') (hm:m < w.heap.size):w'.heap[m]? = w.heap[m]?:=hf.block m hm fun e=>e.2 rfl
theorem tB (G:aP) (B b:Nat) (l:List UInt8) (n:Nat) (x:Lg) (a:Option Addr) (c:Nat) (S:aP) (w:World) (h:WS G B b l n w) (hr:SlR 7 TgR S w x.args (.slice a x.args.length c)) (hS:∀ k,S k->¬ G k) (hl:l.length<=100000000000000) (hrl:x.rel.length<=40000) (hal:x.args.length<=100000) (hvl:∀ t∈x.args,t.var.length<=40000) (hn:n<=100000000000) :
  Calls Tryz.prog 70 #[pt b,.agg (ap x.op x.nt x.rel (.slice a x.args.length c))] w (PW G B b w (iQ x l n)):=by
 obtain ⟨R,hR⟩:∃ R,R=iQ x l n:=⟨_,rfl⟩; rw [← hR]; obtain ⟨op,nt,rel,args⟩:=x; replace hr:SlR 7 TgR S w args (.slice a args.length c):=hr; replace hrl:rel.length<=40000:=hrl; replace hal:args.length<=100000:=hal; replace hvl:=hid (show ∀ t∈args,t.var.length<=40000 from hvl); replace hS:=hid hS; show Calls Tryz.prog 70 #[pt b,.agg (ap op nt rel (.slice a args.length c))] w _
 replace hR:R=if dz rel=false then none else (eo true true args ((if nt then l++[110,111,116,32] else l)++(rel++[40])) n).map fun p=>(p.1++[41],p.2):=hR
 have hbn:=af w (.cells (ap op nt rel (.slice a args.length c)) 24); have hW0:=hid (h.box (ap op nt rel (.slice a args.length c)) (t:=24) (by decide)); have hF0:=hid (Fr.of_below ((zN _ w).alloc (zM _) (.cells (ap op nt rel (.slice a args.length c)) 24)) G); have hr0:=hid hr; replace h:=hid h; have hir:=hid (dO rel (w.alloc (.cells (ap op nt rel (.slice a args.length c)) 24)) (by omega)); obtain ⟨rf,hrf⟩:∃ rf,rf=dz rel:=⟨_,rfl⟩; rw [← hrf] at hir hR; replace hrf:=hid hrf; replace hR:=hid hR; obtain ⟨b0,b1,b2,b3,-⟩:=aK hbn
 go_enter Tryz.func70,Tryz.ntmps70
 go_wp2_with fail
 with_reducible refine hir.out.mono ?_
 rintro e w1 ⟨rfl,hb1⟩; have hW1:=hid (hW0.out.below hb1); have hF1:=hid (hF0.out.trans (Fr.of_below hb1 _)); have hk1:=an hb1 hbn (ae hbn); clear hir hb1 hW0 hF0 b0 b1 b2 b3
 cases rf with
 | false =>
  replace hR:=hid (show R=none from hR.out)
  go_wp2_with fail
  go_ret; exact ⟨by rw [hR.out]; rfl,hF1.out,fun x hx=>by rw [hR.out] at hx; cases hx⟩
 | true =>
  obtain ⟨l1,hl1⟩:∃ l1,l1=if nt then l++[110,111,116,32] else l:=⟨_,rfl⟩
  have hl1b:l1.length<=l.length+4:=by rw [hl1]; cases nt <;> simp
  replace hR:=hid (show R=(eo true true args (l1++(rel++[40])) n).map fun p=>(p.1++[41],p.2) from by rw [hl1]; exact hR.out); obtain ⟨b0,b1,b2,b3,-⟩:=aK hk1; replace hbn:=hid hbn; replace hk1':=hid hk1; clear hk1
  go_upto_if 12 with (fail)
  go_cut [] (fun wx=>Hid (WS (fun k=>G k/\k≠w.heap.size) B b l1 n wx)/\Hid (Fr G w wx)/\Hid (wx.heap[w.heap.size]? = some (.cells (ap op nt rel (.slice a args.length c)) 24 (0,0))))
  case first =>
   cases nt with
   | false =>
    replace hl1:l1=l:=hl1; subst hl1;go_wp2_with fail;go_meet
    case rel=>exact ⟨hW1,hF1,hk1'⟩
   | true =>
    replace hl1:l1=l++[110,111,116,32]:=hl1; subst hl1; have hwr:=hid (hW1.out.write [110,111,116,32] (by simp; omega));go_wp2_with fail;(with_reducible refine hwr.out.mono ?_);rintro e w2 ⟨rfl,hW2,hf2⟩;go_wp2_with fail;go_meet
    case rel=>exact ⟨hid hW2,hid (hF1.out.trans (hf2.mono fun k _ hk=>hk.1)),hid ((dq hf2 (ae hk1'.out)).trans hk1'.out)⟩
  case rest =>
   obtain ⟨hW2,hF2,hk2⟩:=hcut; obtain ⟨d0,d1,d2,d3,-⟩:=aK hk2.out; clear b0 b1 b2 b3; obtain ⟨s,hs⟩:∃ s,s=rel++[40]:=⟨_,rfl⟩; rw [← hs] at hR
   have hsl:s.length<=40001:=by rw [hs]; simp; omega
   have hcat:ByteArray.mk rel.toArray++ByteArray.mk #[40]=⟨s.toArray⟩:=by rw [hs]; simp [ByteArray.mk_append_mk]
   have hlN:¬ 9223372036854775807 < rel.length+1:=by omega
   have hbl:=hid (ae hk2.out); replace hs:=hid hs; replace hl1:=hid hl1
   go_wp2_with fail
   refine wp_region_held_drew (S:=fun w'=>w'.cell? ⟨w.heap.size,2,none⟩=some (sv rel)) (by kernel_rfl) ?_ (fun hHeld=>?_)
   ·exact d2
   have hbd:Below wc.heap.size wc wc.drew:=(zN _ wc).drew; have hWd:=hid (hW2.out.below hbd); have hFd:=hid (hF2.out.trans (Fr.of_below hbd _)); have hbl2:=hid (zS hbl.out hbd.size); generalize wc.drew=wd at *; refine wTk (i:=0) (v:=?_) rfl ?hy ?_
   case hy =>
    intro w hSw; have hq:=hSw; go_simp
    all_goals with_reducible rfl
   try simp only [Act.put,sI,sZ,sS]
   refine wTk (i:=1) (v:=?_) rfl ?hy ?_
   case hy =>
    intro w hSw; have hq:=hSw; go_simp
    all_goals with_reducible rfl
   try simp only [Act.put,sI,sZ,sS]
   refine wTk (i:=2) (v:=?_) rfl ?hy ?_
   case hy =>
    intro w hSw; have hq:=hSw; go_simp
    all_goals with_reducible rfl
   try simp only [Act.put,sI,sZ,sS]
   refine wTk (i:=3) (v:=?_) rfl ?hy ?_
   case hy =>
    intro w hSw; have hq:=hSw; go_simp
    all_goals with_reducible rfl
   try simp only [Act.put,sI,sZ,sS]
   refine wTk (i:=4) (v:=?_) rfl ?hy ?_
   case hy =>
    intro w hSw; have hq:=hSw; go_simp
    all_goals with_reducible rfl
   try simp only [Act.put,sI,sZ,sS]
   refine wTk (i:=5) (v:=?_) rfl ?hy ?_
   case hy =>
    intro w hSw; have hq:=hSw; go_simp
    all_goals with_reducible rfl
   try simp only [Act.put,sI,sZ,sS]
   refine wpAnyH_ready (rs:=[6]) (by as_aux_lemma=>kernel_rfl) (by simp) ?_; refine rdY rfl (fun K hK=>?_); go_simp
   go_at_call 43
   with_reducible refine (hWd.out.write s (by omega)).mono ?_
   rintro e w4 ⟨rfl,hW4,hf4⟩; replace hW4:=hid hW4; replace hf4:=hid hf4; refine hK.out _ _ ?_ (fun hHeld2=>?_)
   ·exact (Af (dq hf4.out hbl2.out)).trans hHeld
   clear hK K; clear hHeld; have hHeld:=hHeld2; clear hHeld2
   try simp only [Act.put,sI,sZ,sS]
   refine wpAnyH_done (by as_aux_lemma=>kernel_rfl) ?_ _; have hF4:=hid (hFd.out.trans (hf4.out.mono fun k _ hk=>hk.1)); have hk4:=hid ((dq hf4.out hbl2.out).trans (an hbd hk2.out hbl.out)); obtain ⟨m0,m1,m2,m3,-⟩:=aK hk4.out; clear d0 d1 d2 d3
   have hlb:(l1++s).length<=l.length+40005:=by rw [zQ]; omega
   obtain ⟨l0,hl0⟩:∃ l0,l0=l1++s:=⟨_,rfl⟩; rw [← hl0] at hW4 hlb hR; replace hl0:=hid hl0
   go_wp2_with fail
   go_loopg [27] args.length (fun g i wr=>∃ (k:Nat) (l2:List UInt8) (n2:Nat),i=iv k/\k+g=args.length/\l2.length<=l.length+40005+k * 40002/\n2<=n+k/\Hid (R=(eo true (decide (k=0)) (args.drop k) l2 n2).map fun p=>(p.1++[41],p.2))/\Hid (WS (fun k=>G k/\k≠w.heap.size) B b l2 n2 wr)/\Hid (Fr G w wr)/\Hid (wr.heap[w.heap.size]? = some (.cells (ap op nt rel (.slice a args.length c)) 24 (0,0))))
   case atStart=>exact ⟨0,l0,n,rfl,by omega,by omega,by omega,hid hR.out,hW4,hF4,hk4⟩
   case round =>
    obtain ⟨k,l2,n2,rfl,hkg,hl2,hn2,hR2,hW5,hF5,hk5⟩:=hrel; clear m0 m1 m2 m3 hW4 hF4 hk4; by_cases hlt:k < args.length
    ·have q1:decide ((k:Int) < (args.length:Int))=true:=zP (by omega)
     obtain ⟨t,ht⟩:∃ t,args[k]? = some t:=⟨_,zR hlt⟩;(have hdr:args.drop k=t::args.drop (k+1):=by rw [Ac hlt]; congr 1; rw [zR hlt] at ht; injection ht);rw [hdr] at hR2; have htv:=hvl.out t (zU ht); obtain ⟨g,o,cs,hidx,-,hg,hc,hrt⟩:=(hr0.out.fr bZ hF5.out hS.out).at (P:=Tryz.prog) (t:=22) (by kernel_rfl) (fun _=>by kernel_rfl) ht; obtain ⟨ta,tc,hrt'⟩:=hrt; subst hrt'; have d0:=hc 0 _ rfl; have d1:=hc 1 _ rfl; have d2:=hc 2 _ rfl; have d3:=hc 3 _ rfl; have d4:=hc 4 _ rfl; have d5:=hc 5 _ rfl; have d6:=hc 6 _ rfl; rw [Nat.add_zero] at d0; have hW6:=hid (hW5.out.box (aR t ta tc) (t:=63) (by decide)); have hbT:Below wr.heap.size wr (wr.alloc (.cells (aR t ta tc) 63)):=(zN _ _).alloc (zM _) _; have hF6:=hid (Fr.of_below hbT (fun k=>G k/\k≠w.heap.size)); have hkT:=hid (af wr (.cells (aR t ta tc) 63));(have e1:IntKind.i64.wrap ((k:Int)+1)=((k+1:Nat):Int):=by rw [zX]; omega);clear hc hdr hbT;(obtain ⟨l3,hl3⟩:∃ l3,l3=if decide (k=0)=true then l2 else l2++[44,32]:=⟨_,rfl⟩)
     have hl3b:l3.length<=l2.length+2:=by rw [hl3]; split <;> simp
     replace hR2:=hid (show R=((aX true t l3 n2).bind fun p=>eo true false (args.drop (k+1)) p.1 p.2).map fun p=>(p.1++[41],p.2) from by rw [hl3]; exact hR2.out);(go_upto_if 33 with (fail))
     go_cut [] from 28 to 42 (fun wx=>Hid (WS (fun j=>(G j/\j≠w.heap.size)/\j≠wr.heap.size) B b l3 n2 wx)/\Hid (Fr (fun k=>G k/\k≠w.heap.size) wr wx)/\Hid (wx.heap[wr.heap.size]? = some (.cells (aR t ta tc) 63 (0,0))))
     case first =>
      by_cases hk0:k=0
      ·have p1:decide ((k:Int) > 0)=false:=zO (by omega)
       (have p2:¬ (0:Int) < (k:Int):=by omega);(have e3:l3=l2:=by rw [hl3,zP hk0]; rfl);subst e3; replace hk0:=hid hk0;go_wp2_with fail;go_meet
       case rel=>exact ⟨hW6,hF6,hkT⟩
      ·have p1:decide ((k:Int) > 0)=true:=zP (by omega)
       (have p2:(0:Int) < (k:Int):=by omega);(have e3:l3=l2++[44,32]:=by rw [hl3,zO hk0]; rfl);subst e3; replace hk0:=hid hk0; have hwr:=hid (hW6.out.write [44,32] (by show _+2<=_; omega));go_wp2_with fail;(with_reducible refine hwr.out.mono ?_);rintro e w7 ⟨rfl,hW7,hf7⟩;go_wp2_with fail;go_meet
       case rel=>exact ⟨hid hW7,hid (hF6.out.trans (hf7.mono fun k _ hk=>hk.1)),hid ((dq hf7 (ae hkT.out)).trans hkT.out)⟩
     case rest =>
      obtain ⟨hW7,hF7,hk7⟩:=hcut; clear d0 d1 d2 d3 d4 d5 d6; obtain ⟨d0,d1,d2,d3,d4,d5,d6⟩:=dY hk7.out; have htm:=hid (dU _ B b l3 n2 true t ta tc wc hW7.out (by omega) htv (by omega));(have hlen:=fun p (h:aX true t l3 n2=some p)=>cZ htv h);obtain ⟨rt,hrt⟩:∃ rt,rt=aX true t l3 n2:=⟨_,rfl⟩; rw [← hrt] at htm hlen; replace hR2:=hR2.out; rw [← hrt] at hR2; replace hR2:=hid hR2; replace hrt:=hid hrt; replace hl3:=hid hl3;go_wp2_with fail;(with_reducible refine htm.out.mono ?_);rintro e w8 ⟨rfl,hF8,hW8⟩; have hF9:=hF7.out.trans (hF8.mono fun k _ hk=>hk.1); have hF10:=hid (hF5.out.trans (hF9.mono fun k _ hk=>hk.1))
      cases rt with
      | none =>
       replace hR2:=hid (show R=none from hR2.out);go_wp2_with fail
       go_ret; exact ⟨by rw [hR2.out]; rfl,hF10.out,fun x hx=>by rw [hR2.out] at hx; cases hx⟩
      | some p =>
       obtain ⟨l4,n4⟩:=p; obtain ⟨hl4,hn4⟩:=hlen _ rfl; replace hl4:l4.length<=l3.length+40000:=hl4; replace hn4:n4<=n2+1:=hn4; have hW9:=hid (hW5.out.out (hW8 _ rfl) hF9 fun k hk=>hk.1); have hk9:=hid ((dq hF9 (ae hk5.out)).trans hk5.out); clear htm hF8 hW8 hF9;go_wp2_with fail
       go_roundg (args.length - (k+1))
       case measure=>omega
       case rel=>exact ⟨k+1,l4,n4,rfl,by omega,by omega,by omega,hid hR2.out,hW9,hF10,hk9⟩
    ·have q1:decide ((k:Int) < (args.length:Int))=false:=zO (by omega)
     rw [List.drop_eq_nil_of_le (by omega)] at hR2; replace hR2:=hid (show R=some (l2++[41],n2) from hR2.out); have hwb:=hid (hW5.out.writeB 41 (by omega));go_wp2_with fail;refine hwb.out.mono ?_; rintro e w6 ⟨rfl,hW6,hf6⟩; have hF6:=hid (hF5.out.trans (hf6.mono fun k _ hk=>hk.1)); replace hW6:=hid hW6; clear hwb hf6;go_wp2_with fail;(go_ret; refine ⟨by rw [hR2.out]; rfl,hF6.out,fun x hx=>?_⟩; rw [hR2.out] at hx; injection hx with hx; subst hx);(exact h.out.out hW6.out hF6.out fun k hk=>hk.1)
end Go.Proofs.YtffdpoifdahadaaGreatDoor
