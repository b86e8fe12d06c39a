/- StrXb: StrXa, StrXb, in one text. -/
import Derived.Test.YtffdpoifdahadaaGreatDoorStrI
import Derived.Test.YtffdpoifdahadaaGreatDoorStrWb
import Derived.Test.YtffdpoifdahadaaGreatDoorAskZb
import Derived.Test.YtffdpoifdahadaaGreatDoorStrWi
set_option linter.unusedVariables false
set_option linter.unusedSimpArgs false
set_option maxHeartbeats 40000000
set_option maxRecDepth 100000
namespace Go.Proofs.YtffdpoifdahadaaGreatDoor
open Go.RowKit
open Go.Lib (hid)
def ni (s:List UInt8):Option (Int × List (List Nat)):=match de s with
 | .ok u=>some (ce arF u.g (cI u.g).isSome)
 | .error _=>none
theorem iO {s:List UInt8} {r:Int × List (List Nat)} (h:ni s=some r):∃ u,de s=.ok u/\ce arF u.g (cI u.g).isSome=r:=by
 unfold ni at h
 cases hp:de s with
 | ok u=>rw [hp] at h; injection h with h; exact ⟨u,rfl,h⟩
 | error e=>rw [hp] at h; cases h
def smS1:List UInt8:=[97,40,116,41,32,58,45,32,104,97,110,100,108,101,100,40,116,44,32,95,44,32,95,41,44,32,110,111,116,32,98,40,116,41,46,32,98,40,116,41,32,58,45,32,115,101,110,116,40,116,44,32,95,44,32,95,44,32,95,41,46,32,63,32,97,40,116,41]
def smS2:List UInt8:=[97,40,112,44,32,99,111,117,110,116,40,116,41,41,32,58,45,32,104,97,110,100,108,101,100,40,116,44,32,112,44,32,95,41,46,32,98,40,112,41,32,58,45,32,97,40,112,44,32,110,41,44,32,110,32,60,32,51,46,32,99,40,112,41,32,58,45,32,98,40,112,41,46,32,99,40,112,41,32,58,45,32,99,40,112,41,44,32,120,32,61,32,49,32,43,32,110,44,32,110,32,61,32,50,44,32,51,32,61,32,120,46,32,63,32,99,40,112,41]
def smS3:List UInt8:=[97,40,116,41,32,58,45,32,101,118,101,110,116,40,116,44,32,95,41,44,32,110,111,116,32,97,40,116,41,46,32,63,32,97,40,116,41]
def smS4:List UInt8:=[97,40,116,41,32,58,45,32,116,32,60,32,53,46,32,63,32,97,40,116,41]
def smS5:List UInt8:=[97,40,116,41,32,58,45,32,101,118,101,110,116,40,116,41,46,32,63,32,97,40,116,41]
def smS6:List UInt8:=[101,118,101,110,116,40,116,44,32,120,41,32,58,45,32,104,97,110,100,108,101,100,40,116,44,32,120,44,32,95,41,46,32,63,32,101,118,101,110,116,40,116,44,32,120,41]
def smS7:List UInt8:=[97,40,116,41,32,58,45,32,101,118,101,110,116,40,116,44,32,95,41,46,32,63,32,98,40,116,41]
def smS8:List UInt8:=[97,40,99,111,117,110,116,40,116,41,41,32,58,45,32,97,40,116,41,46,32,63,32,97,40,116,41]
theorem smR1:ni smS1=some (0,[[1],[0]]):=by kernel_rfl
theorem smR2:ni smS2=some (0,[[0,1,2,3]]):=by kernel_rfl
theorem smR3:ni smS3=some (19,[]):=by kernel_rfl
theorem smR4:ni smS4=some (18,[]):=by kernel_rfl
theorem smR5:ni smS5=some (8,[]):=by kernel_rfl
theorem smR6:ni smS6=some (8,[]):=by kernel_rfl
theorem smR7:ni smS7=some (8,[]):=by kernel_rfl
theorem smR8:ni smS8=some (19,[]):=by kernel_rfl
def dH:Rg:=⟨⟨0,false,[97],[⟨[120],0,[],0,0,[],0⟩]⟩,0,0,[⟨3,false,[],[⟨[120],0,[],0,0,[],0⟩,⟨[121],0,[],0,0,[],0⟩]⟩,⟨1,false,[],[⟨[120],0,[],0,0,[],0⟩,⟨[121],0,[],0,0,[],0⟩]⟩,⟨0,false,[101,118,101,110,116],[⟨[121],0,[],0,0,[],0⟩,⟨[95,49],0,[],0,0,[],0⟩]⟩]⟩
theorem smO:ey dH.head dH.body=some [2,1,0]:=by kernel_rfl
end Go.Proofs.YtffdpoifdahadaaGreatDoor
namespace Go.Proofs.YtffdpoifdahadaaGreatDoor
open Go.RowKit
open Go.Lib (hid)
theorem v_ {S:aP} {w:World} {l:List Nat} {a:Option Addr} {n cap i:Nat} {x:Nat} (h:SlR 1 nm S w l (.slice a n cap)) (hi:l[i]? = some x) :
  ∃ g o,(∀ kd W,(Instr.indexAt 33 (.slice a n cap) (.int kd i)).run Tryz.prog W=.ok (.pointer (some ⟨g,o,none⟩)) W)/\w.cell? ⟨g,o,none⟩=some (iv x):=by
 obtain ⟨g,o,cs,h1,h2,h3,h4,h5⟩:=h.at (P:=Tryz.prog) (t:=33) (by kernel_rfl) (fun _=>by kernel_rfl) hi; refine ⟨g,o,h1,?_⟩; have:=h4 0 (iv x) (by rw [show cs=[iv (x:Int)] from h5]; rfl); simpa using this
theorem vH {S:aP} {w:World} {l:List (List Nat)} {a:Option Addr} {n cap i:Nat} {x:List Nat} (h:SlR 1 mX S w l (.slice a n cap)) (hi:l[i]? = some x) :
  ∃ g o ai ci,(∀ kd W,(Instr.indexAt 40 (.slice a n cap) (.int kd i)).run Tryz.prog W=.ok (.pointer (some ⟨g,o,none⟩)) W)/\w.cell? ⟨g,o,none⟩=some (.slice ai x.length ci)/\SlR 1 nm S w x (.slice ai x.length ci):=by
 obtain ⟨g,o,cs,h1,h2,h3,h4,h5⟩:=h.at (P:=Tryz.prog) (t:=40) (by kernel_rfl) (fun _=>by kernel_rfl) hi; obtain ⟨v,rfl,hv⟩:=h5; obtain ⟨ai,ci,rfl,-⟩:=hv.slice; refine ⟨g,o,ai,ci,h1,?_,hv⟩; have:=h4 0 _ rfl; simpa using this
theorem nY {α:Type} {a b:List α} {k:Nat} (hl:a.length=b.length) (h:∀ i,i < k->a[i]? = b[i]?) (hk:a.length<=k):a=b:=List.ext_getElem? fun i=>by
 by_cases hi:i < k
 ·exact h i hi
 ·rw [List.getElem?_eq_none (by omega),List.getElem?_eq_none (by omega)]
theorem jQ (a b:List Nat) (aa ba:Option Addr) (ac bc:Nat) (S T:aP) (w:World) (ha:SlR 1 nm S w a (.slice aa a.length ac)) (hb:SlR 1 nm T w b (.slice ba b.length bc)) (hal:a.length<=1000000000000) (hbl:b.length<=1000000000000) :
  Calls Tryz.prog 25 #[.slice aa a.length ac,.slice ba b.length bc] w fun e w'=>e=.returned (.bool (decide (a=b)))/\Below w.heap.size w w':=by
 obtain ⟨R,hR⟩:∃ R,R=decide (a=b):=⟨_,rfl⟩; rw [← hR]; replace hR:=hid hR; have hB0:=hid (zN w.heap.size w); by_cases hl:a.length=b.length
 ·obtain ⟨n,hn⟩:∃ n,n=a.length:=⟨_,rfl⟩
  have hn2:=hn.trans hl; rw [← hl,← hn]; rw [← hn] at ha hal; rw [← hn2] at hb; replace ha:=hid ha; replace hb:=hid hb; replace hn:=hid hn; replace hn2:=hid hn2; replace hl:=hid hl
  go_enter Tryz.func25,Tryz.ntmps25
  go_wp2_with fail
  go_loopg [5] n (fun f v5 wr=>∃ (k:Nat),v5=iv k/\k+f=n/\Hid (∀ i,i < k->a[i]? = b[i]?)/\Hid (Below w.heap.size w wr))
  case atStart=>exact ⟨0,rfl,by omega,hid fun i hi=>by omega,hB0⟩
  case round =>
   obtain ⟨k,rfl,hkf,hsame,hB⟩:=hrel; clear hB0; by_cases hlt:k < n
   ·have q1:decide ((k:Int) < (n:Int))=true:=zP (by omega)
    (have q3:IntKind.i64.wrap ((k:Int)+1)=((k+1:Nat):Int):=by rw [zX]; omega);obtain ⟨x,hx⟩:∃ x,a[k]? = some x:=⟨_,zR (by have:=hn.out; omega)⟩; obtain ⟨y,hy⟩:∃ y,b[k]? = some y:=⟨_,zR (by have:=hn2.out; omega)⟩; obtain ⟨g1,o1,i1,c1⟩:=v_ (ha.out.below ep hB.out) hx; obtain ⟨g2,o2,i2,c2⟩:=v_ (hb.out.below ep hB.out) hy; by_cases he:x=y
    ·subst he
     have hs2:=hid (show ∀ i,i < k+1->a[i]? = b[i]? from fun i hi=>by
      by_cases e:i=k
      ·subst e; rw [hx,hy]
      ·exact hsame.out i (by omega))
     have hB2:=hid (fun n=>hB.out.trans ((bG (zN _ wr) n).mono hB.out.size)); replace hx:=hid hx; replace hy:=hid hy;go_wp2_with fail;go_quiet (fail)
     all_goals go_wp2_with fail
     all_goals go_roundg (n - (k+1))
     case measure=>omega
     case rel=>exact ⟨k+1,rfl,by omega,hs2,hid (hB2.out nq)⟩
    ·have hF:=hid (show R=false from by
      rw [hR.out];(refine zO fun e=>he ?_);(have h1:=hx; rw [e,hy] at h1; injection h1 with h1)
      exact h1.symm)
     (have qe:((x:Int) != (y:Int))=true:=by simp; omega);(have qe2:¬ (x:Int)=(y:Int):=by omega);have hB2:=hid (fun n=>hB.out.trans ((bG (zN _ wr) n).mono hB.out.size)); replace hx:=hid hx; replace hy:=hid hy; replace he:=hid he;go_wp2_with fail;go_quiet (fail)
     all_goals go_wp2_with fail
     all_goals go_ret
     all_goals exact ⟨by rw [hF.out]; rfl,hB2.out _⟩
   ·have q1:decide ((k:Int) < (n:Int))=false:=zO (by omega)
    have hT:=hid (show R=true from by rw [hR.out]; exact zP (nY hl.out hsame.out (by have:=hn.out; omega)));go_wp2_with fail;go_ret; exact ⟨by rw [hT.out]; rfl,hB.out⟩
 ·have hF:=hid (show R=false from by rw [hR.out]; exact zO fun e=>hl (by rw [e]))
  have q0:((a.length:Int) != (b.length:Int))=true:=by simp; omega
  have q1:¬ (a.length:Int)=(b.length:Int):=by omega
  replace hl:=hid hl; clear ha hb
  go_enter Tryz.func25,Tryz.ntmps25
  go_wp2_with fail
  go_ret; exact ⟨by rw [hF.out]; rfl,hB0.out⟩
theorem gU (a b:List (List Nat)) (aa ba:Option Addr) (ac bc:Nat) (S T:aP) (w:World) (ha:SlR 1 mX S w a (.slice aa a.length ac)) (hb:SlR 1 mX T w b (.slice ba b.length bc)) (hal:a.length<=1000000000000) (hbl:b.length<=1000000000000) (hai:∀ x∈a,x.length<=1000000000000) (hbi:∀ x∈b,x.length<=1000000000000) :
  Calls Tryz.prog 21 #[.slice aa a.length ac,.slice ba b.length bc] w fun e w'=>e=.returned (.bool (decide (a=b)))/\Below w.heap.size w w':=by
 obtain ⟨R,hR⟩:∃ R,R=decide (a=b):=⟨_,rfl⟩; rw [← hR]; replace hR:=hid hR; have hB0:=hid (zN w.heap.size w); by_cases hl:a.length=b.length
 ·obtain ⟨n,hn⟩:∃ n,n=a.length:=⟨_,rfl⟩
  have hn2:=hn.trans hl; rw [← hl,← hn]; rw [← hn] at ha hal; rw [← hn2] at hb; replace ha:=hid ha; replace hb:=hid hb; replace hn:=hid hn; replace hn2:=hid hn2; replace hl:=hid hl; replace hai:=hid hai; replace hbi:=hid hbi
  go_enter Tryz.func21,Tryz.ntmps21
  go_wp2_with fail
  go_loopg [5] n (fun f v5 wr=>∃ (k:Nat),v5=iv k/\k+f=n/\Hid (∀ i,i < k->a[i]? = b[i]?)/\Hid (Below w.heap.size w wr))
  case atStart=>exact ⟨0,rfl,by omega,hid fun i hi=>by omega,hB0⟩
  case round =>
   obtain ⟨k,rfl,hkf,hsame,hB⟩:=hrel; clear hB0; by_cases hlt:k < n
   ·have q1:decide ((k:Int) < (n:Int))=true:=zP (by omega)
    (have q3:IntKind.i64.wrap ((k:Int)+1)=((k+1:Nat):Int):=by rw [zX]; omega);obtain ⟨x,hx⟩:∃ x,a[k]? = some x:=⟨_,zR (by have:=hn.out; omega)⟩; obtain ⟨y,hy⟩:∃ y,b[k]? = some y:=⟨_,zR (by have:=hn2.out; omega)⟩; obtain ⟨g1,o1,a1,c1,i1,e1,s1⟩:=vH (ha.out.below bF hB.out) hx; obtain ⟨g2,o2,a2,c2,i2,e2,s2⟩:=vH (hb.out.below bF hB.out) hy; have hdr:Below wr.heap.size wr wr.drew:=(zN _ wr).drew; have hsi:=hid (jQ x y a1 a2 c1 c2 S T wr.drew (s1.below ep hdr) (s2.below ep hdr) (hai.out x (zU hx)) (hbi.out y (zU hy))); obtain ⟨be,hbe⟩:∃ be,be=decide (x=y):=⟨_,rfl⟩; rw [← hbe] at hsi; have hBd:=hid (hB.out.trans (hdr.mono hB.out.size)); replace hbe:=hid hbe; replace hx:=hid hx; replace hy:=hid hy; clear s1 s2 hdr;go_wp2_with fail;go_still_tail 8,(by kernel_rfl);go_wp2_with fail;(with_reducible refine hsi.out.mono ?_);rintro e w5 ⟨rfl,hb5⟩; have hB5:=hid (hBd.out.trans (hb5.mono hBd.out.size)); clear hb5 hsi e1 e2 i1 i2
    cases be with
    | true =>
     have he:x=y:=of_decide_eq_true hbe.out.symm
     have hs2:=hid (show ∀ i,i < k+1->a[i]? = b[i]? from fun i hi=>by
      by_cases e:i=k
      ·subst e; rw [hx.out,hy.out,he]
      ·exact hsame.out i (by omega))
     replace he:=hid he;go_wp2_with fail
     go_roundg (n - (k+1))
     case measure=>omega
     case rel=>exact ⟨k+1,rfl,by omega,hs2,hB5⟩
    | false =>
     have he:¬ x=y:=of_decide_eq_false hbe.out.symm
     have hF:=hid (show R=false from by
      rw [hR.out];(refine zO fun e=>he ?_);(have h1:=hx.out; rw [e,hy.out] at h1; injection h1 with h1)
      exact h1.symm)
     replace he:=hid he;go_wp2_with fail;go_ret; exact ⟨by rw [hF.out]; rfl,hB5.out⟩
   ·have q1:decide ((k:Int) < (n:Int))=false:=zO (by omega)
    have hT:=hid (show R=true from by rw [hR.out]; exact zP (nY hl.out hsame.out (by have:=hn.out; omega)));go_wp2_with fail;go_ret; exact ⟨by rw [hT.out]; rfl,hB.out⟩
 ·have hF:=hid (show R=false from by rw [hR.out]; exact zO fun e=>hl (by rw [e]))
  have q0:((a.length:Int) != (b.length:Int))=true:=by simp; omega
  have q1:¬ (a.length:Int)=(b.length:Int):=by omega
  replace hl:=hid hl; clear ha hb
  go_enter Tryz.func21,Tryz.ntmps21
  go_wp2_with fail
  go_ret; exact ⟨by rw [hF.out]; rfl,hB0.out⟩
def PC1 (r:Int × List (List Nat)) (w:World) (e:Ending) (w':World):Prop:=Below w.heap.size w w'/\∃ a c,e=.returned (.tuple #[.slice a r.2.length c,iv r.1])/\SlR 1 mX (fun k=>w.heap.size<=k) w' r.2 (.slice a r.2.length c)
theorem ft (s:List UInt8) (hs:s.length<=1000000) (u:Qu) (hu:de s=.ok u) (hq:Qsm u.g) (w:World) (hTab:Tab w) :
  Calls Tryz.prog 24 #[sv s] w (PC1 (ce arF u.g (cI u.g).isSome) w):=by
 have hpa:=sK s w hs hTab; rw [hu] at hpa; replace hpa:=hid hpa; obtain ⟨r,hr⟩:∃ r,r=ce arF u.g (cI u.g).isSome:=⟨_,rfl⟩; rw [← hr]; replace hr:=hid hr; replace hTab:=hid hTab; replace hu:=hid hu
 go_enter Tryz.func24,Tryz.ntmps24
 go_wp2_with fail
 with_reducible refine hpa.out.mono ?_
 rintro e w1 ⟨hb1,-,ra,rc,aa,ac,rfl,hrl,hgo⟩; have hbq:Below w1.heap.size w1 (w1.alloc (.cells (aG (.slice ra u.g.rules.length rc) u.g.goal.op u.g.goal.nt u.g.goal.rel (.slice aa u.g.goal.args.length ac)) 32)):=(zN _ w1).alloc (zM _) _; have hk2:=af w1 (.cells (aG (.slice ra u.g.rules.length rc) u.g.goal.op u.g.goal.nt u.g.goal.rel (.slice aa u.g.goal.args.length ac)) 32); obtain ⟨w2,hw2⟩:∃ w2,w2=w1.alloc (.cells (aG (.slice ra u.g.rules.length rc) u.g.goal.op u.g.goal.nt u.g.goal.rel (.slice aa u.g.goal.args.length ac)) 32):=⟨_,rfl⟩; rw [← hw2] at hbq hk2; have hB2:=hid (hb1.trans (hbq.mono hb1.size))
 have hQ:QR u.g ra rc aa ac (fun k=>w.heap.size<=k/\k < w1.heap.size) w2 :=
  ⟨(hrl.move eR fun k hk hs=>⟨⟨hs,hk⟩,hbq.block k hk⟩),(hgo.move bZ fun k hk hs=>⟨⟨hs,hk⟩,hbq.block k hk⟩),fun k hk=>zS hk.2 hbq.size⟩
 have hck:=hid (kI u.g ra rc aa ac _ w2 hQ hq ((da.of hTab.out (zM w.heap.size)).below hB2.out).tab); obtain ⟨c0,c1,c2,c3,c4,-⟩:=cg hk2; replace hw2:=hid hw2; clear hbq hk2 hQ hpa hb1 hrl hgo
 go_upto_region 2 with (fail)
 rw [← hw2.out]
 go_wp2_with fail
 with_reducible refine hck.out.mono ?_
 rintro e w3 ⟨hb3,v,rfl,hv⟩; have hB3:=hid (hB2.out.trans (hb3.mono hB2.out.size)); rw [← hr.out] at hv ⊢; obtain ⟨a,c,rfl,-⟩:=hv.slice; have hv3:=hid (hv.mono bF (T:=fun k=>w.heap.size<=k) fun k _ hk=>zV hB2.out.size hk); clear hv hb3 hck
 go_wp2_with fail
 go_ret2
 exact ⟨hB3.out,a,c,rfl,hv3.out⟩
end Go.Proofs.YtffdpoifdahadaaGreatDoor
