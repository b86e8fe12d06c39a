/- plan, walks: sameCommand, slices.EqualFunc, slices.IndexFunc, picked. -/
import Derived.Test.YtfejagpjahoibaaGreatDoorNetF
import Derived.Test.YtfejagpjahoibaaGreatDoorPlM
import Derived.Test.YtfejagpjahoibaaGreatDoorEqual
set_option linter.unusedVariables false
set_option linter.unusedSimpArgs false
namespace Go.Proofs.YtfejagpjahoibaaGreatDoor
open Go.RowKit
open Go.Lib (hid)
set_option maxHeartbeats 2000000 in
set_option maxRecDepth 100000 in
theorem indexFunc1_any (p:Out→Bool) (l:List Out) (hl:l.length≤1048576) (B:Nat) (S:Foot) (v:Value) (w:World) (hr:SlR 5 OutR S w l v)
  (hf:∀ x∈l,∀ (cs:List Value) (W:World),Below w.heap.size w W→OutR S W x cs→Calls Tryz.prog 65 #[.agg cs.toArray,pt B] W fun e w'=>e=.returned (.bool (p x))∧Below W.heap.size W w') :
  Calls Tryz.prog 22 #[v,.func (Fn.func 65) #[] #[pt B]] w fun e w'=>e=.returned (iv (idxF p l))∧Below w.heap.size w w':=by
 obtain ⟨a,c,rfl,-⟩:=hr.slice; replace hr:=hid hr; replace hf:=hid hf; generalize hres:idxF p l=r; replace hres:=hid hres
 go_enter Tryz.func22,Tryz.ntmps22
 go_wp2
 go_loopw [5,8] (fun _ i wr=>∃ k:Nat,i=.int .i64 k∧k≤l.length∧Hid (∀ i y,i < k→l[i]? = some y→p y=false)∧Below w.heap.size w wr) (fun _ i _=>l.length - (intOf i).toNat)
 case atStart=>exact ⟨0,rfl,Nat.zero_le _,hid (fun i y h=>absurd h (by omega)),Below.refl _ _⟩
 case round =>
  obtain ⟨k,rfl,hk,hn,hB⟩:=hrel; by_cases hlt:k < l.length
  ·obtain ⟨x,hx⟩:∃ x,l[k]? = some x:=⟨_,List.getElem?_eq_getElem hlt⟩
   obtain ⟨g,o,cs,hidx,hS,hg,hc,hR⟩:=(hr.out.below goodOut hB).at (P:=Tryz.prog) (t:=23) (by kernel_rfl) (fun _=>by kernel_rfl) hx; have hcall:=hid (hf.out x (List.mem_of_getElem? hx) _ _ hB hR); obtain ⟨a1,k1,rfl,-⟩:=id hR; have c0:=hc 0 _ rfl; have c1:=hc 1 _ rfl; have c2:=hc 2 _ rfl; have c3:=hc 3 _ rfl; have c4:=hc 4 _ rfl; rw [Nat.add_zero] at c0; clear hR hc; replace hx:=hid hx
   go_wp2_with fail
   refine hcall.out.mono ?_; rintro e w2 ⟨rfl,hb2⟩; have hB2:=hB.trans (hb2.mono hB.size); clear c0 c1 c2 c3 c4 hcall hb2 hidx
   cases hp:p x with
   | true =>
    have hfin:=idxF_hit hx.out hp hn.out; rw [hres.out] at hfin; replace hfin:=hid hfin; clear hp
    go_wp2
    go_ret; exact ⟨by rw [hfin.out]; rfl,hB2⟩
   | false =>
    have hn2:=hid (show ∀ i y,i < k+1→l[i]? = some y→p y=false from fun i y hi hy=>by
     by_cases e:i=k
     ·subst e; rw [hx.out] at hy; injection hy with hy; rw [← hy]; exact hp
     ·exact hn.out i y (by omega) hy)
    clear hp
    go_wp2
    exact ⟨⟨k+1,by go_num,by omega,hn2,hB2⟩,by simp [intOf]; omega⟩
  ·have hkl:k=l.length:=by omega
   subst hkl; have hfin:=idxF_miss hn.out; rw [hres.out] at hfin; replace hfin:=hid hfin
   go_wp2
   go_ret; exact ⟨by rw [hfin.out]; rfl,hB⟩
set_option maxHeartbeats 2000000 in
set_option maxRecDepth 100000 in
theorem indexFunc2_any (p:Out→Bool) (l:List Out) (hl:l.length≤1048576) (B:Nat) (S:Foot) (v:Value) (w:World) (hr:SlR 5 OutR S w l v)
  (hf:∀ x∈l,∀ (cs:List Value) (W:World),Below w.heap.size w W→OutR S W x cs→Calls Tryz.prog 66 #[.agg cs.toArray,pt B] W fun e w'=>e=.returned (.bool (p x))∧Below W.heap.size W w') :
  Calls Tryz.prog 22 #[v,.func (Fn.func 66) #[] #[pt B]] w fun e w'=>e=.returned (iv (idxF p l))∧Below w.heap.size w w':=by
 obtain ⟨a,c,rfl,-⟩:=hr.slice; replace hr:=hid hr; replace hf:=hid hf; generalize hres:idxF p l=r; replace hres:=hid hres
 go_enter Tryz.func22,Tryz.ntmps22
 go_wp2
 go_loopw [5,8] (fun _ i wr=>∃ k:Nat,i=.int .i64 k∧k≤l.length∧Hid (∀ i y,i < k→l[i]? = some y→p y=false)∧Below w.heap.size w wr) (fun _ i _=>l.length - (intOf i).toNat)
 case atStart=>exact ⟨0,rfl,Nat.zero_le _,hid (fun i y h=>absurd h (by omega)),Below.refl _ _⟩
 case round =>
  obtain ⟨k,rfl,hk,hn,hB⟩:=hrel; by_cases hlt:k < l.length
  ·obtain ⟨x,hx⟩:∃ x,l[k]? = some x:=⟨_,List.getElem?_eq_getElem hlt⟩
   obtain ⟨g,o,cs,hidx,hS,hg,hc,hR⟩:=(hr.out.below goodOut hB).at (P:=Tryz.prog) (t:=23) (by kernel_rfl) (fun _=>by kernel_rfl) hx; have hcall:=hid (hf.out x (List.mem_of_getElem? hx) _ _ hB hR); obtain ⟨a1,k1,rfl,-⟩:=id hR; have c0:=hc 0 _ rfl; have c1:=hc 1 _ rfl; have c2:=hc 2 _ rfl; have c3:=hc 3 _ rfl; have c4:=hc 4 _ rfl; rw [Nat.add_zero] at c0; clear hR hc; replace hx:=hid hx
   go_wp2_with fail
   refine hcall.out.mono ?_; rintro e w2 ⟨rfl,hb2⟩; have hB2:=hB.trans (hb2.mono hB.size); clear c0 c1 c2 c3 c4 hcall hb2 hidx
   cases hp:p x with
   | true =>
    have hfin:=idxF_hit hx.out hp hn.out; rw [hres.out] at hfin; replace hfin:=hid hfin; clear hp
    go_wp2
    go_ret; exact ⟨by rw [hfin.out]; rfl,hB2⟩
   | false =>
    have hn2:=hid (show ∀ i y,i < k+1→l[i]? = some y→p y=false from fun i y hi hy=>by
     by_cases e:i=k
     ·subst e; rw [hx.out] at hy; injection hy with hy; rw [← hy]; exact hp
     ·exact hn.out i y (by omega) hy)
    clear hp
    go_wp2
    exact ⟨⟨k+1,by go_num,by omega,hn2,hB2⟩,by simp [intOf]; omega⟩
  ·have hkl:k=l.length:=by omega
   subst hkl; have hfin:=idxF_miss hn.out; rw [hres.out] at hfin; replace hfin:=hid hfin
   go_wp2
   go_ret; exact ⟨by rw [hfin.out]; rfl,hB⟩
set_option maxRecDepth 100000 in
theorem pk1_any (key:List UInt8) (x:Out) (cs:List Value) (S:Foot) (w:World) (B:Nat) (hB:w.cell? ⟨B,2,none⟩=some (sv key)) (hBl:B < w.heap.size) (hr:OutR S w x cs) :
  Calls Tryz.prog 65 #[.agg cs.toArray,pt B] w fun e w'=>e=.returned (.bool (keyP key x))∧Below w.heap.size w w':=by
 obtain ⟨a1,k1,rfl,-⟩:=hr; have hb:Below w.heap.size w (w.alloc (.cells (outCs x (.slice a1 x.args.length k1)).toArray 37)):=(Below.refl _ w).alloc (Nat.le_refl _) _; by_cases hk:x.key=key
 ·have e:keyP key x=true:=by unfold keyP; simpa using hk
  rw [e]; clear e
  go_enter Tryz.func65,Tryz.ntmps65
  go_wp2
  go_ret; exact ⟨rfl,hb⟩
 ·have e:keyP key x=false:=by unfold keyP; simpa using hk
  have hkb:(x.key == key)=false:=by simpa using hk
  rw [e]; clear e
  go_enter Tryz.func65,Tryz.ntmps65
  go_wp2
  go_ret; exact ⟨rfl,hb⟩
set_option maxRecDepth 100000 in
theorem pk2_any (key:List UInt8) (x:Out) (cs:List Value) (S:Foot) (w:World) (B:Nat) (hB:w.cell? ⟨B,3,none⟩=some (sv key)) (hBl:B < w.heap.size) (hr:OutR S w x cs) :
  Calls Tryz.prog 66 #[.agg cs.toArray,pt B] w fun e w'=>e=.returned (.bool (keyP key x))∧Below w.heap.size w w':=by
 obtain ⟨a1,k1,rfl,-⟩:=hr; have hb:Below w.heap.size w (w.alloc (.cells (outCs x (.slice a1 x.args.length k1)).toArray 37)):=(Below.refl _ w).alloc (Nat.le_refl _) _; by_cases hk:x.key=key
 ·have e:keyP key x=true:=by unfold keyP; simpa using hk
  rw [e]; clear e
  go_enter Tryz.func66,Tryz.ntmps66
  go_wp2
  go_ret; exact ⟨rfl,hb⟩
 ·have e:keyP key x=false:=by unfold keyP; simpa using hk
  have hkb:(x.key == key)=false:=by simpa using hk
  rw [e]; clear e
  go_enter Tryz.func66,Tryz.ntmps66
  go_wp2
  go_ret; exact ⟨rfl,hb⟩
set_option maxHeartbeats 40000000 in
set_option maxRecDepth 100000 in
theorem sameCmd45_any (c d:Cmd) (hc:ValsB c.args) (hd:ValsB d.args) (S T:Foot) (ca da:List Value) (w:World) (h1:CmdR S w c ca) (h2:CmdR T w d da) :
  Calls Tryz.prog 38 #[.agg ca.toArray,.agg da.toArray] w fun e w'=>e=.returned (.bool (dec (c=d)))∧Below w.heap.size w w':=by
 obtain ⟨a1,k1,rfl,v1⟩:=h1; obtain ⟨a2,k2,rfl,v2⟩:=h2; obtain ⟨ck,cn,co,ce,cm,ca⟩:=c; obtain ⟨dk,dn,dO,de,dm,da⟩:=d; replace v1:ValsR S w ca (.slice a1 ca.length k1):=v1; replace v2:ValsR T w da (.slice a2 da.length k2):=v2; have b1:Below w.heap.size w (w.alloc (.cells #[sv ck,iv cn,sv co,sv ce,sv cm,.slice a1 ca.length k1] 41)):=(Below.refl _ w).alloc (Nat.le_refl _) _; have b2:=b1.alloc b1.size (.cells #[sv dk,iv dn,sv dO,sv de,sv dm,.slice a2 da.length k2] 41); have hs:=hid (vSame_any ca da hc hd S T _ _ _ (v1.move goodVal fun q hq hs=>⟨hs,b2.block q hq⟩) (v2.move goodVal fun q hq hs=>⟨hs,b2.block q hq⟩)); obtain ⟨R,hR⟩:∃ R,R=dec ((⟨ck,cn,co,ce,cm,ca⟩:Cmd)=⟨dk,dn,dO,de,dm,da⟩):=⟨_,rfl⟩; rw [← hR]
 have hbad:(¬ (ck=dk∧cn=dn∧co=dO∧ce=de∧cm=dm))→R=false:=fun h=>by rw [hR]; exact dec_false fun e=>by injection e with e1 e2 e3 e4 e5 e6; exact h ⟨e1,e2,e3,e4,e5⟩
 have hgood:(ck=dk∧cn=dn∧co=dO∧ce=de∧cm=dm)→R=dec (ca=da):=fun h=>by
  rw [hR]; obtain ⟨rfl,rfl,rfl,rfl,rfl⟩:=h; exact dec_iff ⟨fun e=>by injection e,fun e=>by rw [e]⟩
 replace b2:=hid b2; replace hbad:=hid hbad; replace hgood:=hid hgood; clear b1 hR v1 v2 hc hd; by_cases e1:ck=dk
 case neg =>
  have n1:(ck == dk)=false:=by simpa using e1
  have hr:=hid (hbad.out (fun h=>e1 h.1))
  go_enter Tryz.func38,Tryz.ntmps38
  go_wp2_with fail
  go_ret; exact ⟨by rw [hr.out]; rfl,b2.out⟩
 case pos =>
  subst e1; by_cases e2:cn=dn
  case neg =>
   have n1:(cn == dn)=false:=by simpa using e2
   have hr:=hid (hbad.out (fun h=>e2 h.2.1))
   go_enter Tryz.func38,Tryz.ntmps38
   go_wp2_with fail
   go_ret; exact ⟨by rw [hr.out]; rfl,b2.out⟩
  case pos =>
   subst e2; by_cases e3:co=dO
   case neg =>
    have n1:(co == dO)=false:=by simpa using e3
    have hr:=hid (hbad.out (fun h=>e3 h.2.2.1))
    go_enter Tryz.func38,Tryz.ntmps38
    go_wp2_with fail
    go_ret; exact ⟨by rw [hr.out]; rfl,b2.out⟩
   case pos =>
    subst e3; by_cases e4:ce=de
    case neg =>
     have n1:(ce == de)=false:=by simpa using e4
     have hr:=hid (hbad.out (fun h=>e4 h.2.2.2.1))
     go_enter Tryz.func38,Tryz.ntmps38
     go_wp2_with fail
     go_ret; exact ⟨by rw [hr.out]; rfl,b2.out⟩
    case pos =>
     subst e4; by_cases e5:cm=dm
     case neg =>
      have n1:(cm == dm)=false:=by simpa using e5
      have hr:=hid (hbad.out (fun h=>e5 h.2.2.2.2))
      go_enter Tryz.func38,Tryz.ntmps38
      go_wp2_with fail
      go_ret; exact ⟨by rw [hr.out]; rfl,b2.out⟩
     case pos =>
      subst e5; have hr:=hid (hgood.out ⟨rfl,rfl,rfl,rfl,rfl⟩)
      go_enter Tryz.func38,Tryz.ntmps38
      go_wp2_with fail
      refine hs.out.mono ?_; rintro e w3 ⟨rfl,hb3⟩; have hbf:=hid (b2.out.trans (hb3.mono b2.out.size)); clear hb3 hs
      go_wp2_with fail
      go_ret; exact ⟨by rw [hr.out]; rfl,hbf.out⟩
set_option maxHeartbeats 40000000 in
set_option maxRecDepth 100000 in
theorem equalFunc45_any (l m:List Cmd) (hl:l.length≤1000000) (hm:m.length≤1000000) (hlb:∀ c∈l,ValsB c.args) (hmb:∀ c∈m,ValsB c.args) (S T:Foot) (vl vm:Value) (w:World) (h1:SlR 6 CmdR S w l vl) (h2:SlR 6 CmdR T w m vm) :
  Calls Tryz.prog 37 #[vl,vm,.func (Fn.func 38) #[] #[]] w fun e w'=>e=.returned (.bool (dec (l=m)))∧Below w.heap.size w w':=by
 obtain ⟨a1,k1,rfl,-⟩:=h1.slice; obtain ⟨a2,k2,rfl,-⟩:=h2.slice; obtain ⟨R,hR⟩:∃ R,R=dec (l=m):=⟨_,rfl⟩; rw [← hR]; by_cases hlen:l.length=m.length
 ·replace hR:=hid hR
  replace h1:=hid h1; replace h2:=hid h2; replace hlb:=hid hlb; replace hmb:=hid hmb; obtain ⟨n,hn⟩:∃ n,n=l.length:=⟨_,rfl⟩; rw [← hn] at hlen hl; rw [← hn,← hlen]; have hn':=hid hn; have hlen':=hid hlen; clear hn hlen hm
  go_enter Tryz.func37,Tryz.ntmps37
  go_wp2_with fail
  go_loopg [17] n (fun f v17 wr=>∃ i:Nat,v17=iv i∧i+f=n∧Hid (l.take i=m.take i)∧Hid (Below w.heap.size w wr))
  case atStart=>exact ⟨0,rfl,by omega,hid rfl,hid (Below.refl _ _)⟩
  case round =>
   obtain ⟨i,rfl,hif,hE,hB⟩:=hrel; by_cases hin:i < n
   ·have q1:decide ((i:Int) < (n:Int))=true:=decide_eq_true (by omega)
    have q1':decide (i < n)=true:=decide_eq_true hin; obtain ⟨x,hx⟩:∃ x,l[i]? = some x:=⟨_,List.getElem?_eq_getElem (by rw [← hn'.out]; exact hin)⟩; obtain ⟨y,hy⟩:∃ y,m[i]? = some y:=⟨_,List.getElem?_eq_getElem (by rw [← hlen'.out]; exact hin)⟩; obtain ⟨g,o,cs,hidx,-,-,hc,hRx⟩:=(h1.out.below goodCmd hB.out).at (P:=Tryz.prog) (t:=28) (by kernel_rfl) (fun _=>by kernel_rfl) hx; obtain ⟨g2,o2,ds,hidx2,-,-,hc2,hRy⟩:=(h2.out.below goodCmd hB.out).at (P:=Tryz.prog) (t:=28) (by kernel_rfl) (fun _=>by kernel_rfl) hy; rw [← hn'.out] at hidx; rw [← hlen'.out] at hidx2
    have b1:∀ o,Below wr.heap.size wr (wr.alloc o):=fun o=>(Below.refl _ wr).alloc (Nat.le_refl _) _
    have b2:∀ o o',Below wr.heap.size wr ((wr.alloc o).alloc o'):=fun o o'=>(b1 o).alloc (b1 o).size _
    have hcall:=fun o o'=>sameCmd45_any x y (hlb.out x (List.mem_of_getElem? hx)) (hmb.out y (List.mem_of_getElem? hy)) S T cs ds ((wr.alloc o).alloc o') (goodCmd.below hRx (b2 o o')) (goodCmd.below hRy (b2 o o'))
    obtain ⟨e1,f1,rfl,-⟩:=id hRx; obtain ⟨e2,f2,rfl,-⟩:=id hRy; have c0:=hc 0 _ rfl; have c1:=hc 1 _ rfl; have c2:=hc 2 _ rfl; have c3:=hc 3 _ rfl; have c4:=hc 4 _ rfl; have c5:=hc 5 _ rfl; rw [Nat.add_zero] at c0; obtain ⟨xk,xn,xo,xe,xm,xa⟩:=x; obtain ⟨yk,yn,yo,ye,ym,ya⟩:=y; replace c0:wr.cell? ⟨g,o,none⟩=some (sv xk):=c0; replace c1:wr.cell? ⟨g,o+1,none⟩=some (iv xn):=c1; replace c2:wr.cell? ⟨g,o+2,none⟩=some (sv xo):=c2; replace c3:wr.cell? ⟨g,o+3,none⟩=some (sv xe):=c3; replace c4:wr.cell? ⟨g,o+4,none⟩=some (sv xm):=c4; replace c5:wr.cell? ⟨g,o+5,none⟩=some (.slice e1 xa.length f1):=c5
    have d0:(wr.alloc (.cells #[sv xk,iv xn,sv xo,sv xe,sv xm,.slice e1 xa.length f1] 41 (0,0))).cell? ⟨g2,o2,none⟩=some (sv yk):=((b1 _).cell (p:=⟨g2,o2,none⟩) (World.block_lt_of_cell? wr _ (hc2 0 _ rfl))).trans (hc2 0 _ rfl); have d1:(wr.alloc (.cells #[sv xk,iv xn,sv xo,sv xe,sv xm,.slice e1 xa.length f1] 41 (0,0))).cell? ⟨g2,o2+1,none⟩=some (iv yn):=((b1 _).cell (p:=⟨g2,o2+1,none⟩) (World.block_lt_of_cell? wr _ (hc2 1 _ rfl))).trans (hc2 1 _ rfl); have d2:(wr.alloc (.cells #[sv xk,iv xn,sv xo,sv xe,sv xm,.slice e1 xa.length f1] 41 (0,0))).cell? ⟨g2,o2+2,none⟩=some (sv yo):=((b1 _).cell (p:=⟨g2,o2+2,none⟩) (World.block_lt_of_cell? wr _ (hc2 2 _ rfl))).trans (hc2 2 _ rfl)
    have d3:(wr.alloc (.cells #[sv xk,iv xn,sv xo,sv xe,sv xm,.slice e1 xa.length f1] 41 (0,0))).cell? ⟨g2,o2+3,none⟩=some (sv ye):=((b1 _).cell (p:=⟨g2,o2+3,none⟩) (World.block_lt_of_cell? wr _ (hc2 3 _ rfl))).trans (hc2 3 _ rfl); have d4:(wr.alloc (.cells #[sv xk,iv xn,sv xo,sv xe,sv xm,.slice e1 xa.length f1] 41 (0,0))).cell? ⟨g2,o2+4,none⟩=some (sv ym):=((b1 _).cell (p:=⟨g2,o2+4,none⟩) (World.block_lt_of_cell? wr _ (hc2 4 _ rfl))).trans (hc2 4 _ rfl); have d5:(wr.alloc (.cells #[sv xk,iv xn,sv xo,sv xe,sv xm,.slice e1 xa.length f1] 41 (0,0))).cell? ⟨g2,o2+5,none⟩=some (.slice e2 ya.length f2):=((b1 _).cell (p:=⟨g2,o2+5,none⟩) (World.block_lt_of_cell? wr _ (hc2 5 _ rfl))).trans (hc2 5 _ rfl)
    have hcall2:=hid (hcall (.cells #[sv xk,iv xn,sv xo,sv xe,sv xm,.slice e1 xa.length f1] 41 (0,0)) (.cells #[sv yk,iv yn,sv yo,sv ye,sv ym,.slice e2 ya.length f2] 41 (0,0))); have hBf:=hid (hB.out.trans ((b2 (.cells #[sv xk,iv xn,sv xo,sv xe,sv xm,.slice e1 xa.length f1] 41 (0,0)) (.cells #[sv yk,iv yn,sv yo,sv ye,sv ym,.slice e2 ya.length f2] 41 (0,0))).mono hB.out.size)); have hx':=hid hx; have hy':=hid hy; clear hc hc2 hRx hRy b1 b2 hcall hx hy
    go_wp2_with fail
    refine hcall2.out.mono ?_; rintro e w3 ⟨rfl,hb3⟩; have hB3:=hid (hBf.out.trans (hb3.mono hBf.out.size)); clear hcall2 hb3 c0 c1 c2 c3 c4 c5 d0 d1 d2 d3 d4 d5 hidx hidx2; rcases dec_cases ((⟨xk,xn,xo,xe,xm,xa⟩:Cmd)=⟨yk,yn,yo,ye,ym,ya⟩) with ⟨e9,e8⟩ | ⟨e9,e8⟩
    ·have hE2:=hid (take_eq_succ hE.out hx'.out hy'.out e9)
     rw [e8]; clear e9 e8
     go_wp2_with fail
     go_roundg (n - (i+1))
     case measure=>omega
     case rel=>exact ⟨i+1,by go_num,by omega,hE2,hB3⟩
    ·have hr:Hid (R=false):=hid (by rw [hR.out]; exact dec_false fun e=>e9 (by
      have h3:=hx'.out; rw [e,hy'.out] at h3; injection h3 with h3
      exact h3.symm))
     rw [e8]; clear e9 e8
     go_wp2_with fail
     go_ret; exact ⟨by rw [hr.out]; rfl,hB3.out⟩
   ·have q1:decide ((i:Int) < (n:Int))=false:=decide_eq_false (by omega)
    have q1':decide (i < n)=false:=decide_eq_false hin
    have hr:Hid (R=true):=hid (by
     rw [hR.out]; have:=hE.out; rw [List.take_of_length_le (by rw [← hn'.out]; omega),List.take_of_length_le (by rw [← hlen'.out]; omega)] at this
     exact dec_true this)
    go_wp2_with fail
    go_ret; exact ⟨by rw [hr.out]; rfl,hB.out⟩
 ·have q:((l.length:Int) == (m.length:Int))=false:=by simp; omega
  have q2:(l.length == m.length)=false:=by simpa using hlen
  have hr:Hid (R=false):=hid (by rw [hR]; exact dec_false fun e=>hlen (by rw [e])); clear hR h1 h2
  go_enter Tryz.func37,Tryz.ntmps37
  go_wp2_with fail
  go_ret; exact ⟨by rw [hr.out]; rfl,Below.refl _ _⟩

def keyI (l:List Out) (key:List UInt8):Int:=idxF (keyP key) l
/-- what a step says of the choices -/
def pickS (x:Stl) (c:Cmd) (p:Nat→Int):Nat→Int:=if c.kind=4∧0≤keyI x.undo c.of∧0≤keyI x.do c.new then Pl.upd p (keyI x.undo c.of).toNat (keyI x.do c.new) else p
def pickedF (x:Stl) (l:List Cmd):Nat→(Nat→Int)
 | 0=>fun _=>-1
 | n+1=>match l[n]? with
  | some c=>pickS x c (pickedF x l n)
  | none=>pickedF x l n
set_option maxHeartbeats 40000000 in
set_option maxRecDepth 100000 in
theorem picked_any (X:XB) (x:Stl) (l:List Cmd) (S:Foot) (v:Value) (w:World) (h:StM X x w) (hl:l.length≤1000000) (hs:SlR 6 CmdR S w l v) :
  Calls Tryz.prog 35 #[pt X.xb,v] w fun e w'=>∃ pb,e=.returned (.slice (some ⟨pb,0,none⟩) x.undo.length x.undo.length)∧IB pb x.undo.length (pickedF x l l.length) w'∧w.heap.size≤pb∧Below w.heap.size w w':=by
 obtain ⟨sa,sc,rfl,-⟩:=hs.slice; have hul:=h.ul; have hkl:=h.kl; obtain ⟨m,hm⟩:∃ m,m=x.undo.length:=⟨_,rfl⟩
 obtain ⟨k,hk⟩:∃ k,k=x.do.length:=⟨_,rfl⟩
 have x0:w.cell? ⟨X.xb,0,none⟩=some (.slice X.ua m X.uc):=by rw [hm]; exact h.fields.1
 have x1:w.cell? ⟨X.xb,1,none⟩=some (.slice X.da k X.dc):=by rw [hk]; exact h.fields.2.1
 have hxl:=lt_of_heap h.blk; rw [← hm] at hul ⊢; rw [← hk] at hkl; have m1:=pmkInts m (by omega) w; have hb1:Below w.heap.size w (w.alloc (.cells (Array.replicate m (iv 0)) 3 (0,0))):=(Below.refl _ w).alloc (Nat.le_refl _) _; have i1:=ib_made w m; obtain ⟨W1,hW1⟩:∃ W,W=w.alloc (.cells (Array.replicate m (iv 0)) 3 (0,0)):=⟨_,rfl⟩; rw [← hW1] at hb1 i1 m1; obtain ⟨pb,hpb⟩:∃ t,t=w.heap.size:=⟨_,rfl⟩; rw [← hpb] at m1 i1; have hi1:=hid (i1); replace hb1:=hid hb1; replace h:=hid h; replace hs:=hid hs; replace hm:=hid hm; replace hk:=hid hk; replace hW1:=hid hW1; have hpbw:=hid (show w.heap.size≤pb by omega); replace hpb:=hid hpb; clear i1
 go_enter Tryz.func35,Tryz.ntmps35
 go_wp2_with fail
 go_loopg [19] m (fun f v19 wr=>∃ (i:Nat) (fv:Nat→Int),v19=iv i∧i+f=m∧Hid (∀ q,q < i→fv q = -1)∧Hid (IB pb m fv wr)∧Hid (Below w.heap.size w wr))
 case atStart=>exact ⟨0,_,rfl,by omega,hid (fun q hq=>by omega),hi1,hb1⟩
 case round =>
  obtain ⟨i,fv,rfl,hif,hfv,hI,hB⟩:=hrel; clear hi1 hb1 m1; by_cases hin:i < m
  ·have q1:decide ((i:Int) < (m:Int))=true:=decide_eq_true (by omega)
   have q1':decide (i < m)=true:=decide_eq_true hin
   have k1:=fun kd W=>ib_idx (g:=pb) (n:=m) (cap:=m) hin kd W
   have u1:=hI.out.cell hin; have u2:=hI.out.free i; have hI2:=hid (hI.out.set hin (-1)); have hB2:=hid (below_set (i:=i) hB.out hpbw.out (iv (-1)))
   go_wp2_with fail
   go_roundg (m - (i+1))
   case measure=>omega
   case rel=>exact ⟨i+1,_,by go_num,by omega,hid (fun q hq=>by
    by_cases e:q=i
    ·rw [e,Pl.upd_same]
    ·rw [Pl.upd_other _ _ e]; exact hfv.out q (by omega)),hI2,hB2⟩
  ·have q1:decide ((i:Int) < (m:Int))=false:=decide_eq_false (by omega)
   have q1':decide (i < m)=false:=decide_eq_false hin; have hi0:Hid (IB pb m (pickedF x l 0) wr):=hid (hI.out.congr fun q hq=>by rw [hfv.out q (by omega)]; rfl); obtain ⟨n,hn⟩:∃ n,n=l.length:=⟨_,rfl⟩; rw [← hn] at hl ⊢; replace hn:=hid hn
   have him:i=m:=by omega
   subst him; clear hI hfv
   go_wp2_with fail
   go_loopg [28] n (fun f v28 wr=>∃ (j:Nat),v28=iv j∧j+f=n∧Hid (IB pb i (pickedF x l j) wr)∧Hid (Below w.heap.size w wr))
   case atStart=>exact ⟨0,rfl,by omega,hi0,hB⟩
   case round =>
    obtain ⟨j,rfl,hjf,hI,hB⟩:=hrel; clear hi0; by_cases hjn:j < n
    ·have q2:decide ((j:Int) < (n:Int))=true:=decide_eq_true (by omega)
     have q2':decide (j < n)=true:=decide_eq_true hjn; obtain ⟨c,hc⟩:∃ c,l[j]? = some c:=⟨_,List.getElem?_eq_getElem (by rw [← hn.out]; exact hjn)⟩
     have hnx:pickedF x l (j+1)=pickS x c (pickedF x l j):=by show (match l[j]? with | some c=>pickS x c (pickedF x l j) | none=>pickedF x l j)=_; rw [hc]
     obtain ⟨g,o,cs,hidx,-,-,hcc,hRc⟩:=(hs.out.below goodCmd hB.out).at (P:=Tryz.prog) (t:=28) (by kernel_rfl) (fun _=>by kernel_rfl) hc; obtain ⟨a1,k1,rfl,-⟩:=hRc; obtain ⟨ck,cn,co,ce,cm,ca⟩:=c; rw [← hn.out] at hidx; have c0:=hcc 0 _ rfl; have c1:=hcc 1 _ rfl; have c2:=hcc 2 _ rfl; have c3:=hcc 3 _ rfl; have c4:=hcc 4 _ rfl; have c5:=hcc 5 _ rfl; rw [Nat.add_zero] at c0; replace c0:wr.cell? ⟨g,o,none⟩=some (sv ck):=c0; replace c1:wr.cell? ⟨g,o+1,none⟩=some (iv cn):=c1; replace c2:wr.cell? ⟨g,o+2,none⟩=some (sv co):=c2; replace c3:wr.cell? ⟨g,o+3,none⟩=some (sv ce):=c3; replace c4:wr.cell? ⟨g,o+4,none⟩=some (sv cm):=c4; replace c5:wr.cell? ⟨g,o+5,none⟩=some (.slice a1 ca.length k1):=c5
     have kz:Below wr.heap.size wr (wr.alloc (.cells #[sv ck,iv cn,sv co,sv ce,sv cm,.slice a1 ca.length k1] 41 (0,0))):=(Below.refl _ wr).alloc (Nat.le_refl _) _; have rc:=heap_alloc_new' wr (.cells #[sv ck,iv cn,sv co,sv ce,sv cm,.slice a1 ca.length k1] 41 (0,0)); have hIz:=hid (hI.out.below kz); have hBz:=hid (hB.out.trans (kz.mono hB.out.size)); obtain ⟨cb,hcb⟩:∃ q,q=wr.heap.size:=⟨_,rfl⟩; obtain ⟨W3,hW3⟩:∃ W,W=wr.alloc (.cells #[sv ck,iv cn,sv co,sv ce,sv cm,.slice a1 ca.length k1] 41 (0,0)):=⟨_,rfl⟩; rw [← hW3] at hIz hBz rc; rw [← hcb] at rc; obtain ⟨-,r1,r2,r3,-,-,-⟩:=cmd_cells rc; rw [hW3,hcb] at r1; have hWe:=hid hW3; have hcbe:=hid hcb; have hrch:=hid rc; clear hcc kz hI hB hW3 hcb rc hc; by_cases hk4:cn=4
     ·subst hk4
      have xz0:W3.cell? ⟨X.xb,0,none⟩=some (.slice X.ua i X.uc):=(hBz.out.cell (p:=⟨X.xb,0,none⟩) hxl).trans x0; have hX3:=h.out.below hBz.out
      have hun:=hX3.undo
      rw [← hm.out] at hun; have hf1:=indexFunc1_any (keyP co) x.undo (by rw [← hm.out]; omega) cb X.F _ W3 hun (fun u hu cs W hW hR=>pk1_any co u cs X.F W cb ((hW.cell (p:=⟨cb,2,none⟩) (lt_of_heap hrch.out)).trans r2) (Nat.lt_of_lt_of_le (lt_of_heap hrch.out) hW.size) hR); obtain ⟨I1,hI1⟩:∃ z,z=keyI x.undo co:=⟨_,rfl⟩; replace hf1:=hid (show Calls _ _ _ _ (fun e w'=>e=.returned (iv (keyI x.undo co))∧Below W3.heap.size W3 w') from hf1); rw [← hI1] at hf1; replace hI1:=hid hI1; clear hun hX3
      go_upto_region 11 with (fail)
      rw [← hcbe.out,← hWe.out]; clear c0 c1 c2 c3 c4 c5 r1 hWe hidx
      go_wp2_with fail
      refine hf1.out.mono ?_; rintro e W5 ⟨rfl,hb5⟩; have hB5:=hid (hBz.out.trans (hb5.mono hBz.out.size)); have hI5:=hid (hIz.out.below hb5); have xz1:W5.cell? ⟨X.xb,1,none⟩=some (.slice X.da k X.dc):=(hB5.out.cell (p:=⟨X.xb,1,none⟩) hxl).trans x1; have hX5:=h.out.below hB5.out
      have hdn:=hX5.do
      rw [← hk.out] at hdn; have hcl:=lt_of_heap hrch.out
      have hf2:=indexFunc2_any (keyP ce) x.do (by rw [← hk.out]; omega) cb X.F _ W5 hdn (fun u hu cs W hW hR=>pk2_any ce u cs X.F W cb (((hb5.trans (hW.mono hb5.size)).cell (p:=⟨cb,3,none⟩) hcl).trans r3) (Nat.lt_of_lt_of_le hcl (hb5.trans (hW.mono hb5.size)).size) hR)
      obtain ⟨I2,hI2⟩:∃ z,z=keyI x.do ce:=⟨_,rfl⟩
      replace hf2:=hid (show Calls _ _ _ _ (fun e w'=>e=.returned (iv (keyI x.do ce))∧Below W5.heap.size W5 w') from hf2); rw [← hI2] at hf2; replace hI2:=hid hI2; clear hdn hX5 hf1 hb5 xz0 hIz hBz r2 r3
      go_wp2_with fail
      refine hf2.out.mono ?_; rintro e W6 ⟨rfl,hb6⟩; have hB6:=hid (hB5.out.trans (hb6.mono hB5.out.size)); have hI6:=hid (hI5.out.below hb6); clear hf2 hb6 xz1 hI5 hB5
      have hnx2:pickedF x l (j+1)=if 0≤I1∧0≤I2 then Pl.upd (pickedF x l j) I1.toNat I2 else pickedF x l j:=by
       rw [hnx,hI1.out,hI2.out]; unfold pickS
       by_cases e:0≤keyI x.undo co∧0≤keyI x.do ce
       ·rw [if_pos ⟨rfl,e⟩,if_pos e]
       ·rw [if_neg (fun h=>e h.2),if_neg e]
      have hb1:I1 = -1∨∃ q:Nat,I1=q∧q < i:=by
       rcases idxF_bounds (keyP co) x.undo with e | ⟨q,y,e,e2,-⟩
       ·left; rw [hI1.out]; exact e
       ·right; exact ⟨q,by rw [hI1.out]; exact e,by rw [hm.out]; exact e2⟩
      replace hnx:=hid hnx; rcases hb1 with rfl | ⟨q,rfl,hq⟩
      ·rw [if_neg (by omega)] at hnx2
       replace hnx2:=hid hnx2
       go_wp2_with fail
       go_roundg (n - (j+1))
       case measure=>omega
       case rel=>exact ⟨j+1,by go_num,by omega,hid (by rw [hnx2.out]; exact hI6.out),hB6⟩
      ·by_cases h2:0≤I2
       ·rw [if_pos ⟨by omega,h2⟩,show ((q:Nat):Int).toNat=q from rfl] at hnx2
        have z1:decide ((0:Int)≤(q:Int))=true:=decide_eq_true (by omega); have z2:decide ((0:Int)≤I2)=true:=decide_eq_true h2
        have k1:=fun kd W=>ib_idx (g:=pb) (n:=i) (cap:=i) hq kd W
        have u1:=hI6.out.cell hq; have u2:=hI6.out.free q; have hI7:=hid (show IB pb i (pickedF x l (j+1)) (W6.setCell ⟨pb,q,none⟩ (iv I2)) from by rw [hnx2]; exact hI6.out.set hq I2); have hB7:=hid (below_set (i:=q) hB6.out hpbw.out (iv I2)); replace hnx2:=hid hnx2; clear h2
        go_wp2_with fail
        go_roundg (n - (j+1))
        case measure=>omega
        case rel=>exact ⟨j+1,by go_num,by omega,hI7,hB7⟩
       ·rw [if_neg (fun h=>h2 h.2)] at hnx2
        have z1:decide ((0:Int)≤(q:Int))=true:=decide_eq_true (by omega); have z2:decide ((0:Int)≤I2)=false:=decide_eq_false h2; replace hnx2:=hid hnx2; clear h2
        go_wp2_with fail
        go_roundg (n - (j+1))
        case measure=>omega
        case rel=>exact ⟨j+1,by go_num,by omega,hid (by rw [hnx2.out]; exact hI6.out),hB6⟩
     ·have hk4b:(cn == 4)=false:=by simpa using hk4
      have hn2:=hid (show pickedF x l (j+1)=pickedF x l j by rw [hnx]; unfold pickS; rw [if_neg (fun h=>hk4 h.1)]); replace hnx:=hid hnx; have hIz2:=hid (hWe.out ▸ hIz.out); have hBz2:=hid (hWe.out ▸ hBz.out); clear hIz hBz
      go_wp2_with fail
      go_roundg (n - (j+1))
      case measure=>omega
      case rel=>exact ⟨j+1,by go_num,by omega,hid (by rw [hn2.out]; exact hIz2.out),hBz2⟩
    ·have q2:decide ((j:Int) < (n:Int))=false:=decide_eq_false (by omega)
     have q2':decide (j < n)=false:=decide_eq_false hjn
     have hjn2:j=n:=by omega
     subst hjn2
     go_wp2_with fail
     go_ret; exact ⟨pb,rfl,by rw [← hn.out]; exact hI.out,hpbw.out,hB.out⟩
end Go.Proofs.YtfejagpjahoibaaGreatDoor
