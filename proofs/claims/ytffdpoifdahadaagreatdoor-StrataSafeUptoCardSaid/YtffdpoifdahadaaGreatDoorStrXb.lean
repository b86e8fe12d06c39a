/- StrXb: StrXa, StrXb, in one text. -/
import Derived.Test.YtffdpoifdahadaaGreatDoorStrI
import Derived.Test.YtffdpoifdahadaaGreatDoorStrWb
import Derived.Test.YtffdpoifdahadaaGreatDoorAskZb
import Derived.Test.YtffdpoifdahadaaGreatDoorStrWi
set_option linter.unusedVariables false
namespace Go.Proofs.YtffdpoifdahadaaGreatDoor
open Go.RowKit
open Go.Lib (hid)
def lgD (x:Lg):Bool:=decide (x.rel.length≤40000) && decide (x.args.length≤100000) && x.args.all fun t=>decide (t.var.length≤40000)
theorem lgD_ok {x:Lg} (h:lgD x=true):LgB x:=by
 unfold lgD at h; simp only [Bool.and_eq_true,decide_eq_true_eq,List.all_eq_true] at h; exact ⟨h.1.1,h.1.2,h.2⟩
def qsD (q:Qg):Bool:=decide (q.rules.length≤1048576) && lgD q.goal && q.rules.all fun r=>lgD r.head && decide (r.body.length≤100000) && r.body.all lgD
theorem qsD_ok {q:Qg} (h:qsD q=true):QgB q∧q.rules.length≤1048576:=by
 unfold qsD at h; simp only [Bool.and_eq_true,decide_eq_true_eq,List.all_eq_true] at h; exact ⟨⟨fun r hr=>⟨lgD_ok (h.2 r hr).1.1,(h.2 r hr).1.2,fun x hx=>lgD_ok ((h.2 r hr).2 x hx)⟩,lgD_ok h.1.2⟩,h.1.1⟩
def chkS (s:List UInt8):Option (Int × List (List Nat)):=match parseF s with
 | .ok u=>if noS s && qsD u.g then some (checkF arF u.g (textW u.g).isSome) else none
 | .error _=>none
theorem chk_ok {s:List UInt8} {r:Int × List (List Nat)} (h:chkS s=some r):noS s=true∧∃ u,parseF s=.ok u∧QgB u.g∧u.g.rules.length≤1048576∧checkF arF u.g (textW u.g).isSome=r:=by
 unfold chkS at h
 cases hp:parseF s with
 | ok u =>
  rw [hp] at h; replace h:(if (noS s && qsD u.g)=true then some (checkF arF u.g (textW u.g).isSome) else none)=some r:=h; split at h
  ·rename_i hc
   rw [Bool.and_eq_true] at hc; injection h with h; exact ⟨hc.1,u,rfl,(qsD_ok hc.2).1,(qsD_ok hc.2).2,h⟩
  ·cases h
 | error e=>rw [hp] at h; cases h
def smS1:List UInt8:=[97,40,116,41,32,58,45,32,104,97,110,100,108,101,100,40,116,44,32,95,44,32,95,41,44,32,110,111,116,32,98,40,116,41,46,32,98,40,116,41,32,58,45,32,115,101,110,116,40,116,44,32,95,44,32,95,44,32,95,41,46,32,63,32,97,40,116,41]
def smS2:List UInt8:=[97,40,112,44,32,99,111,117,110,116,40,116,41,41,32,58,45,32,104,97,110,100,108,101,100,40,116,44,32,112,44,32,95,41,46,32,98,40,112,41,32,58,45,32,97,40,112,44,32,110,41,44,32,110,32,60,32,51,46,32,99,40,112,41,32,58,45,32,98,40,112,41,46,32,99,40,112,41,32,58,45,32,99,40,112,41,44,32,120,32,61,32,49,32,43,32,110,44,32,110,32,61,32,50,44,32,51,32,61,32,120,46,32,63,32,99,40,112,41]
def smS3:List UInt8:=[97,40,116,41,32,58,45,32,101,118,101,110,116,40,116,44,32,95,41,44,32,110,111,116,32,97,40,116,41,46,32,63,32,97,40,116,41]
def smS4:List UInt8:=[97,40,116,41,32,58,45,32,116,32,60,32,53,46,32,63,32,97,40,116,41]
def smS5:List UInt8:=[97,40,116,41,32,58,45,32,101,118,101,110,116,40,116,41,46,32,63,32,97,40,116,41]
def smS6:List UInt8:=[101,118,101,110,116,40,116,44,32,120,41,32,58,45,32,104,97,110,100,108,101,100,40,116,44,32,120,44,32,95,41,46,32,63,32,101,118,101,110,116,40,116,44,32,120,41]
def smS7:List UInt8:=[97,40,116,41,32,58,45,32,101,118,101,110,116,40,116,44,32,95,41,46,32,63,32,98,40,116,41]
def smS8:List UInt8:=[97,40,99,111,117,110,116,40,116,41,41,32,58,45,32,97,40,116,41,46,32,63,32,97,40,116,41]
theorem smR1:chkS smS1=some (0,[[1],[0]]):=by kernel_rfl
theorem smR2:chkS smS2=some (0,[[0,1,2,3]]):=by kernel_rfl
theorem smR3:chkS smS3=some (19,[]):=by kernel_rfl
theorem smR4:chkS smS4=some (18,[]):=by kernel_rfl
theorem smR5:chkS smS5=some (8,[]):=by kernel_rfl
theorem smR6:chkS smS6=some (8,[]):=by kernel_rfl
theorem smR7:chkS smS7=some (8,[]):=by kernel_rfl
theorem smR8:chkS smS8=some (19,[]):=by kernel_rfl
def smRule:Rg:=⟨⟨0,false,[97],[⟨[120],0,[],0,0,[],0⟩]⟩,0,0,[⟨3,false,[],[⟨[120],0,[],0,0,[],0⟩,⟨[121],0,[],0,0,[],0⟩]⟩,⟨1,false,[],[⟨[120],0,[],0,0,[],0⟩,⟨[121],0,[],0,0,[],0⟩]⟩,⟨0,false,[101,118,101,110,116],[⟨[121],0,[],0,0,[],0⟩,⟨[95,49],0,[],0,0,[],0⟩]⟩]⟩
theorem smO:orderF smRule.head smRule.body=some [2,1,0]:=by kernel_rfl
end Go.Proofs.YtffdpoifdahadaaGreatDoor
set_option linter.unusedSimpArgs false
namespace Go.Proofs.YtffdpoifdahadaaGreatDoor
open Go.RowKit
open Go.Lib (hid)
theorem nat_at {S:Foot} {w:World} {l:List Nat} {a:Option Addr} {n cap i:Nat} {x:Nat} (h:SlR 1 NatR S w l (.slice a n cap)) (hi:l[i]? = some x) :
  ∃ g o,(∀ kd W,(Instr.indexAt 33 (.slice a n cap) (.int kd i)).run Tryz.prog W=.ok (.pointer (some ⟨g,o,none⟩)) W)∧w.cell? ⟨g,o,none⟩=some (iv x):=by
 obtain ⟨g,o,cs,h1,h2,h3,h4,h5⟩:=h.at (P:=Tryz.prog) (t:=33) (by kernel_rfl) (fun _=>by kernel_rfl) hi; refine ⟨g,o,h1,?_⟩; have:=h4 0 (iv x) (by rw [show cs=[iv (x:Int)] from h5]; rfl); simpa using this
theorem row_at {S:Foot} {w:World} {l:List (List Nat)} {a:Option Addr} {n cap i:Nat} {x:List Nat} (h:SlR 1 RowN S w l (.slice a n cap)) (hi:l[i]? = some x) :
  ∃ g o ai ci,(∀ kd W,(Instr.indexAt 40 (.slice a n cap) (.int kd i)).run Tryz.prog W=.ok (.pointer (some ⟨g,o,none⟩)) W)∧w.cell? ⟨g,o,none⟩=some (.slice ai x.length ci)∧SlR 1 NatR S w x (.slice ai x.length ci):=by
 obtain ⟨g,o,cs,h1,h2,h3,h4,h5⟩:=h.at (P:=Tryz.prog) (t:=40) (by kernel_rfl) (fun _=>by kernel_rfl) hi; obtain ⟨v,rfl,hv⟩:=h5; obtain ⟨ai,ci,rfl,-⟩:=hv.slice; refine ⟨g,o,ai,ci,h1,?_,hv⟩; have:=h4 0 _ rfl; simpa using this
theorem list_diff {α:Type} {a b:List α} {k:Nat} (hl:a.length=b.length) (h:∀ i,i < k→a[i]? = b[i]?) (hk:a.length≤k):a=b:=List.ext_getElem? fun i=>by
 by_cases hi:i < k
 ·exact h i hi
 ·rw [List.getElem?_eq_none (by omega),List.getElem?_eq_none (by omega)]
set_option maxHeartbeats 4000000 in
set_option maxRecDepth 100000 in
theorem sameInts_any (a b:List Nat) (aa ba:Option Addr) (ac bc:Nat) (S T:Foot) (w:World) (ha:SlR 1 NatR S w a (.slice aa a.length ac)) (hb:SlR 1 NatR T w b (.slice ba b.length bc)) (hal:a.length≤1000000000000) (hbl:b.length≤1000000000000) :
  Calls Tryz.prog 25 #[.slice aa a.length ac,.slice ba b.length bc] w fun e w'=>e=.returned (.bool (decide (a=b)))∧Below w.heap.size w w':=by
 obtain ⟨R,hR⟩:∃ R,R=decide (a=b):=⟨_,rfl⟩; rw [← hR]; replace hR:=hid hR; have hB0:=hid (Below.refl w.heap.size w); by_cases hl:a.length=b.length
 ·obtain ⟨n,hn⟩:∃ n,n=a.length:=⟨_,rfl⟩
  have hn2:=hn.trans hl; rw [← hl,← hn]; rw [← hn] at ha hal; rw [← hn2] at hb; replace ha:=hid ha; replace hb:=hid hb; replace hn:=hid hn; replace hn2:=hid hn2; replace hl:=hid hl
  go_enter Tryz.func25,Tryz.ntmps25
  go_wp2_with fail
  go_loopg [5] n (fun f v5 wr=>∃ (k:Nat),v5=iv k∧k+f=n∧Hid (∀ i,i < k→a[i]? = b[i]?)∧Hid (Below w.heap.size w wr))
  case atStart=>exact ⟨0,rfl,by omega,hid fun i hi=>by omega,hB0⟩
  case round =>
   obtain ⟨k,rfl,hkf,hsame,hB⟩:=hrel; clear hB0; by_cases hlt:k < n
   ·have q1:decide ((k:Int) < (n:Int))=true:=decide_eq_true (by omega)
    have q3:IntKind.i64.wrap ((k:Int)+1)=((k+1:Nat):Int):=by rw [IntKind.wrap_i64]; omega
    obtain ⟨x,hx⟩:∃ x,a[k]? = some x:=⟨_,List.getElem?_eq_getElem (by have:=hn.out; omega)⟩; obtain ⟨y,hy⟩:∃ y,b[k]? = some y:=⟨_,List.getElem?_eq_getElem (by have:=hn2.out; omega)⟩; obtain ⟨g1,o1,i1,c1⟩:=nat_at (ha.out.below goodNat hB.out) hx; obtain ⟨g2,o2,i2,c2⟩:=nat_at (hb.out.below goodNat hB.out) hy; by_cases he:x=y
    ·subst he
     have hs2:=hid (show ∀ i,i < k+1→a[i]? = b[i]? from fun i hi=>by
      by_cases e:i=k
      ·subst e; rw [hx,hy]
      ·exact hsame.out i (by omega))
     have hB2:=hid (fun n=>hB.out.trans ((below_drewM (Below.refl _ wr) n).mono hB.out.size)); replace hx:=hid hx; replace hy:=hid hy
     go_wp2_with fail
     go_quiet (fail)
     all_goals go_wp2_with fail
     all_goals go_roundg (n - (k+1))
     --END1
     case measure=>omega
     case rel=>exact ⟨k+1,rfl,by omega,hs2,hid (hB2.out nq)⟩
    ·have hF:=hid (show R=false from by
      rw [hR.out]
      refine decide_eq_false fun e=>he ?_
      have h1:=hx; rw [e,hy] at h1; injection h1 with h1
      exact h1.symm)
     have qe:((x:Int) != (y:Int))=true:=by simp; omega
     have qe2:¬ (x:Int)=(y:Int):=by omega
     have hB2:=hid (fun n=>hB.out.trans ((below_drewM (Below.refl _ wr) n).mono hB.out.size)); replace hx:=hid hx; replace hy:=hid hy; replace he:=hid he
     go_wp2_with fail
     go_quiet (fail)
     all_goals go_wp2_with fail
     all_goals go_ret
     all_goals exact ⟨by rw [hF.out]; rfl,hB2.out _⟩
   ·have q1:decide ((k:Int) < (n:Int))=false:=decide_eq_false (by omega)
    have hT:=hid (show R=true from by rw [hR.out]; exact decide_eq_true (list_diff hl.out hsame.out (by have:=hn.out; omega)))
    go_wp2_with fail
    go_ret; exact ⟨by rw [hT.out]; rfl,hB.out⟩
 ·have hF:=hid (show R=false from by rw [hR.out]; exact decide_eq_false fun e=>hl (by rw [e]))
  have q0:((a.length:Int) != (b.length:Int))=true:=by simp; omega
  have q1:¬ (a.length:Int)=(b.length:Int):=by omega
  replace hl:=hid hl; clear ha hb
  go_enter Tryz.func25,Tryz.ntmps25
  go_wp2_with fail
  go_ret; exact ⟨by rw [hF.out]; rfl,hB0.out⟩
set_option maxHeartbeats 4000000 in
set_option maxRecDepth 100000 in
theorem sameRows_any (a b:List (List Nat)) (aa ba:Option Addr) (ac bc:Nat) (S T:Foot) (w:World) (ha:SlR 1 RowN S w a (.slice aa a.length ac)) (hb:SlR 1 RowN T w b (.slice ba b.length bc)) (hal:a.length≤1000000000000) (hbl:b.length≤1000000000000) (hai:∀ x∈a,x.length≤1000000000000) (hbi:∀ x∈b,x.length≤1000000000000) :
  Calls Tryz.prog 21 #[.slice aa a.length ac,.slice ba b.length bc] w fun e w'=>e=.returned (.bool (decide (a=b)))∧Below w.heap.size w w':=by
 obtain ⟨R,hR⟩:∃ R,R=decide (a=b):=⟨_,rfl⟩; rw [← hR]; replace hR:=hid hR; have hB0:=hid (Below.refl w.heap.size w); by_cases hl:a.length=b.length
 ·obtain ⟨n,hn⟩:∃ n,n=a.length:=⟨_,rfl⟩
  have hn2:=hn.trans hl; rw [← hl,← hn]; rw [← hn] at ha hal; rw [← hn2] at hb; replace ha:=hid ha; replace hb:=hid hb; replace hn:=hid hn; replace hn2:=hid hn2; replace hl:=hid hl; replace hai:=hid hai; replace hbi:=hid hbi
  go_enter Tryz.func21,Tryz.ntmps21
  go_wp2_with fail
  go_loopg [5] n (fun f v5 wr=>∃ (k:Nat),v5=iv k∧k+f=n∧Hid (∀ i,i < k→a[i]? = b[i]?)∧Hid (Below w.heap.size w wr))
  case atStart=>exact ⟨0,rfl,by omega,hid fun i hi=>by omega,hB0⟩
  case round =>
   obtain ⟨k,rfl,hkf,hsame,hB⟩:=hrel; clear hB0; by_cases hlt:k < n
   ·have q1:decide ((k:Int) < (n:Int))=true:=decide_eq_true (by omega)
    have q3:IntKind.i64.wrap ((k:Int)+1)=((k+1:Nat):Int):=by rw [IntKind.wrap_i64]; omega
    obtain ⟨x,hx⟩:∃ x,a[k]? = some x:=⟨_,List.getElem?_eq_getElem (by have:=hn.out; omega)⟩; obtain ⟨y,hy⟩:∃ y,b[k]? = some y:=⟨_,List.getElem?_eq_getElem (by have:=hn2.out; omega)⟩; obtain ⟨g1,o1,a1,c1,i1,e1,s1⟩:=row_at (ha.out.below goodRowN hB.out) hx; obtain ⟨g2,o2,a2,c2,i2,e2,s2⟩:=row_at (hb.out.below goodRowN hB.out) hy; have hdr:Below wr.heap.size wr wr.drew:=(Below.refl _ wr).drew; have hsi:=hid (sameInts_any x y a1 a2 c1 c2 S T wr.drew (s1.below goodNat hdr) (s2.below goodNat hdr) (hai.out x (List.mem_of_getElem? hx)) (hbi.out y (List.mem_of_getElem? hy))); obtain ⟨be,hbe⟩:∃ be,be=decide (x=y):=⟨_,rfl⟩; rw [← hbe] at hsi; have hBd:=hid (hB.out.trans (hdr.mono hB.out.size)); replace hbe:=hid hbe; replace hx:=hid hx; replace hy:=hid hy; clear s1 s2 hdr
    go_wp2_with fail
    go_still_tail 8,(by kernel_rfl)
    go_wp2_with fail
    with_reducible refine hsi.out.mono ?_
    rintro e w5 ⟨rfl,hb5⟩; have hB5:=hid (hBd.out.trans (hb5.mono hBd.out.size)); clear hb5 hsi e1 e2 i1 i2
    cases be with
    | true =>
     have he:x=y:=of_decide_eq_true hbe.out.symm
     have hs2:=hid (show ∀ i,i < k+1→a[i]? = b[i]? from fun i hi=>by
      by_cases e:i=k
      ·subst e; rw [hx.out,hy.out,he]
      ·exact hsame.out i (by omega))
     replace he:=hid he
     go_wp2_with fail
     go_roundg (n - (k+1))
     case measure=>omega
     case rel=>exact ⟨k+1,rfl,by omega,hs2,hB5⟩
    | false =>
     have he:¬ x=y:=of_decide_eq_false hbe.out.symm
     have hF:=hid (show R=false from by
      rw [hR.out]
      refine decide_eq_false fun e=>he ?_
      have h1:=hx.out; rw [e,hy.out] at h1; injection h1 with h1
      exact h1.symm)
     replace he:=hid he
     go_wp2_with fail
     go_ret; exact ⟨by rw [hF.out]; rfl,hB5.out⟩
   ·have q1:decide ((k:Int) < (n:Int))=false:=decide_eq_false (by omega)
    have hT:=hid (show R=true from by rw [hR.out]; exact decide_eq_true (list_diff hl.out hsame.out (by have:=hn.out; omega)))
    go_wp2_with fail
    go_ret; exact ⟨by rw [hT.out]; rfl,hB.out⟩
 ·have hF:=hid (show R=false from by rw [hR.out]; exact decide_eq_false fun e=>hl (by rw [e]))
  have q0:((a.length:Int) != (b.length:Int))=true:=by simp; omega
  have q1:¬ (a.length:Int)=(b.length:Int):=by omega
  replace hl:=hid hl; clear ha hb
  go_enter Tryz.func21,Tryz.ntmps21
  go_wp2_with fail
  go_ret; exact ⟨by rw [hF.out]; rfl,hB0.out⟩
/-- what check answers of a source that parses -/
def PC1 (r:Int × List (List Nat)) (w:World) (e:Ending) (w':World):Prop:=Below w.heap.size w w'∧∃ a c,e=.returned (.tuple #[.slice a r.2.length c,iv r.1])∧SlR 1 RowN (fun k=>w.heap.size≤k) w' r.2 (.slice a r.2.length c)
set_option maxHeartbeats 4000000 in
set_option maxRecDepth 100000 in
theorem chk1_any (s:List UInt8) (hs:s.length≤1000000) (hno:noS s=true) (u:Qu) (hu:parseF s=.ok u) (hq:Qsm u.g) (w:World) (hTab:Tab w) :
  Calls Tryz.prog 24 #[sv s] w (PC1 (checkF arF u.g (textW u.g).isSome) w):=by
 have hpa:=parse_g s w hs hno hTab; rw [hu] at hpa; replace hpa:=hid hpa; obtain ⟨r,hr⟩:∃ r,r=checkF arF u.g (textW u.g).isSome:=⟨_,rfl⟩; rw [← hr]; replace hr:=hid hr; replace hTab:=hid hTab; replace hu:=hid hu
 go_enter Tryz.func24,Tryz.ntmps24
 go_wp2_with fail
 with_reducible refine hpa.out.mono ?_
 rintro e w1 ⟨hb1,-,ra,rc,aa,ac,rfl,hrl,hgo⟩; have hbq:Below w1.heap.size w1 (w1.alloc (.cells (qcells (.slice ra u.g.rules.length rc) u.g.goal.op u.g.goal.nt u.g.goal.rel (.slice aa u.g.goal.args.length ac)) 32)):=(Below.refl _ w1).alloc (Nat.le_refl _) _; have hk2:=heap_alloc_new' w1 (.cells (qcells (.slice ra u.g.rules.length rc) u.g.goal.op u.g.goal.nt u.g.goal.rel (.slice aa u.g.goal.args.length ac)) 32); obtain ⟨w2,hw2⟩:∃ w2,w2=w1.alloc (.cells (qcells (.slice ra u.g.rules.length rc) u.g.goal.op u.g.goal.nt u.g.goal.rel (.slice aa u.g.goal.args.length ac)) 32):=⟨_,rfl⟩; rw [← hw2] at hbq hk2; have hB2:=hid (hb1.trans (hbq.mono hb1.size))
 have hQ:QR u.g ra rc aa ac (fun k=>w.heap.size≤k∧k < w1.heap.size) w2 :=
  ⟨(hrl.move goodRg fun k hk hs=>⟨⟨hs,hk⟩,hbq.block k hk⟩),(hgo.move goodTg fun k hk hs=>⟨⟨hs,hk⟩,hbq.block k hk⟩),fun k hk=>Nat.lt_of_lt_of_le hk.2 hbq.size⟩
 have hck:=hid (check_any u.g ra rc aa ac _ w2 hQ hq ((TabN.of hTab.out (Nat.le_refl w.heap.size)).below hB2.out).tab); obtain ⟨c0,c1,c2,c3,c4,-⟩:=q_cells hk2; replace hw2:=hid hw2; clear hbq hk2 hQ hpa hb1 hrl hgo
 go_upto_region 2 with (fail)
 rw [← hw2.out]
 go_wp2_with fail
 with_reducible refine hck.out.mono ?_
 rintro e w3 ⟨hb3,v,rfl,hv⟩; have hB3:=hid (hB2.out.trans (hb3.mono hB2.out.size)); rw [← hr.out] at hv ⊢; obtain ⟨a,c,rfl,-⟩:=hv.slice; have hv3:=hid (hv.mono goodRowN (T:=fun k=>w.heap.size≤k) fun k _ hk=>Nat.le_trans hB2.out.size hk); clear hv hb3 hck
 go_wp2_with fail
 go_ret2
 exact ⟨hB3.out,a,c,rfl,hv3.out⟩
end Go.Proofs.YtffdpoifdahadaaGreatDoor
