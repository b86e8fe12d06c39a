/- AskT: AskS, AskTa, AskT, in one text. -/
import Derived.Test.YtffdpoifdahadaaGreatDoorAskP
set_option linter.unusedVariables false
set_option linter.unusedSimpArgs false
set_option maxHeartbeats 40000000
set_option maxRecDepth 100000
namespace Go.Proofs.YtffdpoifdahadaaGreatDoor
open Go.RowKit
open Go.Lib (hid itoa)
def zg (ts:List Tw):Option Lt × PSt->Option (List Lt × List Ru) × PSt
 | (none,s)=>(none,s)
 | (some l,s)=>if isP ts s 1 [110,111] then jn ts l (aY ts (am s)) else (none,bf s)
theorem vB (ts:List Tw) (st:PSt):dJ ts st=zg ts (aY ts st):=by
 unfold dJ; generalize aY ts st=r; obtain ⟨o,s⟩:=r; cases o <;> rfl
theorem rH {x:RuD} {B C:Nat} {xs:List (Option Nat × Lt)} (hn:(ct xs).Nodup) (ha:∀ k∈ct xs,k < B\/C<=k) (hx:∀ k∈x.ids,B<=k/\k < C) (hd:x.ids.Nodup):(ct xs++[x].flatMap RuD.ids).Nodup:=by
 rw [List.nodup_append]; refine ⟨hn,by simpa using hd,fun k hk j hj=>?_⟩; have h1:=ha k hk; have h2:=hx j (by simpa using hj); omega
theorem vA {ps:List (Lt × Value)} {p:Lt × Value} {C:Nat} (h1:(ps.filterMap fun p=>p.2.ownBlock).Nodup) (h2:∀ q∈ps,∀ k,q.2.ownBlock=some k->C<=k) (h3:∀ k,p.2.ownBlock=some k->k < C):(ct ((ps++[p]).map fun p=>(p.2.ownBlock,p.1))).Nodup:=by
 rw [mF,List.filterMap_append,List.nodup_append]; refine ⟨h1,by cases hv:p.2.ownBlock <;> simp [hv],fun a ha b hb=>?_⟩; obtain ⟨q,hq,hqa⟩:=List.mem_filterMap.1 ha; obtain ⟨q2,hq2,hqb⟩:=List.mem_filterMap.1 hb; simp at hq2; subst hq2; have:=h2 q hq a hqa; have:=h3 b hqb; omega
theorem vy {ps:List (Lt × Value)} {p:Lt × Value} {B C:Nat} (h2:∀ q∈ps,∀ k,q.2.ownBlock=some k->C<=k) (h3:∀ k,p.2.ownBlock=some k->k < B):∀ k∈ct ((ps++[p]).map fun p=>(p.2.ownBlock,p.1)),k < B\/C<=k:=by
 intro k hk; rw [mF] at hk; obtain ⟨q,hq,hqk⟩:=List.mem_filterMap.1 hk; rcases List.mem_append.1 hq with hq | hq
 ·exact Or.inr (h2 q hq k hqk)
 ·simp at hq; subst hq; exact Or.inl (h3 k hqk)
theorem NR.ru_lt {W cur:World} {RB:Nat} {x:RuD} {hv bv:Value} (h:NR W RB x hv bv cur):∀ k∈x.ids,k < cur.heap.size:=by
 obtain ⟨v1,v2,e,h1,ho,h2,hb⟩:=h.ru; intro k hk; unfold RuD.ids at hk; rcases List.mem_append.1 hk with hk | hk
 ·rw [← h1] at hk; exact ho.lt (by simpa using hk)
 ·rcases List.mem_append.1 hk with hk | hk
  ·rw [← h2] at hk; exact hb.lt (by simpa using hk)
  ·obtain ⟨y,hy,hyk⟩:=List.mem_filterMap.1 hk
   obtain ⟨i,hi⟩:=List.mem_iff_getElem?.1 hy; obtain ⟨xs,g1,g2,g3⟩:=hb; obtain ⟨cs,h4,u,rfl,hu,hoo⟩:=g3 i y hi; exact hoo.lt (hu.trans hyk)
theorem tM (pb:Nat) (K:PK) (st:PSt) (w:World) (h:PM pb K st w) (hT:da pb w) (hN:eq K) (hv:st.vars+4 * (K.toks.length+1)<=4611686018427387904) (hv2:st.rels+4 * (K.toks.length+1)<=4611686018427387904) :
  Calls Tryz.prog 94 #[pt pb] w (zK pb K w (dJ K.ts st)):=by
 obtain ⟨R,hR⟩:∃ R,R=dJ K.ts st:=⟨_,rfl⟩; rw [← hR]; rw [vB] at hR; replace hR:=hid hR; have hK0:=hid (Kp.start h); have hpl:=h.lt
 have htl:K.ts.length=K.toks.length:=by unfold PK.ts; rw [zY]
 replace hN:=hid hN; replace hT:=hid hT; replace htl:=hid htl; have hat:=hid (jy pb K (st) w hK0.out.pm); have hkA1:=ig K.ts (st); have hokA1:=kh K.ts (fun i=>(hK0.out.pm.tok_ok i).2.2) (st); obtain ⟨ra1,hra1⟩:∃ ra,ra=aY K.ts (st):=⟨_,rfl⟩; rw [← hra1] at hat hkA1 hokA1; replace hR:=hR.out; rw [← hra1] at hR; replace hR:=hid hR; replace hra1:=hid hra1; obtain ⟨ol1,s1⟩:=ra1; replace hkA1:=hid (show fN (st) s1 from hkA1); replace hokA1:=hid (show ∀ l,ol1=some l->(∀ t∈l.args,t.var.length<=1048576)/\l.args.length+(st).nx < s1.nx from hokA1); obtain ⟨z1,hz1⟩:∃ z,ol1.isSome=z:=⟨_,rfl⟩
 replace hat:=hid (show Calls Tryz.prog 63 #[pt pb] w fun e w'=>∃ (op:Int) (nt:Bool) (rel:List UInt8) (a:Option Addr) (n c:Nat),e=.returned (.tuple #[.agg (ap op nt rel (.slice a n c)),.bool z1])/\(∀ l,ol1=some l->op=l.op/\nt=l.nt/\rel=l.rel/\n=l.args.length/\aO 63 7 FlR (aF (w).heap.size) w' l.args (.slice a l.args.length c))/\PM pb K s1 w'/\Fr (one pb) w w' from by rw [← hz1]; exact hat.out); replace hz1:=hid hz1
 go_enter Tryz.func94,Tryz.ntmps94
 go_wp2_with fail
 with_reducible refine hat.out.mono ?_
 rintro e w1 ⟨op1,nt1,rel1,a1,n1,c1,rfl,hl1,hM1,hf1⟩; have hK1:=hid ((hK0.out.call hM1 hf1).alloc (.cells (ap op1 nt1 rel1 (.slice a1 n1 c1)) 24)); have hT1:=hid ((hT.out.fr hf1).below ((zN _ w1).alloc (zM _) (.cells (ap op1 nt1 rel1 (.slice a1 n1 c1)) 24))); have hsz1:=hid hf1.size; clear hM1 hf1 hat; replace hl1:=hid hl1; clear hT h
 cases ol1 with
 | none =>
  have hz':false=z1:=hz1.out; subst hz'; replace hR:=hid (show R=(none,s1) from hR.out)
  go_wp2_with fail
  refine bodyPost_ret (results_tmp3 Tryz.results94 _ _ _) rfl ⟨by rw [hR.out]; exact hK1.out.pm,hK1.out.fr,?_⟩; rw [hR.out]; rfl
 | some l =>
  have hz':true=z1:=hz1.out; subst hz'; obtain ⟨rfl,rfl,rfl,rfl,hO⟩:=hl1.out l rfl; have hO1:=hid (hO.below aD ((zN _ w1).alloc (zM _) (.cells (ap l.op l.nt l.rel (.slice a1 l.args.length c1)) 24))); clear hO hl1; obtain ⟨z21,hz21⟩:∃ z,isP K.ts (s1) 1 [110,111]=z:=⟨_,rfl⟩; have hmk21:=hid (eE pb K (s1) [110,111] _ hK1.out.pm)
  have hT21:bu K.ts (s1) 1 [110,111]=if z21 then (true,am (s1)) else (false,(s1)):=by unfold bu; rw [hz21]
  rw [hT21] at hmk21; clear hT21; replace hz21:=hid hz21; replace hR:=hid (show R=if z21=true then jn K.ts l (aY K.ts (am s1)) else (none,bf s1) from by rw [← hz21.out]; exact hR.out)
  go_wp2_with fail
  with_reducible refine hmk21.out.mono ?_
  rintro e x1 ⟨rfl,hM21,hf21⟩; have hKx1:=hid (hK1.out.call hM21 hf21); have hTx1:=hid (hT1.out.fr hf21); replace hO1:=hid (hO1.out.fr aD hf21 (fun q hq e=>by unfold one at e; unfold aF at hq; omega)); clear hmk21 hM21 hf21
  cases z21 with
  | false =>
   replace hR:=hid (show R=(none,bf s1) from hR.out); replace hKx1:=hid (show Kp pb K s1 w x1 _ from hKx1.out); have hfl:=hid (dw pb K _ x1 hKx1.out.pm)
   go_wp2_with fail
   with_reducible refine hfl.out.mono ?_
   rintro e w30 ⟨rfl,hM30,hf30⟩; have hKf:=hid (hKx1.out.call hM30 hf30); clear hM30 hf30 hfl
   go_wp2_with fail
   refine bodyPost_ret (results_tmp3 Tryz.results94 _ _ _) rfl ⟨by rw [hR.out]; exact hKf.out.pm,hKf.out.fr,?_⟩; rw [hR.out]; rfl
  | true =>
   replace hR:=hid (show R=jn K.ts l (aY K.ts (am s1)) from hR.out); replace hKx1:=hid (show Kp pb K (am s1) w x1 _ from hKx1.out); have hat:=hid (jy pb K (am s1) x1 hKx1.out.pm); have hkA2:=ig K.ts (am s1); have hokA2:=kh K.ts (fun i=>(hKx1.out.pm.tok_ok i).2.2) (am s1); obtain ⟨ra2,hra2⟩:∃ ra,ra=aY K.ts (am s1):=⟨_,rfl⟩; rw [← hra2] at hat hkA2 hokA2; replace hR:=hR.out; rw [← hra2] at hR; replace hR:=hid hR; replace hra2:=hid hra2; obtain ⟨ol2,s2⟩:=ra2; replace hkA2:=hid (show fN (am s1) s2 from hkA2); replace hokA2:=hid (show ∀ l,ol2=some l->(∀ t∈l.args,t.var.length<=1048576)/\l.args.length+(am s1).nx < s2.nx from hokA2); obtain ⟨z2,hz2⟩:∃ z,ol2.isSome=z:=⟨_,rfl⟩
   replace hat:=hid (show Calls Tryz.prog 63 #[pt pb] x1 fun e w'=>∃ (op:Int) (nt:Bool) (rel:List UInt8) (a:Option Addr) (n c:Nat),e=.returned (.tuple #[.agg (ap op nt rel (.slice a n c)),.bool z2])/\(∀ l,ol2=some l->op=l.op/\nt=l.nt/\rel=l.rel/\n=l.args.length/\aO 63 7 FlR (aF (x1).heap.size) w' l.args (.slice a l.args.length c))/\PM pb K s2 w'/\Fr (one pb) x1 w' from by rw [← hz2]; exact hat.out); replace hz2:=hid hz2
   go_wp2_with fail
   with_reducible refine hat.out.mono ?_
   rintro e w2 ⟨op2,nt2,rel2,a2,n2,c2,rfl,hl2,hM2,hf2⟩; have hK2:=hid ((hKx1.out.call hM2 hf2).alloc (.cells (ap op2 nt2 rel2 (.slice a2 n2 c2)) 24)); have hT2:=hid ((hTx1.out.fr hf2).below ((zN _ w2).alloc (zM _) (.cells (ap op2 nt2 rel2 (.slice a2 n2 c2)) 24))); have hsz2:=hid hf2.size; replace hO1:=hid ((hO1.out.fr aD hf2 (fun q hq e=>by unfold one at e; unfold aF at hq; omega)).below aD ((zN _ w2).alloc (zM _) (.cells (ap op2 nt2 rel2 (.slice a2 n2 c2)) 24))); clear hM2 hf2 hat; replace hl2:=hid hl2
   cases ol2 with
   | none =>
    have hz':false=z2:=hz2.out; subst hz'; replace hR:=hid (show R=(none,s2) from hR.out);go_wp2_with fail;refine bodyPost_ret (results_tmp3 Tryz.results94 _ _ _) rfl ⟨by rw [hR.out]; exact hK2.out.pm,hK2.out.fr,?_⟩; rw [hR.out]; rfl
   | some m =>
    have hz':true=z2:=hz2.out; subst hz'; obtain ⟨rfl,rfl,rfl,rfl,hO⟩:=hl2.out m rfl; have hO2:=hid (hO.below aD ((zN _ w2).alloc (zM _) (.cells (ap m.op m.nt m.rel (.slice a2 m.args.length c2)) 24))); clear hO hl2; have hO2':=hid (hO2.out.mono aD (T:=aF w.heap.size) (fun k _ hk=>zV hKx1.out.fr.size hk)); clear hO2; have hO2:=hO2'; clear hO2'; obtain ⟨z22,hz22⟩:∃ z,isP K.ts (s2) 1 [97,116]=z:=⟨_,rfl⟩; have hmk22:=hid (eE pb K (s2) [97,116] _ hK2.out.pm);(have hT22:bu K.ts (s2) 1 [97,116]=if z22 then (true,am (s2)) else (false,(s2)):=by unfold bu; rw [hz22]);rw [hT22] at hmk22; clear hT22; replace hz22:=hid hz22; replace hR:=hid (show R=if z22=true then lS K.ts l m (aT K.ts (am s2)) else (none,bf s2) from by rw [← hz22.out]; exact hR.out);go_wp2_with fail;(with_reducible refine hmk22.out.mono ?_);rintro e x2 ⟨rfl,hM22,hf22⟩; have hKx2:=hid (hK2.out.call hM22 hf22); have hTx2:=hid (hT2.out.fr hf22); replace hO1:=hid (hO1.out.fr aD hf22 (fun q hq e=>by unfold one at e; unfold aF at hq; omega)); replace hO2:=hid (hO2.out.fr aD hf22 (fun q hq e=>by unfold one at e; unfold aF at hq; omega)); clear hmk22 hM22 hf22
    cases z22 with
    | false =>
     replace hR:=hid (show R=(none,bf s2) from hR.out); replace hKx2:=hid (show Kp pb K s2 w x2 _ from hKx2.out); have hfl:=hid (dw pb K _ x2 hKx2.out.pm);go_wp2_with fail;(with_reducible refine hfl.out.mono ?_);rintro e w30 ⟨rfl,hM30,hf30⟩; have hKf:=hid (hKx2.out.call hM30 hf30); clear hM30 hf30 hfl;go_wp2_with fail;refine bodyPost_ret (results_tmp3 Tryz.results94 _ _ _) rfl ⟨by rw [hR.out]; exact hKf.out.pm,hKf.out.fr,?_⟩; rw [hR.out]; rfl
    | true =>
     replace hR:=hid (show R=lS K.ts l m (aT K.ts (am s2)) from hR.out); replace hKx2:=hid (show Kp pb K (am s2) w x2 _ from hKx2.out); have hkT:=gR K.ts (am s2); obtain ⟨ro3,hro3⟩:∃ ro,ro=aT K.ts (am s2):=⟨_,rfl⟩; have hte:=hid (jl pb K (am s2) x2 hKx2.out.pm); rw [← hro3] at hte; replace hR:=hR.out; rw [← hro3] at hR; replace hR:=hid hR; replace hro3:=hid hro3; obtain ⟨ot3,s3⟩:=ro3; replace hte:=hid (show Calls Tryz.prog 98 #[pt pb] x2 fun e w'=>∃ x:Tm,e=.returned (.tuple #[.agg (aB x),.bool ot3.isSome])/\(∀ t,ot3=some t->t=x)/\PM pb K s3 w'/\Fr (one pb) x2 w' from hte.out); rw [← hro3.out] at hkT; replace hkT:=hid (show fN (am s2) s3 from hkT); obtain ⟨z3,hz3⟩:∃ z,ot3.isSome=z:=⟨_,rfl⟩; rw [hz3] at hte;replace hz3:=hid hz3;go_wp2_with fail;(with_reducible refine hte.out.mono ?_);rintro e w3 ⟨a,rfl,hx3,hM3,hf3⟩; have hK3:=hid ((hKx2.out.call hM3 hf3).alloc (.cells (aB a) 63)); have hT3:=hid ((hTx2.out.fr hf3).below ((zN _ w3).alloc (zM _) (.cells (aB a) 63))); have hsz3:=hid hf3.size; replace hO1:=hid ((hO1.out.fr aD hf3 (fun q hq e=>by unfold one at e; unfold aF at hq; omega)).below aD ((zN _ w3).alloc (zM _) (.cells (aB a) 63))); replace hO2:=hid ((hO2.out.fr aD hf3 (fun q hq e=>by unfold one at e; unfold aF at hq; omega)).below aD ((zN _ w3).alloc (zM _) (.cells (aB a) 63))); replace hx3:=hid hx3; clear hte hM3 hf3
     cases ot3 with
     | none =>
      have hz':false=z3:=hz3.out; subst hz'; replace hR:=hid (show R=(none,s3) from hR.out);go_wp2_with fail;refine bodyPost_ret (results_tmp3 Tryz.results94 _ _ _) rfl ⟨by rw [hR.out]; exact hK3.out.pm,hK3.out.fr,?_⟩; rw [hR.out]; rfl
     | some a' =>
      have hz':true=z3:=hz3.out; subst hz'; have hxa:a=a':=(hx3.out a' rfl).symm; subst hxa;(have hvs:s3.vars=st.vars:=by rw [hkT.out.vars]; show s2.vars=_; rw [hkA2.out.vars]; show s1.vars=_; rw [hkA1.out.vars]);(have hrs:s3.rels=st.rels:=by rw [hkT.out.rels]; show s2.rels=_; rw [hkA2.out.rels]; show s1.rels=_; rw [hkA1.out.rels]);replace hvs:=hid hvs; replace hrs:=hid hrs; replace hR:=hid (show R=(some (eJ (aq K.ts s3).1 (aq K.ts (aq K.ts s3).2).1 (aq K.ts (aq K.ts (aq K.ts s3).2).2).1 (aq K.ts (aq K.ts (aq K.ts (aq K.ts s3).2).2).2).1 (bg K.ts (aq K.ts (aq K.ts (aq K.ts (aq K.ts s3).2).2).2).2).1 l m a),(bg K.ts (aq K.ts (aq K.ts (aq K.ts (aq K.ts s3).2).2).2).2).2) from hR.out); have hnv:=hid (ez pb K (s3) _ hK3.out.pm hT3.out hN.out (by rw [hvs.out]; omega)); have hnvb4:=bL K.ts (s3); obtain ⟨rv4,hrv4⟩:∃ rv,rv=aq K.ts (s3):=⟨_,rfl⟩; rw [← hrv4] at hnv hnvb4; replace hR:=hR.out; rw [← hrv4] at hR; replace hR:=hid hR; replace hrv4:=hid hrv4; obtain ⟨t4,s4⟩:=rv4;replace hnvb4:=hid (show s4.vars<=(s3).vars+(K.ts.length+1)/\s4.rels=(s3).rels/\s4.nx=(s3).nx from hnvb4);go_wp2_with fail;(with_reducible refine hnv.out.mono ?_);rintro e w4 ⟨rfl,hM4,hf4⟩; have hK4:=hid ((hK3.out.call hM4 hf4).alloc (.cells (aB t4) 63)); have hT4:=hid ((hT3.out.fr hf4).below ((zN _ w4).alloc (zM _) (.cells (aB t4) 63))); have hsz4:=hid hf4.size; replace hO1:=hid ((hO1.out.fr aD hf4 (fun q hq e=>by unfold one at e; unfold aF at hq; omega)).below aD ((zN _ w4).alloc (zM _) (.cells (aB t4) 63))); replace hO2:=hid ((hO2.out.fr aD hf4 (fun q hq e=>by unfold one at e; unfold aF at hq; omega)).below aD ((zN _ w4).alloc (zM _) (.cells (aB t4) 63))); clear hM4 hf4 hnv;replace hR:=hid (show R=(some (eJ t4 (aq K.ts s4).1 (aq K.ts (aq K.ts s4).2).1 (aq K.ts (aq K.ts (aq K.ts s4).2).2).1 (bg K.ts (aq K.ts (aq K.ts (aq K.ts s4).2).2).2).1 l m a),(bg K.ts (aq K.ts (aq K.ts (aq K.ts s4).2).2).2).2) from hR.out); have hnv:=hid (ez pb K (s4) _ hK4.out.pm hT4.out hN.out (by have h1:=hnvb4.out.1; have h2:=htl.out; rw [hvs.out] at h1; omega)); have hnvb5:=bL K.ts (s4); obtain ⟨rv5,hrv5⟩:∃ rv,rv=aq K.ts (s4):=⟨_,rfl⟩; rw [← hrv5] at hnv hnvb5; replace hR:=hR.out; rw [← hrv5] at hR; replace hR:=hid hR; replace hrv5:=hid hrv5; obtain ⟨t5,s5⟩:=rv5; replace hnvb5:=hid (show s5.vars<=(s4).vars+(K.ts.length+1)/\s5.rels=(s4).rels/\s5.nx=(s4).nx from hnvb5);go_wp2_with fail;(with_reducible refine hnv.out.mono ?_);rintro e w5 ⟨rfl,hM5,hf5⟩; have hK5:=hid ((hK4.out.call hM5 hf5).alloc (.cells (aB t5) 63)); have hT5:=hid ((hT4.out.fr hf5).below ((zN _ w5).alloc (zM _) (.cells (aB t5) 63))); have hsz5:=hid hf5.size; replace hO1:=hid ((hO1.out.fr aD hf5 (fun q hq e=>by unfold one at e; unfold aF at hq; omega)).below aD ((zN _ w5).alloc (zM _) (.cells (aB t5) 63))); replace hO2:=hid ((hO2.out.fr aD hf5 (fun q hq e=>by unfold one at e; unfold aF at hq; omega)).below aD ((zN _ w5).alloc (zM _) (.cells (aB t5) 63))); clear hM5 hf5 hnv;replace hR:=hid (show R=(some (eJ t4 t5 (aq K.ts s5).1 (aq K.ts (aq K.ts s5).2).1 (bg K.ts (aq K.ts (aq K.ts s5).2).2).1 l m a),(bg K.ts (aq K.ts (aq K.ts s5).2).2).2) from hR.out); have hnv:=hid (ez pb K (s5) _ hK5.out.pm hT5.out hN.out (by have h1:=hnvb4.out.1; have h3:=hnvb5.out.1; have h2:=htl.out; rw [hvs.out] at h1; omega)); have hnvb6:=bL K.ts (s5); obtain ⟨rv6,hrv6⟩:∃ rv,rv=aq K.ts (s5):=⟨_,rfl⟩; rw [← hrv6] at hnv hnvb6; replace hR:=hR.out; rw [← hrv6] at hR; replace hR:=hid hR; replace hrv6:=hid hrv6; obtain ⟨t6,s6⟩:=rv6; replace hnvb6:=hid (show s6.vars<=(s5).vars+(K.ts.length+1)/\s6.rels=(s5).rels/\s6.nx=(s5).nx from hnvb6);go_wp2_with fail;(with_reducible refine hnv.out.mono ?_);rintro e w6 ⟨rfl,hM6,hf6⟩; have hK6:=hid ((hK5.out.call hM6 hf6).alloc (.cells (aB t6) 63)); have hT6:=hid ((hT5.out.fr hf6).below ((zN _ w6).alloc (zM _) (.cells (aB t6) 63))); have hsz6:=hid hf6.size; replace hO1:=hid ((hO1.out.fr aD hf6 (fun q hq e=>by unfold one at e; unfold aF at hq; omega)).below aD ((zN _ w6).alloc (zM _) (.cells (aB t6) 63))); replace hO2:=hid ((hO2.out.fr aD hf6 (fun q hq e=>by unfold one at e; unfold aF at hq; omega)).below aD ((zN _ w6).alloc (zM _) (.cells (aB t6) 63))); clear hM6 hf6 hnv; replace hR:=hid (show R=(some (eJ t4 t5 t6 (aq K.ts s6).1 (bg K.ts (aq K.ts s6).2).1 l m a),(bg K.ts (aq K.ts s6).2).2) from hR.out);have hnv:=hid (ez pb K (s6) _ hK6.out.pm hT6.out hN.out (by have h1:=hnvb4.out.1; have h3:=hnvb5.out.1; have h4:=hnvb6.out.1; have h2:=htl.out; rw [hvs.out] at h1; omega)); have hnvb7:=bL K.ts (s6); obtain ⟨rv7,hrv7⟩:∃ rv,rv=aq K.ts (s6):=⟨_,rfl⟩; rw [← hrv7] at hnv hnvb7; replace hR:=hR.out; rw [← hrv7] at hR; replace hR:=hid hR; replace hrv7:=hid hrv7; obtain ⟨t7,s7⟩:=rv7; replace hnvb7:=hid (show s7.vars<=(s6).vars+(K.ts.length+1)/\s7.rels=(s6).rels/\s7.nx=(s6).nx from hnvb7);go_wp2_with fail;(with_reducible refine hnv.out.mono ?_);rintro e w7 ⟨rfl,hM7,hf7⟩; have hK7:=hid ((hK6.out.call hM7 hf7).alloc (.cells (aB t7) 63)); have hT7:=hid ((hT6.out.fr hf7).below ((zN _ w7).alloc (zM _) (.cells (aB t7) 63))); have hsz7:=hid hf7.size; replace hO1:=hid ((hO1.out.fr aD hf7 (fun q hq e=>by unfold one at e; unfold aF at hq; omega)).below aD ((zN _ w7).alloc (zM _) (.cells (aB t7) 63))); replace hO2:=hid ((hO2.out.fr aD hf7 (fun q hq e=>by unfold one at e; unfold aF at hq; omega)).below aD ((zN _ w7).alloc (zM _) (.cells (aB t7) 63))); clear hM7 hf7 hnv; replace hR:=hid (show R=(some (eJ t4 t5 t6 t7 (bg K.ts s7).1 l m a),(bg K.ts s7).2) from hR.out);have hnr:=hid (mn pb K (s7) _ hK7.out.pm hT7.out hN.out (by rw [hnvb7.out.2.1,hnvb6.out.2.1,hnvb5.out.2.1,hnvb4.out.2.1,hrs.out]; omega)); have hnrl:=j8 K (s7) (by rw [hnvb7.out.2.1,hnvb6.out.2.1,hnvb5.out.2.1,hnvb4.out.2.1,hrs.out]; omega); obtain ⟨rv8,hrv8⟩:∃ rv,rv=bg K.ts (s7):=⟨_,rfl⟩; rw [← hrv8] at hnr hnrl; replace hR:=hR.out; rw [← hrv8] at hR; replace hR:=hid hR; replace hrv8:=hid hrv8; obtain ⟨rl,s8⟩:=rv8; replace hR:=hid (show R=(some (eJ t4 t5 t6 t7 rl l m a),s8) from hR.out);go_wp2_with fail;(with_reducible refine hnr.out.mono ?_);rintro e w8 ⟨rfl,hM8,hf8⟩; have hK8:=hid (hK7.out.call hM8 hf8); have hsz8:=hid hf8.size; replace hO1:=hid (hO1.out.fr aD hf8 (fun q hq e=>by unfold one at e; unfold aF at hq; omega)); replace hO2:=hid (hO2.out.fr aD hf8 (fun q hq e=>by unfold one at e; unfold aF at hq; omega)); clear hM8 hf8 hnr; replace hnrl:=hid (show rl.length<=1048576 from hnrl); have hvar:=hid (hokA2.out m rfl).1;(have hal:m.args.length+2<=1048576:=by have h1:=(hokA2.out m rfl).2; have h2:=hK2.out.pm.nx; have h3:=hK2.out.pm.len; have h4:=(hokA1.out l rfl).2; have h5:(am s1).nx=s1.nx+1:=rfl; omega);(have hall:l.args.length<=1048575:=by have h1:=(hokA1.out l rfl).2; have h2:=hK1.out.pm.nx; have h3:=hK1.out.pm.len; omega);have rX8:=hK8.out.nth (i:=3) (b:=w4.heap.size) (o:=.cells (aB t4) 63 (0,0)) rfl; have rA8:=hK8.out.nth (i:=4) (b:=w3.heap.size) (o:=.cells (aB a) 63 (0,0)) rfl; have rM8:=hK8.out.nth (i:=5) (b:=w2.heap.size) (o:=.cells (ap m.op m.nt m.rel (.slice a2 m.args.length c2)) 24 (0,0)) rfl; have hb9:Below w8.heap.size w8 (w8.alloc (.cells #[sv t4.var,iv t4.val.kind,sv t4.val.t,iv t4.val.n,iv t4.val.m,sv t4.val.s,.slice none 0 0,sv a.var,iv a.val.kind,sv a.val.t,iv a.val.n,iv a.val.m,sv a.val.s,.slice none 0 0] 63)):=(zN _ w8).alloc (zM _) _;obtain ⟨W8,hW8⟩:∃ W8,W8=w8.alloc (.cells #[sv t4.var,iv t4.val.kind,sv t4.val.t,iv t4.val.n,iv t4.val.m,sv t4.val.s,.slice none 0 0,sv a.var,iv a.val.kind,sv a.val.t,iv a.val.n,iv a.val.m,sv a.val.s,.slice none 0 0] 63):=⟨_,rfl⟩;(have hTV:aO 63 7 FlR (fun _=>True) W8 [t4,a] (.slice (some ⟨w8.heap.size,0,none⟩) 2 2):=by rw [hW8]; exact fg (l:=[t4,a]) (af w8 _) (by show 2<=maxLen; decide) trivial);rw [← hW8] at hb9; obtain ⟨L,hL⟩:∃ L,L=bq rl m [t4,a]:=⟨_,rfl⟩; have hwc:=hid (show Calls Tryz.prog 118 #[sv rl,.agg (ap m.op m.nt m.rel (.slice a2 m.args.length c2)),.slice (some ⟨w8.heap.size,0,none⟩) 2 2] W8 (PL1 W8 L) from hL ▸ jF rl m [t4,a] _ _ _ (.slice (some ⟨w8.heap.size,0,none⟩) 2 2) _ ((hO2.out.below aD hb9).sl aD) (hTV.sl aD) (by show 2+_<=_; omega) hvar.out); obtain ⟨v0,v1,v2,v3,v4,v5,v6,vz⟩:=aH (rX8); clear vz; obtain ⟨g0,g1,g2,g3,g4,g5,g6,gz⟩:=aH (rA8); clear gz; obtain ⟨k0,k1,k2,k3,kz⟩:=aK (rM8); clear kz; replace hb9:=hid hb9; replace hL:=hid hL; have hW8s:=hid (show W8.heap.size=w8.heap.size+1 from by rw [hW8]; simp); clear hTV;go_wp2_with fail;rw [← hW8]; replace hW8:=hid hW8;(with_reducible refine hwc.out.mono ?_);intro e w9 hP; obtain ⟨aw,cw,rfl,hQw,hbw⟩:=PL1.open hP; clear hP hwc v0 v1 v2 v3 v4 v5 v6 g0 g1 g2 g3 g4 g5 g6 k0 k1 k2 k3; have hb10:=(hb9.out.trans (hbw.mono hb9.out.size)); have hK9:=hid ((hK8.out.below hb10).alloc (.cells (ap L.op true L.rel (.slice aw L.args.length cw)) 24)); have hbA:Below w9.heap.size w9 (w9.alloc (.cells (ap L.op true L.rel (.slice aw L.args.length cw)) 24)):=(zN _ w9).alloc (zM _) _; have hO9:=hid ((hO2.out.below aD hb10).below aD hbA); have hP9:=hid ((hO1.out.below aD hb10).below aD hbA); have hQ9:=hid (hQw.below aD hbA); have hsz9:=hid (show w8.heap.size < w9.heap.size from by have:=hbw.size; have:=hW8s.out; omega); clear hbw hb10 hQw hb9 hbA hO1 hO2;(go_upto_region 21 with (fail));generalize hW9:w9.alloc (.cells (ap L.op true L.rel (.slice aw L.args.length cw)) 24)=W9 at *; clear hW9;(obtain ⟨NR0,hNR0⟩:∃ NR0:World->Nat->RuD->Value->Value->Prop,NR0=fun wx RB x hv bv=>NR W9 RB x hv bv wx/\x.ru=⟨bq rl m [t5,t6],0,0,[aS t7 m,aQ t5,aQ t6,aE 3 t5 t7,aE 4 t7 t6]⟩:=⟨_,rfl⟩);replace hNR0:=hid hNR0
      go_cut [15] (fun p wx=>∃ RB x hv bv,p=pt RB/\Hid (NR0 wx RB x hv bv))
      case first =>
       have hS:=hid (RS.start W9); have rW:=hK9.out.nth (i:=1) (b:=w7.heap.size) (o:=.cells (aB t7) 63 (0,0)) rfl; have rZ:=hK9.out.nth (i:=2) (b:=w6.heap.size) (o:=.cells (aB t6) 63 (0,0)) rfl; have rY:=hK9.out.nth (i:=3) (b:=w5.heap.size) (o:=.cells (aB t5) 63 (0,0)) rfl; have rM:=hK9.out.nth (i:=6) (b:=w2.heap.size) (o:=.cells (ap m.op m.nt m.rel (.slice a2 m.args.length c2)) 24 (0,0)) rfl; have hO9d:=hid (hO9.out.below aD ((zN _ W9).drew)); clear hO9; have hO9:=hO9d; clear hO9d;(have hal1:[t5,t6].length+m.args.length<=1048576:=by show 2+_<=_; omega);(have hal2:m.args.length<=1048575:=by omega);refine wp_region_held_drew (S:=fun w'=>Below W9.heap.size W9 w') (by kernel_rfl) ?_ (fun hHeld=>?_)
       ·exact (zN _ W9).drew
       generalize W9.drew=wd at *; refine wTk (i:=0) (v:=?_) rfl ?hy ?_
       case hy =>
        intro w hSw
        skip
        go_simp
        all_goals with_reducible rfl
       (try simp only [Act.put,sI,sZ,sS]);refine wTk (i:=1) (v:=?_) rfl ?hy ?_
       case hy =>
        intro w hSw; obtain ⟨v0,v1,v2,v3,-⟩:=aK (an hSw rM (ae rM)); go_simp
        all_goals with_reducible rfl
       (try simp only [Act.put,sI,sZ,sS]);refine wTk (i:=2) (v:=?_) rfl ?hy ?_
       case hy =>
        intro w hSw; obtain ⟨v0,v1,v2,v3,v4,v5,v6,-⟩:=aH (an hSw rY (ae rY)); go_simp
        all_goals with_reducible rfl
       (try simp only [Act.put,sI,sZ,sS]);refine wTk (i:=3) (v:=?_) rfl ?hy ?_
       case hy =>
        intro w hSw; obtain ⟨v0,v1,v2,v3,v4,v5,v6,-⟩:=aH (an hSw rZ (ae rZ)); go_simp
        all_goals with_reducible rfl
       (try simp only [Act.put,sI,sZ,sS]);refine wTk (i:=6) (v:=?_) rfl ?hy ?_
       case hy =>
        intro w hSw; obtain ⟨v0,v1,v2,v3,v4,v5,v6,-⟩:=aH (an hSw rW (ae rW)); go_simp
        all_goals with_reducible rfl
       (try simp only [Act.put,sI,sZ,sS]);refine wTk (i:=7) (v:=?_) rfl ?hy ?_
       case hy =>
        intro w hSw; obtain ⟨v0,v1,v2,v3,-⟩:=aK (an hSw rM (ae rM)); go_simp
        all_goals with_reducible rfl
       (try simp only [Act.put,sI,sZ,sS]);refine wTk (i:=9) (v:=?_) rfl ?hy ?_
       case hy =>
        intro w hSw; obtain ⟨v0,v1,v2,v3,v4,v5,v6,-⟩:=aH (an hSw rY (ae rY)); go_simp
        all_goals with_reducible rfl
       (try simp only [Act.put,sI,sZ,sS]);refine wTk (i:=11) (v:=?_) rfl ?hy ?_
       case hy =>
        intro w hSw; obtain ⟨v0,v1,v2,v3,v4,v5,v6,-⟩:=aH (an hSw rZ (ae rZ)); go_simp
        all_goals with_reducible rfl
       (try simp only [Act.put,sI,sZ,sS]);refine wTk (i:=13) (v:=?_) rfl ?hy ?_
       case hy =>
        intro w hSw; obtain ⟨v0,v1,v2,v3,v4,v5,v6,-⟩:=aH (an hSw rY (ae rY)); go_simp
        all_goals with_reducible rfl
       (try simp only [Act.put,sI,sZ,sS]);refine wTk (i:=14) (v:=?_) rfl ?hy ?_
       case hy =>
        intro w hSw; obtain ⟨v0,v1,v2,v3,v4,v5,v6,-⟩:=aH (an hSw rW (ae rW)); go_simp
        all_goals with_reducible rfl
       (try simp only [Act.put,sI,sZ,sS]);refine wTk (i:=16) (v:=?_) rfl ?hy ?_
       case hy =>
        intro w hSw; obtain ⟨v0,v1,v2,v3,v4,v5,v6,-⟩:=aH (an hSw rW (ae rW)); go_simp
        all_goals with_reducible rfl
       (try simp only [Act.put,sI,sZ,sS]);refine wTk (i:=17) (v:=?_) rfl ?hy ?_
       case hy =>
        intro w hSw; obtain ⟨v0,v1,v2,v3,v4,v5,v6,-⟩:=aH (an hSw rZ (ae rZ)); go_simp
        all_goals with_reducible rfl
       (try simp only [Act.put,sI,sZ,sS]);clear rW rZ rY rM; refine wpAnyH_ready (rs:=[4,21]) (by as_aux_lemma=>kernel_rfl) (by simp) ?_; refine rdC rfl (fun K hK=>?_) (rdC rfl (fun K hK=>?_) AllReadyH.nil)
       rotate_left
       go_simp; have hbz:Below wd.heap.size wd (wd.alloc (.cells #[.int .i64 0,.bool false,.string ⟨#[]⟩,.slice none 0 0,.int .i64 0,.int .i64 0,.slice none 0 0] 27)):=(zN _ _).alloc (zM _) _; replace hS:=hid (show RS _ (some wd.heap.size) _ (wd.alloc (.cells #[.int .i64 0,.bool false,.string ⟨#[]⟩,.slice none 0 0,.int .i64 0,.int .i64 0,.slice none 0 0] 27)) from hS.out.newRule); replace hO9:=hid (hO9.out.below aD hbz); clear hbz; generalize wd.alloc (.cells #[.int .i64 0,.bool false,.string ⟨#[]⟩,.slice none 0 0,.int .i64 0,.int .i64 0,.slice none 0 0] 27)=wd at *; refine hK.out _ _ ?_ (fun hHeld2=>?_)
       ·exact hS.out.below
       clear hK K; clear hHeld; have hHeld:=hHeld2; clear hHeld2;(try simp only [Act.put,sI,sZ,sS]);refine wpAnyH_ready (rs:=[4]) (by as_aux_lemma=>kernel_rfl) (by simp) ?_; refine rdY rfl (fun K hK=>?_)
       all_goals
        go_simp; have hbz:Below wd.heap.size wd (wd.alloc (.cells #[sv t5.var,iv t5.val.kind,sv t5.val.t,iv t5.val.n,iv t5.val.m,sv t5.val.s,.slice none 0 0,sv t6.var,iv t6.val.kind,sv t6.val.t,iv t6.val.n,iv t6.val.m,sv t6.val.s,.slice none 0 0] 63)):=(zN _ _).alloc (zM _) _; replace hS:=hid (hS.out.grow hbz); replace hO9:=hid (hO9.out.below aD hbz); have hTV:=hid (show aO 63 7 FlR (fun _=>True) _ [t5,t6] (.slice (some ⟨wd.heap.size,0,none⟩) 2 2) from fg (l:=[t5,t6]) (af wd (.cells #[sv t5.var,iv t5.val.kind,sv t5.val.t,iv t5.val.n,iv t5.val.m,sv t5.val.s,.slice none 0 0,sv t6.var,iv t6.val.kind,sv t6.val.t,iv t6.val.n,iv t6.val.m,sv t6.val.s,.slice none 0 0] 63)) (by show 2<=maxLen; decide) trivial); clear hbz;generalize wd.alloc (.cells #[sv t5.var,iv t5.val.kind,sv t5.val.t,iv t5.val.n,iv t5.val.m,sv t5.val.s,.slice none 0 0,sv t6.var,iv t6.val.kind,sv t6.val.t,iv t6.val.n,iv t6.val.m,sv t6.val.s,.slice none 0 0] 63)=u1 at *; refine hK.out _ _ ?_ (fun hHeld2=>?_)
        ·exact hS.out.below
        clear hK K; clear hHeld; have hHeld:=hHeld2; clear hHeld2;(try simp only [Act.put,sI,sZ,sS])
       all_goals first
        | (
         refine wpAnyH_ready (rs:=[5,21]) (by as_aux_lemma=>kernel_rfl) (by simp) ?_; refine rdC rfl (fun K hK=>?_) (rdC rfl (fun K hK=>?_) AllReadyH.nil)
         rotate_left
         go_simp; have hbz:Below u1.heap.size u1 (u1.alloc (.cells #[.int .i64 0,.bool false,.string ⟨#[]⟩,.slice none 0 0,.int .i64 0,.int .i64 0,.slice none 0 0] 27)):=(zN _ _).alloc (zM _) _; replace hS:=hid (show RS _ (some u1.heap.size) _ (u1.alloc (.cells #[.int .i64 0,.bool false,.string ⟨#[]⟩,.slice none 0 0,.int .i64 0,.int .i64 0,.slice none 0 0] 27)) from hS.out.newRule); replace hO9:=hid (hO9.out.below aD hbz); replace hTV:=hid (hTV.out.below aD hbz); clear hbz; generalize u1.alloc (.cells #[.int .i64 0,.bool false,.string ⟨#[]⟩,.slice none 0 0,.int .i64 0,.int .i64 0,.slice none 0 0] 27)=u1 at *; refine hK.out _ _ ?_ (fun hHeld2=>?_)
         ·exact hS.out.below
         clear hK K; clear hHeld; have hHeld:=hHeld2; clear hHeld2;(try simp only [Act.put,sI,sZ,sS]);refine wpAnyH_ready (rs:=[5]) (by as_aux_lemma=>kernel_rfl) (by simp) ?_
         refine rdY rfl (fun K hK=>?_))
        | (
         refine wpAnyH_ready (rs:=[5]) (by as_aux_lemma=>kernel_rfl) (by simp) ?_
         refine rdY rfl (fun K hK=>?_))
       all_goals
        go_simp;go_at_call 118;(with_reducible refine (jF rl m [t5,t6] _ _ _ _ _ (hO9.out.sl aD) (hTV.out.sl aD) hal1 hvar.out).mono ?_);intro e u2 hP; obtain ⟨ya1,yc1,rfl,hQ,hbq⟩:=PL1.open hP; replace hS:=hid (hS.out.push hbq hQ); clear hTV; replace hO9:=hid (hO9.out.below aD hbq); clear hbq hQ hP; refine hK.out _ _ ?_ (fun hHeld2=>?_)
        ·exact hS.out.below
        clear hK K; clear hHeld; have hHeld:=hHeld2; clear hHeld2;(try simp only [Act.put,sI,sZ,sS])
       all_goals first
        | (
         refine wpAnyH_ready (rs:=[8,21]) (by as_aux_lemma=>kernel_rfl) (by simp) ?_; refine rdC rfl (fun K hK=>?_) (rdC rfl (fun K hK=>?_) AllReadyH.nil)
         rotate_left
         go_simp; have hbz:Below u2.heap.size u2 (u2.alloc (.cells #[.int .i64 0,.bool false,.string ⟨#[]⟩,.slice none 0 0,.int .i64 0,.int .i64 0,.slice none 0 0] 27)):=(zN _ _).alloc (zM _) _; replace hS:=hid (show RS _ (some u2.heap.size) _ (u2.alloc (.cells #[.int .i64 0,.bool false,.string ⟨#[]⟩,.slice none 0 0,.int .i64 0,.int .i64 0,.slice none 0 0] 27)) from hS.out.newRule); replace hO9:=hid (hO9.out.below aD hbz); clear hbz; generalize u2.alloc (.cells #[.int .i64 0,.bool false,.string ⟨#[]⟩,.slice none 0 0,.int .i64 0,.int .i64 0,.slice none 0 0] 27)=u2 at *; refine hK.out _ _ ?_ (fun hHeld2=>?_)
         ·exact hS.out.below
         clear hK K; clear hHeld; have hHeld:=hHeld2; clear hHeld2;(try simp only [Act.put,sI,sZ,sS]);refine wpAnyH_ready (rs:=[8]) (by as_aux_lemma=>kernel_rfl) (by simp) ?_
         refine rdY rfl (fun K hK=>?_))
        | (
         refine wpAnyH_ready (rs:=[8]) (by as_aux_lemma=>kernel_rfl) (by simp) ?_
         refine rdY rfl (fun K hK=>?_))
       all_goals
        go_simp;go_at_call 115;(with_reducible refine (iW t7 m _ _ _ (hO9.out.sl aD) hal2).mono ?_);intro e u3 hP; obtain ⟨ya2,yc2,rfl,hQ,hbq⟩:=PL1.open hP; replace hS:=hid (hS.out.push hbq hQ); replace hO9:=hid (hO9.out.below aD hbq); clear hbq hQ hP; refine hK.out _ _ ?_ (fun hHeld2=>?_)
        ·exact hS.out.below
        clear hK K; clear hHeld; have hHeld:=hHeld2; clear hHeld2;(try simp only [Act.put,sI,sZ,sS])
       all_goals first
        | (
         refine wpAnyH_ready (rs:=[10,21]) (by as_aux_lemma=>kernel_rfl) (by simp) ?_; refine rdC rfl (fun K hK=>?_) (rdC rfl (fun K hK=>?_) AllReadyH.nil)
         rotate_left
         go_simp; have hbz:Below u3.heap.size u3 (u3.alloc (.cells #[.int .i64 0,.bool false,.string ⟨#[]⟩,.slice none 0 0,.int .i64 0,.int .i64 0,.slice none 0 0] 27)):=(zN _ _).alloc (zM _) _; replace hS:=hid (show RS _ (some u3.heap.size) _ (u3.alloc (.cells #[.int .i64 0,.bool false,.string ⟨#[]⟩,.slice none 0 0,.int .i64 0,.int .i64 0,.slice none 0 0] 27)) from hS.out.newRule); replace hO9:=hid (hO9.out.below aD hbz); clear hbz; generalize u3.alloc (.cells #[.int .i64 0,.bool false,.string ⟨#[]⟩,.slice none 0 0,.int .i64 0,.int .i64 0,.slice none 0 0] 27)=u3 at *; refine hK.out _ _ ?_ (fun hHeld2=>?_)
         ·exact hS.out.below
         clear hK K; clear hHeld; have hHeld:=hHeld2; clear hHeld2;(try simp only [Act.put,sI,sZ,sS]);refine wpAnyH_ready (rs:=[10]) (by as_aux_lemma=>kernel_rfl) (by simp) ?_
         refine rdY rfl (fun K hK=>?_))
        | (
         refine wpAnyH_ready (rs:=[10]) (by as_aux_lemma=>kernel_rfl) (by simp) ?_
         refine rdY rfl (fun K hK=>?_))
       all_goals
        go_simp;go_at_call 119;(with_reducible refine (kB t5 _).mono ?_);intro e u4 hP; obtain ⟨ya3,yc3,rfl,hQ,hbq⟩:=PL1.open hP; replace hS:=hid (hS.out.push hbq hQ); replace hO9:=hid (hO9.out.below aD hbq); clear hbq hQ hP; refine hK.out _ _ ?_ (fun hHeld2=>?_)
        ·exact hS.out.below
        clear hK K; clear hHeld; have hHeld:=hHeld2; clear hHeld2;(try simp only [Act.put,sI,sZ,sS])
       all_goals first
        | (
         refine wpAnyH_ready (rs:=[12,21]) (by as_aux_lemma=>kernel_rfl) (by simp) ?_; refine rdC rfl (fun K hK=>?_) (rdC rfl (fun K hK=>?_) AllReadyH.nil)
         rotate_left
         go_simp; have hbz:Below u4.heap.size u4 (u4.alloc (.cells #[.int .i64 0,.bool false,.string ⟨#[]⟩,.slice none 0 0,.int .i64 0,.int .i64 0,.slice none 0 0] 27)):=(zN _ _).alloc (zM _) _; replace hS:=hid (show RS _ (some u4.heap.size) _ (u4.alloc (.cells #[.int .i64 0,.bool false,.string ⟨#[]⟩,.slice none 0 0,.int .i64 0,.int .i64 0,.slice none 0 0] 27)) from hS.out.newRule); replace hO9:=hid (hO9.out.below aD hbz); clear hbz; generalize u4.alloc (.cells #[.int .i64 0,.bool false,.string ⟨#[]⟩,.slice none 0 0,.int .i64 0,.int .i64 0,.slice none 0 0] 27)=u4 at *; refine hK.out _ _ ?_ (fun hHeld2=>?_)
         ·exact hS.out.below
         clear hK K; clear hHeld; have hHeld:=hHeld2; clear hHeld2;(try simp only [Act.put,sI,sZ,sS]);refine wpAnyH_ready (rs:=[12]) (by as_aux_lemma=>kernel_rfl) (by simp) ?_
         refine rdY rfl (fun K hK=>?_))
        | (
         refine wpAnyH_ready (rs:=[12]) (by as_aux_lemma=>kernel_rfl) (by simp) ?_
         refine rdY rfl (fun K hK=>?_))
       all_goals
        go_simp;go_at_call 119;(with_reducible refine (kB t6 _).mono ?_);intro e u5 hP; obtain ⟨ya4,yc4,rfl,hQ,hbq⟩:=PL1.open hP; replace hS:=hid (hS.out.push hbq hQ); replace hO9:=hid (hO9.out.below aD hbq); clear hbq hQ hP; refine hK.out _ _ ?_ (fun hHeld2=>?_)
        ·exact hS.out.below
        clear hK K; clear hHeld; have hHeld:=hHeld2; clear hHeld2;(try simp only [Act.put,sI,sZ,sS])
       all_goals first
        | (
         refine wpAnyH_ready (rs:=[15,21]) (by as_aux_lemma=>kernel_rfl) (by simp) ?_; refine rdC rfl (fun K hK=>?_) (rdC rfl (fun K hK=>?_) AllReadyH.nil)
         rotate_left
         go_simp; have hbz:Below u5.heap.size u5 (u5.alloc (.cells #[.int .i64 0,.bool false,.string ⟨#[]⟩,.slice none 0 0,.int .i64 0,.int .i64 0,.slice none 0 0] 27)):=(zN _ _).alloc (zM _) _; replace hS:=hid (show RS _ (some u5.heap.size) _ (u5.alloc (.cells #[.int .i64 0,.bool false,.string ⟨#[]⟩,.slice none 0 0,.int .i64 0,.int .i64 0,.slice none 0 0] 27)) from hS.out.newRule); replace hO9:=hid (hO9.out.below aD hbz); clear hbz; generalize u5.alloc (.cells #[.int .i64 0,.bool false,.string ⟨#[]⟩,.slice none 0 0,.int .i64 0,.int .i64 0,.slice none 0 0] 27)=u5 at *; refine hK.out _ _ ?_ (fun hHeld2=>?_)
         ·exact hS.out.below
         clear hK K; clear hHeld; have hHeld:=hHeld2; clear hHeld2;(try simp only [Act.put,sI,sZ,sS]);refine wpAnyH_ready (rs:=[15]) (by as_aux_lemma=>kernel_rfl) (by simp) ?_
         refine rdY rfl (fun K hK=>?_))
        | (
         refine wpAnyH_ready (rs:=[15]) (by as_aux_lemma=>kernel_rfl) (by simp) ?_
         refine rdY rfl (fun K hK=>?_))
       all_goals
        go_simp;go_at_call 120;(with_reducible refine (kH 3 t5 t7 _).mono ?_);intro e u6 hP; obtain ⟨ya5,yc5,rfl,hQ,hbq⟩:=PL1.open hP; replace hS:=hid (hS.out.push hbq hQ); replace hO9:=hid (hO9.out.below aD hbq); clear hbq hQ hP; refine hK.out _ _ ?_ (fun hHeld2=>?_)
        ·exact hS.out.below
        clear hK K; clear hHeld; have hHeld:=hHeld2; clear hHeld2;(try simp only [Act.put,sI,sZ,sS])
       all_goals first
        | (
         refine wpAnyH_ready (rs:=[18,21]) (by as_aux_lemma=>kernel_rfl) (by simp) ?_; refine rdC rfl (fun K hK=>?_) (rdC rfl (fun K hK=>?_) AllReadyH.nil)
         rotate_left
         go_simp; have hbz:Below u6.heap.size u6 (u6.alloc (.cells #[.int .i64 0,.bool false,.string ⟨#[]⟩,.slice none 0 0,.int .i64 0,.int .i64 0,.slice none 0 0] 27)):=(zN _ _).alloc (zM _) _; replace hS:=hid (show RS _ (some u6.heap.size) _ (u6.alloc (.cells #[.int .i64 0,.bool false,.string ⟨#[]⟩,.slice none 0 0,.int .i64 0,.int .i64 0,.slice none 0 0] 27)) from hS.out.newRule); replace hO9:=hid (hO9.out.below aD hbz); clear hbz; generalize u6.alloc (.cells #[.int .i64 0,.bool false,.string ⟨#[]⟩,.slice none 0 0,.int .i64 0,.int .i64 0,.slice none 0 0] 27)=u6 at *; refine hK.out _ _ ?_ (fun hHeld2=>?_)
         ·exact hS.out.below
         clear hK K; clear hHeld; have hHeld:=hHeld2; clear hHeld2;(try simp only [Act.put,sI,sZ,sS]);refine wpAnyH_ready (rs:=[18]) (by as_aux_lemma=>kernel_rfl) (by simp) ?_
         refine rdY rfl (fun K hK=>?_))
        | (
         refine wpAnyH_ready (rs:=[18]) (by as_aux_lemma=>kernel_rfl) (by simp) ?_
         refine rdY rfl (fun K hK=>?_))
       all_goals
        go_simp;go_at_call 120;(with_reducible refine (kH 4 t7 t6 _).mono ?_);intro e u7 hP; obtain ⟨ya6,yc6,rfl,hQ,hbq⟩:=PL1.open hP; replace hS:=hid (hS.out.push hbq hQ); replace hO9:=hid (hO9.out.below aD hbq); clear hbq hQ hP; refine hK.out _ _ ?_ (fun hHeld2=>?_)
        ·exact hS.out.below
        clear hK K; clear hHeld; have hHeld:=hHeld2; clear hHeld2;(try simp only [Act.put,sI,sZ,sS])
       all_goals first
        | (
         refine wpAnyH_ready (rs:=[19,21]) (by as_aux_lemma=>kernel_rfl) (by simp) ?_; refine rdC rfl (fun K hK=>?_) (rdC rfl (fun K hK=>?_) AllReadyH.nil)
         rotate_left
         go_simp; have hbz:Below u7.heap.size u7 (u7.alloc (.cells #[.int .i64 0,.bool false,.string ⟨#[]⟩,.slice none 0 0,.int .i64 0,.int .i64 0,.slice none 0 0] 27)):=(zN _ _).alloc (zM _) _; replace hS:=hid (show RS _ (some u7.heap.size) _ (u7.alloc (.cells #[.int .i64 0,.bool false,.string ⟨#[]⟩,.slice none 0 0,.int .i64 0,.int .i64 0,.slice none 0 0] 27)) from hS.out.newRule); replace hO9:=hid (hO9.out.below aD hbz); clear hbz; generalize u7.alloc (.cells #[.int .i64 0,.bool false,.string ⟨#[]⟩,.slice none 0 0,.int .i64 0,.int .i64 0,.slice none 0 0] 27)=u7 at *; refine hK.out _ _ ?_ (fun hHeld2=>?_)
         ·exact hS.out.below
         clear hK K; clear hHeld; have hHeld:=hHeld2; clear hHeld2;(try simp only [Act.put,sI,sZ,sS]);refine wpAnyH_ready (rs:=[19]) (by as_aux_lemma=>kernel_rfl) (by simp) ?_
         refine rdY rfl (fun K hK=>?_))
        | (
         refine wpAnyH_ready (rs:=[19]) (by as_aux_lemma=>kernel_rfl) (by simp) ?_
         refine rdY rfl (fun K hK=>?_))
       all_goals
        go_simp;replace hS:=hid (show RS2 W9 _ (bq rl m [t5,t6]) (.slice ya1 (bq rl m [t5,t6]).args.length yc1) _ (.slice (some ⟨u7.heap.size,0,none⟩) 5 5) (u7.alloc (.cells #[iv (aS t7 m).op,.bool (aS t7 m).nt,sv (aS t7 m).rel,.slice ya2 (aS t7 m).args.length yc2,iv (aQ t5).op,.bool (aQ t5).nt,sv (aQ t5).rel,.slice ya3 (aQ t5).args.length yc3,iv (aQ t6).op,.bool (aQ t6).nt,sv (aQ t6).rel,.slice ya4 (aQ t6).args.length yc4,iv (aE 3 t5 t7).op,.bool (aE 3 t5 t7).nt,sv (aE 3 t5 t7).rel,.slice ya5 (aE 3 t5 t7).args.length yc5,iv (aE 4 t7 t6).op,.bool (aE 4 t7 t6).nt,sv (aE 4 t7 t6).rel,.slice ya6 (aE 4 t7 t6).args.length yc6] 24)) from RS.build (ps:=[(aS t7 m,.slice ya2 (aS t7 m).args.length yc2),(aQ t5,.slice ya3 (aQ t5).args.length yc3),(aQ t6,.slice ya4 (aQ t6).args.length yc4),(aE 3 t5 t7,.slice ya5 (aE 3 t5 t7).args.length yc5),(aE 4 t7 t6,.slice ya6 (aE 4 t7 t6).args.length yc6)]) hS.out (by show 5<=maxLen; decide));clear hO9; generalize u7.alloc (.cells #[iv (aS t7 m).op,.bool (aS t7 m).nt,sv (aS t7 m).rel,.slice ya2 (aS t7 m).args.length yc2,iv (aQ t5).op,.bool (aQ t5).nt,sv (aQ t5).rel,.slice ya3 (aQ t5).args.length yc3,iv (aQ t6).op,.bool (aQ t6).nt,sv (aQ t6).rel,.slice ya4 (aQ t6).args.length yc4,iv (aE 3 t5 t7).op,.bool (aE 3 t5 t7).nt,sv (aE 3 t5 t7).rel,.slice ya5 (aE 3 t5 t7).args.length yc5,iv (aE 4 t7 t6).op,.bool (aE 4 t7 t6).nt,sv (aE 4 t7 t6).rel,.slice ya6 (aE 4 t7 t6).args.length yc6] 24)=u8 at *; refine hK.out _ _ ?_ (fun hHeld2=>?_)
        ·exact hS.out.below
        clear hK K; clear hHeld; have hHeld:=hHeld2; clear hHeld2;(try simp only [Act.put,sI,sZ,sS])
       all_goals
        refine wTk (i:=20) (v:=?_) rfl ?hy ?_
        case hy =>
         intro w hSw
         skip
         go_simp
         all_goals with_reducible rfl
        try simp only [Act.put,sI,sZ,sS]
       all_goals try
        refine wpAnyH_ready (rs:=[21]) (by as_aux_lemma=>kernel_rfl) (by simp) ?_; refine rdY rfl (fun K hK=>?_); go_simp; have hbz:Below u8.heap.size u8 (u8.alloc (.cells #[.int .i64 0,.bool false,.string ⟨#[]⟩,.slice none 0 0,.int .i64 0,.int .i64 0,.slice none 0 0] 27)):=(zN _ _).alloc (zM _) _; replace hS:=hid (show RS2 _ (some u8.heap.size) _ _ _ _ (u8.alloc (.cells #[.int .i64 0,.bool false,.string ⟨#[]⟩,.slice none 0 0,.int .i64 0,.int .i64 0,.slice none 0 0] 27)) from hS.out.newRule); clear hbz; generalize u8.alloc (.cells #[.int .i64 0,.bool false,.string ⟨#[]⟩,.slice none 0 0,.int .i64 0,.int .i64 0,.slice none 0 0] 27)=u8 at *; refine hK.out _ _ ?_ (fun hHeld2=>?_)
        ·exact hS.out.below
        clear hK K; clear hHeld; have hHeld:=hHeld2; clear hHeld2;(try simp only [Act.put,sI,sZ,sS])
       all_goals
        have hge:=(hS.out.zr _ rfl).1; have hzr:=(hS.out.zr _ rfl).2; refine wpAnyH_ready (rs:=[22]) (by as_aux_lemma=>kernel_rfl) (by simp) ?_; refine rdY rfl (fun K hK=>?_); rw [if_pos (by rfl)]; refine wp_store_row 27 (.tmp 15) (.tmp 84) rfl _ (aM (bq rl m [t5,t6]).op (bq rl m [t5,t6]).nt (bq rl m [t5,t6]).rel (.slice ya1 (bq rl m [t5,t6]).args.length yc1) 0 0 _) (by rfl) (by rfl) _ _ hzr (by kernel_rfl) (by rfl) (by simp [Value.oneCell']) ?_; refine hK.out _ _ ?_ (fun hHeld2=>?_)
        ·exact fj hHeld hge _
        clear hK K; clear hHeld; have hHeld:=hHeld2; clear hHeld2;(try simp only [Act.put,sI,sZ,sS]);refine wpAnyH_done (by as_aux_lemma=>kernel_rfl) ?_ _;go_wp2_with fail;go_meet
        case rel=>exact ⟨_,_,_,_,rfl,hid (by rw [hNR0.out]; exact ⟨hS.out.store,rfl⟩)⟩
      case rest =>
       obtain ⟨RB,rx,hv',bv,rfl,hc⟩:=hcut;(obtain ⟨hNR,hru⟩:NR W9 RB rx hv' bv wc/\rx.ru=⟨bq rl m [t5,t6],0,0,[aS t7 m,aQ t5,aQ t6,aE 3 t5 t7,aE 4 t7 t6]⟩:=by have h9:=hc.out; rw [hNR0.out] at h9; exact h9);have hW6s:=hid hK9.out.fr.size; have hW8s2:=hid (show w.heap.size<=W8.heap.size from by have:=hK8.out.fr.size; have:=hW8s.out; omega); have hW9c:=hid hNR.below.size; have hQ9l:=hid (show ∀ k,Value.ownBlock (.slice aw L.args.length cw)=some k->k < W9.heap.size from fun k hk=>hQ9.out.lt hk); have hKx:=hid (show Kp pb K s8 w wc _ from hK9.out.below hNR.below); have hQc:=hid (hQ9.out.below aD hNR.below); have hPc:=hid (hP9.out.below aD hNR.below); have rN:=hKx.out.nth (i:=0) (b:=w9.heap.size) (o:=.cells (ap L.op true L.rel (.slice aw L.args.length cw)) 24 (0,0)) rfl; have rX:=hKx.out.nth (i:=4) (b:=w4.heap.size) (o:=.cells (aB t4) 63 (0,0)) rfl; have rA:=hKx.out.nth (i:=5) (b:=w3.heap.size) (o:=.cells (aB a) 63 (0,0)) rfl;have rL:=hKx.out.nth (i:=7) (b:=w1.heap.size) (o:=.cells (ap l.op l.nt l.rel (.slice a1 l.args.length c1)) 24 (0,0)) rfl; have hNRc:=hid hNR; clear hc hO9 hP9 hQ9 hK9 hNR0; obtain ⟨xa,xc,ya,yc,rfl,rfl⟩:=hNR.slices; have hrow:=hNR.row; replace hru:=hid hru; clear hNR; have hS:=hid (RS.start wc);go_wp2_with fail;refine wp_region_held_drew (S:=fun w'=>Below wc.heap.size wc w') (by kernel_rfl) ?_ (fun hHeld=>?_)
       ·exact (zN _ wc).drew
       generalize wc.drew=wd at *; have hPd:=hid (hPc.out.below aD hHeld); clear hPc; refine wTk (i:=0) (v:=?_) rfl ?hy ?_
       case hy =>
        intro w hSw; obtain ⟨v0,v1,v2,v3,v4,v5,v6,-⟩:=aH (an hSw rX (ae rX)); go_simp
        all_goals with_reducible rfl
       (try simp only [Act.put,sI,sZ,sS]);refine wTk (i:=1) (v:=?_) rfl ?hy ?_
       case hy =>
        intro w hSw; obtain ⟨v0,v1,v2,v3,-⟩:=aK (an hSw rL (ae rL)); go_simp
        all_goals with_reducible rfl
       (try simp only [Act.put,sI,sZ,sS]);refine wTk (i:=3) (v:=?_) rfl ?hy ?_
       case hy =>
        intro w hSw; obtain ⟨v0,v1,v2,v3,v4,v5,v6,-⟩:=aH (an hSw rX (ae rX)); go_simp
        all_goals with_reducible rfl
       (try simp only [Act.put,sI,sZ,sS]);refine wTk (i:=4) (v:=?_) rfl ?hy ?_
       case hy =>
        intro w hSw; obtain ⟨v0,v1,v2,v3,v4,v5,v6,-⟩:=aH (an hSw rA (ae rA)); go_simp
        all_goals with_reducible rfl
       (try simp only [Act.put,sI,sZ,sS]);refine wTk (i:=6) (v:=?_) rfl ?hy ?_
       case hy =>
        intro w hSw; obtain ⟨v0,v1,v2,v3,-⟩:=aK (an hSw rN (ae rN)); go_simp
        all_goals with_reducible rfl
       (try simp only [Act.put,sI,sZ,sS]);refine wTk (i:=8) (v:=?_) rfl ?hy ?_
       case hy =>
        intro w hSw; obtain ⟨v0,v1,v2,v3,v4,v5,v6,-⟩:=eg (an hSw hrow (ae hrow)); go_simp
        all_goals with_reducible rfl
       (try simp only [Act.put,sI,sZ,sS]);clear rN rX rA rL hrow; refine wpAnyH_ready (rs:=[2,9]) (by as_aux_lemma=>kernel_rfl) (by simp) ?_; refine rdC rfl (fun K hK=>?_) (rdC rfl (fun K hK=>?_) AllReadyH.nil)
       rotate_left
       go_simp; have hbz:Below wd.heap.size wd (wd.alloc (.cells #[iv rx.head.2.op,.bool rx.head.2.nt,sv rx.head.2.rel,.slice xa rx.head.2.args.length xc,iv rx.agg,iv rx.at_,.slice ya rx.body.length yc] 27)):=(zN _ _).alloc (zM _) _; have hHz:=hHeld.alloc hHeld.size (.cells #[iv rx.head.2.op,.bool rx.head.2.nt,sv rx.head.2.rel,.slice xa rx.head.2.args.length xc,iv rx.agg,iv rx.at_,.slice ya rx.body.length yc] 27); have hzge:w.heap.size<=wd.heap.size:=zV hKx.out.fr.size hHeld.size;have hRr:=hid (show aO 27 7 RuR (aF w.heap.size) (wd.alloc (.cells #[iv rx.head.2.op,.bool rx.head.2.nt,sv rx.head.2.rel,.slice xa rx.head.2.args.length xc,iv rx.agg,iv rx.at_,.slice ya rx.body.length yc] 27)) [rx] (.slice (some ⟨wd.heap.size,0,none⟩) 1 1) from fc (bS.below hNRc.out.ru hHeld) (fun k hk hk2=>zV hW6s.out hk2.1) hzge); clear hzge; replace hS:=hid (hS.out.grow hbz); replace hPd:=hid (hPd.out.below aD hbz)

       generalize wd.alloc (.cells #[iv rx.head.2.op,.bool rx.head.2.nt,sv rx.head.2.rel,.slice xa rx.head.2.args.length xc,iv rx.agg,iv rx.at_,.slice ya rx.body.length yc] 27)=wd at *; refine hK.out _ _ ?_ (fun hHeld2=>?_)
       ·exact hHz
       clear hK K; clear hHeld; have hHeld:=hHeld2; clear hHeld2;(try simp only [Act.put,sI,sZ,sS]);clear hHz; refine wpAnyH_ready (rs:=[2]) (by as_aux_lemma=>kernel_rfl) (by simp) ?_; refine rdY rfl (fun K hK=>?_)
       all_goals
        go_simp;go_at_call 115;(with_reducible refine (iW t4 l _ _ _ (hPd.out.sl aD) hall).mono ?_);intro e u1 hP; obtain ⟨ya0,yc0,rfl,hQ,hbq⟩:=PL1.open hP; have hHz:=hHeld.trans (hbq.mono hHeld.size); replace hS:=hid (hS.out.push hbq hQ); replace hPd:=hid (hPd.out.below aD hbq);(try replace hRr:=hid (hRr.out.below bS hbq));clear hbq hQ hP; refine hK.out _ _ ?_ (fun hHeld2=>?_)
        ·exact hHz
        clear hK K; clear hHeld; have hHeld:=hHeld2; clear hHeld2;(try simp only [Act.put,sI,sZ,sS]);clear hHz
       all_goals first
        | (
         refine wpAnyH_ready (rs:=[5,9]) (by as_aux_lemma=>kernel_rfl) (by simp) ?_; refine rdC rfl (fun K hK=>?_) (rdC rfl (fun K hK=>?_) AllReadyH.nil)
         rotate_left
         go_simp; have hbz:Below u1.heap.size u1 (u1.alloc (.cells #[iv rx.head.2.op,.bool rx.head.2.nt,sv rx.head.2.rel,.slice xa rx.head.2.args.length xc,iv rx.agg,iv rx.at_,.slice ya rx.body.length yc] 27)):=(zN _ _).alloc (zM _) _; have hHz:=hHeld.alloc hHeld.size (.cells #[iv rx.head.2.op,.bool rx.head.2.nt,sv rx.head.2.rel,.slice xa rx.head.2.args.length xc,iv rx.agg,iv rx.at_,.slice ya rx.body.length yc] 27); have hzge:w.heap.size<=u1.heap.size:=zV hKx.out.fr.size hHeld.size;have hRr:=hid (show aO 27 7 RuR (aF w.heap.size) (u1.alloc (.cells #[iv rx.head.2.op,.bool rx.head.2.nt,sv rx.head.2.rel,.slice xa rx.head.2.args.length xc,iv rx.agg,iv rx.at_,.slice ya rx.body.length yc] 27)) [rx] (.slice (some ⟨u1.heap.size,0,none⟩) 1 1) from fc (bS.below hNRc.out.ru hHeld) (fun k hk hk2=>zV hW6s.out hk2.1) hzge); clear hzge; replace hS:=hid (hS.out.grow hbz); replace hPd:=hid (hPd.out.below aD hbz)

         generalize u1.alloc (.cells #[iv rx.head.2.op,.bool rx.head.2.nt,sv rx.head.2.rel,.slice xa rx.head.2.args.length xc,iv rx.agg,iv rx.at_,.slice ya rx.body.length yc] 27)=u1 at *; refine hK.out _ _ ?_ (fun hHeld2=>?_)
         ·exact hHz
         clear hK K; clear hHeld; have hHeld:=hHeld2; clear hHeld2;(try simp only [Act.put,sI,sZ,sS]);clear hHz; refine wpAnyH_ready (rs:=[5]) (by as_aux_lemma=>kernel_rfl) (by simp) ?_
         refine rdY rfl (fun K hK=>?_))
        | (
         refine wpAnyH_ready (rs:=[5]) (by as_aux_lemma=>kernel_rfl) (by simp) ?_
         refine rdY rfl (fun K hK=>?_))
       all_goals
        go_simp;go_at_call 120;(with_reducible refine (kH 4 t4 a _).mono ?_);intro e u2 hP; obtain ⟨ya1,yc1,rfl,hQ,hbq⟩:=PL1.open hP; have hHz:=hHeld.trans (hbq.mono hHeld.size); replace hS:=hid (hS.out.push hbq hQ); replace hPd:=hid (hPd.out.below aD hbq);(try replace hRr:=hid (hRr.out.below bS hbq));clear hbq hQ hP; refine hK.out _ _ ?_ (fun hHeld2=>?_)
        ·exact hHz
        clear hK K; clear hHeld; have hHeld:=hHeld2; clear hHeld2;(try simp only [Act.put,sI,sZ,sS]);clear hHz
       all_goals first
        | (
         refine wpAnyH_ready (rs:=[7,9]) (by as_aux_lemma=>kernel_rfl) (by simp) ?_; refine rdC rfl (fun K hK=>?_) (rdC rfl (fun K hK=>?_) AllReadyH.nil)
         rotate_left
         go_simp; have hbz:Below u2.heap.size u2 (u2.alloc (.cells #[iv rx.head.2.op,.bool rx.head.2.nt,sv rx.head.2.rel,.slice xa rx.head.2.args.length xc,iv rx.agg,iv rx.at_,.slice ya rx.body.length yc] 27)):=(zN _ _).alloc (zM _) _; have hHz:=hHeld.alloc hHeld.size (.cells #[iv rx.head.2.op,.bool rx.head.2.nt,sv rx.head.2.rel,.slice xa rx.head.2.args.length xc,iv rx.agg,iv rx.at_,.slice ya rx.body.length yc] 27); have hzge:w.heap.size<=u2.heap.size:=zV hKx.out.fr.size hHeld.size;have hRr:=hid (show aO 27 7 RuR (aF w.heap.size) (u2.alloc (.cells #[iv rx.head.2.op,.bool rx.head.2.nt,sv rx.head.2.rel,.slice xa rx.head.2.args.length xc,iv rx.agg,iv rx.at_,.slice ya rx.body.length yc] 27)) [rx] (.slice (some ⟨u2.heap.size,0,none⟩) 1 1) from fc (bS.below hNRc.out.ru hHeld) (fun k hk hk2=>zV hW6s.out hk2.1) hzge); clear hzge; replace hS:=hid (hS.out.grow hbz); replace hPd:=hid (hPd.out.below aD hbz)

         generalize u2.alloc (.cells #[iv rx.head.2.op,.bool rx.head.2.nt,sv rx.head.2.rel,.slice xa rx.head.2.args.length xc,iv rx.agg,iv rx.at_,.slice ya rx.body.length yc] 27)=u2 at *; refine hK.out _ _ ?_ (fun hHeld2=>?_)
         ·exact hHz
         clear hK K; clear hHeld; have hHeld:=hHeld2; clear hHeld2;(try simp only [Act.put,sI,sZ,sS]);clear hHz; refine wpAnyH_ready (rs:=[7]) (by as_aux_lemma=>kernel_rfl) (by simp) ?_
         refine rdY rfl (fun K hK=>?_))
        | (
         refine wpAnyH_ready (rs:=[7]) (by as_aux_lemma=>kernel_rfl) (by simp) ?_
         refine rdY rfl (fun K hK=>?_))
       all_goals
        go_simp; have hbz:Below u2.heap.size u2 (u2.alloc (.cells #[iv (aS t4 l).op,.bool (aS t4 l).nt,sv (aS t4 l).rel,.slice ya0 (aS t4 l).args.length yc0,iv (aE 4 t4 a).op,.bool (aE 4 t4 a).nt,sv (aE 4 t4 a).rel,.slice ya1 (aE 4 t4 a).args.length yc1,iv L.op,.bool true,sv L.rel,.slice aw L.args.length cw] 24)):=(zN _ _).alloc (zM _) _; have hHz:=hHeld.alloc hHeld.size (.cells #[iv (aS t4 l).op,.bool (aS t4 l).nt,sv (aS t4 l).rel,.slice ya0 (aS t4 l).args.length yc0,iv (aE 4 t4 a).op,.bool (aE 4 t4 a).nt,sv (aE 4 t4 a).rel,.slice ya1 (aE 4 t4 a).args.length yc1,iv L.op,.bool true,sv L.rel,.slice aw L.args.length cw] 24);have hND:=hid (show (ct (List.map (fun p:Lt × Value=>(p.2.ownBlock,p.1)) [(aS t4 l,.slice ya0 (aS t4 l).args.length yc0),(aE 4 t4 a,.slice ya1 (aE 4 t4 a).args.length yc1),(neg L,.slice aw L.args.length cw)])++[rx].flatMap RuD.ids).Nodup from rH (B:=W9.heap.size) (C:=wc.heap.size) (vA (ps:=[(aS t4 l,.slice ya0 (aS t4 l).args.length yc0),(aE 4 t4 a,.slice ya1 (aE 4 t4 a).args.length yc1)]) (p:=(neg L,.slice aw L.args.length cw)) hS.out.nd (fun q hq k hk=>(fy (hS.out.own q hq) hk).1) (fun k hk=>zS (hQ9l.out k hk) hW9c.out)) (fun k hk=>vy (ps:=[(aS t4 l,.slice ya0 (aS t4 l).args.length yc0),(aE 4 t4 a,.slice ya1 (aE 4 t4 a).args.length yc1)]) (p:=(neg L,.slice aw L.args.length cw)) (fun q hq k hk=>(fy (hS.out.own q hq) hk).1) (fun k hk=>hQ9l.out k hk) k hk) (fun k hk=>⟨(rm (lY hNRc.out.ru) k hk).1.1,hNRc.out.ru_lt k hk⟩) hNRc.out.nd);have hzge:w.heap.size<=u2.heap.size:=zV hKx.out.fr.size hHeld.size
        have hLr:=hid (show aO 24 4 LdR (aF w.heap.size) (u2.alloc (.cells #[iv (aS t4 l).op,.bool (aS t4 l).nt,sv (aS t4 l).rel,.slice ya0 (aS t4 l).args.length yc0,iv (aE 4 t4 a).op,.bool (aE 4 t4 a).nt,sv (aE 4 t4 a).rel,.slice ya1 (aE 4 t4 a).args.length yc1,iv L.op,.bool true,sv L.rel,.slice aw L.args.length cw] 24)) (List.map (fun p:Lt × Value=>(p.2.ownBlock,p.1)) [(aS t4 l,.slice ya0 (aS t4 l).args.length yc0),(aE 4 t4 a,.slice ya1 (aE 4 t4 a).args.length yc1),(neg L,.slice aw L.args.length cw)]) (.slice (some ⟨u2.heap.size,0,none⟩) 3 3) from cG [(aS t4 l,.slice ya0 (aS t4 l).args.length yc0),(aE 4 t4 a,.slice ya1 (aE 4 t4 a).args.length yc1),(neg L,.slice aw L.args.length cw)] (af u2 _) (by show 3<=maxLen; decide) hzge (by
         intro p hp; simp only [Ae,List.not_mem_nil,or_false] at hp; rcases hp with rfl | rfl | rfl
         ·exact (hS.out.own _ (by simp)).move aD fun k hk hk2=>⟨⟨zV hKx.out.fr.size hk2.1,by omega⟩,z7 _ _ _ hk⟩
         ·exact (hS.out.own _ (by simp)).move aD fun k hk hk2=>⟨⟨zV hKx.out.fr.size hk2.1,by omega⟩,z7 _ _ _ hk⟩
         ·exact (hQc.out.below aD hHeld).move aD fun k hk hk2=>⟨⟨zV hW8s2.out hk2,by omega⟩,z7 _ _ _ hk⟩))
        clear hzge; replace hS:=hid (hS.out.grow hbz);(try replace hRr:=hid (hRr.out.below bS hbz));clear hPd; generalize u2.alloc (.cells #[iv (aS t4 l).op,.bool (aS t4 l).nt,sv (aS t4 l).rel,.slice ya0 (aS t4 l).args.length yc0,iv (aE 4 t4 a).op,.bool (aE 4 t4 a).nt,sv (aE 4 t4 a).rel,.slice ya1 (aE 4 t4 a).args.length yc1,iv L.op,.bool true,sv L.rel,.slice aw L.args.length cw] 24)=u3 at *; refine hK.out _ _ ?_ (fun hHeld2=>?_)
        ·exact hHz
        clear hK K; clear hHeld; have hHeld:=hHeld2; clear hHeld2;(try simp only [Act.put,sI,sZ,sS]);clear hHz
       all_goals
        refine wTk (i:=10) (v:=?_) rfl ?hy ?_
        case hy =>
         intro w hSw
         skip
         go_simp
         all_goals with_reducible rfl
        try simp only [Act.put,sI,sZ,sS]
       all_goals try
        refine wpAnyH_ready (rs:=[9]) (by as_aux_lemma=>kernel_rfl) (by simp) ?_; refine rdY rfl (fun K hK=>?_); go_simp; have hbz:Below u3.heap.size u3 (u3.alloc (.cells #[iv rx.head.2.op,.bool rx.head.2.nt,sv rx.head.2.rel,.slice xa rx.head.2.args.length xc,iv rx.agg,iv rx.at_,.slice ya rx.body.length yc] 27)):=(zN _ _).alloc (zM _) _; have hHz:=hHeld.alloc hHeld.size (.cells #[iv rx.head.2.op,.bool rx.head.2.nt,sv rx.head.2.rel,.slice xa rx.head.2.args.length xc,iv rx.agg,iv rx.at_,.slice ya rx.body.length yc] 27); have hzge:w.heap.size<=u3.heap.size:=zV hKx.out.fr.size hHeld.size;have hRr:=hid (show aO 27 7 RuR (aF w.heap.size) (u3.alloc (.cells #[iv rx.head.2.op,.bool rx.head.2.nt,sv rx.head.2.rel,.slice xa rx.head.2.args.length xc,iv rx.agg,iv rx.at_,.slice ya rx.body.length yc] 27)) [rx] (.slice (some ⟨u3.heap.size,0,none⟩) 1 1) from fc (bS.below hNRc.out.ru hHeld) (fun k hk hk2=>zV hW6s.out hk2.1) hzge); clear hzge; replace hS:=hid (hS.out.grow hbz); replace hLr:=hid (hLr.out.below df hbz)

        generalize u3.alloc (.cells #[iv rx.head.2.op,.bool rx.head.2.nt,sv rx.head.2.rel,.slice xa rx.head.2.args.length xc,iv rx.agg,iv rx.at_,.slice ya rx.body.length yc] 27)=u3 at *; refine hK.out _ _ ?_ (fun hHeld2=>?_)
        ·exact hHz
        clear hK K; clear hHeld; have hHeld:=hHeld2; clear hHeld2;(try simp only [Act.put,sI,sZ,sS]);clear hHz
       all_goals
        refine wTk (i:=11) (v:=?_) rfl ?hy ?_
        case hy =>
         intro w hSw
         skip
         go_simp
         all_goals with_reducible rfl
        (try simp only [Act.put,sI,sZ,sS]);refine wTk (i:=12) (v:=?_) rfl ?hy ?_
        case hy =>
         intro w hSw
         skip
         go_simp
         all_goals with_reducible rfl
        (try simp only [Act.put,sI,sZ,sS]);refine wpAnyH_done (by as_aux_lemma=>kernel_rfl) ?_ _; have hKe:=hid (hKx.out.below hHeld);go_wp2_with fail;refine bodyPost_ret (results_tmp3 Tryz.results94 _ _ _) rfl ⟨by rw [hR.out]; exact hKe.out.pm,hKe.out.fr,?_⟩; rw [hR.out]; exact ⟨_,_,_,_,rfl,hLr.out,hRr.out,by rw [show (eJ t4 t5 t6 t7 rl l m a).1=[aS t4 l,aE 4 t4 a,neg (bq rl m [t4,a])] from rfl,← hL.out]; rfl,by rw [show (eJ t4 t5 t6 t7 rl l m a).2=[⟨bq rl m [t5,t6],0,0,[aS t7 m,aQ t5,aQ t6,aE 3 t5 t7,aE 4 t7 t6]⟩] from rfl,← hru.out]; rfl,hND.out⟩
end Go.Proofs.YtffdpoifdahadaaGreatDoor
namespace Go.Proofs.YtffdpoifdahadaaGreatDoor
open Go.RowKit
open Go.Lib (hid itoa)
theorem aO.appendM {α:Type} {P:Program} {E t ty:TypeId} {sz bytes:Nat} {R:Rel α} {i:TypeInfo} {z:Value} (hR:dA sz R) (ht:P.underlying t=some (.slice E)) (hi:P.info? E=some i) (hz:i.zero=some z) (hsize:i.size=sz) (hby:i.bytes=bytes) (hzs:z.cells.size=sz) (hsz:0 < sz)
  {S:aP} {w:World} {l m:List α} {v:Value} (h:aO E sz R S w l v) {B:Nat} {vs:Value} {news:List Value} (hr:Row B w sz vs m.length news) (hone:∀ u∈news,u.oneCell'=true)
  (hx:∀ n y,m[n]? = some y->∃ cs,(∀ j u,cs[j]? = some u->news[n * sz+j]? = some u)/\R (fun k=>S k/\v.ownBlock≠some k) w y cs) (h63:l.length+m.length<=maxLen) (hbytes:(l.length+m.length) * bytes<=140737488355328) (hS:∀ k,w.heap.size<=k->S k) :
  ∃ v' w',cH P t t ty v vs v' w w'/\aO E sz R S w' (l++m) v'/\Fr (fun k=>v.ownBlock=some k) w w'/\(v'.ownBlock=v.ownBlock\/v'.ownBlock=some w.heap.size):=by
 obtain ⟨xs,h1,h2,h3⟩:=h; obtain ⟨v',w',hrun,hown,hg,hv⟩:=jB w 0 t ty E i z sz bytes ht hi hz hsize hby hzs hsz v l.length xs h1 B vs m.length news hr hone h63 hbytes (zW _)
 have hkeep:∀ {y:α} {ds:List Value},R (fun k=>S k/\v.ownBlock≠some k) w y ds->R (fun k=>S k/\v'.ownBlock≠some k) w' y ds:=by
  intro y ds hy
  refine hR.move hy fun k hk hu=>⟨⟨hu.1,?_⟩,hg.block k hk (fun e=>hu.2 e.symm)⟩
  rcases hv with hv | hv
  ·rw [hv]; exact hu.2
  ·rw [hv]; intro e; injection e with e; omega
 refine ⟨v',w',⟨hrun⟩,⟨xs++news,by rw [zQ]; exact hown,fun k hk=>?_,fun i y hy=>?_⟩,⟨hg.os,hg.tape,hg.output,hg.size,fun k hk hs=>hg.block k hk (fun e=>hs e.symm)⟩,hv⟩
 ·rcases hv with hv | hv
  ·exact h2 k (hv ▸ hk)
  ·rw [hv] at hk; injection hk with hk; subst hk; exact hS _ (zM _)
 ·by_cases hil:i < l.length
  ·rw [Aa hil] at hy
   obtain ⟨ds,h4,h5⟩:=h3 i y hy; refine ⟨ds,fun j u hu=>?_,hkeep h5⟩; have:=h4 j u hu; rw [Aa (List.getElem?_eq_some_iff.1 this).1]; exact this
  ·rw [Ab (by omega)] at hy
   obtain ⟨ds,h4,h5⟩:=hx _ y hy; refine ⟨ds,fun j u hu=>?_,hkeep h5⟩; have hxl:=h1.1
   have hm:i * sz=l.length * sz+(i - l.length) * sz:=by rw [← Nat.add_mul]; congr 1; omega
   rw [Ab (by omega),show i * sz+j - xs.length=(i - l.length) * sz+j by omega]; exact h4 j u hu
theorem wz {S S2:aP} {w:World} {l m:List (Option Nat × Lt)} {v vs:Value} (h:aO 24 4 LdR S w l v) (hm:aO 24 4 LdR S2 w m vs) (hS:∀ q,w.heap.size<=q->S q) (hS2:∀ q,S2 q->S q/\v.ownBlock≠some q) (hl:l.length+m.length<=1048576) :
  ∃ a c w',cH Tryz.prog 25 25 25 v vs (.slice a (l.length+m.length) c) w w'/\aO 24 4 LdR S w' (l++m) (.slice a (l.length+m.length) c)/\Fr (fun k=>v.ownBlock=some k) w w'/\((Value.slice a (l.length+m.length) c).ownBlock=v.ownBlock\/(Value.slice a (l.length+m.length) c).ownBlock=some w.heap.size):=by
 obtain ⟨i0,hi,hz0,hz1,hz2⟩:=info_parts yt; obtain ⟨news,g1,g2,g3⟩:=vu df (by decide) (hm.sl df); obtain ⟨v',w',h1,h2,h3,h4⟩:=aO.appendM (t:=25) (ty:=25) df (by kernel_rfl) hi hz0 hz1 hz2 rfl (by decide) h g1 g2 (fun n y hy=>by obtain ⟨cs,k1,k2⟩:=g3 n y hy; exact ⟨cs,k1,df.mono k2 fun k _ hk=>hS2 k hk⟩) (by unfold maxLen; omega) (by omega) hS; obtain ⟨a,c,rfl,-,-⟩:=h2.slice; rw [zQ] at h1 h2 h4; exact ⟨a,c,w',h1,h2,h3,h4⟩
theorem nG {S S2:aP} {w:World} {l m:List RuD} {v vs:Value} (h:aO 27 7 RuR S w l v) (hm:aO 27 7 RuR S2 w m vs) (hS:∀ q,w.heap.size<=q->S q) (hS2:∀ q,S2 q->S q/\v.ownBlock≠some q) (hl:l.length+m.length<=1048576) :
  ∃ a c w',cH Tryz.prog 30 30 30 v vs (.slice a (l.length+m.length) c) w w'/\aO 27 7 RuR S w' (l++m) (.slice a (l.length+m.length) c)/\Fr (fun k=>v.ownBlock=some k) w w'/\((Value.slice a (l.length+m.length) c).ownBlock=v.ownBlock\/(Value.slice a (l.length+m.length) c).ownBlock=some w.heap.size):=by
 obtain ⟨i0,hi,hz0,hz1,hz2⟩:=info_parts wS; obtain ⟨news,g1,g2,g3⟩:=vu bS (by decide) (hm.sl bS); obtain ⟨v',w',h1,h2,h3,h4⟩:=aO.appendM (t:=30) (ty:=30) bS (by kernel_rfl) hi hz0 hz1 hz2 rfl (by decide) h g1 g2 (fun n y hy=>by obtain ⟨cs,k1,k2⟩:=g3 n y hy; exact ⟨cs,k1,bS.mono k2 fun k _ hk=>hS2 k hk⟩) (by unfold maxLen; omega) (by omega) hS; obtain ⟨a,c,rfl,-,-⟩:=h2.slice; rw [zQ] at h1 h2 h4; exact ⟨a,c,w',h1,h2,h3,h4⟩
theorem un {S:aP} {w W:World} {r0:RuD} {rest:List RuD} {g n mc:Nat} (h:aO 27 7 RuR S w (r0::rest) (.slice (some ⟨g,0,none⟩) n mc)) (hn:((r0::rest).flatMap RuD.ids).Nodup) (hf:Fr (fun q=>r0.bb=some q) w W) (body:List (Option Nat × Lt)) (bv:Value)
  (hb:aO 24 4 LdR (fun q=>S q/\q≠g) W body bv) :
  aO 27 7 RuR S (W.setCell ⟨g,6,none⟩ bv) (⟨r0.head,r0.agg,r0.at_,bv.ownBlock,body⟩::rest) (.slice (some ⟨g,0,none⟩) n mc):=by
 obtain ⟨xs,h1,h2,h3⟩:=h; obtain ⟨a0,c0,e,_,_⟩:=bp h1; simp only [Value.slice.injEq] at e; obtain ⟨-,rfl,-⟩:=e; have hob:(Value.slice (some ⟨g,0,none⟩) (r0::rest).length mc).ownBlock=some g:=rfl
 have hown:∀ k,k≠g->(W.setCell ⟨g,6,none⟩ bv).heap[k]? = W.heap[k]?:=fun k hk=>ak _ hk
 obtain ⟨cs0,k1,k2⟩:=h3 0 r0 rfl; obtain ⟨hv,bv0,rfl,e1,ho,e2,hbd⟩:=k2
 have hbg:r0.bb≠some g:=by
  intro e; have:=fy hbd (e2.trans e); exact this.2 hob
 have h1':W.ownsRow 0 27 7 (.slice (some ⟨g,0,none⟩) (r0::rest).length mc) (r0::rest).length xs:=aJ h1 (fun k hk=>hf.block k (h1.lt k hk).2 (fun e=>hbg (by rw [e]; exact hk.symm ▸ hob ▸ rfl))) (fun _ _=>zW _); have h2':=(h1'.stored 6 bv).1; refine ⟨xs.set 6 bv,h2',h2,fun i x hx=>?_⟩
 have hmem:∀ {y:RuD},y∈r0::rest->∀ k,k∈y.ids->True:=fun _ _ _=>trivial
 match i,hx with
 | 0,hx =>
  injection hx with hx; subst hx; refine ⟨(aM r0.head.2.op r0.head.2.nt r0.head.2.rel hv r0.agg r0.at_ bv).toList,fun j u hu=>?_,hv,bv,rfl,e1,?_,rfl,?_⟩
  ·have hj:j < 7:=(List.getElem?_eq_some_iff.1 hu).1
   rw [Nat.zero_mul,Nat.zero_add]; have hxl:=h1.1; by_cases e6:j=6
   ·subst e6
    rw [List.getElem?_set_self (by rw [hxl]; simp only [zT]; omega)]; simpa using hu
   ·rw [List.getElem?_set_ne (fun e=>e6 e.symm)]
    have:=k1 j u (by
     match j,hj,e6,hu with
     | 0,_,_,hu=>simpa using hu
     | 1,_,_,hu=>simpa using hu
     | 2,_,_,hu=>simpa using hu
     | 3,_,_,hu=>simpa using hu
     | 4,_,_,hu=>simpa using hu
     | 5,_,_,hu=>simpa using hu
     | j+6,hj,e6,_=>exact absurd (show j+6=6 by omega) e6)
    rw [Nat.zero_mul,Nat.zero_add] at this; exact this
  ·refine (ka ho).move aD fun k hk hk2=>⟨hk2.1,?_⟩
   have hkg:k≠g:=fun e=>hk2.1.2 (by rw [e]; rfl)
   refine (hown k hkg).trans (hf.block k hk fun eb=>?_); rw [List.flatMap_cons,List.nodup_append] at hn; have hn1:=hn.1; unfold RuD.ids at hn1; rw [List.nodup_append] at hn1; exact hn1.2.2 k (by rw [← e1,hk2.2]; simp) k (by rw [eb]; simp) rfl
  ·refine hb.move df fun k hk hk2=>⟨⟨hk2.1,fun e=>hk2.2 (by injection e with e; exact e.symm)⟩,hown k hk2.2⟩
 | i+1,hx =>
  obtain ⟨cs,h4,h5⟩:=h3 (i+1) x hx; refine ⟨cs,fun j u hu=>?_,bS.move (lY h5) fun k hk hk2=>⟨hk2.1,?_⟩⟩
  ·have:=h4 j u hu
   rw [List.getElem?_set_ne (by omega)]; exact this
  ·have hkg:k≠g:=fun e=>hk2.1.2 (by rw [e]; rfl)
   refine (hown k hkg).trans (hf.block k hk fun eb=>?_); rw [List.flatMap_cons,List.nodup_append] at hn; refine hn.2.2 k ?_ k (List.mem_flatMap.2 ⟨x,zU (show rest[i]? = some x from hx),hk2.2⟩) rfl; unfold RuD.ids; rw [eb]; simp
theorem ue {A B C D E F O:List Nat} {N0 N1:Nat} (hn:(A++(B++C)++E).Nodup) (hlt:∀ k∈A++(B++C)++E,k < N0) (hxy:(D++F).Nodup) (hge:∀ k∈D++F,N0<=k/\k < N1) (hO:O=B\/O=[N1]) (hN:N0<=N1):(A++(O++(C++D))++(E++F)).Nodup:=by
 simp only [List.nodup_append,z8] at hn hxy ⊢; obtain ⟨⟨hA,⟨hB,hC,hBC⟩,hABC⟩,hE,hABCE⟩:=hn; obtain ⟨hD,hF,hDF⟩:=hxy
 have lA:∀ k∈A,k < N0:=fun k hk=>hlt k (by simp [hk])
 have lB:∀ k∈B,k < N0:=fun k hk=>hlt k (by simp [hk])
 have lC:∀ k∈C,k < N0:=fun k hk=>hlt k (by simp [hk])
 have lE:∀ k∈E,k < N0:=fun k hk=>hlt k (by simp [hk])
 have lD:∀ k∈D,N0<=k/\k < N1:=fun k hk=>hge k (by simp [hk])
 have lF:∀ k∈F,N0<=k/\k < N1:=fun k hk=>hge k (by simp [hk])
 have lO:∀ k∈O,k∈B\/k=N1:=fun k hk=>by rcases hO with rfl | rfl; exact Or.inl hk; exact Or.inr (by simpa using hk)
 have hOn:O.Nodup:=by rcases hO with rfl | rfl; exact hB; simp
 refine ⟨⟨hA,⟨hOn,⟨hC,hD,?_⟩,?_⟩,?_⟩,⟨hE,hF,?_⟩,?_⟩
 ·intro a ha b hb; have:=lC a ha; have:=lD b hb; omega
 ·intro a ha b hb
  rcases lO a ha with h1 | h1
  ·rcases hb with hb | hb
   ·exact hBC a h1 b hb
   ·have:=lB a h1; have:=lD b hb; omega
  ·rcases hb with hb | hb
   ·have:=lC b hb; omega
   ·have:=lD b hb; omega
 ·intro a ha b hb
  rcases hb with hb | hb | hb
  ·rcases lO b hb with h1 | h1
   ·exact hABC a ha b (Or.inl h1)
   ·have:=lA a ha; omega
  ·exact hABC a ha b (Or.inr hb)
  ·have:=lA a ha; have:=lD b hb; omega
 ·intro a ha b hb; have:=lE a ha; have:=lF b hb; omega
 ·intro a ha b hb
  rcases ha with ha | ha | ha | ha
  ·rcases hb with hb | hb
   ·exact hABCE a (Or.inl ha) b hb
   ·have:=lA a ha; have:=lF b hb; omega
  ·rcases lO a ha with h1 | h1
   ·rcases hb with hb | hb
    ·exact hABCE a (Or.inr (Or.inl h1)) b hb
    ·have:=lB a h1; have:=lF b hb; omega
   ·rcases hb with hb | hb
    ·have:=lE b hb; omega
    ·have:=lF b hb; omega
  ·rcases hb with hb | hb
   ·exact hABCE a (Or.inr (Or.inr ha)) b hb
   ·have:=lC a ha; have:=lF b hb; omega
  ·rcases hb with hb | hb
   ·have:=lD a ha; have:=lE b hb; omega
   ·exact hDF a ha b hb
theorem wT {r0:RuD} {rest ys:List RuD} {xs:List (Option Nat × Lt)} {o:Option Nat} {N0 N1:Nat} (hn:((r0::rest).flatMap RuD.ids).Nodup) (hlt:∀ k∈(r0::rest).flatMap RuD.ids,k < N0) (hxy:(ct xs++ys.flatMap RuD.ids).Nodup) (hge:∀ k∈ct xs++ys.flatMap RuD.ids,N0<=k/\k < N1) (ho:o=r0.bb\/o=some N1) (hN:N0<=N1) :
  (((⟨r0.head,r0.agg,r0.at_,o,r0.body++xs⟩:RuD)::(rest++ys)).flatMap RuD.ids).Nodup:=by
 rw [List.flatMap_cons,List.flatMap_append]; rw [List.flatMap_cons] at hn hlt; have e:ct (r0.body++xs)=ct r0.body++ct xs:=List.filterMap_append; show (r0.head.1.toList++(o.toList++ct (r0.body++xs))++(rest.flatMap RuD.ids++ys.flatMap RuD.ids)).Nodup; rw [e]; exact ue (B:=r0.bb.toList) hn hlt hxy hge (by rcases ho with rfl | rfl; exact Or.inl rfl; exact Or.inr rfl) hN
theorem jR {S:aP} {w:World} {l:List RuD} {v:Value} (h:aO 27 7 RuR S w l v):∀ k∈l.flatMap RuD.ids,S k/\k < w.heap.size:=by
 intro k hk; obtain ⟨x,hx,hxk⟩:=List.mem_flatMap.1 hk; obtain ⟨i,hi⟩:=List.mem_iff_getElem?.1 hx; obtain ⟨xs,h1,h2,h3⟩:=h; obtain ⟨cs,h4,h5⟩:=h3 i x hi; refine ⟨(rm h5 k hxk).1,?_⟩; obtain ⟨v1,v2,e,g1,ho,g2,hb⟩:=h5; unfold RuD.ids at hxk; rcases List.mem_append.1 hxk with hk | hk
 ·rw [← g1] at hk; exact ho.lt (by simpa using hk)
 ·rcases List.mem_append.1 hk with hk | hk
  ·rw [← g2] at hk; exact hb.lt (by simpa using hk)
  ·obtain ⟨y,hy,hyk⟩:=List.mem_filterMap.1 hk
   obtain ⟨i,hi⟩:=List.mem_iff_getElem?.1 hy; obtain ⟨xs,q1,q2,q3⟩:=hb; obtain ⟨cs,q4,u,rfl,hu,hoo⟩:=q3 i y hi; exact hoo.lt (hu.trans hyk)
theorem oN {S:aP} {w:World} {l:List (Option Nat × Lt)} {v:Value} (h:aO 24 4 LdR S w l v):∀ k∈ct l,S k/\k < w.heap.size:=by
 intro k hk; refine ⟨lm h k hk,?_⟩; obtain ⟨y,hy,hyk⟩:=List.mem_filterMap.1 hk; obtain ⟨i,hi⟩:=List.mem_iff_getElem?.1 hy; obtain ⟨xs,q1,q2,q3⟩:=h; obtain ⟨cs,q4,u,rfl,hu,hoo⟩:=q3 i y hi; exact hoo.lt (hu.trans hyk)
theorem uo {S:aP} {w:World} {N0:Nat} {r0:RuD} {rest ys:List RuD} {xs:List (Option Nat × Lt)} {mv v1 v2:Value} (hm:aO 27 7 RuR S w (r0::rest) mv) (hn:((r0::rest).flatMap RuD.ids).Nodup) (hN0:∀ k,k∈(r0::rest).flatMap RuD.ids\/mv.ownBlock=some k->k < N0) (hS:∀ k,N0<=k->S k)
  (h1:aO 24 4 LdR (aF N0) w xs v1) (h2:aO 27 7 RuR (aF N0) w ys v2) (hd:(ct xs++ys.flatMap RuD.ids).Nodup) (hsz:N0<=w.heap.size) (hl1:r0.body.length+xs.length<=1048576) (hl2:(r0::rest).length+ys.length<=1048576) :
  ∃ g mc ab cb,mv=.slice (some ⟨g,0,none⟩) (r0::rest).length mc/\w.cell? ⟨g,6,none⟩=some (.slice ab r0.body.length cb) /\
  ∃ a c W,cH Tryz.prog 25 25 25 (.slice ab r0.body.length cb) v1 (.slice a (r0.body.length+xs.length) c) w W/\(∃ u,W.cell? ⟨g,6,none⟩=some u)/\W.frozen? ⟨g,6,none⟩=false /\
  ∃ a2 c2 W2 zs,cH Tryz.prog 30 30 30 mv v2 (.slice a2 ((r0::rest).length+ys.length) c2) (W.setCell ⟨g,6,none⟩ (.slice a (r0.body.length+xs.length) c)) W2 /\
   aO 27 7 RuR S W2 zs (.slice a2 ((r0::rest).length+ys.length) c2)/\zs.map RuD.ru=⟨r0.ru.head,r0.ru.agg,r0.ru.at_,r0.ru.body++xs.map (·.2)⟩::(rest.map RuD.ru++ys.map RuD.ru)/\(zs.flatMap RuD.ids).Nodup/\Fr S w W2:=by
 have hm0:=hm; obtain ⟨xs0,o1,o2,o3⟩:=hm; rcases o1.2 with ⟨rfl,h0⟩ | ⟨g,cap,cur,rfl,_,hg,hnc,_,_,_⟩
 ·simp at h0
 ·have hob:(Value.slice (some ⟨g,0,none⟩) (r0::rest).length cap).ownBlock=some g:=rfl
  obtain ⟨cs,k1,hv,bv,rfl,e1,ho,e2,hbd⟩:=o3 0 r0 rfl; obtain ⟨ab,cb,rfl,-,-⟩:=hbd.slice; have hgl:=ae hg; have hgN:g < N0:=hN0 g (Or.inr rfl)
  have hbbN:∀ q,(Value.slice ab r0.body.length cb).ownBlock=some q->q < N0:=fun q hq=>hN0 q (Or.inl (by
   rw [List.flatMap_cons]; refine List.mem_append.2 (Or.inl ?_); unfold RuD.ids
   rw [← e2,hq]; simp))
  have hbg:∀ q,(Value.slice ab r0.body.length cb).ownBlock=some q->q≠g:=fun q hq e=>(fy hbd hq).2 (by rw [e]; rfl)
  have hbd':aO 24 4 LdR (fun k=>S k/\k≠g) w r0.body (.slice ab r0.body.length cb):=hbd.mono df fun k _ hk=>⟨hk.1,fun e=>hk.2 (by rw [e]; rfl)⟩
  have c6:w.cell? ⟨g,6,none⟩=some (.slice ab r0.body.length cb):=by
   have hlen:6 < (r0::rest).length * 7:=by simp only [zT]; omega
   rw [o1.cellAt 6 hlen]; have:=k1 6 _ rfl; rw [Nat.zero_mul,Nat.zero_add] at this; exact this
  obtain ⟨a,c,W,run1,hO,hF,hvv⟩:=wz hbd' h1 (fun q hq=>⟨hS q (by omega),by omega⟩) (fun q hq=>⟨⟨hS q hq,by unfold aF at hq; omega⟩,fun e=>by have:=hbbN q e; unfold aF at hq; omega⟩) hl1; have hgW:W.heap[g]? = some (.cells cur 27 (0,0)):=(hF.block g hgl (fun e=>hbg g e rfl)).trans hg; have ht:=un hm0 hn (by rw [← e2]; exact hF) (r0.body++xs) (.slice a (r0.body.length+xs.length) c) hO
  have hsz2:w.heap.size<=(W.setCell ⟨g,6,none⟩ (.slice a (r0.body.length+xs.length) c)).heap.size:=by simpa [World.setCell] using hF.size
  have h2':aO 27 7 RuR (aF N0) (W.setCell ⟨g,6,none⟩ (.slice a (r0.body.length+xs.length) c)) ys v2:=h2.move bS fun k hk hk2=>⟨hk2,(ak _ (by unfold aF at hk2; omega)).trans (hF.block k hk (fun e=>by have:=hbbN k e; unfold aF at hk2; omega))⟩
  obtain ⟨a2,c2,W2,run2,hO2,hF2,-⟩:=nG ht h2' (fun q hq=>hS q (by omega)) (fun q hq=>⟨hS q hq,fun e=>by have:=hob.symm.trans e; injection this with e2; unfold aF at hq; omega⟩) hl2; have hFs:Fr S w (W.setCell ⟨g,6,none⟩ (.slice a (r0.body.length+xs.length) c)):=(hF.mono (fun k hk e=>(fy hbd e).1)).setCell (p:=⟨g,6,none⟩) (Or.inl (o2 g rfl)) _; refine ⟨g,cap,ab,cb,rfl,c6,a,c,W,run1,?_,bX hgW,a2,c2,W2,_,run2,hO2,?_,?_,hFs.trans (hF2.mono (fun k hk e=>by rw [hob] at e; injection e with e; rw [← e]; exact o2 g rfl))⟩
  ·have h7:=(aJ (w':=W) (base':=0) o1 (fun k hk=>by rw [hob] at hk; injection hk with hk; subst hk; exact hF.block _ hgl (fun e=>hbg _ e rfl)) (fun _ _=>zW _))
   have hlen:6 < (r0::rest).length * 7:=by simp only [zT]; omega
   rw [h7.cellAt 6 hlen]; exact ⟨_,zR (by rw [h7.1]; exact hlen)⟩
  ·show (⟨r0.head.2,r0.agg,r0.at_,(r0.body++xs).map (·.2)⟩:Ru)::(rest++ys).map RuD.ru=_
   rw [List.map_append,List.map_append]; rfl
  ·refine wT (N0:=N0) (N1:=w.heap.size) hn (fun k hk=>hN0 k (Or.inl hk)) hd (fun k hk=>?_) ?_ hsz
   ·rcases List.mem_append.1 hk with hk | hk
    ·exact oN h1 k hk
    ·exact jR h2 k hk
   ·rcases hvv with h | h
    ·exact Or.inl (h.trans e2)
    ·exact Or.inr h
end Go.Proofs.YtffdpoifdahadaaGreatDoor
namespace Go.Proofs.YtffdpoifdahadaaGreatDoor
open Go.RowKit
open Go.Lib (hid itoa)
theorem PM.base {pb:Nat} {K:PK} {s st:PSt} {w0 w w':World} (h0:PM pb K s w0) (hf:Fr (one pb) w0 w') (h:PM pb K st w) (hb:w'.heap[pb]? = w.heap[pb]?):PM pb K st w' :=
 h0.fr hf (hb.trans h.blk) h.nx
def pd (pb:Nat) (K:PK) (w:World) (r:Option (List Lt × List Ru) × PSt) (v1 v2 ok:Value) (w':World):Prop :=
 PM pb K r.2 w'/\Fr (one pb) w w'/\match r.1 with
 | some q=>∃ xs ys,ok=.bool true/\aO 24 4 LdR (aF w.heap.size) w' xs v1/\aO 27 7 RuR (aF w.heap.size) w' ys v2/\xs.map (·.2)=q.1/\ys.map RuD.ru=q.2/\(ct xs++ys.flatMap RuD.ids).Nodup
 | none=>ok=.bool false
def PMade (pb:Nat) (K:PK) (w0:World) (r0:Ru) (rest:List Ru) (r:Option (List Lt × List Ru) × PSt) (e:Ending) (w':World):Prop :=
 PM pb K r.2 w'/\Fr (one pb) w0 w'/\match r.1 with
 | some q=>∃ v xs,e=.returned (.tuple #[v,.bool true])/\aO 27 7 RuR (aF w0.heap.size) w' xs v/\xs.map RuD.ru=⟨r0.head,r0.agg,r0.at_,r0.body++q.1⟩::(rest++q.2)/\(xs.flatMap RuD.ids).Nodup
 | none=>e=.returned (.tuple #[.slice none 0 0,.bool false])
theorem fL (pb:Nat) (K:PK) (st:PSt) (w:World) (h:PM pb K st w) :
  Calls Tryz.prog 96 #[pt pb] w fun e w'=>∃ (op:Int) (nt:Bool) (rel:List UInt8) (a:Option Addr) (n c:Nat),e=.returned (.tuple #[.agg (ap op nt rel (.slice a n c)),.bool (aV K.ts st).1.isSome]) /\
   (∀ l,(aV K.ts st).1=some l->op=l.op/\nt=l.nt/\rel=l.rel/\n=l.args.length/\aO 63 7 FlR (aF w.heap.size) w' l.args (.slice a l.args.length c))/\PM pb K (aV K.ts st).2 w'/\Fr (one pb) w w':=by
 refine (mP pb K st w h).mono ?_; rintro e w' ⟨h1,h2,h3⟩; generalize aV K.ts st=r at *; obtain ⟨o,s⟩:=r
 cases o with
 | some l =>
  obtain ⟨a,c,rfl,ho⟩:=h3; exact ⟨_,_,_,a,_,c,rfl,fun l2 hl=>(by cases hl; exact ⟨rfl,rfl,rfl,rfl,ho⟩),h1,h2⟩
 | none =>
  obtain ⟨op,nt,rel,a,n,c,rfl⟩:=h3; exact ⟨op,nt,rel,a,n,c,rfl,(fun l2 hl=>by cases hl),h1,h2⟩
theorem jW (ts:List Tw) (st:PSt) (q:List Lt × List Ru) (h:(bx ts st).1=some q):q.1.length<=3/\q.2.length<=1:=by
 have hE:∀ (f:Lt->Lt) (r:Option Lt × PSt),(gw f r).1=some q->q.1.length<=3/\q.2.length<=1:=by
  intro f r h; obtain ⟨o,s⟩:=r
  cases o with
  | none=>cases h
  | some l=>cases h; exact ⟨by show 1<=3; decide,by show 0<=1; decide⟩
 unfold bx at h; split at h
 ·exact hE _ _ h
 ·split at h
  ·unfold eM at h
   generalize aY ts (am st)=r at h; obtain ⟨o,s⟩:=r
   cases o with
   | none=>cases h
   | some l =>
    replace h:(kS (pM ts l (cW ts s))).1=some q:=h; generalize cW ts s=r at h; obtain ⟨o,s⟩:=r
    cases o with
    | none=>cases h
    | some x=>cases h; exact ⟨by show 2<=3; decide,by show 0<=1; decide⟩
  ·split at h
   ·unfold dN at h
    generalize aY ts (am st)=r at h; obtain ⟨o,s⟩:=r
    cases o with
    | none=>cases h
    | some l =>
     replace h:(mp ts l (cW ts s)).1=some q:=h; generalize cW ts s=r at h; obtain ⟨o,s⟩:=r
     cases o with
     | none=>cases h
     | some x=>cases h; exact ⟨by show 1<=3; decide,by show 1<=1; decide⟩
   ·split at h
    ·unfold dJ at h
     generalize aY ts (am st)=r at h; obtain ⟨o,s⟩:=r
     cases o with
     | none=>cases h
     | some l =>
      replace h:(if isP ts s 1 [110,111] then jn ts l (aY ts (am s)) else (none,bf s)).1=some q:=h; split at h
      ·generalize aY ts (am s)=r at h
       obtain ⟨o,s⟩:=r
       cases o with
       | none=>cases h
       | some m =>
        replace h:(if isP ts s 1 [97,116] then lS ts l m (aT ts (am s)) else (none,bf s)).1=some q:=h; split at h
        ·generalize aT ts (am s)=r at h
         obtain ⟨o,s⟩:=r
         cases o with
         | none=>cases h
         | some x=>cases h; exact ⟨by show 3<=3; decide,by show 1<=1; decide⟩
        ·cases h
      ·cases h
    ·split at h
     ·exact hE _ _ h
     ·exact hE _ _ h
theorem pd.lift {pb:Nat} {K:PK} {w x w':World} {r:Option (List Lt × List Ru) × PSt} {v1 v2 ok:Value} (h:pd pb K x r v1 v2 ok w') (hf:Fr (one pb) w x):pd pb K w r v1 v2 ok w':=by
 obtain ⟨h1,h2,h3⟩:=h; refine ⟨h1,hf.trans h2,?_⟩; obtain ⟨o,s⟩:=r
 cases o with
 | none=>exact h3
 | some q =>
  obtain ⟨xs,ys,e,g1,g2,g3⟩:=h3; exact ⟨xs,ys,e,g1.mono df fun k _ hk=>zV hf.size hk,g2.mono bS fun k _ hk=>zV hf.size hk,g3⟩
theorem tg {pb:Nat} {K:PK} {w w':World} {r:Option (List Lt × List Ru) × PSt} {e:Ending} (h:zK pb K w r e w'):∃ v1 v2 ok,e=.returned (.tuple #[v1,v2,ok])/\pd pb K w r v1 v2 ok w':=by
 obtain ⟨h1,h2,h3⟩:=h; obtain ⟨o,s⟩:=r
 cases o with
 | none=>exact ⟨_,_,_,h3,h1,h2,rfl⟩
 | some q =>
  obtain ⟨v1,v2,xs,ys,rfl,g1,g2,g3,g4,g5⟩:=h3; exact ⟨v1,v2,_,rfl,h1,h2,xs,ys,rfl,g1,g2,g3,g4,g5⟩
theorem ww {pb:Nat} {K:PK} {w w':World} {r:Option (List Lt) × PSt} {e:Ending} (h:yT pb K w r e w'):∃ v1 ok,e=.returned (.tuple #[v1,ok])/\pd pb K w (kS r) v1 (.slice none 0 0) ok w':=by
 obtain ⟨h1,h2,h3⟩:=h; obtain ⟨o,s⟩:=r
 cases o with
 | none=>exact ⟨_,_,h3,h1,h2,rfl⟩
 | some q =>
  obtain ⟨v1,xs,rfl,g1,g2,g3⟩:=h3; exact ⟨v1,_,rfl,h1,h2,xs,[],rfl,g1,aO.nil _ _ _ _ _,g2,rfl,by simpa using g3⟩
theorem zl (pb:Nat) (K:PK) (st:PSt) (w:World) (h:PM pb K st w) (hT:da pb w) (hN:eq K) (hv:st.vars+K.toks.length+1<=4611686018427387904) :
  Calls Tryz.prog 92 #[pt pb] w fun e w'=>∃ v1 ok,e=.returned (.tuple #[v1,ok])/\pd pb K w (kS (eM K.ts st)) v1 (.slice none 0 0) ok w' :=
 (vY pb K st w h hT hN hv).mono fun e w' h=>ww h
theorem yh (pb:Nat) (K:PK) (st:PSt) (w:World) (h:PM pb K st w) (hT:da pb w) (hN:eq K) (hv:st.vars+4 * (K.toks.length+1)<=4611686018427387904) (hv2:st.rels+4 * (K.toks.length+1)<=4611686018427387904) :
  Calls Tryz.prog 93 #[pt pb] w fun e w'=>∃ v1 v2 ok,e=.returned (.tuple #[v1,v2,ok])/\pd pb K w (dN K.ts st) v1 v2 ok w' :=
 (uh pb K st w h hT hN hv hv2).mono fun e w' h=>tg h
theorem xT (pb:Nat) (K:PK) (st:PSt) (w:World) (h:PM pb K st w) (hT:da pb w) (hN:eq K) (hv:st.vars+4 * (K.toks.length+1)<=4611686018427387904) (hv2:st.rels+4 * (K.toks.length+1)<=4611686018427387904) :
  Calls Tryz.prog 94 #[pt pb] w fun e w'=>∃ v1 v2 ok,e=.returned (.tuple #[v1,v2,ok])/\pd pb K w (dJ K.ts st) v1 v2 ok w' :=
 (tM pb K st w h hT hN hv hv2).mono fun e w' h=>tg h
theorem pW (pb:Nat) (K:PK) (st:PSt) (w0 w:World) (h0:∃ s,PM pb K s w0) (hf0:Fr (one pb) w0 w) (h:PM pb K st w) (hT:da pb w) (hN:eq K) (hv:st.vars+4 * (K.toks.length+1)<=4611686018427387904) (hv2:st.rels+4 * (K.toks.length+1)<=4611686018427387904)
  (r0:RuD) (rest:List RuD) (mv:Value) (hm:aO 27 7 RuR (aF w0.heap.size) w (r0::rest) mv) (hn:((r0::rest).flatMap RuD.ids).Nodup) (hl1:r0.body.length<=500000) (hl2:rest.length<=500000) :
  Calls Tryz.prog 60 #[pt pb,mv] w (PMade pb K w0 r0.ru (rest.map RuD.ru) (bx K.ts st)):=by
 obtain ⟨R,hR⟩:∃ R,R=bx K.ts st:=⟨_,rfl⟩; rw [← hR]; replace hR:=hid hR; have hK0:=hid (Kp.start h); have hpl:=h.lt; replace hN:=hid hN; replace hT:=hid hT; have hp0:=hid (show Calls Tryz.prog 90 #[pt pb,.int .i64 0] w fun e w'=>e=.returned (.agg #[iv (cV K st.nx).kind,sv (cV K st.nx).text,iv (cV K st.nx).n,iv (cV K st.nx).pos])/\Below w.heap.size w w' from fo pb K st 0 (by decide) w h); have htl:=(h.tok_ok st.nx).2.2; have htl2:=(h.tok_ok (st.nx+1)).2.2; have htk:=iy K st.nx; have htk2:=iy K (st.nx+1); obtain ⟨t,ht⟩:∃ t,t=cV K st.nx:=⟨_,rfl⟩; obtain ⟨u,hu⟩:∃ u,u=cV K (st.nx+1):=⟨_,rfl⟩; rw [← ht] at hp0 htk; rw [← hu] at htk2; rw [← htk] at htl; rw [← htk2] at htl2; replace htl:t.text.length<=1048576:=htl
 replace htl2:u.text.length<=1048576:=htl2; replace htk:=hid htk; replace htk2:=hid htk2; replace ht:=hid ht; obtain ⟨ma,mc,rfl,-⟩:=hm.slice
 go_enter Tryz.func60,Tryz.ntmps60
 go_wp2_with fail
 with_reducible refine hp0.out.mono ?_
 rintro e w1 ⟨rfl,hb1⟩; have hK1:=hid ((hK0.out.below hb1).alloc (.cells #[iv t.kind,sv t.text,iv t.n,iv t.pos] 95)); have hT1:=hid (hT.out.below (hb1.trans (((zN _ w1).alloc (zM _) (.cells #[iv t.kind,sv t.text,iv t.n,iv t.pos] 95)).mono hb1.size))); have hp1:=hid (show Calls Tryz.prog 90 #[pt pb,.int .i64 1] (w1.alloc (.cells #[iv t.kind,sv t.text,iv t.n,iv t.pos] 95)) fun e w'=>e=.returned (.agg #[iv (cV K (st.nx+1)).kind,sv (cV K (st.nx+1)).text,iv (cV K (st.nx+1)).n,iv (cV K (st.nx+1)).pos])/\Below (w1.alloc (.cells #[iv t.kind,sv t.text,iv t.n,iv t.pos] 95)).heap.size (w1.alloc (.cells #[iv t.kind,sv t.text,iv t.n,iv t.pos] 95)) w' from fo pb K st 1 (by decide) _ hK1.out.pm); rw [← hu] at hp1; replace hu:=hid hu
 clear hp0 hb1
 go_wp2_with fail
 with_reducible refine hp1.out.mono ?_
 rintro e w2 ⟨rfl,hb2⟩; have hK2:=hid ((hK1.out.below hb2).alloc (.cells #[iv u.kind,sv u.text,iv u.n,iv u.pos] 95)); have hT2:=hid (hT1.out.below (hb2.trans (((zN _ w2).alloc (zM _) (.cells #[iv u.kind,sv u.text,iv u.n,iv u.pos] 95)).mono hb2.size))); clear hp1 hb2 hK1 hT1 hK0
 go_upto_block 0 with (fail)
 generalize hW3:w2.alloc (.cells #[iv u.kind,sv u.text,iv u.n,iv u.pos] 95)=W3 at *; clear hW3; have hK3:=hid (Kp.start hK2.out.pm); have rT:=hK2.out.nth (i:=1) (b:=w1.heap.size) (o:=.cells #[iv t.kind,sv t.text,iv t.n,iv t.pos] 95 (0,0)) rfl; have rU:=hK2.out.nth (i:=0) (b:=w2.heap.size) (o:=.cells #[iv u.kind,sv u.text,iv u.n,iv u.pos] 95 (0,0)) rfl
 go_cut [6,7,8] (fun v1 v2 ok wx=>Hid (pd pb K W3 R v1 v2 ok wx))
 case first =>
  obtain ⟨z1,hz1⟩:∃ z,isP K.ts (st) 1 [110,111,116]=z:=⟨_,rfl⟩; have hmk1:=hid (eE pb K (st) [110,111,116] W3 hK3.out.pm)
  have hT1:bu K.ts (st) 1 [110,111,116]=if z1 then (true,am (st)) else (false,(st)):=by unfold bu; rw [hz1]
  rw [hT1] at hmk1; clear hT1; replace hz1:=hid hz1
  obtain ⟨R5,hR5⟩:∃ R5,R5=if t.kind=1/\dz t.text=true/\u.kind=4/\u.text=[40] then gw id (aY K.ts st) else gw id (aV K.ts st):=⟨_,rfl⟩
  obtain ⟨R4,hR4⟩:∃ R4,R4=if isP K.ts st 1 [115,105,110,99,101]=true then dJ K.ts (am st) else R5:=⟨_,rfl⟩
  obtain ⟨R3,hR3⟩:∃ R3,R3=if isP K.ts st 1 [110,101,118,101,114]=true then dN K.ts (am st) else R4:=⟨_,rfl⟩
  obtain ⟨R2,hR2⟩:∃ R2,R2=if isP K.ts st 1 [111,110,99,101]=true then kS (eM K.ts (am st)) else R3:=⟨_,rfl⟩
  replace hR:=hid (show R=if z1=true then gw neg (aY K.ts (am st)) else R2 from by
   have e1:(br K.ts st.nx).kind=t.kind:=by rw [← htk.out]; rfl
   have e2:(br K.ts st.nx).text=t.text:=by rw [← htk.out]; rfl
   have e3:(br K.ts (st.nx+1)).kind=u.kind:=by rw [← htk2.out]; rfl
   have e4:(br K.ts (st.nx+1)).text=u.text:=by rw [← htk2.out]; rfl
   rw [hR.out,← hz1.out,hR2,hR3,hR4,hR5,← e1,← e2,← e3,← e4]; rfl)
  replace hR2:=hid hR2; replace hR3:=hid hR3; replace hR4:=hid hR4; replace hR5:=hid hR5
  have hnT:¬ w1.heap.size=pb:=by have:=hK2.out.geN (i:=1) (b:=w1.heap.size) (o:=.cells #[iv t.kind,sv t.text,iv t.n,iv t.pos] 95 (0,0)) rfl; omega
  have hnU:¬ w2.heap.size=pb:=by have:=hK2.out.geN (i:=0) (b:=w2.heap.size) (o:=.cells #[iv u.kind,sv u.text,iv u.n,iv u.pos] 95 (0,0)) rfl; omega
  go_wp2_with fail
  with_reducible refine hmk1.out.mono ?_
  rintro e x1 ⟨rfl,hM1,hf1⟩; have hKx1:=hid (hK3.out.call hM1 hf1); have hTx1:=hid (hT2.out.fr hf1); clear hmk1 hM1 hf1
  cases z1 with
  | true =>
   replace hR:=hid (show R=gw neg (aY K.ts (am st)) from hR.out); replace hKx1:=hid (show Kp pb K (am st) W3 x1 _ from hKx1.out); have hKa:=hid (hKx1.out.alloc (.cells #[.int .i64 0,.bool false,.string ⟨#[]⟩,.slice none 0 0] 24)); have hat:=hid (jy pb K (am st) _ hKa.out.pm); obtain ⟨ra,hra⟩:∃ ra,ra=aY K.ts (am st):=⟨_,rfl⟩; rw [← hra] at hat; replace hR:=hR.out; rw [← hra] at hR; replace hR:=hid hR; replace hra:=hid hra; obtain ⟨ol,s5⟩:=ra; obtain ⟨zz,hzz⟩:∃ z,ol.isSome=z:=⟨_,rfl⟩
   replace hat:=hid (show Calls Tryz.prog 63 #[pt pb] (x1.alloc (.cells #[.int .i64 0,.bool false,.string ⟨#[]⟩,.slice none 0 0] 24)) fun e w'=>∃ (op:Int) (nt:Bool) (rel:List UInt8) (a:Option Addr) (n c:Nat),e=.returned (.tuple #[.agg (ap op nt rel (.slice a n c)),.bool zz])/\(∀ l,ol=some l->op=l.op/\nt=l.nt/\rel=l.rel/\n=l.args.length/\aO 63 7 FlR (aF (x1.alloc (.cells #[.int .i64 0,.bool false,.string ⟨#[]⟩,.slice none 0 0] 24)).heap.size) w' l.args (.slice a l.args.length c))/\PM pb K s5 w'/\Fr (one pb) (x1.alloc (.cells #[.int .i64 0,.bool false,.string ⟨#[]⟩,.slice none 0 0] 24)) w' from by rw [← hzz]; exact hat.out); replace hzz:=hid hzz
   go_wp2_with fail
   with_reducible refine hat.out.mono ?_
   rintro e w5 ⟨op5,nt5,rel5,a5,n5,c5,rfl,hl5,hM5,hf5⟩; have hKb:=hid (hKa.out.call hM5 hf5); have hsb:=hid (show x1.heap.size < w5.heap.size from zS (by simp) hf5.size); clear hM5 hf5 hat hKa; replace hl5:=hid hl5; have r0:=hKb.out.nth (i:=0) (b:=x1.heap.size) (o:=.cells (ap 0 false [] (.slice none 0 0)) 24 (0,0)) rfl; have r1:=e_ r0 op5 nt5 rel5 (.slice a5 n5 c5)
   have r2:((setLt w5 x1.heap.size op5 nt5 rel5 (.slice a5 n5 c5)).setCell ⟨x1.heap.size,1,none⟩ (.bool true)).heap[x1.heap.size]? = some (.cells (ap op5 true rel5 (.slice a5 n5 c5)) 24 (0,0)):=by
    have:=aC r1 (i:=1) (.bool true); simpa using this
   have hKc:=hid ((hKb.out.turn (hKb.out.geN (i:=0) rfl) (dp op5 nt5 rel5 (.slice a5 n5 c5)) r1).turn (hKb.out.geN (i:=0) rfl) ((Fr.refl (one x1.heap.size) _).setCell (p:=⟨x1.heap.size,1,none⟩) (Or.inl (show one x1.heap.size x1.heap.size from rfl)) (.bool true)) r2); have hoth:=hid (fun (k:Nat) (hk:k≠x1.heap.size)=>(show ((setLt w5 x1.heap.size op5 nt5 rel5 (.slice a5 n5 c5)).setCell ⟨x1.heap.size,1,none⟩ (.bool true)).heap[k]? = w5.heap[k]? from (ak _ hk).trans (bU hk))); obtain ⟨j0,j1,j2,j3,jz⟩:=aK (r1); have jz0:=jz 0; have jz1:=jz 1; have jz2:=jz 2; have jz3:=jz 3; clear jz; obtain ⟨q0,q1,q2,q3,qz⟩:=aK (r0); have qz0:=qz 0; have qz1:=qz 1; have qz2:=qz 2; have qz3:=qz 3; clear qz; obtain ⟨m0,m1,m2,m3,mz⟩:=aK (r2); clear mz
   have hsz2:=hid (show ((setLt w5 x1.heap.size op5 nt5 rel5 (.slice a5 n5 c5)).setCell ⟨x1.heap.size,1,none⟩ (.bool true)).heap.size=w5.heap.size from by simp [World.setCell]); have hKz:=hid (hKc.out.alloc (.cells (ap op5 true rel5 (.slice a5 n5 c5)) 24)); have hlb:=hid (show (((setLt w5 x1.heap.size op5 nt5 rel5 (.slice a5 n5 c5)).setCell ⟨x1.heap.size,1,none⟩ (.bool true)).alloc (.cells (ap op5 true rel5 (.slice a5 n5 c5)) 24)).heap[w5.heap.size]? = some (.cells (ap op5 true rel5 (.slice a5 n5 c5)) 24 (0,0)) from by rw [← hsz2.out]; exact af _ _); replace r0:=hid r0; replace r1:=hid r1; replace r2:=hid r2
   go_wp2_with fail
   go_meet
   case rel =>
    refine hid ⟨?_,?_,?_⟩
    ·rw [hR.out]; exact hKz.out.pm
    ·exact hKz.out.fr
    ·rw [hR.out]
     cases ol with
     | none=>show Value.bool zz=.bool false; rw [← hzz.out]; rfl
     | some l =>
      obtain ⟨rfl,rfl,rfl,rfl,hO⟩:=hl5.out l rfl; have hge:=hKb.out.geN (i:=0) (b:=x1.heap.size) (o:=.cells (ap 0 false [] (.slice none 0 0)) 24 (0,0)) rfl; have hs2:=hsz2.out; have hsb':=hsb.out; refine ⟨[(Value.ownBlock (.slice a5 l.args.length c5),neg l)],[],by rw [← hzz.out]; rfl,cG [(neg l,.slice a5 l.args.length c5)] hlb.out (by show 1<=maxLen; decide) (show W3.heap.size<=w5.heap.size by omega) (fun p hp=>?_),aO.nil _ _ _ _ _,rfl,rfl,?_⟩
      ·simp at hp; subst hp
       (refine hO.move aD fun k hk hk2=>?_);(have hk3:x1.heap.size < k:=by have h8:(x1.alloc (.cells #[.int .i64 0,.bool false,.string ⟨#[]⟩,.slice none 0 0] 24)).heap.size=x1.heap.size+1:=(by simp); unfold aF at hk2; omega);exact ⟨⟨show W3.heap.size<=k by omega,by omega⟩,(z7 _ _ _ (by rw [hs2]; exact hk)).trans (hoth.out k (by omega))⟩
      ·rw [fK]; cases Value.ownBlock (.slice a5 l.args.length c5) <;> simp
  | false =>
   replace hKx1:=hid (show Kp pb K st W3 x1 _ from hKx1.out); obtain ⟨z2,hz2⟩:∃ z,isP K.ts (st) 1 [111,110,99,101]=z:=⟨_,rfl⟩; have hmk2:=hid (eE pb K (st) [111,110,99,101] x1 hKx1.out.pm)
   have hT2:bu K.ts (st) 1 [111,110,99,101]=if z2 then (true,am (st)) else (false,(st)):=by unfold bu; rw [hz2]
   rw [hT2] at hmk2; clear hT2; replace hz2:=hid hz2; replace hR:=hid (show R=if z2=true then kS (eM K.ts (am st)) else R3 from by rw [← hz2.out,← hR2.out]; exact hR.out)
   go_wp2_with fail
   with_reducible refine hmk2.out.mono ?_
   rintro e x2 ⟨rfl,hM2,hf2⟩; have hKx2:=hid (hKx1.out.call hM2 hf2); have hTx2:=hid (hTx1.out.fr hf2); clear hmk2 hM2 hf2
   cases z2 with
   | true =>
    replace hR:=hid (show R=kS (eM K.ts (am st)) from hR.out); replace hKx2:=hid (show Kp pb K (am st) W3 x2 _ from hKx2.out); have hcl:=hid (zl pb K (am st) x2 hKx2.out.pm hTx2.out hN.out (by show st.vars+_+1<=_; omega));go_wp2_with fail;(with_reducible refine hcl.out.mono ?_);rintro e wy ⟨v1,ok,rfl,hL⟩; clear hcl; replace hL:=hid hL;go_wp2_with fail;go_meet
    case rel=>exact hid (by rw [hR.out]; exact hL.out.lift hKx2.out.fr)
   | false =>
    replace hKx2:=hid (show Kp pb K st W3 x2 _ from hKx2.out); obtain ⟨z3,hz3⟩:∃ z,isP K.ts (st) 1 [110,101,118,101,114]=z:=⟨_,rfl⟩; have hmk3:=hid (eE pb K (st) [110,101,118,101,114] x2 hKx2.out.pm);(have hT3:bu K.ts (st) 1 [110,101,118,101,114]=if z3 then (true,am (st)) else (false,(st)):=by unfold bu; rw [hz3]);rw [hT3] at hmk3; clear hT3; replace hz3:=hid hz3; replace hR:=hid (show R=if z3=true then dN K.ts (am st) else R4 from by rw [← hz3.out,← hR3.out]; exact hR.out);go_wp2_with fail;(with_reducible refine hmk3.out.mono ?_);rintro e x3 ⟨rfl,hM3,hf3⟩; have hKx3:=hid (hKx2.out.call hM3 hf3); have hTx3:=hid (hTx2.out.fr hf3); clear hmk3 hM3 hf3
    cases z3 with
    | true =>
     replace hR:=hid (show R=dN K.ts (am st) from hR.out); replace hKx3:=hid (show Kp pb K (am st) W3 x3 _ from hKx3.out); have hcl:=hid (yh pb K (am st) x3 hKx3.out.pm hTx3.out hN.out hv hv2);go_wp2_with fail;(with_reducible refine hcl.out.mono ?_);rintro e wy ⟨v1,v2,ok,rfl,hL⟩; clear hcl; replace hL:=hid hL;go_wp2_with fail;go_meet
     case rel=>exact hid (by rw [hR.out]; exact hL.out.lift hKx3.out.fr)
    | false =>
     replace hKx3:=hid (show Kp pb K st W3 x3 _ from hKx3.out); obtain ⟨z4,hz4⟩:∃ z,isP K.ts (st) 1 [115,105,110,99,101]=z:=⟨_,rfl⟩; have hmk4:=hid (eE pb K (st) [115,105,110,99,101] x3 hKx3.out.pm);(have hT4:bu K.ts (st) 1 [115,105,110,99,101]=if z4 then (true,am (st)) else (false,(st)):=by unfold bu; rw [hz4]);rw [hT4] at hmk4; clear hT4; replace hz4:=hid hz4; replace hR:=hid (show R=if z4=true then dJ K.ts (am st) else R5 from by rw [← hz4.out,← hR4.out]; exact hR.out);go_wp2_with fail;(with_reducible refine hmk4.out.mono ?_);rintro e x4 ⟨rfl,hM4,hf4⟩; have hKx4:=hid (hKx3.out.call hM4 hf4); have hTx4:=hid (hTx3.out.fr hf4); clear hmk4 hM4 hf4
     cases z4 with
     | true =>
      replace hR:=hid (show R=dJ K.ts (am st) from hR.out); replace hKx4:=hid (show Kp pb K (am st) W3 x4 _ from hKx4.out); have hcl:=hid (xT pb K (am st) x4 hKx4.out.pm hTx4.out hN.out hv hv2);go_wp2_with fail;(with_reducible refine hcl.out.mono ?_);rintro e wy ⟨v1,v2,ok,rfl,hL⟩; clear hcl; replace hL:=hid hL;go_wp2_with fail;go_meet
      case rel=>exact hid (by rw [hR.out]; exact hL.out.lift hKx4.out.fr)
     | false =>
      replace hR:=hid (show R=if t.kind=1/\dz t.text=true/\u.kind=4/\u.text=[40] then gw id (aY K.ts st) else gw id (aV K.ts st) from by rw [← hR5.out]; exact hR.out); replace hKx4:=hid (show Kp pb K st W3 x4 _ from hKx4.out); have rT4:=(hKx4.out.fr.block _ (ae rT) hnT).trans rT; have rU4:=(hKx4.out.fr.block _ (ae rU) hnU).trans rU; obtain ⟨d0,d1,d2,d3⟩:=bY rT4; obtain ⟨f0,f1,f2,f3⟩:=bY rU4; by_cases hk:t.kind=1
      ·have bk:(t.kind == 1)=true:=by simpa using hk
       have hrl:=hid (dO t.text x4 htl)
       cases hrf:dz t.text with
       | true =>
        rw [hrf] at hrl; by_cases hk4:u.kind=4
        ·have bk4:(u.kind == 4)=true:=by simpa using hk4
         by_cases hut:u.text=[40]
         ·have but:(u.text == [40])=true:=by simpa using hut
          replace hR:=hid (hR.out.trans (if_pos ⟨hk,hrf,hk4,hut⟩)); replace hk:=hid hk; replace hrf:=hid hrf; replace hk4:=hid hk4; replace hut:=hid hut;go_wp2_with fail;(with_reducible refine hrl.out.mono ?_);rintro e y4 ⟨rfl,hby⟩; have hKy:=hid (hKx4.out.below hby); obtain ⟨d0,d1,d2,d3⟩:=bY (an hby rT4 (ae rT4)); obtain ⟨f0,f1,f2,f3⟩:=bY (an hby rU4 (ae rU4));clear hrl hby;have hKa:=hid (hKy.out.alloc (.cells #[.int .i64 0,.bool false,.string ⟨#[]⟩,.slice none 0 0] 24)); have hat:=hid (jy pb K (st) _ hKa.out.pm); obtain ⟨ra,hra⟩:∃ ra,ra=aY K.ts (st):=⟨_,rfl⟩; rw [← hra] at hat; replace hR:=hR.out; rw [← hra] at hR; replace hR:=hid hR; replace hra:=hid hra; obtain ⟨ol,s5⟩:=ra; obtain ⟨zz,hzz⟩:∃ z,ol.isSome=z:=⟨_,rfl⟩;replace hat:=hid (show Calls Tryz.prog 63 #[pt pb] (y4.alloc (.cells #[.int .i64 0,.bool false,.string ⟨#[]⟩,.slice none 0 0] 24)) fun e w'=>∃ (op:Int) (nt:Bool) (rel:List UInt8) (a:Option Addr) (n c:Nat),e=.returned (.tuple #[.agg (ap op nt rel (.slice a n c)),.bool zz])/\(∀ l,ol=some l->op=l.op/\nt=l.nt/\rel=l.rel/\n=l.args.length/\aO 63 7 FlR (aF (y4.alloc (.cells #[.int .i64 0,.bool false,.string ⟨#[]⟩,.slice none 0 0] 24)).heap.size) w' l.args (.slice a l.args.length c))/\PM pb K s5 w'/\Fr (one pb) (y4.alloc (.cells #[.int .i64 0,.bool false,.string ⟨#[]⟩,.slice none 0 0] 24)) w' from by rw [← hzz]; exact hat.out); replace hzz:=hid hzz;go_wp2_with fail;(with_reducible refine hat.out.mono ?_);rintro e w5 ⟨op5,nt5,rel5,a5,n5,c5,rfl,hl5,hM5,hf5⟩; have hKb:=hid (hKa.out.call hM5 hf5); have hsb:=hid (show y4.heap.size < w5.heap.size from zS (by simp) hf5.size); clear hM5 hf5 hat hKa; replace hl5:=hid hl5; have r0:=hKb.out.nth (i:=0) (b:=y4.heap.size) (o:=.cells (ap 0 false [] (.slice none 0 0)) 24 (0,0)) rfl; have r1:=e_ r0 op5 nt5 rel5 (.slice a5 n5 c5); have r2:=r1; have hKc:=hid (hKb.out.turn (hKb.out.geN (i:=0) rfl) (dp op5 nt5 rel5 (.slice a5 n5 c5)) r1); have hoth:=hid (fun (k:Nat) (hk:k≠y4.heap.size)=>(show (setLt w5 y4.heap.size op5 nt5 rel5 (.slice a5 n5 c5)).heap[k]? = w5.heap[k]? from bU hk)); obtain ⟨q0,q1,q2,q3,qz⟩:=aK (r0); have qz0:=qz 0; have qz1:=qz 1; have qz2:=qz 2; have qz3:=qz 3; clear qz;obtain ⟨m0,m1,m2,m3,mz⟩:=aK (r2); clear mz; have hsz2:=hid (show (setLt w5 y4.heap.size op5 nt5 rel5 (.slice a5 n5 c5)).heap.size=w5.heap.size from by simp [World.setCell]); have hKz:=hid (hKc.out.alloc (.cells (ap op5 nt5 rel5 (.slice a5 n5 c5)) 24)); have hlb:=hid (show ((setLt w5 y4.heap.size op5 nt5 rel5 (.slice a5 n5 c5)).alloc (.cells (ap op5 nt5 rel5 (.slice a5 n5 c5)) 24)).heap[w5.heap.size]? = some (.cells (ap op5 nt5 rel5 (.slice a5 n5 c5)) 24 (0,0)) from by rw [← hsz2.out]; exact af _ _); replace r0:=hid r0; replace r1:=hid r1; replace r2:=hid r2;go_wp2_with fail;go_meet
          case rel =>
           refine hid ⟨?_,?_,?_⟩
           ·rw [hR.out]; exact hKz.out.pm
           ·exact hKz.out.fr
           ·rw [hR.out]
            cases ol with
            | none=>show Value.bool zz=.bool false; rw [← hzz.out]; rfl
            | some l =>
             obtain ⟨rfl,rfl,rfl,rfl,hO⟩:=hl5.out l rfl; have hge:=hKb.out.geN (i:=0) (b:=y4.heap.size) (o:=.cells (ap 0 false [] (.slice none 0 0)) 24 (0,0)) rfl; have hs2:=hsz2.out; have hsb':=hsb.out; refine ⟨[(Value.ownBlock (.slice a5 l.args.length c5),id l)],[],by rw [← hzz.out]; rfl,cG [(id l,.slice a5 l.args.length c5)] hlb.out (by show 1<=maxLen; decide) (show W3.heap.size<=w5.heap.size by omega) (fun p hp=>?_),aO.nil _ _ _ _ _,rfl,rfl,?_⟩
             ·simp at hp; subst hp
              (refine hO.move aD fun k hk hk2=>?_);(have hk3:y4.heap.size < k:=by have h8:(y4.alloc (.cells #[.int .i64 0,.bool false,.string ⟨#[]⟩,.slice none 0 0] 24)).heap.size=y4.heap.size+1:=(by simp); unfold aF at hk2; omega);exact ⟨⟨show W3.heap.size<=k by omega,by omega⟩,(z7 _ _ _ (by rw [hs2]; exact hk)).trans (hoth.out k (by omega))⟩
             ·rw [fK]; cases Value.ownBlock (.slice a5 l.args.length c5) <;> simp
         ·have but:(u.text == [40])=false:=by simpa using hut
          replace hR:=hid (hR.out.trans (if_neg (fun e=>hut e.2.2.2))); replace hk:=hid hk; replace hrf:=hid hrf; replace hk4:=hid hk4; replace hut:=hid hut;go_wp2_with fail;(with_reducible refine hrl.out.mono ?_);rintro e y4 ⟨rfl,hby⟩; have hKy:=hid (hKx4.out.below hby); obtain ⟨d0,d1,d2,d3⟩:=bY (an hby rT4 (ae rT4)); obtain ⟨f0,f1,f2,f3⟩:=bY (an hby rU4 (ae rU4));clear hrl hby;have hKa:=hid (hKy.out.alloc (.cells #[.int .i64 0,.bool false,.string ⟨#[]⟩,.slice none 0 0] 24)); have hat:=hid (fL pb K (st) _ hKa.out.pm); obtain ⟨ra,hra⟩:∃ ra,ra=aV K.ts (st):=⟨_,rfl⟩; rw [← hra] at hat; replace hR:=hR.out; rw [← hra] at hR; replace hR:=hid hR; replace hra:=hid hra; obtain ⟨ol,s6⟩:=ra; obtain ⟨zz,hzz⟩:∃ z,ol.isSome=z:=⟨_,rfl⟩;replace hat:=hid (show Calls Tryz.prog 96 #[pt pb] (y4.alloc (.cells #[.int .i64 0,.bool false,.string ⟨#[]⟩,.slice none 0 0] 24)) fun e w'=>∃ (op:Int) (nt:Bool) (rel:List UInt8) (a:Option Addr) (n c:Nat),e=.returned (.tuple #[.agg (ap op nt rel (.slice a n c)),.bool zz])/\(∀ l,ol=some l->op=l.op/\nt=l.nt/\rel=l.rel/\n=l.args.length/\aO 63 7 FlR (aF (y4.alloc (.cells #[.int .i64 0,.bool false,.string ⟨#[]⟩,.slice none 0 0] 24)).heap.size) w' l.args (.slice a l.args.length c))/\PM pb K s6 w'/\Fr (one pb) (y4.alloc (.cells #[.int .i64 0,.bool false,.string ⟨#[]⟩,.slice none 0 0] 24)) w' from by rw [← hzz]; exact hat.out); replace hzz:=hid hzz;go_wp2_with fail;(with_reducible refine hat.out.mono ?_);rintro e w6 ⟨op6,nt6,rel6,a6,n6,c6,rfl,hl6,hM6,hf6⟩; have hKb:=hid (hKa.out.call hM6 hf6); have hsb:=hid (show y4.heap.size < w6.heap.size from zS (by simp) hf6.size); clear hM6 hf6 hat hKa; replace hl6:=hid hl6; have r0:=hKb.out.nth (i:=0) (b:=y4.heap.size) (o:=.cells (ap 0 false [] (.slice none 0 0)) 24 (0,0)) rfl; have r1:=e_ r0 op6 nt6 rel6 (.slice a6 n6 c6); have r2:=r1; have hKc:=hid (hKb.out.turn (hKb.out.geN (i:=0) rfl) (dp op6 nt6 rel6 (.slice a6 n6 c6)) r1); have hoth:=hid (fun (k:Nat) (hk:k≠y4.heap.size)=>(show (setLt w6 y4.heap.size op6 nt6 rel6 (.slice a6 n6 c6)).heap[k]? = w6.heap[k]? from bU hk)); obtain ⟨q0,q1,q2,q3,qz⟩:=aK (r0); have qz0:=qz 0; have qz1:=qz 1; have qz2:=qz 2; have qz3:=qz 3; clear qz;obtain ⟨m0,m1,m2,m3,mz⟩:=aK (r2); clear mz; have hsz2:=hid (show (setLt w6 y4.heap.size op6 nt6 rel6 (.slice a6 n6 c6)).heap.size=w6.heap.size from by simp [World.setCell]); have hKz:=hid (hKc.out.alloc (.cells (ap op6 nt6 rel6 (.slice a6 n6 c6)) 24)); have hlb:=hid (show ((setLt w6 y4.heap.size op6 nt6 rel6 (.slice a6 n6 c6)).alloc (.cells (ap op6 nt6 rel6 (.slice a6 n6 c6)) 24)).heap[w6.heap.size]? = some (.cells (ap op6 nt6 rel6 (.slice a6 n6 c6)) 24 (0,0)) from by rw [← hsz2.out]; exact af _ _); replace r0:=hid r0; replace r1:=hid r1; replace r2:=hid r2;go_wp2_with fail;go_meet
          case rel =>
           refine hid ⟨?_,?_,?_⟩
           ·rw [hR.out]; exact hKz.out.pm
           ·exact hKz.out.fr
           ·rw [hR.out]
            cases ol with
            | none=>show Value.bool zz=.bool false; rw [← hzz.out]; rfl
            | some l =>
             obtain ⟨rfl,rfl,rfl,rfl,hO⟩:=hl6.out l rfl; have hge:=hKb.out.geN (i:=0) (b:=y4.heap.size) (o:=.cells (ap 0 false [] (.slice none 0 0)) 24 (0,0)) rfl; have hs2:=hsz2.out; have hsb':=hsb.out; refine ⟨[(Value.ownBlock (.slice a6 l.args.length c6),id l)],[],by rw [← hzz.out]; rfl,cG [(id l,.slice a6 l.args.length c6)] hlb.out (by show 1<=maxLen; decide) (show W3.heap.size<=w6.heap.size by omega) (fun p hp=>?_),aO.nil _ _ _ _ _,rfl,rfl,?_⟩
             ·simp at hp; subst hp
              (refine hO.move aD fun k hk hk2=>?_);(have hk3:y4.heap.size < k:=by have h8:(y4.alloc (.cells #[.int .i64 0,.bool false,.string ⟨#[]⟩,.slice none 0 0] 24)).heap.size=y4.heap.size+1:=(by simp); unfold aF at hk2; omega);exact ⟨⟨show W3.heap.size<=k by omega,by omega⟩,(z7 _ _ _ (by rw [hs2]; exact hk)).trans (hoth.out k (by omega))⟩
             ·rw [fK]; cases Value.ownBlock (.slice a6 l.args.length c6) <;> simp
        ·have bk4:(u.kind == 4)=false:=by simpa using hk4
         replace hR:=hid (hR.out.trans (if_neg (fun e=>hk4 e.2.2.1))); replace hk:=hid hk; replace hrf:=hid hrf; replace hk4:=hid hk4;go_wp2_with fail;(with_reducible refine hrl.out.mono ?_);rintro e y4 ⟨rfl,hby⟩; have hKy:=hid (hKx4.out.below hby); obtain ⟨d0,d1,d2,d3⟩:=bY (an hby rT4 (ae rT4)); obtain ⟨f0,f1,f2,f3⟩:=bY (an hby rU4 (ae rU4));clear hrl hby;have hKa:=hid (hKy.out.alloc (.cells #[.int .i64 0,.bool false,.string ⟨#[]⟩,.slice none 0 0] 24)); have hat:=hid (fL pb K (st) _ hKa.out.pm); obtain ⟨ra,hra⟩:∃ ra,ra=aV K.ts (st):=⟨_,rfl⟩; rw [← hra] at hat; replace hR:=hR.out; rw [← hra] at hR; replace hR:=hid hR; replace hra:=hid hra; obtain ⟨ol,s6⟩:=ra; obtain ⟨zz,hzz⟩:∃ z,ol.isSome=z:=⟨_,rfl⟩;replace hat:=hid (show Calls Tryz.prog 96 #[pt pb] (y4.alloc (.cells #[.int .i64 0,.bool false,.string ⟨#[]⟩,.slice none 0 0] 24)) fun e w'=>∃ (op:Int) (nt:Bool) (rel:List UInt8) (a:Option Addr) (n c:Nat),e=.returned (.tuple #[.agg (ap op nt rel (.slice a n c)),.bool zz])/\(∀ l,ol=some l->op=l.op/\nt=l.nt/\rel=l.rel/\n=l.args.length/\aO 63 7 FlR (aF (y4.alloc (.cells #[.int .i64 0,.bool false,.string ⟨#[]⟩,.slice none 0 0] 24)).heap.size) w' l.args (.slice a l.args.length c))/\PM pb K s6 w'/\Fr (one pb) (y4.alloc (.cells #[.int .i64 0,.bool false,.string ⟨#[]⟩,.slice none 0 0] 24)) w' from by rw [← hzz]; exact hat.out); replace hzz:=hid hzz;go_wp2_with fail;(with_reducible refine hat.out.mono ?_);rintro e w6 ⟨op6,nt6,rel6,a6,n6,c6,rfl,hl6,hM6,hf6⟩; have hKb:=hid (hKa.out.call hM6 hf6); have hsb:=hid (show y4.heap.size < w6.heap.size from zS (by simp) hf6.size); clear hM6 hf6 hat hKa; replace hl6:=hid hl6; have r0:=hKb.out.nth (i:=0) (b:=y4.heap.size) (o:=.cells (ap 0 false [] (.slice none 0 0)) 24 (0,0)) rfl; have r1:=e_ r0 op6 nt6 rel6 (.slice a6 n6 c6); have r2:=r1; have hKc:=hid (hKb.out.turn (hKb.out.geN (i:=0) rfl) (dp op6 nt6 rel6 (.slice a6 n6 c6)) r1); have hoth:=hid (fun (k:Nat) (hk:k≠y4.heap.size)=>(show (setLt w6 y4.heap.size op6 nt6 rel6 (.slice a6 n6 c6)).heap[k]? = w6.heap[k]? from bU hk)); obtain ⟨q0,q1,q2,q3,qz⟩:=aK (r0); have qz0:=qz 0; have qz1:=qz 1; have qz2:=qz 2; have qz3:=qz 3; clear qz;obtain ⟨m0,m1,m2,m3,mz⟩:=aK (r2); clear mz; have hsz2:=hid (show (setLt w6 y4.heap.size op6 nt6 rel6 (.slice a6 n6 c6)).heap.size=w6.heap.size from by simp [World.setCell]); have hKz:=hid (hKc.out.alloc (.cells (ap op6 nt6 rel6 (.slice a6 n6 c6)) 24)); have hlb:=hid (show ((setLt w6 y4.heap.size op6 nt6 rel6 (.slice a6 n6 c6)).alloc (.cells (ap op6 nt6 rel6 (.slice a6 n6 c6)) 24)).heap[w6.heap.size]? = some (.cells (ap op6 nt6 rel6 (.slice a6 n6 c6)) 24 (0,0)) from by rw [← hsz2.out]; exact af _ _); replace r0:=hid r0; replace r1:=hid r1; replace r2:=hid r2;go_wp2_with fail;go_meet
         case rel =>
          refine hid ⟨?_,?_,?_⟩
          ·rw [hR.out]; exact hKz.out.pm
          ·exact hKz.out.fr
          ·rw [hR.out]
           cases ol with
           | none=>show Value.bool zz=.bool false; rw [← hzz.out]; rfl
           | some l =>
            obtain ⟨rfl,rfl,rfl,rfl,hO⟩:=hl6.out l rfl; have hge:=hKb.out.geN (i:=0) (b:=y4.heap.size) (o:=.cells (ap 0 false [] (.slice none 0 0)) 24 (0,0)) rfl; have hs2:=hsz2.out; have hsb':=hsb.out; refine ⟨[(Value.ownBlock (.slice a6 l.args.length c6),id l)],[],by rw [← hzz.out]; rfl,cG [(id l,.slice a6 l.args.length c6)] hlb.out (by show 1<=maxLen; decide) (show W3.heap.size<=w6.heap.size by omega) (fun p hp=>?_),aO.nil _ _ _ _ _,rfl,rfl,?_⟩
            ·simp at hp; subst hp
             (refine hO.move aD fun k hk hk2=>?_);(have hk3:y4.heap.size < k:=by have h8:(y4.alloc (.cells #[.int .i64 0,.bool false,.string ⟨#[]⟩,.slice none 0 0] 24)).heap.size=y4.heap.size+1:=(by simp); unfold aF at hk2; omega);exact ⟨⟨show W3.heap.size<=k by omega,by omega⟩,(z7 _ _ _ (by rw [hs2]; exact hk)).trans (hoth.out k (by omega))⟩
            ·rw [fK]; cases Value.ownBlock (.slice a6 l.args.length c6) <;> simp
       | false =>
        rw [hrf] at hrl; replace hR:=hid (hR.out.trans (if_neg (fun e=>by rw [hrf] at e; exact absurd e.2.1 (by decide)))); replace hk:=hid hk; replace hrf:=hid hrf;go_wp2_with fail;(with_reducible refine hrl.out.mono ?_);rintro e y4 ⟨rfl,hby⟩; have hKy:=hid (hKx4.out.below hby); obtain ⟨d0,d1,d2,d3⟩:=bY (an hby rT4 (ae rT4)); obtain ⟨f0,f1,f2,f3⟩:=bY (an hby rU4 (ae rU4));clear hrl hby;have hKa:=hid (hKy.out.alloc (.cells #[.int .i64 0,.bool false,.string ⟨#[]⟩,.slice none 0 0] 24)); have hat:=hid (fL pb K (st) _ hKa.out.pm); obtain ⟨ra,hra⟩:∃ ra,ra=aV K.ts (st):=⟨_,rfl⟩; rw [← hra] at hat; replace hR:=hR.out; rw [← hra] at hR; replace hR:=hid hR; replace hra:=hid hra; obtain ⟨ol,s6⟩:=ra; obtain ⟨zz,hzz⟩:∃ z,ol.isSome=z:=⟨_,rfl⟩;replace hat:=hid (show Calls Tryz.prog 96 #[pt pb] (y4.alloc (.cells #[.int .i64 0,.bool false,.string ⟨#[]⟩,.slice none 0 0] 24)) fun e w'=>∃ (op:Int) (nt:Bool) (rel:List UInt8) (a:Option Addr) (n c:Nat),e=.returned (.tuple #[.agg (ap op nt rel (.slice a n c)),.bool zz])/\(∀ l,ol=some l->op=l.op/\nt=l.nt/\rel=l.rel/\n=l.args.length/\aO 63 7 FlR (aF (y4.alloc (.cells #[.int .i64 0,.bool false,.string ⟨#[]⟩,.slice none 0 0] 24)).heap.size) w' l.args (.slice a l.args.length c))/\PM pb K s6 w'/\Fr (one pb) (y4.alloc (.cells #[.int .i64 0,.bool false,.string ⟨#[]⟩,.slice none 0 0] 24)) w' from by rw [← hzz]; exact hat.out); replace hzz:=hid hzz;go_wp2_with fail;(with_reducible refine hat.out.mono ?_);rintro e w6 ⟨op6,nt6,rel6,a6,n6,c6,rfl,hl6,hM6,hf6⟩; have hKb:=hid (hKa.out.call hM6 hf6); have hsb:=hid (show y4.heap.size < w6.heap.size from zS (by simp) hf6.size); clear hM6 hf6 hat hKa; replace hl6:=hid hl6; have r0:=hKb.out.nth (i:=0) (b:=y4.heap.size) (o:=.cells (ap 0 false [] (.slice none 0 0)) 24 (0,0)) rfl; have r1:=e_ r0 op6 nt6 rel6 (.slice a6 n6 c6); have r2:=r1; have hKc:=hid (hKb.out.turn (hKb.out.geN (i:=0) rfl) (dp op6 nt6 rel6 (.slice a6 n6 c6)) r1); have hoth:=hid (fun (k:Nat) (hk:k≠y4.heap.size)=>(show (setLt w6 y4.heap.size op6 nt6 rel6 (.slice a6 n6 c6)).heap[k]? = w6.heap[k]? from bU hk)); obtain ⟨q0,q1,q2,q3,qz⟩:=aK (r0); have qz0:=qz 0; have qz1:=qz 1; have qz2:=qz 2; have qz3:=qz 3; clear qz;obtain ⟨m0,m1,m2,m3,mz⟩:=aK (r2); clear mz; have hsz2:=hid (show (setLt w6 y4.heap.size op6 nt6 rel6 (.slice a6 n6 c6)).heap.size=w6.heap.size from by simp [World.setCell]); have hKz:=hid (hKc.out.alloc (.cells (ap op6 nt6 rel6 (.slice a6 n6 c6)) 24)); have hlb:=hid (show ((setLt w6 y4.heap.size op6 nt6 rel6 (.slice a6 n6 c6)).alloc (.cells (ap op6 nt6 rel6 (.slice a6 n6 c6)) 24)).heap[w6.heap.size]? = some (.cells (ap op6 nt6 rel6 (.slice a6 n6 c6)) 24 (0,0)) from by rw [← hsz2.out]; exact af _ _); replace r0:=hid r0; replace r1:=hid r1; replace r2:=hid r2;go_wp2_with fail;go_meet
        case rel =>
         refine hid ⟨?_,?_,?_⟩
         ·rw [hR.out]; exact hKz.out.pm
         ·exact hKz.out.fr
         ·rw [hR.out]
          cases ol with
          | none=>show Value.bool zz=.bool false; rw [← hzz.out]; rfl
          | some l =>
           obtain ⟨rfl,rfl,rfl,rfl,hO⟩:=hl6.out l rfl; have hge:=hKb.out.geN (i:=0) (b:=y4.heap.size) (o:=.cells (ap 0 false [] (.slice none 0 0)) 24 (0,0)) rfl; have hs2:=hsz2.out; have hsb':=hsb.out; refine ⟨[(Value.ownBlock (.slice a6 l.args.length c6),id l)],[],by rw [← hzz.out]; rfl,cG [(id l,.slice a6 l.args.length c6)] hlb.out (by show 1<=maxLen; decide) (show W3.heap.size<=w6.heap.size by omega) (fun p hp=>?_),aO.nil _ _ _ _ _,rfl,rfl,?_⟩
           ·simp at hp; subst hp
            (refine hO.move aD fun k hk hk2=>?_);(have hk3:y4.heap.size < k:=by have h8:(y4.alloc (.cells #[.int .i64 0,.bool false,.string ⟨#[]⟩,.slice none 0 0] 24)).heap.size=y4.heap.size+1:=(by simp); unfold aF at hk2; omega);exact ⟨⟨show W3.heap.size<=k by omega,by omega⟩,(z7 _ _ _ (by rw [hs2]; exact hk)).trans (hoth.out k (by omega))⟩
           ·rw [fK]; cases Value.ownBlock (.slice a6 l.args.length c6) <;> simp
      ·have bk:(t.kind == 1)=false:=by simpa using hk
       replace hR:=hid (hR.out.trans (if_neg (fun e=>hk e.1))); replace hk:=hid hk; have hKa:=hid (hKx4.out.alloc (.cells #[.int .i64 0,.bool false,.string ⟨#[]⟩,.slice none 0 0] 24)); have hat:=hid (fL pb K (st) _ hKa.out.pm); obtain ⟨ra,hra⟩:∃ ra,ra=aV K.ts (st):=⟨_,rfl⟩; rw [← hra] at hat; replace hR:=hR.out; rw [← hra] at hR; replace hR:=hid hR; replace hra:=hid hra; obtain ⟨ol,s6⟩:=ra; obtain ⟨zz,hzz⟩:∃ z,ol.isSome=z:=⟨_,rfl⟩;replace hat:=hid (show Calls Tryz.prog 96 #[pt pb] (x4.alloc (.cells #[.int .i64 0,.bool false,.string ⟨#[]⟩,.slice none 0 0] 24)) fun e w'=>∃ (op:Int) (nt:Bool) (rel:List UInt8) (a:Option Addr) (n c:Nat),e=.returned (.tuple #[.agg (ap op nt rel (.slice a n c)),.bool zz])/\(∀ l,ol=some l->op=l.op/\nt=l.nt/\rel=l.rel/\n=l.args.length/\aO 63 7 FlR (aF (x4.alloc (.cells #[.int .i64 0,.bool false,.string ⟨#[]⟩,.slice none 0 0] 24)).heap.size) w' l.args (.slice a l.args.length c))/\PM pb K s6 w'/\Fr (one pb) (x4.alloc (.cells #[.int .i64 0,.bool false,.string ⟨#[]⟩,.slice none 0 0] 24)) w' from by rw [← hzz]; exact hat.out); replace hzz:=hid hzz;go_wp2_with fail;(with_reducible refine hat.out.mono ?_);rintro e w6 ⟨op6,nt6,rel6,a6,n6,c6,rfl,hl6,hM6,hf6⟩; have hKb:=hid (hKa.out.call hM6 hf6); have hsb:=hid (show x4.heap.size < w6.heap.size from zS (by simp) hf6.size); clear hM6 hf6 hat hKa; replace hl6:=hid hl6; have r0:=hKb.out.nth (i:=0) (b:=x4.heap.size) (o:=.cells (ap 0 false [] (.slice none 0 0)) 24 (0,0)) rfl; have r1:=e_ r0 op6 nt6 rel6 (.slice a6 n6 c6); have r2:=r1; have hKc:=hid (hKb.out.turn (hKb.out.geN (i:=0) rfl) (dp op6 nt6 rel6 (.slice a6 n6 c6)) r1); have hoth:=hid (fun (k:Nat) (hk:k≠x4.heap.size)=>(show (setLt w6 x4.heap.size op6 nt6 rel6 (.slice a6 n6 c6)).heap[k]? = w6.heap[k]? from bU hk)); obtain ⟨q0,q1,q2,q3,qz⟩:=aK (r0); have qz0:=qz 0; have qz1:=qz 1; have qz2:=qz 2; have qz3:=qz 3; clear qz;obtain ⟨m0,m1,m2,m3,mz⟩:=aK (r2); clear mz; have hsz2:=hid (show (setLt w6 x4.heap.size op6 nt6 rel6 (.slice a6 n6 c6)).heap.size=w6.heap.size from by simp [World.setCell]); have hKz:=hid (hKc.out.alloc (.cells (ap op6 nt6 rel6 (.slice a6 n6 c6)) 24)); have hlb:=hid (show ((setLt w6 x4.heap.size op6 nt6 rel6 (.slice a6 n6 c6)).alloc (.cells (ap op6 nt6 rel6 (.slice a6 n6 c6)) 24)).heap[w6.heap.size]? = some (.cells (ap op6 nt6 rel6 (.slice a6 n6 c6)) 24 (0,0)) from by rw [← hsz2.out]; exact af _ _); replace r0:=hid r0; replace r1:=hid r1; replace r2:=hid r2;go_wp2_with fail;go_meet
       case rel =>
        refine hid ⟨?_,?_,?_⟩
        ·rw [hR.out]; exact hKz.out.pm
        ·exact hKz.out.fr
        ·rw [hR.out]
         cases ol with
         | none=>show Value.bool zz=.bool false; rw [← hzz.out]; rfl
         | some l =>
          obtain ⟨rfl,rfl,rfl,rfl,hO⟩:=hl6.out l rfl; have hge:=hKb.out.geN (i:=0) (b:=x4.heap.size) (o:=.cells (ap 0 false [] (.slice none 0 0)) 24 (0,0)) rfl; have hs2:=hsz2.out; have hsb':=hsb.out; refine ⟨[(Value.ownBlock (.slice a6 l.args.length c6),id l)],[],by rw [← hzz.out]; rfl,cG [(id l,.slice a6 l.args.length c6)] hlb.out (by show 1<=maxLen; decide) (show W3.heap.size<=w6.heap.size by omega) (fun p hp=>?_),aO.nil _ _ _ _ _,rfl,rfl,?_⟩
          ·simp at hp; subst hp
           (refine hO.move aD fun k hk hk2=>?_);(have hk3:x4.heap.size < k:=by have h8:(x4.alloc (.cells #[.int .i64 0,.bool false,.string ⟨#[]⟩,.slice none 0 0] 24)).heap.size=x4.heap.size+1:=(by simp); unfold aF at hk2; omega);exact ⟨⟨show W3.heap.size<=k by omega,by omega⟩,(z7 _ _ _ (by rw [hs2]; exact hk)).trans (hoth.out k (by omega))⟩
          ·rw [fK]; cases Value.ownBlock (.slice a6 l.args.length c6) <;> simp
 case rest =>
  obtain ⟨hP,hF,hres⟩:=hcut.out
  have hlen:=fun q (h:R.1=some q)=>jW K.ts st q (by rw [← hR.out]; exact h)
  obtain ⟨s0,hs0⟩:=h0; have hpw0:=hs0.lt; have hFw:Fr (one pb) w wc:=hK2.out.fr.trans hF; have hF0:=hid (hf0.trans hFw); obtain ⟨ro,s5⟩:=R; replace hR:=hid hR
  cases ro with
  | none =>
   replace hres:u8=.bool false:=hres; subst hres; replace hP:=hid hP
   go_wp2_with fail
   go_ret2
   exact ⟨hP.out,hF0.out,rfl⟩
  | some q =>
   obtain ⟨xs,ys,e8,h1,h2,e1,e2,hd⟩:=hres; subst e8; obtain ⟨l1,l2⟩:=hlen q rfl
   have l3:xs.length<=3:=by rw [← e1] at l1; simpa using l1
   have l4:ys.length<=1:=by rw [← e2] at l2; simpa using l2
   have hw3:=hK2.out.fr.size; have hmc:=hm.fr bS hFw (fun q hq e=>by unfold aF at hq; unfold one at e; omega)
   obtain ⟨g,mc',ab,cb,emv,c6,aA,cA,W5,run1,⟨ug,k6⟩,f6,a2,c2,W6,zs,run2,hO,hzm,hzn,hfz⟩:=uo (N0:=W3.heap.size) hmc hn (fun k hk=>by
    rcases hk with hk | hk
    ·have:=(jR hm k hk).2; omega
    ·have:=hm.lt hk; omega) (fun k hk=>by have:=hf0.size; unfold aF; omega) h1 h2 hd hF.size (by omega) (by simp; omega)
   injection emv with ema en emc; subst ema; subst emc; clear en
   have hidx:∀ kd W,(Instr.indexAt 30 (.slice (some ⟨g,0,none⟩) (r0::rest).length mc) (.int kd 0)).run Tryz.prog W=.ok (.pointer (some ⟨g,0,none⟩)) W:=fun kd W=>by
    have:=gm (P:=Tryz.prog) (t:=30) (sz:=7) (a:=some ⟨g,0,none⟩) (b:=g) (off:=0) (by kernel_rfl) (fun _=>by kernel_rfl) rfl (r0::rest).length mc 0 (by simp) kd W; simpa using this
   obtain ⟨va1,vc1,rfl,-⟩:=h1.slice; obtain ⟨va2,vc2,rfl,-⟩:=h2.slice; have hF6:=hid (show Fr (one pb) w0 W6 from hF0.out.trans' hfz (fun _ x=>x) (fun k hk e=>by unfold aF at e; omega)); have hP6:=hid (hs0.base hF6.out hP (hfz.block pb hP.lt (fun e=>by unfold aF at e; omega))); replace hO:=hid hO; replace hzm:=hid hzm; replace hzn:=hid hzn; clear hP hF hFw h1 h2 hd hfz hmc
   go_wp2_with (first | (at_builtin; refine aU rfl (.tmp 94) (.tmp 95) rfl rfl rfl run1 ?_) | (at_builtin; refine aU rfl (.tmp 99) (.tmp 100) rfl rfl rfl run2 ?_))
   go_ret2
   refine ⟨hP6.out,hF6.out,_,zs,rfl,hO.out,?_,hzn.out⟩; rw [hzm.out,e1,e2]
end Go.Proofs.YtffdpoifdahadaaGreatDoor
