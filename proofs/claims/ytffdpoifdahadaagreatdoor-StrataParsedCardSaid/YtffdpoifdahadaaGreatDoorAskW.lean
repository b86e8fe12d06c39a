/- ask: query. -/
import Derived.Test.YtffdpoifdahadaaGreatDoorAskWb
set_option linter.unusedVariables false
set_option linter.unusedSimpArgs false
set_option maxHeartbeats 40000000
set_option maxRecDepth 100000
namespace Go.Proofs.YtffdpoifdahadaaGreatDoor
open Go.RowKit
open Go.Lib (hid itoa)
theorem tY (pb:Nat) (K:PK) (st:PSt) (w:World) (h:PM pb K st w) (hT:da pb w) (hN:eq K) (hv:st.vars=0) (hv2:st.rels=0) (hst:st.err=none) (hL:K.toks.length<=100000) :
  Calls Tryz.prog 37 #[pt pb] w (PQ pb K w (cR K.ts (K.ts.length+1) st [])):=by
 obtain ⟨R,hR⟩:∃ R,R=cR K.ts (K.ts.length+1) st []:=⟨_,rfl⟩; rw [← hR]; replace hR:=hid hR; have hpl:=h.lt
 have htl:K.ts.length=K.toks.length:=by unfold PK.ts; rw [zY]
 have hQ0:=hid (show QM pb K st w w.heap.size (w.heap.size+1) [] ((w.alloc (.cells (aG (.slice none 0 0) 0 false [] (.slice none 0 0)) 32)).alloc (.cells (aG (.slice none 0 0) 0 false [] (.slice none 0 0)) 32)) from by
  have b1:=(zN w.heap.size w).alloc (zM _) (.cells (aG (.slice none 0 0) 0 false [] (.slice none 0 0)) 32); have b2:=b1.alloc b1.size (.cells (aG (.slice none 0 0) 0 false [] (.slice none 0 0)) 32)
  have s1:(w.alloc (.cells (aG (.slice none 0 0) 0 false [] (.slice none 0 0)) 32)).heap.size=w.heap.size+1:=by simp
  refine ⟨⟨st,h⟩,h.below b2,Fr.of_below b2 _,(z7 _ _ _ (by omega)).trans (af _ _),⟨none,0,?_,aO.nil _ _ _ _ _⟩,zM _,Ag _⟩
  rw [← s1]; exact af _ _)
 have hTw:=hid hT; replace hN:=hid hN
 go_enter Tryz.func37,Tryz.ntmps37
 go_wp2_with fail
 go_step3
 go_wp2_with fail
 go_step3
 go_upto_block 0 with (fail)
 go_cut [] (fun wx=>Hid (∃ st2 zs,QM pb K st2 w w.heap.size (w.heap.size+1) zs wx/\(((∃ e,st2.err=some e/\e.1≠0)/\R=(none,st2))\/(st2.err=none/\R=j7 K.ts (zs.map RuD.ru) (aY K.ts st2)))))
 case first =>
  go_wp2_with fail
  go_loopg [] (K.toks.length+1) (fun g wr=>∃ (f:Nat) (s1:PSt) (zs:List RuD),f=g/\K.toks.length < f+s1.nx/\s1.err=none/\s1.vars<=4 * (K.toks.length+1) * s1.nx/\s1.rels<=4 * (K.toks.length+1) * s1.nx/\zs.length<=64/\Hid (R=cR K.ts f s1 (zs.map RuD.ru))/\Hid (QM pb K s1 w w.heap.size (w.heap.size+1) zs wr))
  case atStart=>exact ⟨_,st,[],rfl,by omega,hst,by omega,by omega,zW _,hid (by rw [← htl]; exact hR.out),hQ0⟩
  case round =>
   obtain ⟨f,s1,zs,hfg,hfu,he1,hv1,hr1,hzl,hR1,hQ⟩:=hrel; clear hQ0 hR; have hn1:=hQ.out.pm.nx; have hBL:4 * (K.toks.length+1) * s1.nx<=4 * (100000+1) * 100000:=Nat.mul_le_mul (by omega) (by omega); obtain ⟨f,rfl⟩:∃ f',f=f'+1:=⟨f - 1,by omega⟩; obtain ⟨z1,hz1⟩:∃ z,isP K.ts (s1) 4 [63]=z:=⟨_,rfl⟩; have hmk1:=hid (cM pb K (s1) [63] wr hQ.out.pm)
   have hT1:bu K.ts (s1) 4 [63]=if z1 then (true,am (s1)) else (false,(s1)):=by unfold bu; rw [hz1]
   rw [hT1] at hmk1; clear hT1; replace hz1:=hid hz1; replace hR1:=hid (show R=if z1=true then j7 K.ts (zs.map RuD.ru) (aY K.ts (am s1)) else fw K.ts f (zs.map RuD.ru) s1.nx (sH K.ts (dC K.ts s1)) from by rw [← hz1.out,← lW,← kt]; exact hR1.out)
   go_wp2_with fail
   with_reducible refine hmk1.out.mono ?_
   rintro e w1 ⟨rfl,hM1,hf1⟩; have hKw1:=hid (hQ.out.call hM1 hf1); clear hmk1 hM1 hf1
   cases z1 with
   | true =>
    replace hR1:=hid (show R=j7 K.ts (zs.map RuD.ru) (aY K.ts (am s1)) from hR1.out); replace hKw1:=hid (show QM pb K (am s1) w w.heap.size (w.heap.size+1) zs w1 from hKw1.out);go_wp2_with fail;go_meet
    case rel=>exact hid ⟨am s1,zs,hKw1.out,Or.inr ⟨he1,hR1.out⟩⟩
   | false =>
    replace hR1:=hid (show R=fw K.ts f (zs.map RuD.ru) s1.nx (sH K.ts (dC K.ts s1)) from hR1.out); replace hKw1:=hid (show QM pb K s1 w w.heap.size (w.heap.size+1) zs w1 from hKw1.out); have hof:=hid (mf pb K s1 w1 hKw1.out.pm); obtain ⟨z,hz⟩:∃ z,z=K.pos s1.nx:=⟨_,rfl⟩; rw [← hz] at hof; replace hz:=hid hz; clear hz1 hQ;go_wp2_with fail;(with_reducible refine hof.out.mono ?_);rintro e w2 ⟨rfl,hb2⟩; have hQ2:=hid (hKw1.out.below hb2); clear hb2 hof hKw1; have hH0:=hid (HM.start hQ2.out.pm); have hhe:=hid (wV pb w2.heap.size K s1 w2 _ hH0.out); have hhg:=oW K.ts s1 (by rw [htl]; exact hn1); obtain ⟨rh,hrh⟩:∃ rh,rh=dC K.ts s1:=⟨_,rfl⟩; rw [← hrh] at hhe hhg; replace hR1:=hR1.out; rw [← hrh] at hR1; replace hR1:=hid hR1; replace hrh:=hid hrh; obtain ⟨ox,s2⟩:=rh; replace hhg:=hid hhg
    have hidx:∀ kd W,(Instr.indexAt 30 (.slice (some ⟨w2.heap.size,0,none⟩) 1 1) (.int kd 0)).run Tryz.prog W=.ok (.pointer (some ⟨w2.heap.size,0,none⟩)) W:=fun kd W=>by
     have:=gm (P:=Tryz.prog) (t:=30) (sz:=7) (a:=some ⟨w2.heap.size,0,none⟩) (b:=w2.heap.size) (off:=0) (by kernel_rfl) (fun _=>by kernel_rfl) rfl 1 1 0 (by decide) kd W; simpa using this
    go_wp2_with fail;(with_reducible refine hhe.out.mono ?_);rintro e w3 ⟨rfl,hM3,hf3,hS3⟩; clear hhe hH0 hidx
    cases ox with
    | none =>
     replace hR1:=hid (show R=(none,s2) from hR1.out); have hQ3:=hid (hQ2.out.call (w':=w3) hM3 hf3); obtain ⟨i,hi⟩:=hhg.out.1.bad rfl; replace hi:=hid hi; clear hM3 hf3 hS3;go_wp2_with fail;go_meet
     case rel=>exact hid ⟨s2,zs,hQ3.out,Or.inl ⟨⟨_,hi.out,(show (2:Int)≠0 from by decide)⟩,hR1.out⟩⟩
    | some x =>
     replace hR1:=hid (show R=fw K.ts f (zs.map RuD.ru) s1.nx (io K.ts x (if isP K.ts s2 4 [58,45]=true then cp K.ts (K.ts.length+1) (am s2) [] [] else (some ([],[]),s2))) from hR1.out); obtain ⟨r,hrA,hr2,hrB,hr4⟩:=yu (hS3 x rfl); have hn2:s1.nx < s2.nx:=hhg.out.2 rfl; have hn2b:s2.nx<=K.toks.length:=hM3.nx; have he2:s2.err=none:=(hhg.out.1.ok rfl).trans he1; have hv2':s2.vars<=s1.vars+0:=hhg.out.1.vars; have hr2':s2.rels<=s1.rels+0:=hhg.out.1.rels; have hK3:=hid (show Kp pb K s2 w2 w3 [] from (Kp.start hQ2.out.pm).call hM3 hf3); replace hrA:=hid hrA; replace hr2:=hid hr2; clear hrB; replace hr4:=hid hr4; clear hM3 hf3 hS3 hhg; obtain ⟨z3,hz3⟩:∃ z,isP K.ts (s2) 4 [58,45]=z:=⟨_,rfl⟩; have hmk3:=hid (cM pb K (s2) [58,45] w3 hK3.out.pm);(have hT3:bu K.ts (s2) 4 [58,45]=if z3 then (true,am (s2)) else (false,(s2)):=by unfold bu; rw [hz3]);rw [hT3] at hmk3; clear hT3; replace hz3:=hid hz3;(obtain ⟨RI,hRI⟩:∃ RI,RI=if z3=true then cp K.ts (K.ts.length+1) (am s2) [] [] else (some ([],[]),s2):=⟨_,rfl⟩);replace hR1:=hid (show R=fw K.ts f (zs.map RuD.ru) s1.nx (io K.ts x RI) from by rw [hRI,← hz3.out]; exact hR1.out); replace hRI:=hid hRI;(obtain ⟨s3,hs3⟩:∃ s3,s3=if z3=true then am s2 else s2:=⟨_,rfl⟩)
     replace hmk3:=hid (show Calls Tryz.prog 57 #[pt pb,sv [58,45]] w3 (ji pb K w3 (z3,s3)) from by
      have e:(if z3=true then (true,am s2) else (false,s2))=(z3,s3):=by rw [hs3]; cases z3 <;> rfl
      rw [← e]; exact hmk3.out)
     have hs3n:s3.nx<=s2.nx+1/\s2.nx<=s3.nx/\s3.vars=s2.vars/\s3.rels=s2.rels/\s3.err=s2.err:=by
      rw [hs3]; cases z3
      ·exact ⟨Nat.le_succ _,zM _,rfl,rfl,rfl⟩
      ·exact ⟨zM _,Nat.le_succ _,rfl,rfl,rfl⟩
     obtain ⟨hn3,hn3b,hv3,hr3,he3⟩:=hs3n; obtain ⟨C,hC⟩:∃ C,C=4 * (K.toks.length+1):=⟨_,rfl⟩; rw [← hC] at hv1 hr1 hBL;(have hv3':s3.vars<=C * s3.nx:=by rw [hv3]; exact i7 hv1 (by omega) (by omega));(have hr3':s3.rels<=C * s3.nx:=by rw [hr3]; exact i7 hr1 (by omega) (by omega))
     replace hRI:=hid (show RI=if z3=true then cp K.ts (K.ts.length+1) s3 [] [] else (some ([],[]),s3) from by rw [hRI.out,hs3]; cases z3 <;> rfl); replace hs3:=hid hs3; have hQs:=hQ2.out.pm.lt
     go_wp2_with fail;(with_reducible refine hmk3.out.mono ?_);rintro e w4 ⟨rfl,hM3,hf3⟩; have hKw4:=hid (hK3.out.call hM3 hf3); replace hr4:=hid (show aO 27 7 RuR (aF w2.heap.size) w4 [r] (.slice (some ⟨w2.heap.size,0,none⟩) 1 1) from hr4.out.fr bS hf3 (fun q hq e=>by unfold aF at hq; unfold one at e; omega)); clear hmk3 hM3 hf3 hK3; have hrm:=hid (show [r].map RuD.ru=⟨⟨0,false,x.rel,x.args⟩,x.agg,x.at_,[]⟩::[] from by rw [List.map_cons,hrA.out]; rfl); have hrn:=hid (show ([r].flatMap RuD.ids).Nodup from by simpa using hr2.out);go_wp2_with fail
     go_loopg [5,6] (K.toks.length+1) (fun g mv more wi=>∃ (f2:Nat) (m:Bool) (s4:PSt) (body:List Lt) (aux:List Ru) (ms:List RuD),f2=g/\more=.bool m/\K.toks.length < f2+s4.nx/\s1.nx < s4.nx/\s4.err=none/\s4.vars<=C * s4.nx/\s4.rels<=C * s4.nx/\body.length<=3 * s4.nx/\aux.length<=s4.nx/\Hid (LOk K.ts.length (body,aux))/\Hid (RI=if m=true then cp K.ts f2 s4 body aux else (some (body,aux),s4))/\Hid (ms.map RuD.ru=⟨⟨0,false,x.rel,x.args⟩,x.agg,x.at_,body⟩::aux)/\Hid ((ms.flatMap RuD.ids).Nodup)/\Hid (aO 27 7 RuR (aF w2.heap.size) wi ms mv)/\Hid (Kp pb K s4 w2 wi []))
     case atStart=>exact ⟨_,z3,s3,[],[],[r],rfl,rfl,by omega,by omega,by rw [he3]; exact he2,hv3',hr3',zW _,zW _,hid ⟨fun y hy=>by simp at hy,fun y hy=>by simp at hy⟩,hid (by rw [← htl]; exact hRI.out),hrm,hrn,hr4,hKw4⟩
     case round =>
      clear hRI hrm hrn hr4 hKw4 hs3 hv3' hr3' hn3 hn3b hv3 hr3 he3; obtain ⟨f2,m,s4,body,aux,ms,hfg2,rfl,hfu2,hn4,he4,hv4,hr4,hbl,hal,hLO,hRI,hmm,hmn,hmo,hK4⟩:=hrel; have hn4b:=hK4.out.pm.nx; have hC4:C * s4.nx<=4 * (100000+1) * 100000:=Nat.mul_le_mul (by omega) (by omega)
      cases m with
      | true =>
       obtain ⟨f2,rfl⟩:∃ f',f2=f'+1:=⟨f2 - 1,by omega⟩
       cases ms with
       | nil=>exact absurd (congrArg List.length hmm.out) (by simp)
       | cons r0 rest =>
        obtain ⟨hm0,hm1⟩:=List.cons.inj hmm.out;(have hbl0:r0.body.length=body.length:=by have:=congrArg (fun r:Ru=>r.body.length) hm0; simpa [RuD.ru] using this);(have hrl0:rest.length=aux.length:=by have:=congrArg List.length hm1; simpa using this);have hlc:=pW pb K s4 w2 wr hK4.out.base hK4.out.fr hK4.out.pm (hTw.out.fr (hQ2.out.fr.trans hK4.out.fr)) hN.out (by omega) (by omega) r0 rest u5 hmo.out hmn.out (by omega) (by omega); have hlg:=js K.ts s4 (by rw [htl]; exact hn4b); have hll:=iG K.ts s4 (by rw [htl]; exact hn4b);(have hln:=fun q h=>jW K.ts s4 q h);replace hRI:=hid (show RI=wB K.ts f2 body aux (bx K.ts s4) from by rw [← mw]; exact hRI.out); rw [hm0,hm1] at hlc; obtain ⟨rl,hrl⟩:∃ rl,rl=bx K.ts s4:=⟨_,rfl⟩; replace hRI:=hRI.out; rw [← hrl] at hRI hlc hlg hll hln; replace hRI:=hid hRI; replace hrl:=hid hrl; replace hlc:=hid hlc; obtain ⟨ol,s5⟩:=rl; replace hlg:=hid hlg; replace hll:=hid hll; replace hln:=hid hln; replace hmm:=hid hmm; clear hm0 hm1;go_wp2_with fail;(with_reducible refine hlc.out.mono ?_);intro e w5 hP; clear hlc
        cases ol with
        | none =>
         obtain ⟨hM5,hf5,he5⟩:=hP; replace he5:e=.returned (.tuple #[.slice none 0 0,.bool false]):=he5; subst he5; replace hRI:=hid (show RI=(none,s5) from hRI.out); replace hR1:=hid (show R=(none,s5) from by have:=hR1.out; rw [hRI.out] at this; exact this); obtain ⟨i,hi⟩:=hlg.out.1.bad rfl; replace hi:=hid hi; have hQ5:=hid (hQ2.out.call (w':=w5) hM5 hf5); clear hM5 hf5 hlg hll hln hmo hmn hmm;go_wp2_with fail;go_meet
         case rel=>exact hid ⟨s5,zs,hQ5.out,Or.inl ⟨⟨_,hi.out,(show (2:Int)≠0 from by decide)⟩,hR1.out⟩⟩
        | some q =>
         obtain ⟨hM5,hf5,mv5,xs5,he5,ho5,hm5,hd5⟩:=hP; replace he5:e=.returned (.tuple #[mv5,.bool true]):=he5; subst he5; obtain ⟨ls,au⟩:=q; have hln1:=hln.out _ rfl; replace hln1:ls.length<=3/\au.length<=1:=hln1; have hll1:s4.nx < s5.nx:=hll.out rfl; have hlg1:=hlg.out.1; have hlg2:LOk K.ts.length (ls,au):=hlg.out.2 _ rfl; have hv5:s5.vars<=C * s5.nx:=pT hv4 (by have:=hlg1.vars; rw [hC,← htl]; exact this) hll1; have hr5:s5.rels<=C * s5.nx:=pT hr4 (by have:=hlg1.rels; rw [hC,← htl]; exact this) hll1; have he5:s5.err=none:=(hlg1.ok rfl).trans he4
         have hLO5:=hid (show LOk K.ts.length (body++ls,aux++au) from by
          obtain ⟨g1,g2⟩:=hLO.out; obtain ⟨g3,g4⟩:=hlg2
          exact ⟨fun y hy=>by rcases List.mem_append.1 hy with h | h; exact g1 y h; exact g3 y h,fun y hy=>by rcases List.mem_append.1 hy with h | h; exact g2 y h; exact g4 y h⟩)
         (have hbl5:(body++ls).length<=3 * s5.nx:=by rw [zQ]; omega);(have hal5:(aux++au).length<=s5.nx:=by rw [zQ]; omega);have hm5':=hid (show xs5.map RuD.ru=⟨⟨0,false,x.rel,x.args⟩,x.agg,x.at_,body++ls⟩::(aux++au) from hm5); replace hRI:=hid (show RI=if isP K.ts s5 4 [44]=true then cp K.ts f2 (am s5) (body++ls) (aux++au) else (some (body++ls,aux++au),s5) from hRI.out); have hK5:=hid (show Kp pb K s5 w2 w5 [] from ⟨hK4.out.base,hM5,hf5,fun r h=>by simp at h,fun r h=>by simp at h⟩); replace ho5:=hid ho5; replace hd5:=hid hd5; clear hM5 hf5 hlg hll hln hmo hmn hmm hK4 hm5 hlg1 hlg2 hLO; obtain ⟨z5,hz5⟩:∃ z,isP K.ts (s5) 4 [44]=z:=⟨_,rfl⟩; have hmk5:=hid (cM pb K (s5) [44] w5 hK5.out.pm);(have hT5:bu K.ts (s5) 4 [44]=if z5 then (true,am (s5)) else (false,(s5)):=by unfold bu; rw [hz5]);rw [hT5] at hmk5; clear hT5; replace hz5:=hid hz5;(obtain ⟨s6,hs6⟩:∃ s6,s6=if z5=true then am s5 else s5:=⟨_,rfl⟩)
         replace hmk5:=hid (show Calls Tryz.prog 57 #[pt pb,sv [44]] w5 (ji pb K w5 (z5,s6)) from by
          have e:(if z5=true then (true,am s5) else (false,s5))=(z5,s6):=by rw [hs6]; cases z5 <;> rfl
          rw [← e]; exact hmk5.out)
         have hs6n:s5.nx<=s6.nx/\s6.vars=s5.vars/\s6.rels=s5.rels/\s6.err=s5.err:=by
          rw [hs6]; cases z5
          ·exact ⟨zM _,rfl,rfl,rfl⟩
          ·exact ⟨Nat.le_succ _,rfl,rfl,rfl⟩
         obtain ⟨hn6,hv6,hr6,he6⟩:=hs6n;(have hv6':s6.vars<=C * s6.nx:=by rw [hv6]; exact i7 hv5 (by omega) hn6);(have hr6':s6.rels<=C * s6.nx:=by rw [hr6]; exact i7 hr5 (by omega) hn6)
         replace hRI:=hid (show RI=if z5=true then cp K.ts f2 s6 (body++ls) (aux++au) else (some (body++ls,aux++au),s6) from by rw [hRI.out,hz5.out,hs6]; cases z5 <;> rfl); replace hs6:=hid hs6
         go_wp2_with fail;(with_reducible refine hmk5.out.mono ?_);rintro e w6 ⟨rfl,hM6,hf6⟩; have hK6:=hid (hK5.out.call hM6 hf6); replace ho5:=hid (show aO 27 7 RuR (aF w2.heap.size) w6 xs5 mv5 from ho5.out.fr bS hf6 (fun q hq e=>by unfold aF at hq; unfold one at e; omega)); clear hmk5 hM6 hf6 hK5;go_wp2_with fail
         go_roundg f2
         case measure=>omega
         case rel=>exact ⟨_,z5,s6,_,_,xs5,rfl,rfl,by omega,by omega,by rw [he6]; exact he5,hv6',hr6',by omega,by omega,hLO5,hRI,hm5',hd5,ho5,hK6⟩
      | false =>
       replace hRI:=hid (show RI=(some (body,aux),s4) from hRI.out); replace hR1:=hid (show R=fw K.ts f (zs.map RuD.ru) s1.nx (if isP K.ts s4 4 [46]=true then (some ((⟨⟨0,false,x.rel,x.args⟩,x.agg,x.at_,body⟩::aux).map eF),am s4) else (none,bf s4)) from by have:=hR1.out; rw [hRI.out,lX] at this; exact this); have hneed:=hid (gH pb K s4 [46] wr hK4.out.pm)
       cases hz2:isP K.ts s4 4 [46] with
       | false =>
        (have hnv:aW K.ts s4 [46]=(false,bf s4):=by unfold aW; rw [if_neg (by rw [hz2]; decide)]);replace hR1:=hid (show R=(none,bf s4) from by have:=hR1.out; rw [hz2] at this; exact this); rw [hnv] at hneed; replace hz2:=hid hz2; clear hnv;go_wp2_with fail;(with_reducible refine hneed.out.mono ?_);rintro e w5 ⟨rfl,hM5,hf5⟩; have hQ5:=hid (hQ2.out.call (w':=w5) hM5 (hK4.out.fr.trans hf5)); clear hneed hM5 hf5;go_wp2_with fail;go_meet
        case rel=>exact hid ⟨bf s4,zs,hQ5.out,Or.inl ⟨⟨(2,s4.nx),rfl,(show (2:Int)≠0 from by decide)⟩,hR1.out⟩⟩
       | true =>
        (have hnv:aW K.ts s4 [46]=(true,am s4):=by unfold aW; rw [if_pos hz2]);replace hR1:=hid (show R=fw K.ts f (zs.map RuD.ru) s1.nx (some (((⟨⟨0,false,x.rel,x.args⟩,x.agg,x.at_,body⟩:Ru)::aux).map eF),am s4) from by have:=hR1.out; rw [hz2] at this; exact this); rw [hnv] at hneed; replace hz2:=hid hz2; obtain ⟨ruT,hruT⟩:∃ T:List Ru,T=(⟨⟨0,false,x.rel,x.args⟩,x.agg,x.at_,body⟩:Ru)::aux:=⟨_,rfl⟩; rw [← hruT] at hmm; replace hR1:=hid (show R=fw K.ts f (zs.map RuD.ru) s1.nx (some (ruT.map eF),am s4) from by rw [hruT]; exact hR1.out)
        have hruB:∀ r∈ruT,r.body.length<=3 * s4.nx+5/\∀ y∈r.body,y.args.length<=K.ts.length+3:=by
         intro r hr; obtain ⟨g1,g2⟩:=hLO.out; rw [hruT] at hr; rcases List.mem_cons.1 hr with h | h
         ·subst h; exact ⟨by show body.length<=_; omega,g1⟩
         ·exact ⟨by have:=(g2 r h).1; omega,(g2 r h).2⟩
        (have hruL:ruT.length<=s4.nx+1:=by rw [hruT,zT]; omega);(have hmsl:ms.length=ruT.length:=by have:=congrArg List.length hmm.out; simpa using this);obtain ⟨ma,mc,emv,-,-⟩:=hmo.out.slice; subst emv; replace hruB:=hid hruB; replace hmsl:=hid hmsl; replace hruL:=hid hruL; replace hruT:=hid hruT; clear hnv hLO;go_wp2_with fail;(with_reducible refine hneed.out.mono ?_);rintro e w5 ⟨rfl,hM5,hf5⟩; have hK5:=hid (show Kp pb K (am s4) w2 w5 [] from hK4.out.call hM5 hf5); replace hmo:=hid (show aO 27 7 RuR (aF w2.heap.size) w5 ms (.slice ma ms.length mc) from hmo.out.fr bS hf5 (fun q hq e=>by unfold aF at hq; unfold one at e; omega)); clear hneed hM5 hf5 hK4;go_wp2_with fail
        go_loopg [42] ms.length (fun g i wi=>∃ (A B:List RuD),i=iv A.length/\B.length=g/\A.length+B.length=ms.length/\Hid (A.map RuD.ru++(B.map RuD.ru).map eF=ruT.map eF)/\Hid (∀ r∈B,r.ru∈ruT)/\Hid ((A++B).flatMap RuD.ids).Nodup/\Hid (aO 27 7 RuR (aF w2.heap.size) wi (A++B) (.slice ma ms.length mc))/\Hid (Kp pb K (am s4) w2 wi []))
        case atStart=>exact ⟨[],ms,rfl,rfl,by simp,hid (by rw [← hmm.out]; rfl),hid (fun r hr=>by rw [← hmm.out]; exact List.mem_map_of_mem hr),hmn,hmo,hK5⟩
        case round =>
         obtain ⟨A,B,rfl,hgB,hAB,hT2,hBr,hnd,hO,hK6⟩:=hrel; clear hmo hK5
         cases B with
         | nil =>
          have q1:decide (A.length < ms.length)=false:=zO (by simp at hAB; omega);(have q1i:¬ A.length < ms.length:=by simp at hAB; omega);replace hT2:=hid (show A.map RuD.ru=ruT.map eF from by simpa using hT2.out); have hO':=(show aO 27 7 RuR (aF w2.heap.size) wr A (.slice ma ms.length mc) from by have:=hO.out; simpa using this); have hQ6:=hQ2.out.call (w':=wr) hK6.out.pm hK6.out.fr;(have hAl:A.length=ms.length:=by simp at hAB; omega);have hmsl':=hmsl.out; have hruL':=hruL.out;(have hQB:w.heap.size+1 < w2.heap.size:=by obtain ⟨a1,c1,g1,g2⟩:=hQ2.out.q; exact ae g1)
          obtain ⟨av,cv,aN,cN,W6,hc0,run6,hfz6,hu6,hc06,hQ7⟩:=hQ6.push hO' hQB (fun a c hac k hk=>by
           obtain ⟨a1,c1,g1,g2⟩:=hQ2.out.q; have g3:=(hK6.out.fr.block _ (ae g1) (by unfold one; omega)).trans g1; rw [hac] at g3;(have g4:a=a1/\c=c1:=by simpa using g3);rw [g4.1,g4.2] at hk
           exact g2.lt hk) (by omega)
          (have hTl:(zs.map RuD.ru++ruT.map eF).length=zs.length+A.length:=by rw [zQ,zY,zY]; omega);obtain ⟨N,hN6⟩:∃ N,N=zs.length+A.length:=⟨_,rfl⟩; rw [← hN6] at run6 hc06 hQ7 hTl;(have hNb:N<=1048576:=by omega);have hNz:=hid hN6; clear hmsl' hruL'; replace hTl:=hid hTl; replace hAl:=hid hAl; clear hN6; obtain ⟨u6,hu6⟩:=hu6; have p6:=hQ7.pm.cell (i:=6) rfl; have p7:=hQ7.pm.cell (i:=7) rfl; have pf6:=hQ7.pm.free 6; have pf7:=hQ7.pm.free 7; replace hQ7:=hid hQ7; clear hQ6 hO' hK6 hO hnd hBr; by_cases h64:64 < N
          ·have d64:decide ((N:Int) > 64)=true:=zP (by omega)
           have i64:(64:Int) < (N:Int):=by omega
           replace hR1:=hid (show R=(none,{ am s4 with err:=some (3,s1.nx) }) from by
            have:=hR1.out
            rw [this]; unfold fw; simp only; rw [if_pos (by rw [hTl.out]; exact h64)])
           replace h64:=hid h64
           go_wp2_with (first | (at_builtin; refine aU rfl (.tmp 53) (.tmp 54) rfl rfl rfl run6 ?_))
           go_meet
           case rel=>exact hid ⟨_,_,hQ7.out.call (by rw [hz.out]; exact hQ7.out.pm.setErr 3 s1.nx) (((Fr.refl (one pb) _).setCell (p:=⟨pb,6,none⟩) (Or.inl (show one pb pb from rfl)) _).setCell (p:=⟨pb,7,none⟩) (Or.inl (show one pb pb from rfl)) _),Or.inl ⟨⟨(3,s1.nx),rfl,(show (3:Int)≠0 from by decide)⟩,hR1.out⟩⟩
          ·have d64:decide ((N:Int) > 64)=false:=zO (by omega)
           have i64:¬ (64:Int) < (N:Int):=by omega
           replace hR1:=hid (show R=cR K.ts f (am s4) ((zs++A).map RuD.ru) from by
            have:=hR1.out
            rw [this]; unfold fw; simp only; rw [if_neg (by rw [hTl.out]; exact h64),List.map_append,hT2.out])
           (have hzA:(zs++A).length<=64:=by rw [zQ,← hNz.out]; omega);replace h64:=hid h64
           go_wp2_with (first | (at_builtin; refine aU rfl (.tmp 53) (.tmp 54) rfl rfl rfl run6 ?_))
           go_roundg f
           case measure=>omega
           case rel=>exact ⟨_,am s4,zs++A,rfl,by show K.toks.length < f+(s4.nx+1); omega,he4,by rw [← hC]; exact i7 hv4 (zM _) (Nat.le_succ _),by rw [← hC]; exact i7 hr4 (zM _) (Nat.le_succ _),hzA,hR1,hQ7⟩
         | cons r B =>
          have q1:decide (A.length < ms.length)=true:=zP (by simp at hAB; omega);(have q1i:A.length < ms.length:=by simp at hAB; omega);(have hids:=jR hO.out; obtain ⟨g,mc',ab,cb,ev,hc6,hrow,hrnd,hset⟩:=tR hO.out hnd.out; injection ev with ev1 ev2 ev3; subst ev1; subst ev3)
          have hidx:∀ kd W,(Instr.indexAt 30 (.slice (some ⟨g,0,none⟩) ms.length mc) (.int kd (A.length:Int))).run Tryz.prog W=.ok (.pointer (some ⟨g,A.length * 7,none⟩)) W:=fun kd W=>by
           have:=gm (P:=Tryz.prog) (t:=30) (sz:=7) (a:=some ⟨g,0,none⟩) (b:=g) (off:=0) (by kernel_rfl) (fun _=>by kernel_rfl) rfl ms.length mc A.length q1i kd W; rw [Nat.zero_add] at this; exact this
          have hrB:=hruB.out r.ru (hBr.out r (by simp)); obtain ⟨hrB1,hrB2⟩:=hrB
          have hrb1:r.body.length<=3 * s4.nx+5:=by
           (have h8:r.ru.body.length=r.body.length:=by simp [RuD.ru]);omega
          (have hrb2:∀ y∈r.body,y.2.args.length<=K.ts.length+3:=fun y hy=>hrB2 y.2 (by show y.2∈r.body.map (·.2); exact List.mem_map_of_mem hy));have hsum:=xN hrb2; have hsum2:r.body.length * (K.ts.length+3)<=(3 * 100000+5) * (100000+3):=Nat.mul_le_mul (by omega) (by omega); have hnm:=hid (mg w2.heap.size r.body (.slice ab r.body.length cb) wr hrow hrnd ((hTw.out.fr hQ2.out.fr).tabB hK6.out.fr) (by omega) (by omega) (fun y hy=>by have:=hrb2 y hy; omega))
          have e1:IntKind.i64.wrap ((A.length:Int)+1)=((A.length+1:Nat):Int):=by
           have hmsl':=hmsl.out; have hruL':=hruL.out; rw [zX]; omega
          have hidr:=hid (fun q (hq:q∈ct r.body)=>(hids q (List.mem_flatMap.2 ⟨r,by simp,by unfold RuD.ids; simp [hq]⟩)).1); replace hset:=hid hset; replace hrow:=hid hrow; replace hrnd:=hid hrnd; clear hids hrB1 hrB2 hrb1 hrb2 hsum hsum2 ev2;go_wp2_with fail;(with_reducible refine hnm.out.mono ?_);rintro e w7 ⟨rfl,hO7,hF7⟩; have hO8:=hid (hset.out w7 hF7 hO7)
          have hf8:Fr (one pb) w2 w7:=hK6.out.fr.trans' hF7 (fun _ x=>x) (fun k hk e=>by
           rcases e with e | e
           ·have:=hidr.out k e; unfold aF at this; omega
           ·have:=hK6.out.fr.size; omega)
          obtain ⟨s0,hs0⟩:=hK6.out.base
          have hK7:=hid (show Kp pb K (am s4) w2 w7 [] from ⟨hK6.out.base,hs0.base hf8 hK6.out.pm (hF7.block pb hK6.out.pm.lt (fun e=>by
           rcases e with e | e
           ·have:=hidr.out pb e; unfold aF at this; omega
           ·have:=hK6.out.pm.lt; omega)),hf8,fun r h=>by simp at h,fun r h=>by simp at h⟩)
          clear hnm hO7 hF7 hf8 hset;go_wp2_with fail
          go_roundg B.length
          case measure=>simp at hgB; omega
          case rel =>
           refine ⟨A++[⟨r.head,r.agg,r.at_,r.bb,fp 0 r.body⟩],B,by simp,rfl,by simp at hAB ⊢; omega,hid ?_,hid (fun y hy=>hBr.out y (by simp [hy])),hid ?_,hid ?_,hK7⟩
           ·rw [← hT2.out]; simp [zn]
           ·have h9:((A++[(⟨r.head,r.agg,r.at_,r.bb,fp 0 r.body⟩:RuD)])++B).flatMap RuD.ids=(A++r::B).flatMap RuD.ids:=by simp [yd]
            rw [h9]; exact hnd.out
           ·have h9:(A++[(⟨r.head,r.agg,r.at_,r.bb,fp 0 r.body⟩:RuD)])++B=A++⟨r.head,r.agg,r.at_,r.bb,fp 0 r.body⟩::B:=by simp
            rw [h9]; exact hO8.out
 case rest =>
  obtain ⟨st2,zs,hQ,hor⟩:=hcut.out; have c6:wc.cell? ⟨pb,6,none⟩=some (iv (kD st2)):=hQ.pm.cell (i:=6) rfl; obtain ⟨r0,r1,r2,r3,r4,rz⟩:=cg hQ.res; have rz0:=rz 0; have rz1:=rz 1; have rz2:=rz 2; have rz3:=rz 3; have rz4:=rz 4; clear rz hcut; rcases hor with ⟨⟨⟨en,ei⟩,he,hne⟩,hRe⟩ | ⟨he,hRg⟩
  ·have hen:kD st2=en:=by unfold kD; rw [he]
   rw [hen] at c6
   have d1:(en == 0)=false:=by simpa using hne
   have d2:(en != 0)=true:=by simp [bne,d1]
   replace hne:¬ en=0:=hne; have hfin:=hid (hQ.fin (.slice none 0 0) 0 false [] (.slice none 0 0)); replace hQ:=hid hQ; replace hRe:=hid hRe
   go_wp2_with fail
   refine bodyPost_ret (v:=.agg (aG (.slice none 0 0) 0 false [] (.slice none 0 0))) (results_cell_row (by rfl) _ _ w.heap.size 32 _ (0,0) _ (by rfl) hfin.out.2.2 Tryz.underlying32 rfl (by kernel_rfl)) rfl ?_; rw [hRe.out]; exact ⟨hfin.out.1,hfin.out.2.1,rfl⟩
  ·have hen:kD st2=0:=by unfold kD; rw [he]
   rw [hen] at c6; have hat:=hid (jy pb K st2 wc hQ.pm); have hag:=(d8 K.ts st2 (by rw [htl]; exact hQ.pm.nx)).2; obtain ⟨ra,hra⟩:∃ ra,ra=aY K.ts st2:=⟨_,rfl⟩; rw [← hra] at hat hag hRg; replace hra:=hid hra; obtain ⟨ol,s5⟩:=ra; obtain ⟨zz,hzz⟩:∃ z,ol.isSome=z:=⟨_,rfl⟩; replace hat:=hid (show Calls Tryz.prog 63 #[pt pb] wc fun e w'=>∃ (op:Int) (nt:Bool) (rel:List UInt8) (a:Option Addr) (n c:Nat),e=.returned (.tuple #[.agg (ap op nt rel (.slice a n c)),.bool zz])/\(∀ l,ol=some l->op=l.op/\nt=l.nt/\rel=l.rel/\n=l.args.length/\aO 63 7 FlR (aF wc.heap.size) w' l.args (.slice a l.args.length c))/\PM pb K s5 w'/\Fr (one pb) wc w' from by rw [← hzz]; exact hat.out); replace hzz:=hid hzz; replace hag:=hid hag
   replace hRg:=hid hRg; replace hQ:=hid hQ; replace he:=hid he; replace hen:=hid hen
   go_wp2_with fail
   with_reducible refine hat.out.mono ?_
   rintro e w5 ⟨op,nt,rel,a,n,c,rfl,hl5,hM5,hf5⟩; have hQ5:=hid ((hQ.out.call hM5 hf5).below ((zN _ w5).alloc (zM _) (.cells (ap op nt rel (.slice a n c)) 24))); have hLb:=af w5 (.cells (ap op nt rel (.slice a n c)) 24); have hf5':=hid (hf5.trans (Fr.of_below ((zN _ w5).alloc (zM _) (.cells (ap op nt rel (.slice a n c)) 24)) (one pb))); have hs5:=hid hf5.size; clear hat hM5; clear r0 r1 r2 r3 r4 rz0 rz1 rz2 rz3 rz4 c6; obtain ⟨r0,r1,r2,r3,r4,rz⟩:=cg hQ5.out.res; have rz0:=rz 0; have rz1:=rz 1; have rz2:=rz 2; have rz3:=rz 3; have rz4:=rz 4; clear rz
   cases ol with
   | none =>
    have hz':false=zz:=hzz.out; subst hz'; replace hRg:=hid (show R=(none,s5) from hRg.out); have hfin:=hid (hQ5.out.fin (.slice none 0 0) 0 false [] (.slice none 0 0)); clear hl5;go_wp2_with fail;refine bodyPost_ret (v:=.agg (aG (.slice none 0 0) 0 false [] (.slice none 0 0))) (results_cell_row (by rfl) _ _ w.heap.size 32 _ (0,0) _ (by rfl) hfin.out.2.2 Tryz.underlying32 rfl (by kernel_rfl)) rfl ?_; rw [hRg.out]; exact ⟨hfin.out.1,hfin.out.2.1,rfl⟩
   | some l =>
    have hz':true=zz:=hzz.out; subst hz'; obtain ⟨rfl,rfl,rfl,rfl,hO5⟩:=hl5 l rfl; obtain ⟨k0,k1,k2,k3,-⟩:=aK hLb; obtain ⟨ta,tc,htv⟩:=hQ5.out.pm.slice;(have p0:(w5.alloc (.cells (ap l.op l.nt l.rel (.slice a l.args.length c)) 24)).cell? ⟨pb,0,none⟩=some (.slice ta K.toks.length tc):=by rw [← htv]; exact hQ5.out.pm.cell (i:=0) rfl);have p1:(w5.alloc (.cells (ap l.op l.nt l.rel (.slice a l.args.length c)) 24)).cell? ⟨pb,1,none⟩=some (iv s5.nx):=hQ5.out.pm.cell (i:=1) rfl; replace hLb:=hid hLb; replace hO5:=hid hO5; replace htv:=hid htv; replace hf5:=hid hf5; clear hl5; by_cases hlt:s5.nx < K.toks.length
    ·have d1:decide ((s5.nx:Int) < (K.toks.length:Int))=true:=zP (by omega)
     (have d2:(s5.nx:Int) < (K.toks.length:Int):=by omega);replace hlt:=hid hlt; replace hRg:=hid (show R=(none,bf s5) from hRg.out.trans (if_pos (by rw [htl]; exact hlt.out)));go_wp2_with fail;go_quiet (fail);generalize hwd:World.drewN _ _=wd;(have hbd:Below (w5.alloc (.cells (ap l.op l.nt l.rel (.slice a l.args.length c)) 24)).heap.size (w5.alloc (.cells (ap l.op l.nt l.rel (.slice a l.args.length c)) 24)) wd:=by rw [← hwd]; exact bG (zN _ _) _);have hQd:=hid (hQ5.out.below hbd); have hfl:=hid (dw pb K s5 wd hQd.out.pm); clear r0 r1 r2 r3 r4 rz0 rz1 rz2 rz3 rz4 k0 k1 k2 k3 p0 p1;go_wp2_with fail;(with_reducible refine hfl.out.mono ?_);rintro e w6 ⟨rfl,hM6,hf6⟩; have hQ6:=hid (hQd.out.call hM6 hf6); clear hfl hM6 hf6; obtain ⟨r0,r1,r2,r3,r4,rz⟩:=cg hQ6.out.res; have rz0:=rz 0; have rz1:=rz 1; have rz2:=rz 2; have rz3:=rz 3; have rz4:=rz 4; clear rz; have hfin:=hid (hQ6.out.fin (.slice none 0 0) 0 false [] (.slice none 0 0));go_wp2_with fail;refine bodyPost_ret (v:=.agg (aG (.slice none 0 0) 0 false [] (.slice none 0 0))) (results_cell_row (by rfl) _ _ w.heap.size 32 _ (0,0) _ (by rfl) hfin.out.2.2 Tryz.underlying32 rfl (by kernel_rfl)) rfl ?_; rw [hRg.out]; exact ⟨hfin.out.1,hfin.out.2.1,rfl⟩
    ·have d1:decide ((s5.nx:Int) < (K.toks.length:Int))=false:=zO (by omega)
     (have d2:¬ (s5.nx:Int) < (K.toks.length:Int):=by omega);replace hlt:=hid hlt; obtain ⟨gl,hgl⟩:∃ gl:Lt,gl=⟨l.op,l.nt,l.rel,cj 0 l.args⟩:=⟨_,rfl⟩; replace hRg:=hid (show R=(some ⟨zs.map RuD.ru,gl⟩,s5) from by rw [hgl]; exact hRg.out.trans (if_neg (by rw [htl]; exact hlt.out))); have hag1:=hag.out l rfl; rw [htl] at hag1;go_wp2_with fail;go_quiet (fail);generalize hwd:World.drewN _ _=wd;(have hbd:Below (w5.alloc (.cells (ap l.op l.nt l.rel (.slice a l.args.length c)) 24)).heap.size (w5.alloc (.cells (ap l.op l.nt l.rel (.slice a l.args.length c)) 24)) wd:=by rw [← hwd]; exact bG (zN _ _) _);have hQd:=hid (hQ5.out.below hbd);(have hsd:wd.heap.size=w5.heap.size+1:=by rw [← hwd]; show (w5.alloc (.cells (ap l.op l.nt l.rel (.slice a l.args.length c)) 24)).heap.size=_; simp);have kd0:wd.cell? ⟨w5.heap.size,0,none⟩=_:=(Af (an hbd hLb.out (ae hLb.out) |>.trans hLb.out.symm)).trans k0; have kd1:wd.cell? ⟨w5.heap.size,1,none⟩=_:=(Af (an hbd hLb.out (ae hLb.out) |>.trans hLb.out.symm)).trans k1; have kd2:wd.cell? ⟨w5.heap.size,2,none⟩=_:=(Af (an hbd hLb.out (ae hLb.out) |>.trans hLb.out.symm)).trans k2; have kd3:wd.cell? ⟨w5.heap.size,3,none⟩=_:=(Af (an hbd hLb.out (ae hLb.out) |>.trans hLb.out.symm)).trans k3; obtain ⟨GB,hGB⟩:∃ GB,GB=wd.heap.size:=⟨_,rfl⟩; have hfd:=hid (hf5'.out.trans (Fr.of_below hbd (one pb)));have hOd:aO 63 7 FlR (aF wc.heap.size) wd l.args (.slice a l.args.length c):=(hO5.out.below aD ((zN _ w5).alloc (zM _) _)).below aD hbd; have hbx:Below wd.heap.size wd (wd.alloc (.cells #[iv l.op,.bool l.nt,sv l.rel,.slice a l.args.length c] 24)):=(zN _ _).alloc (zM _) _;(have hGn:(wd.alloc (.cells #[iv l.op,.bool l.nt,sv l.rel,.slice a l.args.length c] 24)).heap[GB]? = some (.cells #[iv l.op,.bool l.nt,sv l.rel,.slice a l.args.length c] 24 (0,0)):=by rw [hGB]; exact af _ _);have hscd:=hfd.out.size
     have hrow:=cG (S:=aF wc.heap.size) [(l,.slice a l.args.length c)] hGn (by show 1<=maxLen; decide) (by unfold aF; omega) (fun p hp=>by
      simp at hp; subst hp
      exact hOd.move aD fun k hk hk2=>⟨⟨hk2,by omega⟩,hbx.block k hk⟩)
     have hQx:=hid (hQd.out.below hbx); have hfx:=hid (hfd.out.trans (Fr.of_below hbx (one pb))); have hnm:=hid (mg wc.heap.size [(Value.ownBlock (.slice a l.args.length c),l)] (.slice (some ⟨GB,0,none⟩) 1 1) _ hrow (by rw [fK]; cases Value.ownBlock (.slice a l.args.length c) <;> simp) ((hTw.out.fr hQ.out.fr).tabB hfx.out) (by show l.args.length+0<=_; have:=hQ.out.pm.len; omega) (by show 1<=_; decide) (fun y hy=>by simp at hy; subst hy; show l.args.length<=_; omega))
     have hidx2:∀ kd W,(Instr.indexAt 25 (.slice (some ⟨GB,0,none⟩) 1 1) (.int kd 0)).run Tryz.prog W=.ok (.pointer (some ⟨GB,0,none⟩)) W:=fun kd W=>by
      have:=gm (P:=Tryz.prog) (t:=25) (sz:=4) (a:=some ⟨GB,0,none⟩) (b:=GB) (off:=0) (by kernel_rfl) (fun _=>by kernel_rfl) rfl 1 1 0 (by decide) kd W; simpa using this
     have hids:=hid (fun k (hk:k∈ct [(Value.ownBlock (.slice a l.args.length c),l)])=>oN hrow k hk); replace hGB:=hid hGB; replace hsd:=hid hsd; clear r0 r1 r2 r3 r4 rz0 rz1 rz2 rz3 rz4 k0 k1 k2 k3 p0 p1 hGn hrow;go_wp2_with fail;rw [← hGB.out];(with_reducible refine hnm.out.mono ?_);rintro e w7 ⟨rfl,hO7,hF7⟩;(replace hO7:aO 24 4 LdR (aF wc.heap.size) w7 [(Value.ownBlock (.slice a l.args.length c),gl)] (.slice (some ⟨GB,0,none⟩) 1 1):=by rw [hgl]; exact hO7);obtain ⟨gb,aa,ca,egb,-,hgbl,hgbS,m0,m1,m2,m3,hOa⟩:=ym hO7;(have egb':GB=gb:=by simpa using egb);subst egb'; replace m0:w7.cell? ⟨GB,0,none⟩=some (iv gl.op):=m0; replace m1:w7.cell? ⟨GB,1,none⟩=some (.bool gl.nt):=m1; replace m2:w7.cell? ⟨GB,2,none⟩=some (sv gl.rel):=m2; replace m3:w7.cell? ⟨GB,3,none⟩=some (.slice aa gl.args.length ca):=m3; replace hOa:aO 63 7 FlR (aF wc.heap.size) w7 gl.args (.slice aa gl.args.length ca):=hOa
     have hf7:Fr (one pb) wc w7:=hfx.out.trans' hF7 (fun _ x=>x) (fun k hk e=>by
      rcases e with e | e
      ·have:=(hids.out k e).1; unfold aF at this; omega
      ·have:=hfx.out.size; omega)
     have hpc:=hQ.out.pm.lt
     have hP7:PM pb K s5 w7:=hQ.out.pm.base hf7 hQx.out.pm (hF7.block pb hQx.out.pm.lt (fun e=>by
      rcases e with e | e
      ·have:=(hids.out pb e).1; unfold aF at this; omega
      ·have:=hQx.out.pm.lt; omega))
     have hQ7:=hQ.out.call hP7 hf7; obtain ⟨qa,qc,hq0,hz0⟩:=hQ.out.q; have hz0':=hid (hz0.mono (T:=fun k=>w.heap.size+1 < k/\k < wc.heap.size) bS fun k hk hk2=>⟨hk2,hk⟩); have hq7:=(hf7.block _ (ae hq0) (by unfold one; have:=hQ.out.pbl; omega)).trans hq0; have hqG:=pA hq7 gl.op gl.nt gl.rel (.slice aa gl.args.length ca); have hRG:=(fU (w:=w7) (R:=w.heap.size+1) (k:=w.heap.size) (op:=gl.op) (nt:=gl.nt) (rel:=gl.rel) (v:=.slice aa gl.args.length ca) (by omega)).trans hQ7.res; have hsc:=ae hq0; have hpw:=hQ.out.pbl; have hFG:=hid ((hQ7.fr.setG (R:=w.heap.size+1) (by omega) gl.op gl.nt gl.rel (.slice aa gl.args.length ca)).setQ (R:=w.heap.size) (zM _) (.slice qa zs.length qc) gl.op gl.nt gl.rel (.slice aa gl.args.length ca))
     have hPF:=hid (by
      obtain ⟨s0,hs0⟩:=hQ.out.base
      exact hs0.base hFG.out hP7 ((eX (by omega)).trans (fU (by omega))))
     have hRF:=iB hRG (.slice qa zs.length qc) gl.op gl.nt gl.rel (.slice aa gl.args.length ca); obtain ⟨x0,x1,x2,x3,x4,xz⟩:=cg hq7; have xz0:=xz 0; have xz1:=xz 1; have xz2:=xz 2; have xz3:=xz 3; have xz4:=xz 4; clear xz; obtain ⟨y0,y1,y2,y3,y4,yz⟩:=cg hqG; clear yz; obtain ⟨z0,z1,z2,z3,z4,zz⟩:=cg hRG; have zz0:=zz 0; have zz1:=zz 1; have zz2:=zz 2; have zz3:=zz 3; have zz4:=zz 4; clear zz; replace hf7:=hid hf7; replace hOa:=hid hOa; replace hRF:=hid hRF; replace hgl:=hid hgl; clear hnm hO7 hF7 hq0 hz0 hq7 hqG hRG hsc egb hP7 hQ7 hgbS;go_wp2_with fail;refine bodyPost_ret (v:=.agg (aG (.slice qa zs.length qc) gl.op gl.nt gl.rel (.slice aa gl.args.length ca))) (results_cell_row (by rfl) _ _ w.heap.size 32 _ (0,0) _ (by rfl) hRF.out Tryz.underlying32 rfl (by kernel_rfl)) rfl ?_; rw [hRg.out]; refine ⟨hPF.out,hFG.out,_,_,zs,rfl,?_,rfl,?_⟩
     ·refine hz0'.out.move bS fun k hk hk2=>⟨by unfold aF; omega,?_⟩
      exact (eX (by omega)).trans ((fU (by omega)).trans (hf7.out.block k hk (by unfold one; omega)))
     ·refine hOa.out.move aD fun k hk hk2=>⟨?_,?_⟩
      ·have:=hQ.out.fr.size; unfold aF at hk2 ⊢; omega
      ·have h10:w.heap.size+1 < wc.heap.size:=by obtain ⟨a1,c1,g1,g2⟩:=hQ.out.q; exact ae g1
       unfold aF at hk2; exact (eX (by omega)).trans (fU (by omega))
end Go.Proofs.YtffdpoifdahadaaGreatDoor
