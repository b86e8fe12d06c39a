/- ask: head. -/
import Derived.Test.YtffdpoifdahadaaGreatDoorAskF
set_option linter.unusedVariables false
set_option maxHeartbeats 40000000
set_option maxRecDepth 100000
namespace Go.Proofs.YtffdpoifdahadaaGreatDoor
open Go.RowKit
open Go.Lib (hid)
def cX (ts:List Tw):Nat->PSt->Hd->Option Hd × PSt
 | 0,st,_=>(none,st)
 | f+1,st,x=>match bV ts st x with
  | (none,s1)=>(none,s1)
  | (some y,s1)=>if isP ts s1 4 [44] then cX ts f (am s1) y else (some y,s1)
def n_ (ts:List Tw):Option Hd × PSt->Option Hd × PSt
 | (none,s2)=>(none,s2)
 | (some y,s2)=>if isP ts s2 4 [41]=true then (some y,am s2) else (none,bf s2)
def dC (ts:List Tw) (st:PSt):Option Hd × PSt :=
 if (bN ts st).1.2 then
  if isP ts (bN ts st).2 4 [41] then (some ⟨(bN ts st).1.1,[],0,0⟩,am (bN ts st).2)
  else n_ ts (cX ts (ts.length+1) (bN ts st).2 ⟨(bN ts st).1.1,[],0,0⟩)
 else (none,(bN ts st).2)
theorem iF (ts:List Tw) (st:PSt) (s:List UInt8) (h:(aW ts st s).1=true):(aW ts st s).2.nx=st.nx+1:=by
 unfold aW at h ⊢; split
 ·rfl
 ·rename_i h2; rw [if_neg h2] at h; cases h
theorem xH (ts:List Tw) (st:PSt) (h:(eH ts st).1.isSome=true):st.nx < (eH ts st).2.nx:=by
 unfold eH at h ⊢; split
 ·show st.nx < st.nx+1; omega
 ·rename_i h2; rw [if_neg h2] at h; cases h
theorem kX (ts:List Tw) (st:PSt) (x y:Hd) (h:(bV ts st x).1=some y):st.nx < (bV ts st x).2.nx/\y.args.length=x.args.length+1:=by
 unfold bV at h ⊢; split
 ·rename_i hc
  rw [if_pos hc] at h; split
  ·rename_i h1
   rw [if_pos h1] at h; have g1:=iF _ _ _ h1; have g2:=xH ts (aW ts (am st) [40]).2; generalize eH ts (aW ts (am st) [40]).2=r at *; obtain ⟨o,s2⟩:=r
   cases o with
   | none=>cases h
   | some t =>
    have g3:=g2 rfl; show st.nx < (if (aW ts s2 [41]).1=true then (some _,(aW ts s2 [41]).2) else (none,(aW ts s2 [41]).2):Option Hd × PSt).2.nx/\_; replace h:(if (aW ts s2 [41]).1=true then (some (⟨x.rel,x.args++[t],ga (br ts st.nx).text,x.args.length⟩:Hd),(aW ts s2 [41]).2) else (none,(aW ts s2 [41]).2)).1=some y:=h; by_cases h3:(aW ts s2 [41]).1=true
    ·rw [if_pos h3] at h ⊢
     cases h; have g4:=iF _ _ _ h3; have g5:(am st).nx=st.nx+1:=rfl; exact ⟨by show st.nx < (aW ts s2 [41]).2.nx; simp only at g3; omega,by simp⟩
    ·rw [if_neg h3] at h; cases h
  ·rename_i h1; rw [if_neg h1] at h; cases h
 ·rename_i hc
  rw [if_neg hc] at h; have g:=jO ts st; generalize aT ts st=r at *; obtain ⟨o,s1⟩:=r
  cases o with
  | none=>cases h
  | some t=>cases h; exact ⟨g rfl,by simp⟩
section
variable {pb rb T:Nat} {K:PK} {st st':PSt} {x:Hd} {w0 w w':World}
theorem HM.setRel (h:HM pb rb T K st ⟨[],[],0,0⟩ w0 w) (rel:List UInt8):HM pb rb T K st ⟨rel,[],0,0⟩ w0 (setLt w rb 0 false rel (.slice none 0 0)):=by
 have e0:=h.h0; have e1:=h.h1; obtain ⟨a,c,h3,h4⟩:=h.row; obtain ⟨st0,hb⟩:=h.base; have hF:=h.fr.setLt e0 0 false rel (.slice none 0 0); refine ⟨h.base,hb.fr hF ((bU (by omega)).trans h.pm.blk) h.pm.nx,hF,⟨none,0,?_,aO.nil _ _ _ _ _⟩,e0,e1⟩; have:=aC (aC (aC (aC h3 (i:=0) (iv 0)) (i:=1) (.bool false)) (i:=2) (sv rel)) (i:=3) (.slice none 0 0); simp at this; exact this
end
theorem wV (pb rb:Nat) (K:PK) (st:PSt) (w0 w:World) (h:HM pb rb 0 K st ⟨[],[],0,0⟩ w0 w) :
  Calls Tryz.prog 59 #[pt pb,pt rb] w (PHd pb rb K w0 (dC K.ts st)):=by
 obtain ⟨R,hR⟩:∃ R,R=dC K.ts st:=⟨_,rfl⟩; rw [← hR]; unfold dC at hR; have hh:=hid h; have hrel:=hid (jT pb K st _ h.pm); have hpr:=h.h1; obtain ⟨rp,hrp⟩:∃ rp,rp=bN K.ts st:=⟨_,rfl⟩; rw [← hrp] at hR hrel; replace hrp:=hid hrp; obtain ⟨⟨rel,rok⟩,st1⟩:=rp; replace hR:=hid hR; clear h
 go_enter Tryz.func59,Tryz.ntmps59
 go_wp2_with fail
 with_reducible refine hrel.out.mono ?_
 rintro e w1 ⟨rfl,hM1,hf1⟩; have hA1:=hid (show HM pb rb 0 K st1 ⟨[],[],0,0⟩ w0 w1 from hh.out.call hM1 hf1); clear hrel hM1 hf1
 cases rok with
 | false =>
  replace hR:=hid (show R=(none,st1) from hR.out)
  go_wp2_with fail
  go_ret; exact ⟨by rw [hR.out]; rfl,by rw [hR.out]; exact hA1.out.pm,hA1.out.fr,fun y hy=>by rw [hR.out] at hy; cases hy⟩
 | true =>
  obtain ⟨z,hz⟩:∃ z,isP K.ts st1 4 [41]=z:=⟨_,rfl⟩; have hA2:=hid (hA1.out.setRel rel); have hmk:=hid (cM pb K st1 [41] _ hA2.out.pm)
  have hT:bu K.ts st1 4 [41]=if z then (true,am st1) else (false,st1):=by unfold bu; rw [hz]
  rw [hT] at hmk; replace hR:=hid (show R=if z=true then (some ⟨rel,[],0,0⟩,am st1) else n_ K.ts (cX K.ts (K.ts.length+1) st1 ⟨rel,[],0,0⟩) from by rw [← hz]; exact hR.out); replace hz:=hid hz; obtain ⟨ax,cx,hrow,-⟩:=hA1.out.row; obtain ⟨r0,r1,r2,r3,r4,r5,r6,rz⟩:=gE hrow; have rz0:=rz 0; have rz1:=rz 1; have rz2:=rz 2; have rz3:=rz 3; clear hT rz; replace hrow:=hid hrow
  go_wp2_with fail
  with_reducible refine hmk.out.mono ?_
  rintro e w2 ⟨rfl,hM2,hf2⟩; have hA3:=hid (hA2.out.call hM2 hf2); clear hmk hM2 hf2 hA2
  cases z with
  | true =>
   replace hR:=hid (hR.out.trans (if_pos rfl)); replace hA3:=hid (show HM pb rb 0 K (am st1) ⟨rel,[],0,0⟩ w0 w2 from hA3.out)
   go_wp2_with fail
   go_ret; exact ⟨by rw [hR.out]; rfl,by rw [hR.out]; exact hA3.out.pm,hA3.out.fr,fun y hy=>by rw [hR.out] at hy; cases hy; rw [hR.out]; exact hA3.out⟩
  | false =>
   replace hA3:=hid (show HM pb rb 0 K st1 ⟨rel,[],0,0⟩ w0 w2 from hA3.out); obtain ⟨RES,hRES⟩:∃ RES,RES=cX K.ts (K.ts.length+1) st1 ⟨rel,[],0,0⟩:=⟨_,rfl⟩; replace hR:=hid (show R=n_ K.ts RES from hR.out.trans (by subst hRES; rfl)); have hnx1:=hA3.out.pm.nx; have hlen:=hA3.out.pm.len
   have htl:K.ts.length=K.toks.length:=by unfold PK.ts; rw [zY]
   replace hRES:=hid hRES; clear hA1 hh r0 r1 r2 r3 r4 r5 r6 hrow rz0 rz1 rz2 rz3
   go_wp2_with fail
   go_loopg [7] (K.toks.length+1 - st1.nx) (fun g v wr=>∃ (m:Bool) (f:Nat) (st2:PSt) (x:Hd),v=.bool m/\st2.nx+g=K.toks.length+1/\K.toks.length < f+st2.nx/\x.args.length<=st2.nx/\Hid ((if m then cX K.ts f st2 x else (some x,st2))=RES)/\Hid (HM pb rb 0 K st2 x w0 wr))
   case atStart =>
    exact ⟨true,K.ts.length+1,st1,⟨rel,[],0,0⟩,rfl,by omega,by omega,zW _,hid hRES.out.symm,hA3⟩
   case round =>
    obtain ⟨m,f,st2,x,rfl,hg,hfu,hal,hE,hA⟩:=hrel; clear hA3; have hn2:=hA.out.pm.nx
    cases m with
    | false =>
     replace hE:=hid (show (some x,st2)=RES from hE.out); have hR2:=hid (show R=n_ K.ts (some x,st2) from hR.out.trans (by rw [← hE.out])); have hneed:=hid (gH pb K st2 [41] _ hA.out.pm)
     cases hz2:isP K.ts st2 4 [41] with
     | true =>
      (have hnv:aW K.ts st2 [41]=(true,am st2):=by unfold aW; rw [if_pos hz2]);have hRv:=hid (show R=(some x,am st2) from hR2.out.trans ((if_pos hz2:(if isP K.ts st2 4 [41]=true then (some x,am st2) else (none,bf st2))=_))); rw [hnv] at hneed; replace hz2:=hid hz2; clear hnv;go_wp2_with fail;(with_reducible refine hneed.out.mono ?_);rintro e w3 ⟨rfl,hM3,hf3⟩; have hA4:=hid (show HM pb rb 0 K (am st2) x w0 w3 from hA.out.call hM3 hf3);go_wp2_with fail
      go_ret; exact ⟨by rw [hRv.out]; rfl,by rw [hRv.out]; exact hA4.out.pm,hA4.out.fr,fun y hy=>by rw [hRv.out] at hy; cases hy; rw [hRv.out]; exact hA4.out⟩
     | false =>
      (have hnv:aW K.ts st2 [41]=(false,bf st2):=by unfold aW; rw [if_neg (by rw [hz2]; decide)]);have hRv:=hid (show R=(none,bf st2) from hR2.out.trans ((if_neg (by rw [hz2]; decide):(if isP K.ts st2 4 [41]=true then (some x,am st2) else (none,bf st2))=_))); rw [hnv] at hneed; replace hz2:=hid hz2; clear hnv;go_wp2_with fail;(with_reducible refine hneed.out.mono ?_);rintro e w3 ⟨rfl,hM3,hf3⟩; have hA4:=hid (show HM pb rb 0 K (bf st2) x w0 w3 from hA.out.call hM3 hf3);go_wp2_with fail
      go_ret; exact ⟨by rw [hRv.out]; rfl,by rw [hRv.out]; exact hA4.out.pm,hA4.out.fr,fun y hy=>by rw [hRv.out] at hy; cases hy⟩
    | true =>
     obtain ⟨f,rfl⟩:∃ f',f=f'+1:=⟨f - 1,by omega⟩
     replace hE:=hid (show (match bV K.ts st2 x with
      | (none,s1)=>(none,s1)
      | (some y,s1)=>if isP K.ts s1 4 [44] then cX K.ts f (am s1) y else (some y,s1))=RES from hE.out)
     have hcall:=hid (qk pb rb K st2 x w0 wr hA.out (by omega)); have hnx:=kX K.ts st2 x; generalize bV K.ts st2 x=ro at *; obtain ⟨oy,s3⟩:=ro;go_wp2_with fail;(with_reducible refine hcall.out.mono ?_);rintro e w3 ⟨rfl,hM3,hf3,hS3⟩; clear hcall hA
     cases oy with
     | none =>
      replace hE:=hid (show (none,s3)=RES from hE.out); have hR2:=hid (show R=(none,s3) from hR.out.trans (by rw [← hE.out]; rfl)); replace hM3:=hid hM3; replace hf3:=hid hf3;go_wp2_with fail
      go_ret; exact ⟨by rw [hR2.out]; rfl,by rw [hR2.out]; exact hM3.out,hf3.out,fun y hy=>by rw [hR2.out] at hy; cases hy⟩
     | some y =>
      obtain ⟨hn3,hn4⟩:=hnx y rfl; replace hn3:st2.nx < s3.nx:=hn3; have hA4:=hid (show HM pb rb 0 K s3 y w0 w3 from hS3 y rfl); have hmk:=hid (cM pb K s3 [44] _ hA4.out.pm); obtain ⟨q,hq⟩:∃ q,isP K.ts s3 4 [44]=q:=⟨_,rfl⟩;(have hT:bu K.ts s3 4 [44]=if q then (true,am s3) else (false,s3):=by unfold bu; rw [hq]);rw [hT] at hmk; replace hE:=hid (show (if q=true then cX K.ts f (am s3) y else (some y,s3))=RES from by rw [← hq]; exact hE.out); replace hq:=hid hq; clear hT hM3 hf3 hS3 hnx;go_wp2_with fail;(with_reducible refine hmk.out.mono ?_);rintro e w4 ⟨rfl,hM4,hf4⟩; clear hmk
      cases q with
      | true =>
       replace hE:=hid (show cX K.ts f (am s3) y=RES from hE.out); have hA5:=hid (show HM pb rb 0 K (am s3) y w0 w4 from hA4.out.call hM4 hf4); have hn5:=hA5.out.pm.nx; have hn6:(am s3).nx=s3.nx+1:=rfl; clear hM4 hf4;go_wp2_with fail
       go_roundg (K.toks.length+1 - ((am s3)).nx)
       case measure=>omega
       case rel=>exact ⟨true,f,(am s3),y,rfl,by omega,by omega,by omega,hE,hA5⟩
      | false =>
       replace hE:=hid (show (some y,s3)=RES from hE.out); have hA5:=hid (show HM pb rb 0 K s3 y w0 w4 from hA4.out.call hM4 hf4); have hn5:=hA5.out.pm.nx; have hn6:(am s3).nx=s3.nx+1:=rfl; clear hM4 hf4;go_wp2_with fail
       go_roundg (K.toks.length+1 - (s3).nx)
       case measure=>omega
       case rel=>exact ⟨false,f,s3,y,rfl,by omega,by omega,by omega,hE,hA5⟩
end Go.Proofs.YtffdpoifdahadaaGreatDoor
