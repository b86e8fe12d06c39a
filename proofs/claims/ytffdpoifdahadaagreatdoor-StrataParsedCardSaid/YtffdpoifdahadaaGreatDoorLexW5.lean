/- LexW5: LexW2, LexW3, Builder, LexW4, LexW5, in one text. -/
import Derived.Test.YtffdpoifdahadaaGreatDoorLexP
import Derived.Laws.ResultCell
import Derived.Test.YtffdpoifdahadaaGreatDoorChecked
import Derived.Test.YtffdpoifdahadaaGreatDoorRel
import Derived.Lib.Strings
import Derived.Lib.Slices
import Derived.Lib.Walk
import Derived.Lib.Builder
import Derived.Lib.AppendStr
import Derived.Lib.UnsafeStr
import Derived.Laws.Externs
import Derived.Shelf.Strings.Builder1
import Derived.Laws.IdiomCopy
import Derived.Test.YtffdpoifdahadaaGreatDoorShelf
set_option linter.unusedVariables false
set_option linter.unusedSimpArgs false
set_option maxHeartbeats 40000000
set_option maxRecDepth 100000
namespace Go.Proofs.YtffdpoifdahadaaGreatDoor
open Go.RowKit
open Go.Lib (hid byteCells)
def tkc (t:Tk):List Value:=[iv t.kind,sv t.text,iv t.n,iv t.pos]
def tkv (t:Tk):Value:=.agg #[iv t.kind,sv t.text,iv t.n,iv t.pos]
def TR (R:Nat) (t:Tk) (w:World):Prop:=w.heap[R]? = some (.cells #[iv t.kind,sv t.text,iv t.n,iv t.pos] 95 (0,0))
def tk0:Tk:=⟨0,[],0,0⟩
theorem TR.cell {R:Nat} {t:Tk} {w:World} (h:TR R t w):w.cell? ⟨R,0,none⟩=some (iv t.kind)/\w.cell? ⟨R,1,none⟩=some (sv t.text)/\w.cell? ⟨R,2,none⟩=some (iv t.n)/\w.cell? ⟨R,3,none⟩=some (iv t.pos) :=
 ⟨(aj h).trans rfl,(aj h).trans rfl,(aj h).trans rfl,(aj h).trans rfl⟩
theorem TR.f {R:Nat} {t:Tk} {w:World} (h:TR R t w) (i:Nat):w.frozen? ⟨R,i,none⟩=false:=bX h
theorem TR.fr {R:Nat} {t:Tk} {w w':World} (h:TR R t w) {S:Nat->Prop} (hf:Fr S w w') (hs:¬ S R):TR R t w':=hf.keep h hs
theorem TR.below {R:Nat} {t:Tk} {w w':World} (h:TR R t w) (hf:Below w.heap.size w w'):TR R t w':=an hf h (ae h)
theorem TR.new (w:World):TR w.heap.size tk0 (w.alloc (.cells #[.int .i64 0,.string ⟨#[]⟩,.int .i64 0,.int .i64 0] 95)):=af _ _
theorem TR.set4 {R:Nat} {t:Tk} {w:World} (h:TR R t w) (y:Tk):TR R y ((((w.setCell ⟨R,0,none⟩ (iv y.kind)).setCell ⟨R,1,none⟩ (sv y.text)).setCell ⟨R,2,none⟩ (iv y.n)).setCell ⟨R,3,none⟩ (iv y.pos)):=by
 have a0:=aC (i:=0) h (iv y.kind); have a1:=aC (i:=1) a0 (sv y.text); have a2:=aC (i:=2) a1 (iv y.n); exact aC (i:=3) a2 (iv y.pos)
theorem co {S:Nat->Prop} {R:Nat} {a w:World} (h:Fr S a w) (hR:a.heap.size<=R) (v0 v1 v2 v3:Value):Fr S a ((((w.setCell ⟨R,0,none⟩ v0).setCell ⟨R,1,none⟩ v1).setCell ⟨R,2,none⟩ v2).setCell ⟨R,3,none⟩ v3) :=
 (((h.setCell (p:=⟨R,0,none⟩) (Or.inr hR) v0).setCell (p:=⟨R,1,none⟩) (Or.inr hR) v1).setCell (p:=⟨R,2,none⟩) (Or.inr hR) v2).setCell (p:=⟨R,3,none⟩) (Or.inr hR) v3
theorem Sc.other4 {b R:Nat} {s:List UInt8} {k:Nat} {w:World} (h:Sc b s k w) (hb:b≠R) (v0 v1 v2 v3:Value):Sc b s k ((((w.setCell ⟨R,0,none⟩ v0).setCell ⟨R,1,none⟩ v1).setCell ⟨R,2,none⟩ v2).setCell ⟨R,3,none⟩ v3) :=
 ((ak _ hb).trans ((ak _ hb).trans ((ak _ hb).trans (ak _ hb)))).trans h
def jb (b:Nat) (s:List UInt8) (w:World) (r:Except Int (Tk × List UInt8)) (e:Ending) (w':World):Prop :=
 Fr (one b) w w'/\match r with
 | .ok (t,r')=>e=.returned (.tuple #[tkv t,iv 0])/\Sc b s (s.length - r'.length) w'
 | .error x=>e=.returned (.tuple #[tkv tk0,iv x])
theorem wa (b:Nat) (s:List UInt8) (k:Nat) (w:World) (hS:Sc b s k w) (hk:k<=s.length) (hs:s.length<=140737488355328) :
  Calls Tryz.prog 52 #[pt b] w fun e w'=>e=.returned (tkv ⟨1,(s.drop k).takeWhile bP,0,0⟩)/\Sc b s (s.length - ((s.drop k).dropWhile bP).length) w'/\Fr (one b) w w':=by
 have hlt:=ae hS; have hwd:=hid (fun W h=>pf b s k W h hk hs); generalize (s.drop k).takeWhile bP=T at *; generalize s.length - ((s.drop k).dropWhile bP).length=k2 at *; replace hS:=hid hS
 go_enter Tryz.func52,Tryz.ntmps52
 go_wp2_with fail
 have hR:=hid (TR.new w); have hF:=hid ((Fr.refl (one b) w).alloc (.cells #[.int .i64 0,.string ⟨#[]⟩,.int .i64 0,.int .i64 0] 95)); replace hS:=hid (show Sc b s k (w.alloc (.cells #[.int .i64 0,.string ⟨#[]⟩,.int .i64 0,.int .i64 0] 95)) from (z7 _ _ _ hlt).trans hS.out); generalize w.alloc (.cells #[.int .i64 0,.string ⟨#[]⟩,.int .i64 0,.int .i64 0] 95)=w0 at *; refine (hwd.out w0 hS.out).mono ?_; rintro e w1 ⟨rfl,hS1,hF1⟩; have hR1:=hR.out.fr hF1 (by unfold one; omega); obtain ⟨c0,c1,c2,c3⟩:=hR1.cell; have f0:=hR1.f 0; have f1:=hR1.f 1; have f2:=hR1.f 2; have f3:=hR1.f 3; have hfin:=hid (hR1.set4 ⟨1,T,0,0⟩); have hFf:=hid (co (R:=w.heap.size) (hF.out.trans hF1) (zM _) (iv 1) (sv T) (iv 0) (iv 0))
 have hSf:=hid (hS1.other4 (R:=w.heap.size) (by omega) (iv 1) (sv T) (iv 0) (iv 0)); clear hS1 hF1 hR1 hS hR hF hwd
 go_wp2_with fail
 refine bodyPost_ret (v:=tkv ⟨1,T,0,0⟩) (results_cell_row (by rfl) _ _ w.heap.size 95 _ (0,0) _ (by rfl) hfin.out Tryz.underlying95 rfl (by kernel_rfl)) rfl ⟨rfl,hSf.out,hFf.out⟩
theorem bT {fn:Func} {p u:Tmp} (h:fn.results=#[.cell p 95,.tmp u]) (tmps:Array Value) (w:World) (R:Nat) (t:Tk) (x:Int) (hp:tmps.getD p undef=.pointer (some ⟨R,0,none⟩)) (hu:tmps.getD u undef=iv x) (hR:TR R t w) :
  (results fn tmps).run Tryz.prog w=.ok (.tuple #[tkv t,iv x]) w:=by
 rw [results_cell_tmp h,hp,hu]; simp only [asAddr,Sem.run_pure,Result.andThen_ok]; rw [run_loadVar_row w R 95 95 _ (0,0) _ hR Tryz.underlying95 rfl (by kernel_rfl)]; rfl
theorem tm {s:List UInt8} (h:s≠[]):∃ c r,s=c::r:=by
 cases s with
 | nil=>exact absurd rfl h
 | cons c r=>exact ⟨c,r,rfl⟩
theorem qf (b:Nat) (s:List UInt8) (k:Nat) (w:World) (hS:Sc b s k w) (hk:k<=s.length) (hs:s.length<=140737488355328) (hne:(s.drop k).takeWhile bP≠[]) :
  Calls Tryz.prog 54 #[pt b] w (jb b s w (dQ (s.drop k))):=by
 have hlt:=ae hS; have hwd:=hid (fun W h=>pf b s k W h hk hs)
 have hTl:((s.drop k).takeWhile bP).length<=s.length:=by
  have h1:=(List.takeWhile_prefix bP (l:=s.drop k)).length_le; rw [List.length_drop] at h1; omega
 obtain ⟨res,hres⟩:∃ r,r=dQ (s.drop k):=⟨_,rfl⟩; rw [← hres]; unfold dQ at hres; generalize (s.drop k).takeWhile bP=T at *; generalize (s.drop k).dropWhile bP=D at *; replace hS:=hid hS; replace hres:=hid hres; obtain ⟨post,hpost⟩:∃ p,p=jb b s w res:=⟨_,rfl⟩; rw [← hpost]; replace hpost:=hid hpost
 go_enter Tryz.func54,Tryz.ntmps54
 go_wp2_with fail
 have hR:=hid (TR.new w); have hF:=hid ((Fr.refl (one b) w).alloc (.cells #[.int .i64 0,.string ⟨#[]⟩,.int .i64 0,.int .i64 0] 95)); replace hS:=hid (show Sc b s k (w.alloc (.cells #[.int .i64 0,.string ⟨#[]⟩,.int .i64 0,.int .i64 0] 95)) from (z7 _ _ _ hlt).trans hS.out); generalize w.alloc (.cells #[.int .i64 0,.string ⟨#[]⟩,.int .i64 0,.int .i64 0] 95)=w0 at *; refine (hwd.out w0 hS.out).mono ?_; rintro e w1 ⟨rfl,hS1,hF1⟩; have hR1:=hR.out.fr hF1 (by unfold one; omega); have hF2:=hid (hF.out.trans hF1); replace hR1:=hid hR1; replace hS1:=hid hS1
 have hsz:(ByteArray.mk T.toArray).size=T.length:=by rw [ByteArray.size_mk',List.size_toArray]
 clear hS hR hF hwd hF1
 go_wp2_with fail
 go_loop [12] (fun i=>∃ k:Nat,i=.int .i64 k/\k<=T.length/\Hid ((T.take k).all dE=true)) (fun i=>T.length - (intOf i).toNat)
 case atStart=>exact ⟨0,rfl,zW _,hid rfl⟩
 case round =>
  obtain ⟨j,rfl,hj,hall⟩:=hrel; by_cases hl2:j < T.length
  ·have q1:decide ((j:Int) < (T.length:Int))=true:=zP (by omega)
   have q1i:(j:Int) < (T.length:Int):=by omega
   obtain ⟨d,hd⟩:∃ d,T[j]? = some d:=⟨_,zR hl2⟩; have hix:=eP (P:=Tryz.prog) 9 (by kernel_rfl) T j d hd; have hw:=hid (fun W=>iK d W); have hst:=jh hd dE; rw [hall.out,Bool.true_and] at hst
   have hfl:=fun h=>iR hd (p:=dE) h
   replace hst:=hid hst; replace hd:=hid hd
   cases hwd:dE d with
   | true =>
    rw [hwd] at hw hst; clear hwd hfl;go_wp2_with fail;refine (hw.out _).mono ?_; rintro e w2 ⟨rfl,rfl⟩;go_wp2_with fail;exact ⟨⟨j+1,by go_num,by omega,hst⟩,by simp [intOf]; omega⟩
   | false =>
    (have hv:res=.error 2:=by rw [hres.out]; unfold lg; rw [if_pos (hfl hwd)]);rw [hwd] at hw; replace hv:=hid hv; clear hwd hfl hst; obtain ⟨c0,c1,c2,c3⟩:=hR1.out.cell; have f0:=hR1.out.f 0; have f1:=hR1.out.f 1; have f2:=hR1.out.f 2; have f3:=hR1.out.f 3; have hfin:=hid (hR1.out.set4 tk0); have hFf:=hid (co (R:=w.heap.size) hF2.out (zM _) (iv 0) (sv []) (iv 0) (iv 0));go_wp2_with fail;refine (hw.out _).mono ?_; rintro e w2 ⟨rfl,rfl⟩;go_wp2_with fail;refine bodyPost_ret (v:=.tuple #[tkv tk0,iv 2]) (bT (by rfl) _ _ w.heap.size tk0 2 (by rfl) (by rfl) hfin.out) rfl ?_; rw [hpost.out,hv.out]; exact ⟨hFf.out,rfl⟩
  ·have hjl:j=T.length:=by omega
   have hall':T.all dE=true:=by have:=hall.out; rwa [hjl,List.take_length] at this
   have q1:decide ((j:Int) < (T.length:Int))=false:=zO (by omega)
   have q1i:¬ (j:Int) < (T.length:Int):=by omega
   obtain ⟨c,r,hcr⟩:=tm hne; subst hcr
   have hi1:lg (c::r)=if (c::r).head? = some 48/\(c::r)≠[48] then .error 2 else match parse (c::r) 0 9007199254740992 with | some n=>.ok n | none=>.error 6:=by
    unfold lg; rw [if_neg (by rw [hall']; decide)]; try rfl
   have hix0:=f8 (P:=Tryz.prog) 9 (by kernel_rfl) c r; clear hall hall' hl2 hj; by_cases h48:c=48
   ·subst h48
    cases r with
    | nil =>
     have hint:lg [48]=match parse [48] 0 9007199254740992 with | some n=>.ok n | none=>.error 6:=by rw [hi1,if_neg]; simp
     clear hi1; obtain ⟨pr,hpr⟩:∃ pr,pr=parse [48] 0 9007199254740992:=⟨_,rfl⟩; have hpa:=hid (fun W=>ku [48] 0 9007199254740992 W (by omega)); rw [← hpr] at hpa hint; clear hpr
     cases pr with
     | none =>
      have hv:=hid (show res=.error 6 by rw [hres.out,hint]); clear hint;go_wp2_with fail;refine (hpa.out _).mono ?_; rintro e w2 ⟨rfl,hb2⟩; replace hF2:=hid (hF2.out.trans (Fr.of_below hb2 _)); replace hR1:=hid (hR1.out.below hb2); clear hb2 hpa; obtain ⟨c0,c1,c2,c3⟩:=hR1.out.cell; have f0:=hR1.out.f 0; have f1:=hR1.out.f 1; have f2:=hR1.out.f 2; have f3:=hR1.out.f 3; have hfin:=hid (hR1.out.set4 tk0); have hFf:=hid (co (R:=w.heap.size) hF2.out (zM _) (iv 0) (sv []) (iv 0) (iv 0));go_wp2_with fail;refine bodyPost_ret (v:=.tuple #[tkv tk0,iv 6]) (bT (by rfl) _ _ w.heap.size tk0 6 (by rfl) (by rfl) hfin.out) rfl ?_; rw [hpost.out,hv.out]; exact ⟨hFf.out,rfl⟩
     | some n =>
      have hv:=hid (show res=.ok (⟨2,[],n,0⟩,D) by rw [hres.out,hint]); clear hint;go_wp2_with fail;refine (hpa.out _).mono ?_; rintro e w2 ⟨rfl,hb2⟩; replace hF2:=hid (hF2.out.trans (Fr.of_below hb2 _)); replace hR1:=hid (hR1.out.below hb2); replace hS1:=hid (hS1.out.below hb2); clear hb2 hpa; obtain ⟨c0,c1,c2,c3⟩:=hR1.out.cell; have f0:=hR1.out.f 0; have f1:=hR1.out.f 1; have f2:=hR1.out.f 2; have f3:=hR1.out.f 3; have hfin:=hid (hR1.out.set4 ⟨2,[],n,0⟩); have hFf:=hid (co (R:=w.heap.size) hF2.out (zM _) (iv 2) (sv []) (iv n) (iv 0)); have hSf:=hid (hS1.out.other4 (R:=w.heap.size) (by omega) (iv 2) (sv []) (iv n) (iv 0));go_wp2_with fail;refine bodyPost_ret (v:=.tuple #[tkv ⟨2,[],n,0⟩,iv 0]) (bT (by rfl) _ _ w.heap.size ⟨2,[],n,0⟩ 0 (by rfl) (by rfl) hfin.out) rfl ?_; rw [hpost.out,hv.out]; exact ⟨hFf.out,rfl,hSf.out⟩
    | cons d r =>
     (have hint:lg (48::d::r)=.error 2:=by rw [hi1,if_pos]; simp);have hv:=hid (show res=.error 2 by rw [hres.out,hint]);(have hstr:((48::d::r) == ([48]:List UInt8))=false:=by simp);(have hstr2:¬ (48::d::r)=([48]:List UInt8):=by simp);clear hint hi1; obtain ⟨c0,c1,c2,c3⟩:=hR1.out.cell; have f0:=hR1.out.f 0; have f1:=hR1.out.f 1; have f2:=hR1.out.f 2; have f3:=hR1.out.f 3; have hfin:=hid (hR1.out.set4 tk0); have hFf:=hid (co (R:=w.heap.size) hF2.out (zM _) (iv 0) (sv []) (iv 0) (iv 0));go_wp2_with fail;refine bodyPost_ret (v:=.tuple #[tkv tk0,iv 2]) (bT (by rfl) _ _ w.heap.size tk0 2 (by rfl) (by rfl) hfin.out) rfl ?_; rw [hpost.out,hv.out]; exact ⟨hFf.out,rfl⟩
   ·obtain ⟨b1,b1',b1''⟩:((c.toNat:Int) == 48)=false/\¬ ((c.toNat:Int)=48)/\¬ c.toNat=48:=bn c 48 48 rfl h48
    have hint:lg (c::r)=match parse (c::r) 0 9007199254740992 with | some n=>.ok n | none=>.error 6:=by rw [hi1,if_neg]; simp [h48]
    clear hi1 h48
    ·skip
     obtain ⟨pr,hpr⟩:∃ pr,pr=parse (c::r) 0 9007199254740992:=⟨_,rfl⟩; have hpa:=hid (fun W=>ku (c::r) 0 9007199254740992 W (by omega)); rw [← hpr] at hpa hint; clear hpr
     cases pr with
     | none =>
      have hv:=hid (show res=.error 6 by rw [hres.out,hint]); clear hint;go_wp2_with fail;refine (hpa.out _).mono ?_; rintro e w2 ⟨rfl,hb2⟩; replace hF2:=hid (hF2.out.trans (Fr.of_below hb2 _)); replace hR1:=hid (hR1.out.below hb2); clear hb2 hpa; obtain ⟨c0,c1,c2,c3⟩:=hR1.out.cell; have f0:=hR1.out.f 0; have f1:=hR1.out.f 1; have f2:=hR1.out.f 2; have f3:=hR1.out.f 3; have hfin:=hid (hR1.out.set4 tk0); have hFf:=hid (co (R:=w.heap.size) hF2.out (zM _) (iv 0) (sv []) (iv 0) (iv 0));go_wp2_with fail;refine bodyPost_ret (v:=.tuple #[tkv tk0,iv 6]) (bT (by rfl) _ _ w.heap.size tk0 6 (by rfl) (by rfl) hfin.out) rfl ?_; rw [hpost.out,hv.out]; exact ⟨hFf.out,rfl⟩
     | some n =>
      have hv:=hid (show res=.ok (⟨2,[],n,0⟩,D) by rw [hres.out,hint]); clear hint;go_wp2_with fail;refine (hpa.out _).mono ?_; rintro e w2 ⟨rfl,hb2⟩; replace hF2:=hid (hF2.out.trans (Fr.of_below hb2 _)); replace hR1:=hid (hR1.out.below hb2); replace hS1:=hid (hS1.out.below hb2); clear hb2 hpa; obtain ⟨c0,c1,c2,c3⟩:=hR1.out.cell; have f0:=hR1.out.f 0; have f1:=hR1.out.f 1; have f2:=hR1.out.f 2; have f3:=hR1.out.f 3; have hfin:=hid (hR1.out.set4 ⟨2,[],n,0⟩); have hFf:=hid (co (R:=w.heap.size) hF2.out (zM _) (iv 2) (sv []) (iv n) (iv 0)); have hSf:=hid (hS1.out.other4 (R:=w.heap.size) (by omega) (iv 2) (sv []) (iv n) (iv 0));go_wp2_with fail;refine bodyPost_ret (v:=.tuple #[tkv ⟨2,[],n,0⟩,iv 0]) (bT (by rfl) _ _ w.heap.size ⟨2,[],n,0⟩ 0 (by rfl) (by rfl) hfin.out) rfl ?_; rw [hpost.out,hv.out]; exact ⟨hFf.out,rfl,hSf.out⟩
end Go.Proofs.YtffdpoifdahadaaGreatDoor
namespace Go.Proofs.YtffdpoifdahadaaGreatDoor
open Go.RowKit
open Go.Lib (hid byteCells)
theorem wh {R:List UInt8} {z m:Nat} (hm:m=min 2 R.length) (h1:1<=z) (h2:z<=m) (hz:eO (R.take z)=true) (hb:∀ q,z < q->q<=m->eO (R.take q)=false):mkF R=some z:=by
 unfold mkF
 have:z=1\/z=2:=by omega
 rcases this with rfl | rfl
 ·rw [if_neg,if_pos ⟨by omega,hz⟩]
  rintro ⟨a,b⟩; rw [hb 2 (by omega) (by omega)] at b; cases b
 ·rw [if_pos ⟨by omega,hz⟩]
theorem wj {R:List UInt8} {m:Nat} (hm:m=min 2 R.length) (hb:∀ q,0 < q->q<=m->eO (R.take q)=false):mkF R=none:=by
 unfold mkF; rw [if_neg,if_neg]
 ·rintro ⟨a,b⟩
  rw [hb 1 (by omega) (by omega)] at b; cases b
 ·rintro ⟨a,b⟩
  rw [hb 2 (by omega) (by omega)] at b; cases b
theorem wm (b:Nat) (s:List UInt8) (k:Nat) (w:World) (hS:Sc b s k w) (hk:k < s.length) (hs:s.length<=140737488355328) :
  Calls Tryz.prog 56 #[pt b] w (jb b s w (gp (s.drop k))):=by
 have hlt:=ae hS; obtain ⟨res,hres⟩:∃ r,r=gp (s.drop k):=⟨_,rfl⟩; rw [← hres]; replace hS:=hid hS; replace hres:=hid hres; obtain ⟨post,hpost⟩:∃ p,p=jb b s w res:=⟨_,rfl⟩; rw [← hpost]; replace hpost:=hid hpost; obtain ⟨m,hm⟩:∃ m,m=min 2 (s.drop k).length:=⟨_,rfl⟩
 have hml:m=min 2 (s.length - k):=by rw [hm,List.length_drop]
 replace hm:=hid hm; have hR:=hid (TR.new w); have hF:=hid ((Fr.refl (one b) w).alloc (.cells #[.int .i64 0,.string ⟨#[]⟩,.int .i64 0,.int .i64 0] 95)); replace hS:=hid (show Sc b s k (w.alloc (.cells #[.int .i64 0,.string ⟨#[]⟩,.int .i64 0,.int .i64 0] 95)) from (z7 _ _ _ hlt).trans hS.out); have c0:=hS.out.c0; have c1:=hS.out.c1
 have e1:IntKind.i64.wrap ((s.length:Int) - (k:Int))=((s.length - k:Nat):Int):=by rw [c_ _ (by omega) (by omega)]; omega
 have hmin:min (2:Int) ((s.length - k:Nat):Int)=(m:Int):=by omega
 have hm2:m<=2:=by omega
 have hm3:m<=s.length - k:=by omega
 replace hml:=hid hml
 go_enter Tryz.func56,Tryz.ntmps56
 go_wp2_with fail
 generalize w.alloc (.cells #[.int .i64 0,.string ⟨#[]⟩,.int .i64 0,.int .i64 0] 95)=w0 at *
 go_quiet (fail)
 replace hS:=hid (show Sc b s k (w0.drewN nq) from hS.out); replace hR:=hid (show TR w.heap.size tk0 (w0.drewN nq) from hR.out); replace hF:=hid (cU hF.out nq); clear c0 c1 hmin e1; generalize w0.drewN nq=w1 at *
 go_wp2_with fail
 go_loopw [4] (fun z wr=>∃ n:Nat,z=.int .i64 n/\n<=m/\Hid (∀ q,n < q->q<=m->eO ((s.drop k).take q)=false)/\Hid (Sc b s k wr)/\Hid (TR w.heap.size tk0 wr)/\Hid (Fr (one b) w wr)) (fun z _=>(intOf z).toNat)
 case atStart=>exact ⟨m,rfl,zM _,hid (fun q h1 h2=>by omega),hS,hR,hF⟩
 case round =>
  clear hS hR hF; obtain ⟨z,rfl,hz,hno,hS,hR,hF⟩:=hrel; by_cases h0:0 < z
  ·have q1:decide ((z:Int) > 0)=true:=zP (by omega)
   have q1i:(0:Int) < (z:Int):=by omega
   have c0:=hS.out.c0; have c1:=hS.out.c1; have e1:IntKind.i64.wrap ((k:Int)+(z:Int))=(k:Int)+(z:Int):=c_ _ (by omega) (by omega)
   have e2:IntKind.i64.wrap ((z:Int) - 1)=((z - 1:Nat):Int):=by rw [c_ _ (by omega) (by omega)]; omega
   have hex:=oX s ((s.drop k).take z) ((s.drop k).drop z) k (k+z) (List.take_append_drop _ _).symm (by rw [Ah,List.length_drop]; omega)
   have n1:((k:Int)+(z:Int)).toNat=k+z:=by omega
   have l0:(0:Int)<=(k:Int):=by omega
   have l1:(k:Int)<=(k:Int)+(z:Int):=by omega
   have l2:(k:Int)+(z:Int)<=(s.length:Int):=by omega
   have hmk:=hid (fun W=>mE ((s.drop k).take z) W)
   have hres2:eO ((s.drop k).take z)=true->Hid (res=.ok (⟨4,(s.drop k).take z,0,0⟩,(s.drop k).drop z)):=fun h=>hid (by
    rw [hres.out]; unfold gp; rw [wh hm.out (by omega) hz h hno.out])
   have hno2:eO ((s.drop k).take z)=false->Hid (∀ q,z - 1 < q->q<=m->eO ((s.drop k).take q)=false):=fun h=>hid (fun q h1 h2=>by
    by_cases hq:q=z
    ·rw [hq]; exact h
    ·exact hno.out q (by omega) h2)
   have hlen:s.length - ((s.drop k).drop z).length=k+z:=by rw [List.length_drop,List.length_drop]; omega
   generalize (s.drop k).take z=U at *; generalize (s.drop k).drop z=D at *
   go_wp2_with fail
   go_quiet (fail)
   replace hS:=hid (show Sc b s k (wr.drewN nq) from hS.out); replace hR:=hid (show TR w.heap.size tk0 (wr.drewN nq) from hR.out); replace hF:=hid (cU hF.out nq); clear c0 c1 hex; generalize wr.drewN nq=w2 at *
   go_wp2_with fail
   cases hmz:eO U with
   | true =>
    have hv:=hres2 hmz; rw [hmz] at hmk; clear hmz hres2 hno2; refine (hmk.out _).mono ?_; rintro e w3 ⟨rfl,rfl⟩; have c1:=hS.out.c1; have f1:=hS.out.f 1; obtain ⟨t0,t1,t2,t3⟩:=hR.out.cell; have g0:=hR.out.f 0; have g1:=hR.out.f 1; have g2:=hR.out.f 2; have g3:=hR.out.f 3; have hSs:=hS.out.set (k+z); have hFs:=j9 hF.out 1 (iv (k+z:Nat)); have hRs:TR w.heap.size tk0 (w3.setCell ⟨b,1,none⟩ (iv (k+z:Nat))):=(ak _ (by omega)).trans hR.out; rw [show ((k+z:Nat):Int)=(k:Int)+(z:Int) by omega] at hSs hFs hRs; have hfin:=hid (hRs.set4 ⟨4,U,0,0⟩); have hFf:=hid (co (R:=w.heap.size) hFs (zM _) (iv 4) (sv U) (iv 0) (iv 0)); have hSf:=hid (hSs.other4 (R:=w.heap.size) (by omega) (iv 4) (sv U) (iv 0) (iv 0)); clear hSs hFs hRs hS hF hR;go_wp2_with fail;refine bodyPost_ret (v:=.tuple #[tkv ⟨4,U,0,0⟩,iv 0]) (bT (by rfl) _ _ w.heap.size ⟨4,U,0,0⟩ 0 (by rfl) (by rfl) hfin.out) rfl ?_; rw [hpost.out,hv.out]; exact ⟨hFf.out,rfl,by rw [hlen]; exact hSf.out⟩
   | false =>
    have hno3:=hno2 hmz; rw [hmz] at hmk; clear hmz hres2 hno2; refine (hmk.out _).mono ?_; rintro e w3 ⟨rfl,rfl⟩;go_wp2_with fail;refine ⟨?_,by simp [intOf]; omega⟩
    repeat (first | exact ⟨⟨z - 1,rfl,by omega,hno3,hS,hR,hF⟩,rfl⟩ | exact ⟨z - 1,rfl,by omega,hno3,hS,hR,hF⟩ | apply Exists.intro)
  ·have hz0:z=0:=by omega
   subst hz0; have hv:=hid (show res=.error 2 by rw [hres.out]; unfold gp; rw [wj hm.out hno.out]); clear h0 hz; obtain ⟨t0,t1,t2,t3⟩:=hR.out.cell; have g0:=hR.out.f 0; have g1:=hR.out.f 1; have g2:=hR.out.f 2; have g3:=hR.out.f 3; have hfin:=hid (hR.out.set4 tk0); have hFf:=hid (co (R:=w.heap.size) hF.out (zM _) (iv 0) (sv []) (iv 0) (iv 0))
   go_wp2_with fail
   refine bodyPost_ret (v:=.tuple #[tkv tk0,iv 2]) (bT (by rfl) _ _ w.heap.size tk0 2 (by rfl) (by rfl) hfin.out) rfl ?_; rw [hpost.out,hv.out]; exact ⟨hFf.out,rfl⟩
end Go.Proofs.YtffdpoifdahadaaGreatDoor
namespace Go.Proofs.YtffdpoifdahadaaGreatDoor
open Go.RowKit

theorem o8:(Tryz.prog.info? 109).map (·.size)=some 2:=by kernel_rfl
theorem yE:liesAt Tryz.prog Tryz.prog.depth 109 (2 / Tryz.prog.cellsOf 109) 0 109 1=true:=by kernel_rfl
theorem kf:(Tryz.prog.info? 5).map (fun i=>(i.zero,i.size,i.bytes))=some (some (.int .u8 0),1,1):=by kernel_rfl

theorem f_ (b:Nat) (w:World) (h0:w.cell? ⟨b,0,none⟩=some (.pointer (some ⟨b,0,none⟩))) :
  Calls Tryz.prog 69 #[.pointer (some ⟨b,0,none⟩)] w fun e w'=>e=.returned (.tuple #[])/\w'=w:=by
 obtain ⟨j,hj,_⟩:=Option.map_eq_some_iff.1 o8
 go_enter Tryz.func69,Tryz.ntmps69
 go_wp2
 rw [Lib.run_neq_ptr_same w _ Tryz.underlying106 hj]
 go_wp2
 go_end0
 exact ⟨rfl,rfl⟩

theorem ip (b:Nat) (w:World) (h0:w.cell? ⟨b,0,none⟩=some (.pointer none)) (hsh:w.shape? b=some (109,2)) (hfz:w.frozen? ⟨b,0,none⟩=false) :
  Calls Tryz.prog 69 #[.pointer (some ⟨b,0,none⟩)] w fun e w'=>e=.returned (.tuple #[])/\w'=w.setCell ⟨b,0,none⟩ (.pointer (some ⟨b,0,none⟩)):=by
 obtain ⟨j,hj,hjs⟩:=Option.map_eq_some_iff.1 o8
 go_enter Tryz.func69,Tryz.ntmps69
 go_wp2
 rw [Lib.run_to_unsafe w ⟨b,0,none⟩ Tryz.underlying106 Tryz.underlying167 hj (by rw [hjs]; decide) hsh (Nat.zero_lt_succ 1)]; simp only [Result.andThen]; rw [Oper.upon_value]
 go_wp2
 rw [run_callFunc_extern Tryz.func100 (by kernel_rfl) (by kernel_rfl) (by kernel_rfl) (e:=Extern.AbiNoEscape.same) (by kernel_rfl)]; rw [Lib.run_noEscape]; simp only [Result.andThen]; rw [Oper.upon_value]
 go_wp2
 rw [Lib.run_from_unsafe w ⟨b,0,none⟩ Tryz.underlying167 Tryz.underlying106 hj hsh yE]; simp only [Result.andThen]; rw [Oper.upon_value]
 go_wp2
 go_end0
 exact ⟨rfl,rfl⟩

theorem uF (B b:Nat) (bs:List Value) (w:World) (h:Lib.IsBuilder 109 5 B b bs w) :
  Calls Tryz.prog 69 #[.pointer (some ⟨b,0,none⟩)] w fun e w'=>e=.returned (.tuple #[])/\(Lib.BuilderAt 109 5 B b (.pointer (some ⟨b,0,none⟩)) bs w'/\Below B w w'):=by
 rcases h with h | h
 ·refine (ip b w h.cell0 h.shape h.frozen0).mono ?_
  rintro e w' ⟨rfl,rfl⟩; exact ⟨rfl,h.used _,(zN B w).setCell (p:=⟨b,0,none⟩) h.1 _⟩
 ·refine (f_ b w h.cell0).mono ?_
  rintro e w' ⟨rfl,rfl⟩; exact ⟨rfl,h,zN B _⟩

def kU:Go.Shelf.Ren:=⟨fun | 169=>46 | n=>n,fun | 70=>106 | 9=>9 | 0=>0 | 72=>109 | 37=>107 | 127=>138 | 3=>3 | 5=>5 | n=>n,fun | n=>n⟩
theorem yn:Go.Proofs.Lays.n169 Tryz.prog kU:={
 mixed:=by kernel_rfl
 f169:=Tryz.func46.trans (congrArg some (by kernel_rfl))
 t0:=Tryz.underlying0
 a0:=Tryz.isAgg0
 z0:=Tryz.sizeOf0
 v0:=Tryz.zeroValue0
 t3:=Tryz.underlying3
 a3:=Tryz.isAgg3
 z3:=Tryz.sizeOf3
 v3:=Tryz.zeroValue3
 t9:=Tryz.underlying9
 a9:=Tryz.isAgg9
 z9:=Tryz.sizeOf9
 v9:=Tryz.zeroValue9
 t37:=Tryz.underlying107
 a37:=Tryz.isAgg107
 z37:=Tryz.sizeOf107
 v37:=Tryz.zeroValue107
 t70:=Tryz.underlying106
 a70:=Tryz.isAgg106
 z70:=Tryz.sizeOf106
 v70:=Tryz.zeroValue106
 t72:=Tryz.underlying109
 a72:=Tryz.isAgg109
 z72:=Tryz.sizeOf109
 v72:=Tryz.zeroValue109
 t127:=Tryz.underlying138
 a127:=Tryz.isAgg138
 z127:=Tryz.sizeOf138
 v127:=Tryz.zeroValue138 }
theorem wX:Builder.Extra Tryz.prog kU:={
 sizeBuilder:=by kernel_rfl
 liesBuilder:=by kernel_rfl
 t5:=Tryz.underlying5
 a5:=Tryz.isAgg5
 z5:=Tryz.sizeOf5
 v5:=Tryz.zeroValue5
 infoByte:=by kernel_rfl
 cellsByte:=by kernel_rfl
 sizeByte:=by kernel_rfl
 neB5:=by decide }

theorem od (B b:Nat) (l:List UInt8) (w:World) (h:Lib.IsBuilder 109 5 B b (Lib.byteCells l) w) (hBw:B<=w.heap.size) :
  Calls Tryz.prog 46 #[.pointer (some ⟨b,0,none⟩)] w fun e w'=>e=.returned (.string ⟨l.toArray⟩)/\Below B w w':=Any.Builder_String_any yn wX B b l w h hBw

theorem uM (w:World):Lib.IsBuilder 109 5 w.heap.size w.heap.size [] (w.alloc (.cells #[.pointer none,.slice none 0 0] 109)) :=
 Or.inl ⟨zM _,_,af _ _,World.ownsRow_nil _ _ _ _,by simp [Value.ownBlock]⟩
end Go.Proofs.YtffdpoifdahadaaGreatDoor
namespace Go.Proofs.YtffdpoifdahadaaGreatDoor
open Go.RowKit
open Go.Lib (hid byteCells)
theorem nU (w:World) (v:Value) (t:TypeId):∀ j u,([v]:List Value)[j]? = some u->(w.alloc (.cells #[v] t)).cell? ((⟨w.heap.size,0,none⟩:Addr).add j)=some u:=by
 intro j u hj
 cases j with
 | zero =>
  simp at hj; subst hj
  have e:(⟨w.heap.size,0,none⟩:Addr).add 0=⟨w.heap.size,0,none⟩:=by simp [Addr.add]
  rw [e,aj (af w _)]; rfl
 | succ j=>simp at hj
theorem tu (B b:Nat) (l:List UInt8) (c:UInt8) (w:World) (h:Lib.IsBuilder 109 5 B b (byteCells l) w) (hlen:l.length<=140737488355327) (hBw:B<=w.heap.size) :
  Calls Tryz.prog 85 #[.pointer (some ⟨b,0,none⟩),bv c] w fun e w'=>e=.returned .nilIface/\(Lib.IsBuilder 109 5 B b (byteCells (l++[c])) w'/\Below B w w'):=by
 obtain ⟨i0,hi,hz0,hz1,hz2⟩:=info_parts kf; have hbl:(byteCells l).length=l.length:=Lib.byteCells_length l
 go_enter Tryz.func85,Tryz.ntmps85
 go_wp2_with (go_at_call 69; refine (uF B b _ _ h).mono ?_)
 rintro e w1 ⟨rfl,h1,hb1⟩; obtain ⟨hB,v,hbk,hown,hne⟩:=h1
 have c0:w1.cell? ⟨b,0,none⟩=some (.pointer (some ⟨b,0,none⟩)):=by rw [Lib.cell_of_heap hbk]; rfl
 have c1:w1.cell? ⟨b,1,none⟩=some v:=by rw [Lib.cell_of_heap hbk]; rfl
 have hs1:=hb1.size; have hltb:b < w1.heap.size:=ae hbk
 have hown0:(w1.alloc (.cells #[bv c] 5)).ownsRow B 5 1 v l.length (byteCells l):=by rw [hbl] at hown; exact hown.alloc _
 go_wp2_with (at_builtin; refine wpList_append_own _ rfl (.tmp 11) (.tmp 13) 107 rfl B 5 i0 (.int .u8 0) 1 1 Tryz.underlying107 hi hz0 hz1 hz2 rfl (by decide) _ _ _ rfl hown0 ⟨w1.heap.size,0,none⟩ 1 1 [bv c] rfl rfl (nU _ _ _) (m8 rfl) (by unfold maxLen; omega) (by omega) (by simp; omega) ?_)
 intro v' w2 hown' hgrow _; have hbk':(w1.alloc (.cells #[bv c] 5)).heap[b]? = some (.cells #[.pointer (some ⟨b,0,none⟩),v] 109 (0,0)):=(z7 _ _ _ hltb).trans hbk; have hlt:b < (w1.alloc (.cells #[bv c] 5)).heap.size:=ae hbk'
 have hb2:w2.heap[b]? = some (.cells #[.pointer (some ⟨b,0,none⟩),v] 109 (0,0)):=by
  rw [hgrow.block b hlt (fun e=>hne e.symm)]; exact hbk'
 have d0:w2.cell? ⟨b,0,none⟩=some (.pointer (some ⟨b,0,none⟩)):=by rw [Lib.cell_of_heap hb2]; rfl
 have d1:w2.cell? ⟨b,1,none⟩=some v:=by rw [Lib.cell_of_heap hb2]; rfl
 have f1:w2.frozen? ⟨b,1,none⟩=false:=Lib.frozen_of_heap hb2 1
 obtain ⟨ao,cap,rfl⟩:∃ ao cap,v'=.slice ao (l.length+1) cap:=by
  rcases hown'.2 with ⟨hv,h0⟩ | ⟨g,cap,cur,hv,_⟩
  ·exact ⟨none,0,by rw [hv,h0]⟩
  ·exact ⟨_,cap,hv⟩
 have hbc:byteCells (l++[c])=byteCells l++[bv c]:=by rw [Lib.byteCells_append]; rfl
 go_wp2
 go_ret; refine ⟨rfl,?_,?_⟩
 ·rw [hbc]
  exact Or.inr (Lib.BuilderAt.put (T:=109) (e:=5) hB hb2 (bs':=byteCells l++[bv c]) (by rw [zQ,hbl]; exact hown') (by decide))
 ·exact ((hb1.alloc (by omega) _).grown hgrow (by simp; omega) (fun k hk=>(hown0.lt k hk).1)).setCell (p:=⟨b,1,none⟩) hB _
theorem yp {bb c i:Nat} {l:List UInt8} {w:World} (h:Lib.IsBuilder 109 5 bb bb (byteCells l) w) (hc:c < bb) {v:Value}:Lib.IsBuilder 109 5 bb bb (byteCells l) (w.setCell ⟨c,i,none⟩ v):=by
 have key:∀ p,Lib.BuilderAt 109 5 bb bb p (byteCells l) w->Lib.BuilderAt 109 5 bb bb p (byteCells l) (w.setCell ⟨c,i,none⟩ v):=by
  rintro p ⟨hB,u,hbk,hown,hne⟩; exact ⟨hB,u,(ak _ (by omega)).trans hbk,aJ hown (fun k hk=>ak _ (by have:=(hown.lt k hk).1; omega)) (fun k hk=>(hown.lt k hk).1),hne⟩
 rcases h with h | h
 ·exact Or.inl (key _ h)
 ·exact Or.inr (key _ h)
end Go.Proofs.YtffdpoifdahadaaGreatDoor
namespace Go.Proofs.YtffdpoifdahadaaGreatDoor
open Go.RowKit
open Go.Lib (hid byteCells)
theorem kC {S:Nat->Prop} {a w w':World} {B:Nat} (h:Fr S a w) (hb:Below B w w') (hB:a.heap.size<=B):Fr S a w' :=
 ⟨hb.os.trans h.os,hb.tape.trans h.tape,hb.output.trans h.output,zV h.size hb.size,fun k hk hs=>(hb.block k (by omega)).trans (h.block k hk hs)⟩
theorem wE (r acc:List UInt8):dj (10::r) acc=none:=by cases r <;> simp [dj]
theorem rR (r acc:List UInt8):dj (34::r) acc=some (acc,r):=by cases r <;> simp [dj]
theorem wD (acc:List UInt8):dj [92] acc=none:=by simp [dj]
theorem jX (e:UInt8) (r acc:List UInt8):dj (92::e::r) acc=match jL e with | some x=>dj r (acc++[x]) | none=>none:=by
 rw [dj,if_neg (by decide),if_neg (by decide),if_pos rfl]; rfl
theorem oP (c:UInt8) (r acc:List UInt8) (h1:c≠10) (h2:c≠34) (h3:c≠92):dj (c::r) acc=dj r (acc++[c]):=by
 cases r with
 | nil=>simp [dj,h2]
 | cons e r=>rw [dj,if_neg h1,if_neg h2,if_neg h3]
def yL (lt:Option (List UInt8 × List UInt8)):Except Int (Tk × List UInt8) :=
 match lt with
 | some (t,r')=>if 4096 < t.length then .error 15 else .ok (⟨3,t,0,0⟩,r')
 | none=>.error 2
abbrev IsB (bb:Nat) (l:List UInt8) (w:World):Prop:=Lib.IsBuilder 109 5 bb bb (byteCells l) w
theorem sa {bb:Nat} {l:List UInt8} {w:World} (h:IsB bb l w):bb < w.heap.size:=by
 rcases h with ⟨_,v,h,_⟩ | ⟨_,v,h,_⟩ <;> exact ae h
theorem rj (b:Nat) (s:List UInt8) (k:Nat) (w:World) (hS:Sc b s k w) (hk:k < s.length) (hs:s.length<=1000000) :
  Calls Tryz.prog 55 #[pt b] w (jb b s w (iA (s.drop k))):=by
 have hlt:=ae hS; obtain ⟨res,hres⟩:∃ r,r=iA (s.drop k):=⟨_,rfl⟩; obtain ⟨lt,hlt0⟩:∃ r,r=dj (s.drop (k+1)) []:=⟨_,rfl⟩
 have hres1:res=yL lt:=by
  rw [hres,hlt0]; unfold iA yL; rw [List.tail_drop]; rfl
 rw [← hres]; clear hres; replace hS:=hid hS; replace hres1:=hid hres1; obtain ⟨post,hpost⟩:∃ p,p=jb b s w res:=⟨_,rfl⟩; rw [← hpost]; replace hpost:=hid hpost; have hR:=hid (TR.new w); have hF:=hid ((Fr.refl (one b) w).alloc (.cells #[.int .i64 0,.string ⟨#[]⟩,.int .i64 0,.int .i64 0] 95)); replace hS:=hid (show Sc b s k (w.alloc (.cells #[.int .i64 0,.string ⟨#[]⟩,.int .i64 0,.int .i64 0] 95)) from (z7 _ _ _ hlt).trans hS.out)
 have hsz0:(w.alloc (.cells #[.int .i64 0,.string ⟨#[]⟩,.int .i64 0,.int .i64 0] 95)).heap.size=w.heap.size+1:=by simp
 obtain ⟨w0,hw0⟩:∃ w0,w0=w.alloc (.cells #[.int .i64 0,.string ⟨#[]⟩,.int .i64 0,.int .i64 0] 95):=⟨_,rfl⟩; rw [← hw0] at hR hF hS hsz0; have hlt0':=ae hS.out; have hBd:=uM w0; replace hR:=hid (show TR w.heap.size tk0 (w0.alloc (.cells #[.pointer none,.slice none 0 0] 109)) from (z7 _ _ _ (by omega)).trans hR.out); replace hF:=hid (hF.out.alloc (.cells #[.pointer none,.slice none 0 0] 109)); replace hS:=hid (show Sc b s k (w0.alloc (.cells #[.pointer none,.slice none 0 0] 109)) from (z7 _ _ _ (by omega)).trans hS.out); rw [hsz0] at hBd; have hBd2:=hid (show IsB (w.heap.size+1) [] (w0.alloc (.cells #[.pointer none,.slice none 0 0] 109)) from hBd); clear hBd; rw [hw0] at hR hF hS hBd2; clear hsz0 hlt0' hw0
 replace hlt0:=hid hlt0; have c0:=hS.out.c0; have c1:=hS.out.c1
 have e1:IntKind.i64.wrap ((k:Int)+1)=((k+1:Nat):Int):=by rw [c_ _ (by omega) (by omega)]; omega
 have hlen:=hid (fun W l h=>Tryz.Builder_Len (w.heap.size+1) (w.heap.size+1) (byteCells l) W h); have hstr:=hid (fun W l h hb=>od (w.heap.size+1) (w.heap.size+1) l W h hb); have hwr:=hid (fun W l c h hl hb=>tu (w.heap.size+1) (w.heap.size+1) l c W h hl hb)
 go_enter Tryz.func55,Tryz.ntmps55
 go_wp2_with fail
 generalize ((w.alloc (.cells #[.int .i64 0,.string ⟨#[]⟩,.int .i64 0,.int .i64 0] 95)).alloc (.cells #[.pointer none,.slice none 0 0] 109))=w1 at *
 go_loopw [5] (fun z wr=>∃ (i:Nat) (acc:List UInt8),z=.int .i64 i/\k+1<=i/\i<=s.length/\acc.length+k<=i/\Hid (dj (s.drop i) acc=lt)/\Hid (IsB (w.heap.size+1) acc wr)/\Hid (Sc b s k wr)/\Hid (TR w.heap.size tk0 wr)/\Hid (Fr (one b) w wr)) (fun z _=>s.length - (intOf z).toNat)
 case atStart=>exact ⟨k+1,[],rfl,zM _,by omega,by simp,hid hlt0.out.symm,hBd2,hS,hR,hF⟩
 case round =>
  clear hS hR hF hBd2 c0 c1 e1 hlt0; obtain ⟨i,acc,rfl,hi1,hi2,hal,hlit,hBd,hS,hR,hF⟩:=hrel; have c0:=hS.out.c0; by_cases hil:i < s.length
  ·have q1:decide ((i:Int) < (s.length:Int))=true:=zP (by omega)
   have q1i:(i:Int) < (s.length:Int):=by omega
   obtain ⟨c,hc⟩:∃ c,s[i]? = some c:=⟨_,zR hil⟩; have hix:=eP (P:=Tryz.prog) 9 (by kernel_rfl) s i c hc; have hd:=kc hc
   have e1:IntKind.i64.wrap ((i:Int)+1)=((i+1:Nat):Int):=by rw [c_ _ (by omega) (by omega)]; omega
   clear hc; by_cases h10:c=10
   ·subst h10
    have hv:=hid (show res=.error 2 by rw [hres1.out,← hlit.out,hd,wE]; rfl); clear hd; obtain ⟨t0,t1,t2,t3⟩:=hR.out.cell; have g0:=hR.out.f 0; have g1:=hR.out.f 1; have g2:=hR.out.f 2; have g3:=hR.out.f 3; have hfin:=hid (hR.out.set4 tk0); have hFf:=hid (co (R:=w.heap.size) hF.out (zM _) (iv 0) (sv []) (iv 0) (iv 0));go_wp2_with fail;refine bodyPost_ret (v:=.tuple #[tkv tk0,iv 2]) (bT (by rfl) _ _ w.heap.size tk0 2 (by rfl) (by rfl) hfin.out) rfl ?_; rw [hpost.out,hv.out]; exact ⟨hFf.out,rfl⟩
   ·obtain ⟨a1,a1',a1''⟩:((c.toNat:Int) == 10)=false/\¬ ((c.toNat:Int)=10)/\¬ c.toNat=10:=bn c 10 10 rfl h10
    by_cases h34:c=34
    ·subst h34
     have hv0:=hid (show lt=some (acc,s.drop (i+1)) by rw [← hlit.out,hd,rR]); clear hd; have hbcl:(byteCells acc).length=acc.length:=Lib.byteCells_length acc; by_cases hbig:4096 < acc.length
     ·have hv:=hid (show res=.error 15 by rw [hres1.out,hv0.out]; exact if_pos hbig)
      have p1:decide ((acc.length:Int) > 4096)=true:=zP (by omega);(have p1i:(4096:Int) < (acc.length:Int):=by omega);have p2:decide (((byteCells acc).length:Int) > 4096)=true:=zP (by omega); obtain ⟨t0,t1,t2,t3⟩:=hR.out.cell; have g0:=hR.out.f 0; have g1:=hR.out.f 1; have g2:=hR.out.f 2; have g3:=hR.out.f 3; have hfin:=hid (hR.out.set4 tk0); have hFf:=hid (co (R:=w.heap.size) hF.out (zM _) (iv 0) (sv []) (iv 0) (iv 0));go_wp2_with fail;refine (hlen.out _ acc hBd.out).mono ?_; rintro e w2 ⟨rfl,rfl⟩; rw [hbcl];go_wp2_with fail;refine bodyPost_ret (v:=.tuple #[tkv tk0,iv 15]) (bT (by rfl) _ _ w.heap.size tk0 15 (by rfl) (by rfl) hfin.out) rfl ?_; rw [hpost.out,hv.out]; exact ⟨hFf.out,rfl⟩
     ·have hv:=hid (show res=.ok (⟨3,acc,0,0⟩,s.drop (i+1)) by rw [hres1.out,hv0.out]; exact if_neg hbig)
      have p1:decide ((acc.length:Int) > 4096)=false:=zO (by omega);(have p1i:¬ (4096:Int) < (acc.length:Int):=by omega);(have hsl:s.length - (s.drop (i+1)).length=i+1:=by rw [List.length_drop]; omega);have c1:=hS.out.c1; have f1:=hS.out.f 1; have hSs:=hid (hS.out.set (i+1)); have hFs:=hid (j9 hF.out 1 (iv (i+1:Nat))); have hRs:=hid (show TR w.heap.size tk0 (wr.setCell ⟨b,1,none⟩ (iv (i+1:Nat))) from (ak _ (by omega)).trans hR.out); have hBs:=hid (show IsB (w.heap.size+1) acc (wr.setCell ⟨b,1,none⟩ (iv (i+1:Nat))) from yp hBd.out (by omega));go_wp2_with fail;refine (hlen.out _ acc hBd.out).mono ?_; rintro e w2 ⟨rfl,rfl⟩; rw [hbcl];go_wp2_with fail;refine (hstr.out _ acc hBs.out (by have:=sa hBs.out; omega)).mono ?_; rintro e w3 ⟨rfl,hb3⟩; have hS3:=an hb3 hSs.out (by omega); have hR3:TR w.heap.size tk0 w3:=an hb3 hRs.out (by omega); have hF3:=kC hFs.out hb3 (by omega); obtain ⟨t0,t1,t2,t3⟩:=hR3.cell; have g0:=hR3.f 0; have g1:=hR3.f 1; have g2:=hR3.f 2; have g3:=hR3.f 3; have hfin:=hid (hR3.set4 ⟨3,acc,0,0⟩); have hFf:=hid (co (R:=w.heap.size) hF3 (zM _) (iv 3) (sv acc) (iv 0) (iv 0)); have hSf:=hid (Sc.other4 (R:=w.heap.size) hS3 (by omega) (iv 3) (sv acc) (iv 0) (iv 0)); clear hb3 hS3 hR3 hF3 hSs hFs hRs hBs;go_wp2_with fail;refine bodyPost_ret (v:=.tuple #[tkv ⟨3,acc,0,0⟩,iv 0]) (bT (by rfl) _ _ w.heap.size ⟨3,acc,0,0⟩ 0 (by rfl) (by rfl) hfin.out) rfl ?_; rw [hpost.out,hv.out]; exact ⟨hFf.out,rfl,by rw [hsl]; exact hSf.out⟩
    ·obtain ⟨a2,a2',a2''⟩:((c.toNat:Int) == 34)=false/\¬ ((c.toNat:Int)=34)/\¬ c.toNat=34:=bn c 34 34 rfl h34
     by_cases h92:c=92
     ·subst h92
      by_cases hil2:i+1 < s.length
      ·obtain ⟨d,hdd⟩:∃ d,s[i+1]? = some d:=⟨_,zR hil2⟩
       have hix2:=eP (P:=Tryz.prog) 9 (by kernel_rfl) s (i+1) d hdd; have hd2:=kc hdd;(have e2:IntKind.i64.wrap (((i+1:Nat):Int)+1)=((i+1+1:Nat):Int):=by rw [c_ _ (by omega) (by omega)]; omega);(have n1:(((i+1:Nat):Int) == (s.length:Int))=false:=by rw [beq_eq_false_iff_ne]; omega);(have n2:¬ (((i+1:Nat):Int)=(s.length:Int)):=by omega);(have n3:¬ (i+1=s.length):=by omega);have hun:=hid (fun W=>ou d W); have hll:=jX d (s.drop (i+1+1)) acc; obtain ⟨i2,hi2e⟩:∃ i2,i2=i+1:=⟨_,rfl⟩; rw [← hi2e] at hix2 e1 e2 n1 n2 n3 hd hd2 hll hil2
       cases hue:jL d with
       | none =>
        have hv:=hid (show res=.error 2 by rw [hres1.out,← hlit.out,hd,hd2,hll,hue]; rfl); rw [hue] at hun; clear hd hd2 hdd hll hue; replace hi2e:=hid hi2e;go_wp2_with fail;refine (hun.out _).mono ?_; rintro e w2 ⟨rfl,rfl⟩; obtain ⟨t0,t1,t2,t3⟩:=hR.out.cell; have g0:=hR.out.f 0; have g1:=hR.out.f 1; have g2:=hR.out.f 2; have g3:=hR.out.f 3; have hfin:=hid (hR.out.set4 tk0); have hFf:=hid (co (R:=w.heap.size) hF.out (zM _) (iv 0) (sv []) (iv 0) (iv 0));go_wp2_with fail;refine bodyPost_ret (v:=.tuple #[tkv tk0,iv 2]) (bT (by rfl) _ _ w.heap.size tk0 2 (by rfl) (by rfl) hfin.out) rfl ?_; rw [hpost.out,hv.out]; exact ⟨hFf.out,rfl⟩
       | some x =>
        have hlit2:=hid (show dj (s.drop (i2+1)) (acc++[x])=lt by rw [← hlit.out,hd,hd2,hll,hue]); rw [hue] at hun; clear hd hd2 hdd hll hue; have hi2m:i2 < s.length/\i < i2:=⟨hil2,by omega⟩; replace hi2e:=hid hi2e;go_wp2_with fail;refine (hun.out _).mono ?_; rintro e w2 ⟨rfl,rfl⟩;go_wp2_with fail;refine (hwr.out _ acc x hBd.out (by omega) (by have:=sa hBd.out; omega)).mono ?_; rintro e w3 ⟨rfl,hBd3,hb3⟩; have hS3:=hid (show Sc b s k w3 from an hb3 hS.out (by omega)); have hR3:=hid (show TR w.heap.size tk0 w3 from an hb3 hR.out (by omega)); have hF3:=hid (kC hF.out hb3 (by omega)); replace hBd3:=hid hBd3;(have hal2:(acc++[x]).length+k<=i2+1:=by rw [zQ]; simp; have:=hi2e.out; omega);clear hb3;go_wp2_with fail;have hi2o:=hi2e.out; refine ⟨?_,by simp [intOf]; omega⟩
        repeat (first | exact ⟨⟨i2+1,acc++[x],rfl,by omega,by omega,hal2,hlit2,hBd3,hS3,hR3,hF3⟩,rfl⟩ | exact ⟨i2+1,acc++[x],rfl,by omega,by omega,hal2,hlit2,hBd3,hS3,hR3,hF3⟩ | apply Exists.intro)
      ·have hi3:i+1=s.length:=by omega
       (have n1:(((i+1:Nat):Int) == (s.length:Int))=true:=by rw [beq_iff_eq]; omega);have hv:=hid (show res=.error 2 by rw [hres1.out,← hlit.out,hd,hi3,List.drop_length,wD]; rfl); clear hd; rw [hi3] at e1; clear n1; obtain ⟨t0,t1,t2,t3⟩:=hR.out.cell; have g0:=hR.out.f 0; have g1:=hR.out.f 1; have g2:=hR.out.f 2; have g3:=hR.out.f 3; have hfin:=hid (hR.out.set4 tk0); have hFf:=hid (co (R:=w.heap.size) hF.out (zM _) (iv 0) (sv []) (iv 0) (iv 0));go_wp2_with fail;refine bodyPost_ret (v:=.tuple #[tkv tk0,iv 2]) (bT (by rfl) _ _ w.heap.size tk0 2 (by rfl) (by rfl) hfin.out) rfl ?_; rw [hpost.out,hv.out]; exact ⟨hFf.out,rfl⟩
     ·obtain ⟨a3,a3',a3''⟩:((c.toNat:Int) == 92)=false/\¬ ((c.toNat:Int)=92)/\¬ c.toNat=92:=bn c 92 92 rfl h92
      have hlit2:=hid (show dj (s.drop (i+1)) (acc++[c])=lt by rw [← hlit.out,hd,oP c _ _ h10 h34 h92]); clear hd;go_wp2_with fail;refine (hwr.out _ acc c hBd.out (by omega) (by have:=sa hBd.out; omega)).mono ?_; rintro e w3 ⟨rfl,hBd3,hb3⟩; have hS3:=hid (show Sc b s k w3 from an hb3 hS.out (by omega)); have hR3:=hid (show TR w.heap.size tk0 w3 from an hb3 hR.out (by omega)); have hF3:=hid (kC hF.out hb3 (by omega)); replace hBd3:=hid hBd3;(have hal2:(acc++[c]).length+k<=i+1:=by rw [zQ]; simp; omega);clear hb3;go_wp2_with fail;refine ⟨?_,by simp [intOf]; omega⟩
      repeat (first | exact ⟨⟨i+1,acc++[c],rfl,by omega,by omega,hal2,hlit2,hBd3,hS3,hR3,hF3⟩,rfl⟩ | exact ⟨i+1,acc++[c],rfl,by omega,by omega,hal2,hlit2,hBd3,hS3,hR3,hF3⟩ | apply Exists.intro)
  ·have hie:i=s.length:=by omega
   subst hie; have hv:=hid (show res=.error 2 by rw [hres1.out,← hlit.out,List.drop_length]; rfl); clear hil; obtain ⟨t0,t1,t2,t3⟩:=hR.out.cell; have g0:=hR.out.f 0; have g1:=hR.out.f 1; have g2:=hR.out.f 2; have g3:=hR.out.f 3; have hfin:=hid (hR.out.set4 tk0); have hFf:=hid (co (R:=w.heap.size) hF.out (zM _) (iv 0) (sv []) (iv 0) (iv 0))
   go_wp2_with fail
   refine bodyPost_ret (v:=.tuple #[tkv tk0,iv 2]) (bT (by rfl) _ _ w.heap.size tk0 2 (by rfl) (by rfl) hfin.out) rfl ?_; rw [hpost.out,hv.out]; exact ⟨hFf.out,rfl⟩
end Go.Proofs.YtffdpoifdahadaaGreatDoor
