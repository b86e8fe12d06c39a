/- AskP: AskO, AskPa, AskP, in one text. -/
import Derived.Test.YtffdpoifdahadaaGreatDoorAskV
set_option linter.unusedVariables false
set_option linter.unusedSimpArgs false
set_option maxHeartbeats 40000000
set_option maxRecDepth 100000
namespace Go.Proofs.YtffdpoifdahadaaGreatDoor
open Go.RowKit
open Go.Lib (hid itoa)
theorem jy (pb:Nat) (K:PK) (st:PSt) (w:World) (h:PM pb K st w) :
  Calls Tryz.prog 63 #[pt pb] w fun e w'=>∃ (op:Int) (nt:Bool) (rel:List UInt8) (a:Option Addr) (n c:Nat),e=.returned (.tuple #[.agg (ap op nt rel (.slice a n c)),.bool (aY K.ts st).1.isSome]) /\
   (∀ l,(aY K.ts st).1=some l->op=l.op/\nt=l.nt/\rel=l.rel/\n=l.args.length/\aO 63 7 FlR (aF w.heap.size) w' l.args (.slice a l.args.length c))/\PM pb K (aY K.ts st).2 w'/\Fr (one pb) w w':=by
 refine (xo pb K st w h).mono ?_; rintro e w' ⟨h1,h2,h3⟩; generalize aY K.ts st=r at *; obtain ⟨o,s⟩:=r
 cases o with
 | some l =>
  obtain ⟨a,c,rfl,ho⟩:=h3; exact ⟨_,_,_,a,_,c,rfl,fun l2 hl=>(by cases hl; exact ⟨rfl,rfl,rfl,rfl,ho⟩),h1,h2⟩
 | none =>
  obtain ⟨op,nt,rel,a,n,c,rfl⟩:=h3; exact ⟨op,nt,rel,a,n,c,rfl,(fun l2 hl=>by cases hl),h1,h2⟩
theorem vD (pb:Nat) (K:PK) (st:PSt) (w:World) (h:PM pb K st w) :
  Calls Tryz.prog 113 #[pt pb] w fun e w'=>∃ (b:Bool) (x:Tm),e=.returned (.tuple #[.bool b,.agg (aB x),.bool (cW K.ts st).1.isSome])/\(∀ y,(cW K.ts st).1=some y->y=(b,x))/\PM pb K (cW K.ts st).2 w'/\Fr (one pb) w w':=by
 refine (vE pb K st w h).mono ?_; rintro e w' ⟨h1,h2,h3⟩; generalize cW K.ts st=r at *; obtain ⟨o,s⟩:=r
 cases o with
 | some x=>exact ⟨x.1,x.2,h3,(fun y hy=>by cases hy; rfl),h1,h2⟩
 | none =>
  obtain ⟨b,x,rfl⟩:=h3; exact ⟨b,x,rfl,(fun y hy=>by cases hy),h1,h2⟩
def yN (ts:List Tw):Option Lt × PSt->Option (List Lt) × PSt
 | (none,s)=>(none,s)
 | (some l,s)=>pM ts l (cW ts s)
theorem yb (ts:List Tw) (st:PSt):eM ts st=yN ts (aY ts st):=by
 unfold eM; generalize aY ts st=r; obtain ⟨o,s⟩:=r; cases o <;> rfl
abbrev kR (ps:List (Lt × Value)):List Value:=ps.flatMap fun p=>(ap p.1.op p.1.nt p.1.rel p.2).toList
theorem uq (ps:List (Lt × Value)):(kR ps).length=ps.length * 4:=by
 induction ps with
 | nil=>rfl
 | cons p l ih=>show (List.flatMap _ (p::l)).length=_; rw [List.flatMap_cons,zQ,zT]; show 4+(kR l).length=(l.length+1) * 4; rw [ih]; omega
theorem ws (ps:List (Lt × Value)) (i:Nat) (p:Lt × Value) (h:ps[i]? = some p) (j:Nat) (u:Value) (hu:(ap p.1.op p.1.nt p.1.rel p.2).toList[j]? = some u):(kR ps)[i * 4+j]? = some u:=by
 induction ps generalizing i with
 | nil=>simp at h
 | cons s l ih =>
  have hj:j < 4:=(List.getElem?_eq_some_iff.1 hu).1; show (List.flatMap _ (s::l))[i * 4+j]? = _; rw [List.flatMap_cons]
  cases i with
  | zero=>simp at h; subst h; rw [Aa (by show _ < 4; omega)]; simpa using hu
  | succ i =>
   rw [Ab (by show 4<=_; omega)]; show (kR l)[(i+1) * 4+j - 4]? = _; rw [show (i+1) * 4+j - 4=i * 4+j by omega]; exact ih i (by simpa using h)
theorem cG {S:aP} {W:World} {b:Nat} (ps:List (Lt × Value)) (hb:W.heap[b]? = some (.cells (kR ps).toArray 24 (0,0))) (hl:ps.length<=maxLen) (hS:S b) (hp:∀ p∈ps,aO 63 7 FlR (fun q=>S q/\q≠b) W p.1.args p.2) :
  aO 24 4 LdR S W (ps.map fun p=>(p.2.ownBlock,p.1)) (.slice (some ⟨b,0,none⟩) ps.length ps.length):=by
 refine iZ df hb (by simp) (uq ps) hl hS fun i x hx=>?_
 rw [Ai] at hx; rcases hi:ps[i]? with _ | p
 ·rw [hi] at hx; cases hx
 ·rw [hi] at hx
  cases hx; exact ⟨_,fun j u hu=>ws ps i p hi j u hu,p.2,rfl,rfl,hp p (zU hi)⟩
def yT (pb:Nat) (K:PK) (w:World) (r:Option (List Lt) × PSt) (e:Ending) (w':World):Prop :=
 PM pb K r.2 w'/\Fr (one pb) w w'/\match r.1 with
 | some ls=>∃ v xs,e=.returned (.tuple #[v,.bool true])/\aO 24 4 LdR (aF w.heap.size) w' xs v/\xs.map (·.2)=ls/\(ct xs).Nodup
 | none=>e=.returned (.tuple #[.slice none 0 0,.bool false])
theorem fy {α:Type} {E:TypeId} {sz:Nat} {R:Rel α} {S:aP} {w:World} {l:List α} {v:Value} (h:aO E sz R S w l v) {k:Nat} (hk:v.ownBlock=some k):S k:=by
 obtain ⟨xs,h1,h2,h3⟩:=h; exact h2 k hk
def qX:Nat->List (Option Nat)->Nat->Prop
 | B,[],C=>B<=C
 | B,o::l,C=>∃ M,B<=M/\(∀ k,o=some k->B<=k/\k < M)/\qX M l C
theorem qX.le:∀ {l:List (Option Nat)} {B C:Nat},qX B l C->B<=C
 | [],_,_,h=>h
 | o::l,B,C,h=>by obtain ⟨M,h1,_,h3⟩:=h; exact zV h1 h3.le
theorem qX.mem:∀ {l:List (Option Nat)} {B C:Nat},qX B l C->∀ k∈l.filterMap id,B<=k/\k < C
 | [],_,_,_,k,hk=>by simp at hk
 | o::l,B,C,h,k,hk=>by
  obtain ⟨M,h1,h2,h3⟩:=h; have hm:=h3.le
  cases o with
  | none =>
   have:=h3.mem k (by simpa using hk); omega
  | some q =>
   rcases List.mem_cons.1 (show k∈q::l.filterMap id by simpa using hk) with rfl | hk
   ·have:=h2 k rfl; omega
   ·have:=h3.mem k hk; omega
theorem qX.nodup:∀ {l:List (Option Nat)} {B C:Nat},qX B l C->(l.filterMap id).Nodup
 | [],_,_,_=>by simp
 | o::l,B,C,h=>by
  obtain ⟨M,h1,h2,h3⟩:=h
  cases o with
  | none=>simpa using h3.nodup
  | some q =>
   show (q::l.filterMap id).Nodup; refine List.nodup_cons.2 ⟨fun hm=>?_,h3.nodup⟩; have h4:=h3.mem q hm; have h5:=h2 q rfl; omega
theorem fK (l:List (Option Nat × Lt)):ct l=(l.map (·.1)).filterMap id:=by unfold ct; rw [List.filterMap_map]; rfl
theorem kP {α:Type} {E:TypeId} {sz:Nat} {R:Rel α} {B:Nat} {W:World} {l:List α} {v:Value} (h:aO E sz R (aF B) W l v):∀ k,v.ownBlock=some k->B<=k/\k < W.heap.size:=fun k hk=>⟨fy h hk,h.lt hk⟩
theorem pJ {B B0 z:Nat} {W W':World} {l:List Tm} {v:Value} (h:aO 63 7 FlR (aF B) W l v) (hb:Below W.heap.size W W') (hB:B0<=B) (hz:W.heap.size<=z):aO 63 7 FlR (fun q=>aF B0 q/\q≠z) W' l v :=
 h.move aD fun k hk hk2=>⟨⟨zV hB hk2,by omega⟩,hb.block k hk⟩
theorem vY (pb:Nat) (K:PK) (st:PSt) (w:World) (h:PM pb K st w) (hT:da pb w) (hN:eq K) (hv:st.vars+K.toks.length+1<=4611686018427387904) :
  Calls Tryz.prog 92 #[pt pb] w (yT pb K w (eM K.ts st)):=by
 obtain ⟨R,hR⟩:∃ R,R=eM K.ts st:=⟨_,rfl⟩; rw [← hR]; have hK0:=hid (Kp.start h); have hpl:=h.lt; have hat:=hid (jy pb K st w h); have hkA:=ig K.ts st; have hokA:=kh K.ts (fun i=>(h.tok_ok i).2.2) st; obtain ⟨ra,hra⟩:∃ ra,ra=aY K.ts st:=⟨_,rfl⟩; rw [← hra] at hat hkA hokA; replace hR:=hid (show R=yN K.ts ra from by rw [hR,hra]; exact yb _ _); replace hra:=hid hra; obtain ⟨ol,s1⟩:=ra; replace hkA:=hid hkA; replace hokA:=hid hokA; replace hN:=hid hN; obtain ⟨z1,hz1⟩:∃ z,ol.isSome=z:=⟨_,rfl⟩
 replace hat:=hid (show Calls Tryz.prog 63 #[pt pb] w fun e w'=>∃ (op:Int) (nt:Bool) (rel:List UInt8) (a:Option Addr) (n c:Nat),e=.returned (.tuple #[.agg (ap op nt rel (.slice a n c)),.bool z1])/\(∀ l,ol=some l->op=l.op/\nt=l.nt/\rel=l.rel/\n=l.args.length/\aO 63 7 FlR (aF w.heap.size) w' l.args (.slice a l.args.length c))/\PM pb K s1 w'/\Fr (one pb) w w' from by rw [← hz1]; exact hat.out); replace hz1:=hid hz1
 go_enter Tryz.func92,Tryz.ntmps92
 go_wp2_with fail
 with_reducible refine hat.out.mono ?_
 rintro e w1 ⟨op,nt,rel,a1,n1,c1,rfl,hl,hM1,hf1⟩; have hK1:=hid ((hK0.out.call hM1 hf1).alloc (.cells (ap op nt rel (.slice a1 n1 c1)) 24)); have hT1:=hid ((hT.fr hf1).below ((zN _ w1).alloc (zM _) (.cells (ap op nt rel (.slice a1 n1 c1)) 24))); have hf1':=hid hf1; clear hM1 hf1 hat hT h; replace hl:=hid hl
 cases ol with
 | none =>
  have hz':false=z1:=hz1.out; subst hz'; replace hR:=hid (show R=(none,s1) from hR.out)
  go_wp2_with fail
  go_ret2
  refine ⟨by rw [hR.out]; exact hK1.out.pm,hK1.out.fr,?_⟩; rw [hR.out]; rfl
 | some l =>
  have hz':true=z1:=hz1.out; subst hz'; obtain ⟨rfl,rfl,rfl,rfl,hO⟩:=hl.out l rfl; have hO1:=hid (hO.below aD ((zN _ w1).alloc (zM _) (.cells (ap l.op l.nt l.rel (.slice a1 l.args.length c1)) 24))); clear hO hl; obtain ⟨W1,hW1⟩:∃ W1,W1=w1.alloc (.cells (ap l.op l.nt l.rel (.slice a1 l.args.length c1)) 24):=⟨_,rfl⟩; rw [← hW1] at hK1 hT1 hO1; have hsd:=hid (vD pb K s1 W1 hK1.out.pm); have hkS:=lT K.ts s1; obtain ⟨rs,hrs⟩:∃ rs,rs=cW K.ts s1:=⟨_,rfl⟩; rw [← hrs] at hsd hkS; replace hR:=hid (show R=pM K.ts l rs from by rw [hrs]; exact hR.out); replace hrs:=hid hrs; obtain ⟨os,s2⟩:=rs; obtain ⟨z2,hz2⟩:∃ z,os.isSome=z:=⟨_,rfl⟩
  replace hsd:=hid (show Calls Tryz.prog 113 #[pt pb] W1 fun e w'=>∃ (b:Bool) (x:Tm),e=.returned (.tuple #[.bool b,.agg (aB x),.bool z2])/\(∀ y,os=some y->y=(b,x))/\PM pb K s2 w'/\Fr (one pb) W1 w' from by rw [← hz2]; exact hsd.out); replace hz2:=hid hz2; replace hkS:=hid hkS
  go_wp2_with fail
  rw [← hW1]
  with_reducible refine hsd.out.mono ?_
  rintro e w2 ⟨b,x,rfl,hy,hM2,hf2⟩; have hK2:=hid ((hK1.out.call hM2 hf2).alloc (.cells (aB x) 63)); have hT2:=hid ((hT1.out.fr hf2).below ((zN _ w2).alloc (zM _) (.cells (aB x) 63))); have hO2:=hid ((hO1.out.fr aD hf2 (fun q hq e=>by unfold one at e; unfold aF at hq; omega)).below aD ((zN _ w2).alloc (zM _) (.cells (aB x) 63))); clear hM2 hf2 hsd; replace hy:=hid hy; replace hW1:=hid hW1
  cases os with
  | none =>
   have hz':false=z2:=hz2.out; subst hz'; replace hR:=hid (show R=(none,s2) from hR.out)
   go_wp2_with fail
   go_ret2
   refine ⟨by rw [hR.out]; exact hK2.out.pm,hK2.out.fr,?_⟩; rw [hR.out]; rfl
  | some y =>
   have hz':true=z2:=hz2.out; subst hz'; have hyb:=hy.out y rfl; subst hyb; have hvs:s2.vars=st.vars:=hkS.out.vars.trans hkA.out.vars; have hnv:=hid (ez pb K s2 _ hK2.out.pm hT2.out hN.out (by omega)); replace hR:=hid (show R=(some [aS (aq K.ts s2).1 l,bM b (aq K.ts s2).1 x],(aq K.ts s2).2) from hR.out); obtain ⟨rv,hrv⟩:∃ rv,rv=aq K.ts s2:=⟨_,rfl⟩; rw [← hrv] at hnv hR; replace hrv:=hid hrv; obtain ⟨t,s3⟩:=rv
   have hal:l.args.length<=1048575:=by have h1:=hokA.out l rfl; have h2:=hK2.out.pm.nx; have h3:=hK2.out.pm.len; have h4:=hkS.out.nx; have h5:l.args.length+st.nx < s1.nx:=h1.2; have h6:s1.nx<=s2.nx:=h4; omega
   replace hvs:=hid hvs
   go_wp2_with fail
   with_reducible refine hnv.out.mono ?_
   rintro e w3 ⟨rfl,hM3,hf3⟩; have hK3:=hid ((hK2.out.call hM3 hf3).alloc (.cells (aB t) 63)); have hO3:=hid ((hO2.out.fr aD hf3 (fun q hq e=>by unfold one at e; unfold aF at hq; omega)).below aD ((zN _ w3).alloc (zM _) (.cells (aB t) 63))); clear hM3 hf3 hnv hO2 hO1 hK2 hK1 hT1 hT2
   go_wp2_with fail
   generalize hW3:w3.alloc (.cells (aB t) 63)=W3 at *; have rX:=hK3.out.nth (i:=0) (b:=w3.heap.size) (o:=.cells (aB t) 63 (0,0)) rfl; have rA:=hK3.out.nth (i:=1) (b:=w2.heap.size) (o:=.cells (aB x) 63 (0,0)) rfl; have rL:=hK3.out.nth (i:=2) (b:=w1.heap.size) (o:=.cells (ap l.op l.nt l.rel (.slice a1 l.args.length c1)) 24 (0,0)) rfl; clear hW3; refine wp_region_held_drew (S:=fun w'=>Below W3.heap.size W3 w') (by kernel_rfl) ?_ (fun hHeld=>?_)
   ·exact (zN _ W3).drew
   generalize W3.drew=wd at *; have hHd:=hHeld; refine wTk (i:=0) (v:=?_) rfl ?hy ?_
   case hy =>
    intro w hSw; obtain ⟨v0,v1,v2,v3,v4,v5,v6,-⟩:=aH (an hSw rX (ae rX)); go_simp
    all_goals with_reducible rfl
   try simp only [Act.put,sI,sZ,sS]
   refine wTk (i:=1) (v:=?_) rfl ?hy ?_
   case hy =>
    intro w hSw; obtain ⟨v0,v1,v2,v3,-⟩:=aK (an hSw rL (ae rL)); go_simp
    all_goals with_reducible rfl
   try simp only [Act.put,sI,sZ,sS]
   refine wTk (i:=3) (v:=?_) rfl ?hy ?_
   case hy =>
    intro w hSw
    skip
    go_simp
    all_goals with_reducible rfl
   try simp only [Act.put,sI,sZ,sS]
   refine wTk (i:=4) (v:=?_) rfl ?hy ?_
   case hy =>
    intro w hSw; obtain ⟨v0,v1,v2,v3,v4,v5,v6,-⟩:=aH (an hSw rX (ae rX)); go_simp
    all_goals with_reducible rfl
   try simp only [Act.put,sI,sZ,sS]
   refine wTk (i:=5) (v:=?_) rfl ?hy ?_
   case hy =>
    intro w hSw; obtain ⟨v0,v1,v2,v3,v4,v5,v6,-⟩:=aH (an hSw rA (ae rA)); go_simp
    all_goals with_reducible rfl
   try simp only [Act.put,sI,sZ,sS]
   refine wpAnyH_ready (rs:=[2]) (by as_aux_lemma=>kernel_rfl) (by simp) ?_; refine rdY rfl (fun K hK=>?_); go_simp
   go_at_call 115
   with_reducible refine (iW t l _ _ _ ((hO3.out.below aD hHeld).sl aD) hal).mono ?_
   intro e W4 hP; obtain ⟨ya4,yc4,rfl,hQ4,hb4⟩:=PL1.open hP; clear hP; have hH4:=hid (hHeld.trans (hb4.mono hHeld.size)); replace hQ4:=hid hQ4; refine hK.out _ _ ?_ (fun hHeld2=>?_)
   ·exact hH4.out
   clear hK K; clear hHeld; have hHeld:=hHeld2; clear hHeld2
   try simp only [Act.put,sI,sZ,sS]
   refine wpAnyH_ready (rs:=[6]) (by as_aux_lemma=>kernel_rfl) (by simp) ?_; refine rdY rfl (fun K hK=>?_); go_simp
   go_at_call 116
   with_reducible refine (mT b t x _).mono ?_
   intro e W5 hP; obtain ⟨ya5,yc5,rfl,hQ5,hb5⟩:=PL1.open hP; clear hP; have hH5:=hid (hHeld.trans (hb5.mono hHeld.size)); replace hQ5:=hid hQ5; refine hK.out _ _ ?_ (fun hHeld2=>?_)
   ·exact hH5.out
   clear hK K; clear hHeld; have hHeld:=hHeld2; clear hHeld2
   try simp only [Act.put,sI,sZ,sS]
   refine wpAnyH_ready (rs:=[7]) (by as_aux_lemma=>kernel_rfl) (by simp) ?_; refine rdY rfl (fun K hK=>?_); go_simp
   skip
   refine hK.out _ _ ?_ (fun hHeld2=>?_)
   ·exact hHeld.alloc hHeld.size _
   clear hK K; clear hHeld; have hHeld:=hHeld2; clear hHeld2
   try simp only [Act.put,sI,sZ,sS]
   refine wTk (i:=8) (v:=?_) rfl ?hy ?_
   case hy =>
    intro w hSw
    skip
    go_simp
    all_goals with_reducible rfl
   try simp only [Act.put,sI,sZ,sS]
   refine wTk (i:=9) (v:=?_) rfl ?hy ?_
   case hy =>
    intro w hSw
    skip
    go_simp
    all_goals with_reducible rfl
   try simp only [Act.put,sI,sZ,sS]
   refine wpAnyH_done (by as_aux_lemma=>kernel_rfl) ?_ _
   go_wp2_with fail
   go_ret2
   have hKz:=hK3.out.below hHeld; have hs3:=hK3.out.fr.size; have hb6:Below W5.heap.size W5 (W5.alloc (.cells (kR [(aS t l,.slice ya4 (aS t l).args.length yc4),(bM b t x,.slice ya5 (bM b t x).args.length yc5)]).toArray 24)):=(zN _ _).alloc (zM _) _; have hsd:W3.heap.size<=wd.heap.size:=hHd.size; refine ⟨by rw [hR.out]; exact hKz.pm,hKz.fr,?_⟩; rw [hR.out]; refine ⟨_,_,rfl,cG (S:=aF w.heap.size) [(aS t l,.slice ya4 (aS t l).args.length yc4),(bM b t x,.slice ya5 (bM b t x).args.length yc5)] (af _ _) (by show 2<=maxLen; decide) (zV hs3 hH5.out.size) (fun p hp=>?_),rfl,?_⟩
   ·simp only [Ae,List.not_mem_nil,or_false] at hp
    rcases hp with rfl | rfl
    ·exact pJ hQ4.out (hb5.trans (hb6.mono hb5.size)) (by omega) hb5.size
    ·exact pJ hQ5.out hb6 (by have:=hb4.size; omega) (zM _)
   ·rw [fK]
    exact qX.nodup (B:=wd.heap.size) (C:=W5.heap.size) ⟨W4.heap.size,hb4.size,kP hQ4.out,W5.heap.size,hb5.size,kP hQ5.out,zM _⟩
end Go.Proofs.YtffdpoifdahadaaGreatDoor
namespace Go.Proofs.YtffdpoifdahadaaGreatDoor
open Go.RowKit
open Go.Lib (hid itoa)
abbrev no:Array Value:=aM 0 false [] (.slice none 0 0) 0 0 (.slice none 0 0)
structure RS (W:World) (rb:Option Nat) (rows:List (Lt × Value)) (cur:World):Prop where
 below:Below W.heap.size W cur
 own:∀ p∈rows,aO 63 7 FlR (fun q=>W.heap.size<=q/\rb≠some q) cur p.1.args p.2
 nd:(rows.filterMap fun p=>p.2.ownBlock).Nodup
 zr:∀ b,rb=some b->W.heap.size<=b/\cur.heap[b]? = some (.cells no 27 (0,0))
section
variable {W cur cur':World} {rb:Option Nat} {rows:List (Lt × Value)}
theorem RS.start (W:World):RS W none [] W.drew:=⟨(zN _ _).drew,fun p hp=>by simp at hp,by simp,fun b h=>by cases h⟩
theorem RS.grow (h:RS W rb rows cur) (hb:Below cur.heap.size cur cur'):RS W rb rows cur' :=
 ⟨h.below.trans (hb.mono h.below.size),fun p hp=>(h.own p hp).below aD hb,h.nd,fun b hr=>⟨(h.zr b hr).1,an hb (h.zr b hr).2 (ae (h.zr b hr).2)⟩⟩
theorem RS.push (h:RS W rb rows cur) {l:Lt} {v:Value} (hb:Below cur.heap.size cur cur') (ho:aO 63 7 FlR (aF cur.heap.size) cur' l.args v):RS W rb (rows++[(l,v)]) cur':=by
 have hs:=h.below.size; refine ⟨(h.grow hb).below,fun p hp=>?_,?_,(h.grow hb).zr⟩
 ·rcases List.mem_append.1 hp with hp | hp
  ·exact (h.grow hb).own p hp
  ·simp at hp; subst hp
   refine ho.mono aD fun k hk hk2=>⟨zV hs hk2,fun e=>?_⟩
   have:=ae (h.zr k e).2; unfold aF at hk2; omega
 ·rw [List.filterMap_append,List.nodup_append]
  refine ⟨h.nd,by cases hv:v.ownBlock <;> simp [hv],fun a ha b hb2=>?_⟩; obtain ⟨p,hp,hpa⟩:=List.mem_filterMap.1 ha; obtain ⟨p2,hp2,hpb⟩:=List.mem_filterMap.1 hb2; simp at hp2; subst hp2; have h1:=(h.own p hp).lt hpa; have h2:=fy ho hpb; unfold aF at h2; omega
theorem RS.newRule (h:RS W none rows cur):RS W (some cur.heap.size) rows (cur.alloc (.cells no 27)):=by
 have hb:Below cur.heap.size cur (cur.alloc (.cells no 27)):=(zN _ _).alloc (zM _) _; have hg:=h.grow hb; refine ⟨hg.below,fun p hp=>(h.own p hp).move aD fun k hk hk2=>⟨⟨hk2.1,fun e=>by injection e with e; omega⟩,hb.block k hk⟩,h.nd,fun b e=>?_⟩; injection e with e; subst e; exact ⟨h.below.size,af _ _⟩
end
structure RS2 (W:World) (rb:Option Nat) (l0:Lt) (v0:Value) (xs:List (Option Nat × Lt)) (bv:Value) (cur:World):Prop where
 below:Below W.heap.size W cur
 hd:aO 63 7 FlR (fun q=>W.heap.size<=q/\rb≠some q) cur l0.args v0
 bd:aO 24 4 LdR (fun q=>W.heap.size<=q/\rb≠some q) cur xs bv
 nd:(v0.ownBlock.toList++(bv.ownBlock.toList++ct xs)).Nodup
 zr:∀ b,rb=some b->W.heap.size<=b/\cur.heap[b]? = some (.cells no 27 (0,0))
section
variable {W cur cur':World} {rb:Option Nat} {ps:List (Lt × Value)} {l0:Lt} {v0 bv:Value} {xs:List (Option Nat × Lt)}
theorem mF (ps:List (Lt × Value)):ct (ps.map fun p=>(p.2.ownBlock,p.1))=ps.filterMap fun p=>p.2.ownBlock:=by unfold ct; rw [List.filterMap_map]; rfl
theorem RS.build (h:RS W rb ((l0,v0)::ps) cur) (hl:ps.length<=maxLen):RS2 W rb l0 v0 (ps.map fun p=>(p.2.ownBlock,p.1)) (.slice (some ⟨cur.heap.size,0,none⟩) ps.length ps.length) (cur.alloc (.cells (kR ps).toArray 24)):=by
 have hb:Below cur.heap.size cur (cur.alloc (.cells (kR ps).toArray 24)):=(zN _ _).alloc (zM _) _; have hg:=h.grow hb; refine ⟨hg.below,hg.own (l0,v0) (by simp),cG ps (af _ _) hl ⟨h.below.size,fun e=>by have:=ae (h.zr _ e).2; omega⟩ (fun p hp=>(h.own p (by simp [hp])).move aD fun k hk hk2=>⟨⟨hk2,by omega⟩,hb.block k hk⟩),?_,hg.zr⟩; rw [mF]; have hn:=h.nd
 have hlt:∀ k∈((l0,v0)::ps).filterMap (fun p:Lt × Value=>p.2.ownBlock),k < cur.heap.size:=fun k hk=>by
  obtain ⟨p,hp,hpk⟩:=List.mem_filterMap.1 hk; exact (h.own p hp).lt hpk
 have e1:((l0,v0)::ps).filterMap (fun p:Lt × Value=>p.2.ownBlock)=v0.ownBlock.toList++ps.filterMap (fun p=>p.2.ownBlock):=by
  rw [List.filterMap_cons]; cases v0.ownBlock <;> rfl
 rw [e1] at hn hlt; have e2:(Value.slice (some ⟨cur.heap.size,0,none⟩) ps.length ps.length).ownBlock.toList=[cur.heap.size]:=rfl; rw [e2]
 have hperm:(v0.ownBlock.toList++([cur.heap.size]++ps.filterMap (fun p=>p.2.ownBlock))).Perm ([cur.heap.size]++(v0.ownBlock.toList++ps.filterMap (fun p=>p.2.ownBlock))):=by
  rw [← Ad,← Ad]; exact List.Perm.append_right _ List.perm_append_comm
 rw [hperm.nodup_iff]; show (cur.heap.size::_).Nodup; exact List.nodup_cons.2 ⟨fun hm=>Nat.lt_irrefl _ (hlt _ hm),hn⟩
theorem RS2.grow (h:RS2 W rb l0 v0 xs bv cur) (hb:Below cur.heap.size cur cur'):RS2 W rb l0 v0 xs bv cur' :=
 ⟨h.below.trans (hb.mono h.below.size),h.hd.below aD hb,h.bd.below df hb,h.nd,fun b hr=>⟨(h.zr b hr).1,an hb (h.zr b hr).2 (ae (h.zr b hr).2)⟩⟩
theorem RS2.newRule (h:RS2 W none l0 v0 xs bv cur):RS2 W (some cur.heap.size) l0 v0 xs bv (cur.alloc (.cells no 27)):=by
 have hb:Below cur.heap.size cur (cur.alloc (.cells no 27)):=(zN _ _).alloc (zM _) _; have hg:=h.grow hb; refine ⟨hg.below,h.hd.move aD fun k hk hk2=>⟨⟨hk2.1,fun e=>by injection e with e; omega⟩,hb.block k hk⟩,h.bd.move df fun k hk hk2=>⟨⟨hk2.1,fun e=>by injection e with e; omega⟩,hb.block k hk⟩,h.nd,fun b e=>?_⟩; injection e with e; subst e; exact ⟨h.below.size,af _ _⟩
structure NR (W:World) (RB:Nat) (x:RuD) (hv bv:Value) (cur:World):Prop where
 below:Below W.heap.size W cur
 ge:W.heap.size<=RB
 row:cur.heap[RB]? = some (.cells (aM x.head.2.op x.head.2.nt x.head.2.rel hv x.agg x.at_ bv) 27 (0,0))
 ru:RuR (fun q=>W.heap.size<=q/\q≠RB) cur x (aM x.head.2.op x.head.2.nt x.head.2.rel hv x.agg x.at_ bv).toList
 nd:x.ids.Nodup
theorem fj {B:Nat} {w w':World} (h:Below B w w') {g:Nat} (hg:B<=g) (cs:Array Value):Below B w (w'.setRow g cs) :=
 ⟨h.os,h.tape,h.output,by simpa [World.setRow] using h.size,fun k hk=>(gT (by omega) cs).trans (h.block k hk)⟩
theorem RS2.store {RB:Nat} (h:RS2 W (some RB) l0 v0 xs bv cur):NR W RB ⟨(v0.ownBlock,l0),0,0,bv.ownBlock,xs⟩ v0 bv (cur.setRow RB (aM l0.op l0.nt l0.rel v0 0 0 bv)):=by
 obtain ⟨h1,h2⟩:=h.zr RB rfl; refine ⟨fj h.below h1 _,h1,tO h2 _,⟨v0,bv,rfl,rfl,h.hd.move aD fun k hk hk2=>?_,rfl,h.bd.move df fun k hk hk2=>?_⟩,h.nd⟩
 ·have:k≠RB:=fun e=>hk2.2 (by rw [e])
  exact ⟨⟨hk2.1,this⟩,gT this _⟩
 ·have:k≠RB:=fun e=>hk2.2 (by rw [e])
  exact ⟨⟨hk2.1,this⟩,gT this _⟩
theorem NR.grow {RB:Nat} {x:RuD} {hv:Value} (h:NR W RB x hv bv cur) (hb:Below cur.heap.size cur cur'):NR W RB x hv bv cur' :=
 ⟨h.below.trans (hb.mono h.below.size),h.ge,an hb h.row (ae h.row),bS.below h.ru hb,h.nd⟩
end
theorem j8 (K:PK) (st:PSt) (hb:st.rels+K.toks.length+1<=4611686018427387904):(bg K.ts st).1.length<=1048576:=by
 have h1:=(i8 (cd K.ts) [97,117,120] (K.ts.length+1) st.rels).1
 have htl:K.ts.length=K.toks.length:=by unfold PK.ts; rw [zY]
 have:=j5 (eB (cd K.ts) [97,117,120] (K.ts.length+1) st.rels) (by omega); show ([97,117,120]++itoa _).length<=_; rw [zQ]; simp only [zT,z_]; omega
theorem NR.slices {W cur:World} {RB:Nat} {x:RuD} {hv bv:Value} (h:NR W RB x hv bv cur):∃ a c a2 c2,hv=.slice a x.head.2.args.length c/\bv=.slice a2 x.body.length c2:=by
 obtain ⟨v1,v2,e,-,ho,-,hb⟩:=h.ru; obtain ⟨a,c,hs,-⟩:=ho.slice; obtain ⟨a2,c2,hs2,-⟩:=hb.slice
 have e1:hv=v1:=by have:=congrArg (fun l:List Value=>l[3]?) e; simpa using this
 have e2:bv=v2:=by have:=congrArg (fun l:List Value=>l[6]?) e; simpa using this
 exact ⟨a,c,a2,c2,e1.trans hs,e2.trans hs2⟩
theorem eg {rb:Nat} {w:World} {op:Int} {nt:Bool} {rel:List UInt8} {hv bv:Value} {agg at_:Int} (h:w.heap[rb]? = some (.cells (aM op nt rel hv agg at_ bv) 27 (0,0))):w.cell? ⟨rb,0,none⟩=some (iv op)/\w.cell? ⟨rb,1,none⟩=some (.bool nt)/\w.cell? ⟨rb,2,none⟩=some (sv rel)/\w.cell? ⟨rb,3,none⟩=some hv/\w.cell? ⟨rb,4,none⟩=some (iv agg)/\w.cell? ⟨rb,5,none⟩=some (iv at_)/\w.cell? ⟨rb,6,none⟩=some bv/\∀ i,w.frozen? ⟨rb,i,none⟩=false :=
 ⟨(aj h).trans rfl,(aj h).trans rfl,(aj h).trans rfl,(aj h).trans rfl,(aj h).trans rfl,(aj h).trans rfl,(aj h).trans rfl,fun i=>bX h⟩
theorem lm {S:aP} {w:World} {l:List (Option Nat × Lt)} {v:Value} (h:aO 24 4 LdR S w l v):∀ k∈ct l,S k:=by
 intro k hk; obtain ⟨x,hx,hxk⟩:=List.mem_filterMap.1 hk; obtain ⟨i,hi⟩:=List.mem_iff_getElem?.1 hx; obtain ⟨xs,h1,h2,h3⟩:=h; obtain ⟨cs,h4,h5⟩:=h3 i x hi; obtain ⟨u,rfl,hu,ho⟩:=h5; exact (fy ho (hu.trans hxk)).1
theorem rm {S:aP} {w:World} {x:RuD} {cs:List Value} (h:RuR S w x cs):∀ k∈x.ids,S k:=by
 obtain ⟨hv,bv,rfl,h1,ho,h2,hb⟩:=h; intro k hk; unfold RuD.ids at hk; rcases List.mem_append.1 hk with hk | hk
 ·rw [← h1] at hk
  exact fy ho (by simpa using hk)
 ·rcases List.mem_append.1 hk with hk | hk
  ·rw [← h2] at hk
   exact fy hb (by simpa using hk)
  ·exact lm hb k hk
theorem fc {S T:aP} {cur:World} {x:RuD} {cs:List Value} (h:RuR S cur x cs) (hS:∀ k,k < cur.heap.size->S k->T k) (hT:T cur.heap.size):aO 27 7 RuR T (cur.alloc (.cells cs.toArray 27)) [x] (.slice (some ⟨cur.heap.size,0,none⟩) 1 1):=by
 have hb:Below cur.heap.size cur (cur.alloc (.cells cs.toArray 27)):=(zN _ _).alloc (zM _) _; have hl:=bS.len h
 refine iZ bS (af _ _) rfl (by omega) (by show 1<=maxLen; decide) hT fun i y hy=>?_
 match i,hy with
 | 0,hy =>
  injection hy with hy; subst hy; exact ⟨cs,fun j u hu=>by simpa using hu,bS.move h fun k hk hk2=>⟨⟨hS k hk hk2,by omega⟩,hb.block k hk⟩⟩
theorem uf {x:RuD} {B:Nat} {xs:List (Option Nat × Lt)} (hn:(ct xs).Nodup) (ha:∀ k∈ct xs,k < B) (hx:∀ k∈x.ids,B<=k) (hd:x.ids.Nodup):(ct xs++[x].flatMap RuD.ids).Nodup:=by
 rw [List.nodup_append]; refine ⟨hn,by simpa using hd,fun k hk j hj=>?_⟩; have h1:=ha k hk; have h2:=hx j (by simpa using hj); omega
theorem kB (t:Tm) (w:World):Calls Tryz.prog 119 #[.agg (aB t)] w (PL1 w (aQ t)):=qq t w
theorem kH (op:Int) (a b:Tm) (w:World):Calls Tryz.prog 120 #[iv op,.agg (aB a),.agg (aB b)] w (PL1 w (aE op a b)):=dT op a b w
def zK (pb:Nat) (K:PK) (w:World) (r:Option (List Lt × List Ru) × PSt) (e:Ending) (w':World):Prop :=
 PM pb K r.2 w'/\Fr (one pb) w w'/\match r.1 with
 | some q=>∃ v1 v2 xs ys,e=.returned (.tuple #[v1,v2,.bool true])/\aO 24 4 LdR (aF w.heap.size) w' xs v1/\aO 27 7 RuR (aF w.heap.size) w' ys v2/\xs.map (·.2)=q.1/\ys.map RuD.ru=q.2/\(ct xs++ys.flatMap RuD.ids).Nodup
 | none=>e=.returned (.tuple #[.slice none 0 0,.slice none 0 0,.bool false])
end Go.Proofs.YtffdpoifdahadaaGreatDoor
namespace Go.Proofs.YtffdpoifdahadaaGreatDoor
open Go.RowKit
open Go.Lib (hid itoa)
def zq (ts:List Tw):Option Lt × PSt->Option (List Lt × List Ru) × PSt
 | (none,s)=>(none,s)
 | (some l,s)=>mp ts l (cW ts s)
theorem v8 (ts:List Tw) (st:PSt):dN ts st=zq ts (aY ts st):=by
 unfold dN; generalize aY ts st=r; obtain ⟨o,s⟩:=r; cases o <;> rfl
theorem uh (pb:Nat) (K:PK) (st:PSt) (w:World) (h:PM pb K st w) (hT:da pb w) (hN:eq K) (hv:st.vars+4 * (K.toks.length+1)<=4611686018427387904) (hv2:st.rels+4 * (K.toks.length+1)<=4611686018427387904) :
  Calls Tryz.prog 93 #[pt pb] w (zK pb K w (dN K.ts st)):=by
 obtain ⟨R,hR⟩:∃ R,R=dN K.ts st:=⟨_,rfl⟩; rw [← hR]; rw [v8] at hR; replace hR:=hid hR; have hK0:=hid (Kp.start h); have hpl:=h.lt
 have htl:K.ts.length=K.toks.length:=by unfold PK.ts; rw [zY]
 replace hN:=hid hN; replace hT:=hid hT; replace htl:=hid htl; have hat:=hid (jy pb K (st) w hK0.out.pm); have hkA1:=ig K.ts (st); have hokA1:=kh K.ts (fun i=>(hK0.out.pm.tok_ok i).2.2) (st); obtain ⟨ra1,hra1⟩:∃ ra,ra=aY K.ts (st):=⟨_,rfl⟩; rw [← hra1] at hat hkA1 hokA1; replace hR:=hR.out; rw [← hra1] at hR; replace hR:=hid hR; replace hra1:=hid hra1; obtain ⟨ol1,s1⟩:=ra1; replace hkA1:=hid (show fN (st) s1 from hkA1); replace hokA1:=hid (show ∀ l,ol1=some l->(∀ t∈l.args,t.var.length<=1048576)/\l.args.length+(st).nx < s1.nx from hokA1); obtain ⟨z1,hz1⟩:∃ z,ol1.isSome=z:=⟨_,rfl⟩
 replace hat:=hid (show Calls Tryz.prog 63 #[pt pb] w fun e w'=>∃ (op:Int) (nt:Bool) (rel:List UInt8) (a:Option Addr) (n c:Nat),e=.returned (.tuple #[.agg (ap op nt rel (.slice a n c)),.bool z1])/\(∀ l,ol1=some l->op=l.op/\nt=l.nt/\rel=l.rel/\n=l.args.length/\aO 63 7 FlR (aF (w).heap.size) w' l.args (.slice a l.args.length c))/\PM pb K s1 w'/\Fr (one pb) w w' from by rw [← hz1]; exact hat.out); replace hz1:=hid hz1
 go_enter Tryz.func93,Tryz.ntmps93
 go_wp2_with fail
 with_reducible refine hat.out.mono ?_
 rintro e w1 ⟨op1,nt1,rel1,a1,n1,c1,rfl,hl1,hM1,hf1⟩; have hK1:=hid ((hK0.out.call hM1 hf1).alloc (.cells (ap op1 nt1 rel1 (.slice a1 n1 c1)) 24)); have hT1:=hid ((hT.out.fr hf1).below ((zN _ w1).alloc (zM _) (.cells (ap op1 nt1 rel1 (.slice a1 n1 c1)) 24))); have hsz1:=hid hf1.size; clear hM1 hf1 hat; replace hl1:=hid hl1; clear hT h
 cases ol1 with
 | none =>
  have hz':false=z1:=hz1.out; subst hz'; replace hR:=hid (show R=(none,s1) from hR.out)
  go_wp2_with fail
  refine bodyPost_ret (results_tmp3 Tryz.results93 _ _ _) rfl ⟨by rw [hR.out]; exact hK1.out.pm,hK1.out.fr,?_⟩; rw [hR.out]; rfl
 | some l =>
  have hz':true=z1:=hz1.out; subst hz'; obtain ⟨rfl,rfl,rfl,rfl,hO⟩:=hl1.out l rfl; have hO1:=hid (hO.below aD ((zN _ w1).alloc (zM _) (.cells (ap l.op l.nt l.rel (.slice a1 l.args.length c1)) 24))); clear hO hl1; replace hR:=hid (show R=mp K.ts l (cW K.ts s1) from hR.out); have hsd:=hid (vD pb K (s1) _ hK1.out.pm); have hkS2:=lT K.ts (s1); obtain ⟨rs2,hrs2⟩:∃ rs,rs=cW K.ts (s1):=⟨_,rfl⟩; rw [← hrs2] at hsd hkS2; replace hR:=hR.out; rw [← hrs2] at hR; replace hR:=hid hR; replace hrs2:=hid hrs2; obtain ⟨os2,s2⟩:=rs2; replace hkS2:=hid (show fN (s1) s2 from hkS2); obtain ⟨z2,hz2⟩:∃ z,os2.isSome=z:=⟨_,rfl⟩
  replace hsd:=hid (show Calls Tryz.prog 113 #[pt pb] _ fun e w'=>∃ (b:Bool) (x:Tm),e=.returned (.tuple #[.bool b,.agg (aB x),.bool z2])/\(∀ y,os2=some y->y=(b,x))/\PM pb K s2 w'/\Fr (one pb) _ w' from by rw [← hz2]; exact hsd.out); replace hz2:=hid hz2
  go_wp2_with fail
  with_reducible refine hsd.out.mono ?_
  rintro e w2 ⟨b,x,rfl,hy2,hM2,hf2⟩; have hK2:=hid ((hK1.out.call hM2 hf2).alloc (.cells (aB x) 63)); have hT2:=hid ((hT1.out.fr hf2).below ((zN _ w2).alloc (zM _) (.cells (aB x) 63))); have hsz2:=hid hf2.size; replace hO1:=hid ((hO1.out.fr aD hf2 (fun q hq e=>by unfold one at e; unfold aF at hq; omega)).below aD ((zN _ w2).alloc (zM _) (.cells (aB x) 63))); clear hM2 hf2 hsd; replace hy2:=hid hy2
  cases os2 with
  | none =>
   have hz':false=z2:=hz2.out; subst hz'; replace hR:=hid (show R=(none,s2) from hR.out)
   go_wp2_with fail
   refine bodyPost_ret (results_tmp3 Tryz.results93 _ _ _) rfl ⟨by rw [hR.out]; exact hK2.out.pm,hK2.out.fr,?_⟩; rw [hR.out]; rfl
  | some y =>
   have hz':true=z2:=hz2.out; subst hz'; have hyb:=hy2.out y rfl; subst hyb; replace hR:=hid (show R=(some (eN (aq K.ts s2).1 (aq K.ts (aq K.ts s2).2).1 (bg K.ts (aq K.ts (aq K.ts s2).2).2).1 l b x),(bg K.ts (aq K.ts (aq K.ts s2).2).2).2) from hR.out); have hnv:=hid (ez pb K (s2) _ hK2.out.pm hT2.out hN.out (by rw [hkS2.out.vars,hkA1.out.vars]; omega)); have hnvb3:=bL K.ts (s2); obtain ⟨rv3,hrv3⟩:∃ rv,rv=aq K.ts (s2):=⟨_,rfl⟩; rw [← hrv3] at hnv hnvb3; replace hR:=hR.out; rw [← hrv3] at hR; replace hR:=hid hR; replace hrv3:=hid hrv3; obtain ⟨t3,s3⟩:=rv3; replace hnvb3:=hid (show s3.vars<=(s2).vars+(K.ts.length+1)/\s3.rels=(s2).rels/\s3.nx=(s2).nx from hnvb3)
   replace hR:=hid (show R=(some (eN t3 (aq K.ts s3).1 (bg K.ts (aq K.ts s3).2).1 l b x),(bg K.ts (aq K.ts s3).2).2) from hR.out)
   go_wp2_with fail
   with_reducible refine hnv.out.mono ?_
   rintro e w3 ⟨rfl,hM3,hf3⟩; have hK3:=hid ((hK2.out.call hM3 hf3).alloc (.cells (aB t3) 63)); have hT3:=hid ((hT2.out.fr hf3).below ((zN _ w3).alloc (zM _) (.cells (aB t3) 63))); have hsz3:=hid hf3.size; replace hO1:=hid ((hO1.out.fr aD hf3 (fun q hq e=>by unfold one at e; unfold aF at hq; omega)).below aD ((zN _ w3).alloc (zM _) (.cells (aB t3) 63))); clear hM3 hf3 hnv; have hnv:=hid (ez pb K (s3) _ hK3.out.pm hT3.out hN.out (by have h1:=hnvb3.out.1; have h2:=htl.out; rw [hkS2.out.vars,hkA1.out.vars] at h1; omega)); have hnvb4:=bL K.ts (s3); obtain ⟨rv4,hrv4⟩:∃ rv,rv=aq K.ts (s3):=⟨_,rfl⟩; rw [← hrv4] at hnv hnvb4; replace hR:=hR.out; rw [← hrv4] at hR; replace hR:=hid hR; replace hrv4:=hid hrv4
   obtain ⟨t4,s4⟩:=rv4; replace hnvb4:=hid (show s4.vars<=(s3).vars+(K.ts.length+1)/\s4.rels=(s3).rels/\s4.nx=(s3).nx from hnvb4); replace hR:=hid (show R=(some (eN t3 t4 (bg K.ts s4).1 l b x),(bg K.ts s4).2) from hR.out)
   go_wp2_with fail
   with_reducible refine hnv.out.mono ?_
   rintro e w4 ⟨rfl,hM4,hf4⟩; have hK4:=hid ((hK3.out.call hM4 hf4).alloc (.cells (aB t4) 63)); have hT4:=hid ((hT3.out.fr hf4).below ((zN _ w4).alloc (zM _) (.cells (aB t4) 63))); have hsz4:=hid hf4.size; replace hO1:=hid ((hO1.out.fr aD hf4 (fun q hq e=>by unfold one at e; unfold aF at hq; omega)).below aD ((zN _ w4).alloc (zM _) (.cells (aB t4) 63))); clear hM4 hf4 hnv; have hnr:=hid (mn pb K (s4) _ hK4.out.pm hT4.out hN.out (by rw [hnvb4.out.2.1,hnvb3.out.2.1,hkS2.out.rels,hkA1.out.rels]; omega)); have hnrl:=j8 K (s4) (by rw [hnvb4.out.2.1,hnvb3.out.2.1,hkS2.out.rels,hkA1.out.rels]; omega); obtain ⟨rv5,hrv5⟩:∃ rv,rv=bg K.ts (s4):=⟨_,rfl⟩; rw [← hrv5] at hnr hnrl; replace hR:=hR.out; rw [← hrv5] at hR; replace hR:=hid hR
   replace hrv5:=hid hrv5; obtain ⟨rl,s5⟩:=rv5; replace hR:=hid (show R=(some (eN t3 t4 rl l b x),s5) from hR.out)
   go_wp2_with fail
   with_reducible refine hnr.out.mono ?_
   rintro e w5 ⟨rfl,hM5,hf5⟩; have hK5:=hid (hK4.out.call hM5 hf5); have hsz5:=hid hf5.size; replace hO1:=hid (hO1.out.fr aD hf5 (fun q hq e=>by unfold one at e; unfold aF at hq; omega)); clear hM5 hf5 hnr; replace hnrl:=hid (show rl.length<=1048576 from hnrl); have hb6:Below w5.heap.size w5 (w5.alloc (.cells (fB [x]).toArray 63)):=(zN _ w5).alloc (zM _) _; have hvar:=hid (hokA1.out l rfl).1
   have hal:l.args.length+1<=1048576:=by have h1:=(hokA1.out l rfl).2; have h2:=hK1.out.pm.nx; have h3:=hK1.out.pm.len; omega
   obtain ⟨L,hL⟩:∃ L,L=bq rl l [x]:=⟨_,rfl⟩; have hwc:=hid (show Calls Tryz.prog 118 #[sv rl,.agg (ap l.op l.nt l.rel (.slice a1 l.args.length c1)),.slice (some ⟨w5.heap.size,0,none⟩) 1 1] (w5.alloc (.cells (aB x) 63)) (PL1 (w5.alloc (.cells (aB x) 63)) L) from hL ▸ jF rl l [x] _ _ _ (.slice (some ⟨w5.heap.size,0,none⟩) 1 1) _ ((hO1.out.below aD hb6).sl aD) ((fg (l:=[x]) (S:=fun _=>True) (af w5 (.cells (fB [x]).toArray 63)) (by show 1<=maxLen; decide) trivial).sl aD) (by show 1+_<=_; omega) hvar.out); have rA5:=hK5.out.nth (i:=2) (b:=w2.heap.size) (o:=.cells (aB x) 63 (0,0)) rfl
   have rL5:=hK5.out.nth (i:=3) (b:=w1.heap.size) (o:=.cells (ap l.op l.nt l.rel (.slice a1 l.args.length c1)) 24 (0,0)) rfl; obtain ⟨v0,v1,v2,v3,v4,v5,v6,vz⟩:=aH (rA5); clear vz; obtain ⟨u0,u1,u2,u3,uz⟩:=aK (rL5); clear uz; replace hb6:=hid hb6; replace hL:=hid hL
   go_wp2_with fail
   with_reducible refine hwc.out.mono ?_
   intro e w6 hP; obtain ⟨aw,cw,rfl,hQw,hbw⟩:=PL1.open hP; clear hP hwc; have hb7:=(hb6.out.trans (hbw.mono hb6.out.size)); have hK6:=hid ((hK5.out.below hb7).alloc (.cells (ap L.op true L.rel (.slice aw L.args.length cw)) 24)); have hO6:=hid ((hO1.out.below aD hb7).below aD ((zN _ w6).alloc (zM _) (.cells (ap L.op true L.rel (.slice aw L.args.length cw)) 24))); have hQ6:=hid (hQw.below aD ((zN _ w6).alloc (zM _) (.cells (ap L.op true L.rel (.slice aw L.args.length cw)) 24))); have hsz6:=hid (show w5.heap.size < w6.heap.size from zS (by simp) hbw.size); clear hbw hb7 hQw hb6 v0 v1 v2 v3 v4 v5 v6 u0 u1 u2 u3
   go_upto_region 12 with (fail)
   generalize hW6:w6.alloc (.cells (ap L.op true L.rel (.slice aw L.args.length cw)) 24)=W6 at *; have hw6:=hid (show W6.heap.size=w6.heap.size+1 from by rw [← hW6]; simp); clear hW6
   obtain ⟨NR0,hNR0⟩:∃ NR0:World->Nat->RuD->Value->Value->Prop,NR0=fun wx RB x hv bv=>NR W6 RB x hv bv wx/\x.ru=⟨bq rl l [t3],0,0,[aQ t3,aS t4 l,bM b t4 t3]⟩:=⟨_,rfl⟩
   replace hNR0:=hid hNR0
   go_cut [13] (fun p wx=>∃ RB x hv bv,p=pt RB/\Hid (NR0 wx RB x hv bv))
   case first =>
    have hS0:=hid (RS.start W6); have rX:=hK6.out.nth (i:=1) (b:=w4.heap.size) (o:=.cells (aB t4) 63 (0,0)) rfl; have rY:=hK6.out.nth (i:=2) (b:=w3.heap.size) (o:=.cells (aB t3) 63 (0,0)) rfl; have rL:=hK6.out.nth (i:=4) (b:=w1.heap.size) (o:=.cells (ap l.op l.nt l.rel (.slice a1 l.args.length c1)) 24 (0,0)) rfl; have hO6d:=hid (hO6.out.below aD ((zN _ W6).drew)); clear hO6; have hO6:=hO6d; clear hO6d;(have hal1:[t3].length+l.args.length<=1048576:=by show 1+_<=_; omega);(have hal2:l.args.length<=1048575:=by omega);have hS:=hS0; clear hS0; refine wp_region_held_drew (S:=fun w'=>Below W6.heap.size W6 w') (by kernel_rfl) ?_ (fun hHeld=>?_)
    ·exact (zN _ W6).drew
    generalize W6.drew=wd at *; refine wTk (i:=0) (v:=?_) rfl ?hy ?_
    case hy =>
     intro w hSw
     skip
     go_simp
     all_goals with_reducible rfl
    (try simp only [Act.put,sI,sZ,sS]);refine wTk (i:=1) (v:=?_) rfl ?hy ?_
    case hy =>
     intro w hSw; obtain ⟨v0,v1,v2,v3,-⟩:=aK (an hSw rL (ae rL)); go_simp
     all_goals with_reducible rfl
    (try simp only [Act.put,sI,sZ,sS]);refine wTk (i:=2) (v:=?_) rfl ?hy ?_
    case hy =>
     intro w hSw; obtain ⟨v0,v1,v2,v3,v4,v5,v6,-⟩:=aH (an hSw rY (ae rY)); go_simp
     all_goals with_reducible rfl
    (try simp only [Act.put,sI,sZ,sS]);refine wTk (i:=5) (v:=?_) rfl ?hy ?_
    case hy =>
     intro w hSw; obtain ⟨v0,v1,v2,v3,v4,v5,v6,-⟩:=aH (an hSw rY (ae rY)); go_simp
     all_goals with_reducible rfl
    (try simp only [Act.put,sI,sZ,sS]);refine wTk (i:=7) (v:=?_) rfl ?hy ?_
    case hy =>
     intro w hSw; obtain ⟨v0,v1,v2,v3,v4,v5,v6,-⟩:=aH (an hSw rX (ae rX)); go_simp
     all_goals with_reducible rfl
    (try simp only [Act.put,sI,sZ,sS]);refine wTk (i:=8) (v:=?_) rfl ?hy ?_
    case hy =>
     intro w hSw; obtain ⟨v0,v1,v2,v3,-⟩:=aK (an hSw rL (ae rL)); go_simp
     all_goals with_reducible rfl
    (try simp only [Act.put,sI,sZ,sS]);refine wTk (i:=10) (v:=?_) rfl ?hy ?_
    case hy =>
     intro w hSw
     skip
     go_simp
     all_goals with_reducible rfl
    (try simp only [Act.put,sI,sZ,sS]);refine wTk (i:=11) (v:=?_) rfl ?hy ?_
    case hy =>
     intro w hSw; obtain ⟨v0,v1,v2,v3,v4,v5,v6,-⟩:=aH (an hSw rX (ae rX)); go_simp
     all_goals with_reducible rfl
    (try simp only [Act.put,sI,sZ,sS]);refine wTk (i:=12) (v:=?_) rfl ?hy ?_
    case hy =>
     intro w hSw; obtain ⟨v0,v1,v2,v3,v4,v5,v6,-⟩:=aH (an hSw rY (ae rY)); go_simp
     all_goals with_reducible rfl
    (try simp only [Act.put,sI,sZ,sS]);clear rX rY rL; refine wpAnyH_ready (rs:=[3,16]) (by as_aux_lemma=>kernel_rfl) (by simp) ?_; refine rdC rfl (fun K hK=>?_) (rdC rfl (fun K hK=>?_) AllReadyH.nil)
    rotate_left
    go_simp; have hbz:Below wd.heap.size wd (wd.alloc (.cells #[.int .i64 0,.bool false,.string ⟨#[]⟩,.slice none 0 0,.int .i64 0,.int .i64 0,.slice none 0 0] 27)):=(zN _ _).alloc (zM _) _; replace hS:=hid (show RS _ (some wd.heap.size) _ (wd.alloc (.cells #[.int .i64 0,.bool false,.string ⟨#[]⟩,.slice none 0 0,.int .i64 0,.int .i64 0,.slice none 0 0] 27)) from hS.out.newRule); replace hO6:=hid (hO6.out.below aD hbz); clear hbz; generalize wd.alloc (.cells #[.int .i64 0,.bool false,.string ⟨#[]⟩,.slice none 0 0,.int .i64 0,.int .i64 0,.slice none 0 0] 27)=wd at *; refine hK.out _ _ ?_ (fun hHeld2=>?_)
    ·exact hS.out.below
    clear hK K; clear hHeld; have hHeld:=hHeld2; clear hHeld2;(try simp only [Act.put,sI,sZ,sS]);refine wpAnyH_ready (rs:=[3]) (by as_aux_lemma=>kernel_rfl) (by simp) ?_; refine rdY rfl (fun K hK=>?_)
    all_goals
     go_simp; have hbz:Below wd.heap.size wd (wd.alloc (.cells #[sv t3.var,iv t3.val.kind,sv t3.val.t,iv t3.val.n,iv t3.val.m,sv t3.val.s,.slice none 0 0] 63)):=(zN _ _).alloc (zM _) _; replace hS:=hid (hS.out.grow hbz); replace hO6:=hid (hO6.out.below aD hbz); have hTV:=hid (show aO 63 7 FlR (fun _=>True) _ [t3] (.slice (some ⟨wd.heap.size,0,none⟩) 1 1) from fg (l:=[t3]) (af wd (.cells #[sv t3.var,iv t3.val.kind,sv t3.val.t,iv t3.val.n,iv t3.val.m,sv t3.val.s,.slice none 0 0] 63)) (by show 1<=maxLen; decide) trivial); clear hbz; generalize wd.alloc (.cells #[sv t3.var,iv t3.val.kind,sv t3.val.t,iv t3.val.n,iv t3.val.m,sv t3.val.s,.slice none 0 0] 63)=u1 at *; refine hK.out _ _ ?_ (fun hHeld2=>?_)
     ·exact hS.out.below
     clear hK K; clear hHeld; have hHeld:=hHeld2; clear hHeld2;(try simp only [Act.put,sI,sZ,sS])
    all_goals first
     | (
      refine wpAnyH_ready (rs:=[4,16]) (by as_aux_lemma=>kernel_rfl) (by simp) ?_; refine rdC rfl (fun K hK=>?_) (rdC rfl (fun K hK=>?_) AllReadyH.nil)
      rotate_left
      go_simp; have hbz:Below u1.heap.size u1 (u1.alloc (.cells #[.int .i64 0,.bool false,.string ⟨#[]⟩,.slice none 0 0,.int .i64 0,.int .i64 0,.slice none 0 0] 27)):=(zN _ _).alloc (zM _) _; replace hS:=hid (show RS _ (some u1.heap.size) _ (u1.alloc (.cells #[.int .i64 0,.bool false,.string ⟨#[]⟩,.slice none 0 0,.int .i64 0,.int .i64 0,.slice none 0 0] 27)) from hS.out.newRule); replace hO6:=hid (hO6.out.below aD hbz); replace hTV:=hid (hTV.out.below aD hbz); clear hbz; generalize u1.alloc (.cells #[.int .i64 0,.bool false,.string ⟨#[]⟩,.slice none 0 0,.int .i64 0,.int .i64 0,.slice none 0 0] 27)=u1 at *; refine hK.out _ _ ?_ (fun hHeld2=>?_)
      ·exact hS.out.below
      clear hK K; clear hHeld; have hHeld:=hHeld2; clear hHeld2;(try simp only [Act.put,sI,sZ,sS]);refine wpAnyH_ready (rs:=[4]) (by as_aux_lemma=>kernel_rfl) (by simp) ?_
      refine rdY rfl (fun K hK=>?_))
     | (
      refine wpAnyH_ready (rs:=[4]) (by as_aux_lemma=>kernel_rfl) (by simp) ?_
      refine rdY rfl (fun K hK=>?_))
    all_goals
     go_simp;go_at_call 118;(with_reducible refine (jF rl l [t3] _ _ _ _ _ (hO6.out.sl aD) (hTV.out.sl aD) hal1 hvar.out).mono ?_);intro e u2 hP; obtain ⟨ya1,yc1,rfl,hQ,hbq⟩:=PL1.open hP; replace hS:=hid (hS.out.push hbq hQ); clear hTV; replace hO6:=hid (hO6.out.below aD hbq); clear hbq hQ hP; refine hK.out _ _ ?_ (fun hHeld2=>?_)
     ·exact hS.out.below
     clear hK K; clear hHeld; have hHeld:=hHeld2; clear hHeld2;(try simp only [Act.put,sI,sZ,sS])
    all_goals first
     | (
      refine wpAnyH_ready (rs:=[6,16]) (by as_aux_lemma=>kernel_rfl) (by simp) ?_; refine rdC rfl (fun K hK=>?_) (rdC rfl (fun K hK=>?_) AllReadyH.nil)
      rotate_left
      go_simp; have hbz:Below u2.heap.size u2 (u2.alloc (.cells #[.int .i64 0,.bool false,.string ⟨#[]⟩,.slice none 0 0,.int .i64 0,.int .i64 0,.slice none 0 0] 27)):=(zN _ _).alloc (zM _) _; replace hS:=hid (show RS _ (some u2.heap.size) _ (u2.alloc (.cells #[.int .i64 0,.bool false,.string ⟨#[]⟩,.slice none 0 0,.int .i64 0,.int .i64 0,.slice none 0 0] 27)) from hS.out.newRule); replace hO6:=hid (hO6.out.below aD hbz); clear hbz; generalize u2.alloc (.cells #[.int .i64 0,.bool false,.string ⟨#[]⟩,.slice none 0 0,.int .i64 0,.int .i64 0,.slice none 0 0] 27)=u2 at *; refine hK.out _ _ ?_ (fun hHeld2=>?_)
      ·exact hS.out.below
      clear hK K; clear hHeld; have hHeld:=hHeld2; clear hHeld2;(try simp only [Act.put,sI,sZ,sS]);refine wpAnyH_ready (rs:=[6]) (by as_aux_lemma=>kernel_rfl) (by simp) ?_
      refine rdY rfl (fun K hK=>?_))
     | (
      refine wpAnyH_ready (rs:=[6]) (by as_aux_lemma=>kernel_rfl) (by simp) ?_
      refine rdY rfl (fun K hK=>?_))
    all_goals
     go_simp;go_at_call 119;(with_reducible refine (kB t3 _).mono ?_);intro e u3 hP; obtain ⟨ya2,yc2,rfl,hQ,hbq⟩:=PL1.open hP; replace hS:=hid (hS.out.push hbq hQ); replace hO6:=hid (hO6.out.below aD hbq); clear hbq hQ hP; refine hK.out _ _ ?_ (fun hHeld2=>?_)
     ·exact hS.out.below
     clear hK K; clear hHeld; have hHeld:=hHeld2; clear hHeld2;(try simp only [Act.put,sI,sZ,sS])
    all_goals first
     | (
      refine wpAnyH_ready (rs:=[9,16]) (by as_aux_lemma=>kernel_rfl) (by simp) ?_; refine rdC rfl (fun K hK=>?_) (rdC rfl (fun K hK=>?_) AllReadyH.nil)
      rotate_left
      go_simp; have hbz:Below u3.heap.size u3 (u3.alloc (.cells #[.int .i64 0,.bool false,.string ⟨#[]⟩,.slice none 0 0,.int .i64 0,.int .i64 0,.slice none 0 0] 27)):=(zN _ _).alloc (zM _) _; replace hS:=hid (show RS _ (some u3.heap.size) _ (u3.alloc (.cells #[.int .i64 0,.bool false,.string ⟨#[]⟩,.slice none 0 0,.int .i64 0,.int .i64 0,.slice none 0 0] 27)) from hS.out.newRule); replace hO6:=hid (hO6.out.below aD hbz); clear hbz; generalize u3.alloc (.cells #[.int .i64 0,.bool false,.string ⟨#[]⟩,.slice none 0 0,.int .i64 0,.int .i64 0,.slice none 0 0] 27)=u3 at *; refine hK.out _ _ ?_ (fun hHeld2=>?_)
      ·exact hS.out.below
      clear hK K; clear hHeld; have hHeld:=hHeld2; clear hHeld2;(try simp only [Act.put,sI,sZ,sS]);refine wpAnyH_ready (rs:=[9]) (by as_aux_lemma=>kernel_rfl) (by simp) ?_
      refine rdY rfl (fun K hK=>?_))
     | (
      refine wpAnyH_ready (rs:=[9]) (by as_aux_lemma=>kernel_rfl) (by simp) ?_
      refine rdY rfl (fun K hK=>?_))
    all_goals
     go_simp;go_at_call 115;(with_reducible refine (iW t4 l _ _ _ (hO6.out.sl aD) hal2).mono ?_);intro e u4 hP; obtain ⟨ya3,yc3,rfl,hQ,hbq⟩:=PL1.open hP; replace hS:=hid (hS.out.push hbq hQ); replace hO6:=hid (hO6.out.below aD hbq); clear hbq hQ hP; refine hK.out _ _ ?_ (fun hHeld2=>?_)
     ·exact hS.out.below
     clear hK K; clear hHeld; have hHeld:=hHeld2; clear hHeld2;(try simp only [Act.put,sI,sZ,sS])
    all_goals first
     | (
      refine wpAnyH_ready (rs:=[13,16]) (by as_aux_lemma=>kernel_rfl) (by simp) ?_; refine rdC rfl (fun K hK=>?_) (rdC rfl (fun K hK=>?_) AllReadyH.nil)
      rotate_left
      go_simp; have hbz:Below u4.heap.size u4 (u4.alloc (.cells #[.int .i64 0,.bool false,.string ⟨#[]⟩,.slice none 0 0,.int .i64 0,.int .i64 0,.slice none 0 0] 27)):=(zN _ _).alloc (zM _) _; replace hS:=hid (show RS _ (some u4.heap.size) _ (u4.alloc (.cells #[.int .i64 0,.bool false,.string ⟨#[]⟩,.slice none 0 0,.int .i64 0,.int .i64 0,.slice none 0 0] 27)) from hS.out.newRule); replace hO6:=hid (hO6.out.below aD hbz); clear hbz; generalize u4.alloc (.cells #[.int .i64 0,.bool false,.string ⟨#[]⟩,.slice none 0 0,.int .i64 0,.int .i64 0,.slice none 0 0] 27)=u4 at *; refine hK.out _ _ ?_ (fun hHeld2=>?_)
      ·exact hS.out.below
      clear hK K; clear hHeld; have hHeld:=hHeld2; clear hHeld2;(try simp only [Act.put,sI,sZ,sS]);refine wpAnyH_ready (rs:=[13]) (by as_aux_lemma=>kernel_rfl) (by simp) ?_
      refine rdY rfl (fun K hK=>?_))
     | (
      refine wpAnyH_ready (rs:=[13]) (by as_aux_lemma=>kernel_rfl) (by simp) ?_
      refine rdY rfl (fun K hK=>?_))
    all_goals
     go_simp;go_at_call 116;(with_reducible refine (mT b t4 t3 _).mono ?_);intro e u5 hP; obtain ⟨ya4,yc4,rfl,hQ,hbq⟩:=PL1.open hP; replace hS:=hid (hS.out.push hbq hQ); replace hO6:=hid (hO6.out.below aD hbq); clear hbq hQ hP; refine hK.out _ _ ?_ (fun hHeld2=>?_)
     ·exact hS.out.below
     clear hK K; clear hHeld; have hHeld:=hHeld2; clear hHeld2;(try simp only [Act.put,sI,sZ,sS])
    all_goals first
     | (
      refine wpAnyH_ready (rs:=[14,16]) (by as_aux_lemma=>kernel_rfl) (by simp) ?_; refine rdC rfl (fun K hK=>?_) (rdC rfl (fun K hK=>?_) AllReadyH.nil)
      rotate_left
      go_simp; have hbz:Below u5.heap.size u5 (u5.alloc (.cells #[.int .i64 0,.bool false,.string ⟨#[]⟩,.slice none 0 0,.int .i64 0,.int .i64 0,.slice none 0 0] 27)):=(zN _ _).alloc (zM _) _; replace hS:=hid (show RS _ (some u5.heap.size) _ (u5.alloc (.cells #[.int .i64 0,.bool false,.string ⟨#[]⟩,.slice none 0 0,.int .i64 0,.int .i64 0,.slice none 0 0] 27)) from hS.out.newRule); replace hO6:=hid (hO6.out.below aD hbz); clear hbz; generalize u5.alloc (.cells #[.int .i64 0,.bool false,.string ⟨#[]⟩,.slice none 0 0,.int .i64 0,.int .i64 0,.slice none 0 0] 27)=u5 at *; refine hK.out _ _ ?_ (fun hHeld2=>?_)
      ·exact hS.out.below
      clear hK K; clear hHeld; have hHeld:=hHeld2; clear hHeld2;(try simp only [Act.put,sI,sZ,sS]);refine wpAnyH_ready (rs:=[14]) (by as_aux_lemma=>kernel_rfl) (by simp) ?_
      refine rdY rfl (fun K hK=>?_))
     | (
      refine wpAnyH_ready (rs:=[14]) (by as_aux_lemma=>kernel_rfl) (by simp) ?_
      refine rdY rfl (fun K hK=>?_))
    all_goals
     go_simp; replace hS:=hid (show RS2 W6 _ (bq rl l [t3]) (.slice ya1 (bq rl l [t3]).args.length yc1) _ (.slice (some ⟨u5.heap.size,0,none⟩) 3 3) (u5.alloc (.cells #[iv (aQ t3).op,.bool (aQ t3).nt,sv (aQ t3).rel,.slice ya2 (aQ t3).args.length yc2,iv (aS t4 l).op,.bool (aS t4 l).nt,sv (aS t4 l).rel,.slice ya3 (aS t4 l).args.length yc3,iv (bM b t4 t3).op,.bool (bM b t4 t3).nt,sv (bM b t4 t3).rel,.slice ya4 (bM b t4 t3).args.length yc4] 24)) from RS.build (ps:=[(aQ t3,.slice ya2 (aQ t3).args.length yc2),(aS t4 l,.slice ya3 (aS t4 l).args.length yc3),(bM b t4 t3,.slice ya4 (bM b t4 t3).args.length yc4)]) hS.out (by show 3<=maxLen; decide)); clear hO6;generalize u5.alloc (.cells #[iv (aQ t3).op,.bool (aQ t3).nt,sv (aQ t3).rel,.slice ya2 (aQ t3).args.length yc2,iv (aS t4 l).op,.bool (aS t4 l).nt,sv (aS t4 l).rel,.slice ya3 (aS t4 l).args.length yc3,iv (bM b t4 t3).op,.bool (bM b t4 t3).nt,sv (bM b t4 t3).rel,.slice ya4 (bM b t4 t3).args.length yc4] 24)=u6 at *; refine hK.out _ _ ?_ (fun hHeld2=>?_)
     ·exact hS.out.below
     clear hK K; clear hHeld; have hHeld:=hHeld2; clear hHeld2;(try simp only [Act.put,sI,sZ,sS])
    all_goals
     refine wTk (i:=15) (v:=?_) rfl ?hy ?_
     case hy =>
      intro w hSw
      skip
      go_simp
      all_goals with_reducible rfl
     try simp only [Act.put,sI,sZ,sS]
    all_goals try
     refine wpAnyH_ready (rs:=[16]) (by as_aux_lemma=>kernel_rfl) (by simp) ?_; refine rdY rfl (fun K hK=>?_); go_simp; have hbz:Below u6.heap.size u6 (u6.alloc (.cells #[.int .i64 0,.bool false,.string ⟨#[]⟩,.slice none 0 0,.int .i64 0,.int .i64 0,.slice none 0 0] 27)):=(zN _ _).alloc (zM _) _; replace hS:=hid (show RS2 _ (some u6.heap.size) _ _ _ _ (u6.alloc (.cells #[.int .i64 0,.bool false,.string ⟨#[]⟩,.slice none 0 0,.int .i64 0,.int .i64 0,.slice none 0 0] 27)) from hS.out.newRule); clear hbz; generalize u6.alloc (.cells #[.int .i64 0,.bool false,.string ⟨#[]⟩,.slice none 0 0,.int .i64 0,.int .i64 0,.slice none 0 0] 27)=u6 at *; refine hK.out _ _ ?_ (fun hHeld2=>?_)
     ·exact hS.out.below
     clear hK K; clear hHeld; have hHeld:=hHeld2; clear hHeld2;(try simp only [Act.put,sI,sZ,sS])
    all_goals
     have hge:=(hS.out.zr _ rfl).1; have hzr:=(hS.out.zr _ rfl).2; refine wpAnyH_ready (rs:=[17]) (by as_aux_lemma=>kernel_rfl) (by simp) ?_; refine rdY rfl (fun K hK=>?_); rw [if_pos (by rfl)]; refine wp_store_row 27 (.tmp 13) (.tmp 56) rfl _ (aM (bq rl l [t3]).op (bq rl l [t3]).nt (bq rl l [t3]).rel (.slice ya1 (bq rl l [t3]).args.length yc1) 0 0 _) (by rfl) (by rfl) _ _ hzr (by kernel_rfl) (by rfl) (by simp [Value.oneCell']) ?_; refine hK.out _ _ ?_ (fun hHeld2=>?_)
     ·exact fj hHeld hge _
     clear hK K; clear hHeld; have hHeld:=hHeld2; clear hHeld2;(try simp only [Act.put,sI,sZ,sS]);refine wpAnyH_done (by as_aux_lemma=>kernel_rfl) ?_ _;go_wp2_with fail;go_meet
     case rel=>exact ⟨_,_,_,_,rfl,hid (by rw [hNR0.out]; exact ⟨hS.out.store,rfl⟩)⟩
   case rest =>
    obtain ⟨RB,rx,hv',bv,rfl,hc⟩:=hcut;(obtain ⟨hNR,hru⟩:NR W6 RB rx hv' bv wc/\rx.ru=⟨bq rl l [t3],0,0,[aQ t3,aS t4 l,bM b t4 t3]⟩:=by have h9:=hc.out; rw [hNR0.out] at h9; exact h9);have hW6s:=hid hK6.out.fr.size; have hKc:=hid (hK6.out.below hNR.below); have hQc:=hid (hQ6.out.below aD hNR.below); have rN:=hKc.out.nth (i:=0) (b:=w6.heap.size) (o:=.cells (ap L.op true L.rel (.slice aw L.args.length cw)) 24 (0,0)) rfl; have hNRc:=hid hNR; clear hc hO6 hK6 hNR0; obtain ⟨xa,xc,ya,yc,rfl,rfl⟩:=hNR.slices; obtain ⟨O1,hO1⟩:∃ O1:Obj,O1=.cells #[iv L.op,.bool true,sv L.rel,.slice aw L.args.length cw] 24:=⟨_,rfl⟩; obtain ⟨RX,hRX⟩:∃ RX:RuD,RX=rx:=⟨_,rfl⟩; have hrow:=hNR.row; replace hru:=hid hru; clear hNR;go_wp2_with fail;refine wp_region_held_drew (S:=fun w'=>Below wc.heap.size wc w') (by kernel_rfl) ?_ (fun hHeld=>?_)
    ·exact (zN _ wc).drew
    generalize wc.drew=wd at *; have hKd:=hid (hKc.out.below hHeld); refine wTk (i:=0) (v:=?_) rfl ?hy ?_
    case hy =>
     intro w hSw; obtain ⟨v0,v1,v2,v3,-⟩:=aK (an hSw rN (ae rN)); go_simp
     all_goals with_reducible rfl
    (try simp only [Act.put,sI,sZ,sS]);refine wTk (i:=2) (v:=?_) rfl ?hy ?_
    case hy =>
     intro w hSw; obtain ⟨v0,v1,v2,v3,v4,v5,v6,-⟩:=eg (an hSw hrow (ae hrow)); go_simp
     all_goals with_reducible rfl
    (try simp only [Act.put,sI,sZ,sS]);have hKx:=hid (show Kp pb K s5 w wc _ from hKc.out); have hW5s:=hid (show w.heap.size<=(w5.alloc (.cells (aB x) 63)).heap.size from by have:=hK5.out.fr.size; simp; omega)
    have hND:=hid (show (ct [(Value.ownBlock (.slice aw L.args.length cw),neg L)]++[rx].flatMap RuD.ids).Nodup from uf (B:=W6.heap.size) (by rw [fK]; cases Value.ownBlock (.slice aw L.args.length cw) <;> simp) (fun k hk=>by
     obtain ⟨y,hy,hyk⟩:=List.mem_filterMap.1 hk; simp at hy; subst hy
     exact hQ6.out.lt hyk) (fun k hk=>(rm hNRc.out.ru k hk).1) hNRc.out.nd)
    clear rN hrow; refine wpAnyH_ready (rs:=[1,3]) (by as_aux_lemma=>kernel_rfl) (by simp) ?_; refine rdC rfl (fun K hK=>?_) (rdC rfl (fun K hK=>?_) AllReadyH.nil)
    ·go_simp
     have hbz:Below wd.heap.size wd (wd.alloc (.cells #[iv L.op,.bool true,sv L.rel,.slice aw L.args.length cw] 24)):=(zN _ _).alloc (zM _) _; have hHz:=hHeld.alloc hHeld.size (.cells #[iv L.op,.bool true,sv L.rel,.slice aw L.args.length cw] 24); have hzge:w.heap.size<=wd.heap.size:=zV hKx.out.fr.size hHeld.size
     have hLr:=hid (show aO 24 4 LdR (aF w.heap.size) (wd.alloc (.cells #[iv L.op,.bool true,sv L.rel,.slice aw L.args.length cw] 24)) (List.map (fun p:Lt × Value=>(p.2.ownBlock,p.1)) [(neg L,.slice aw L.args.length cw)]) (.slice (some ⟨wd.heap.size,0,none⟩) 1 1) from cG [(neg L,.slice aw L.args.length cw)] (af wd _) (by show 1<=maxLen; decide) hzge (by
      intro p hp; simp only [Ae,List.not_mem_nil,or_false] at hp; rcases hp with rfl
      exact (hQc.out.below aD hHeld).move aD fun k hk hk2=>⟨⟨zV hW5s.out hk2,by omega⟩,(z7 _ _ _ hk)⟩))
     clear hzge; generalize wd.alloc (.cells #[iv L.op,.bool true,sv L.rel,.slice aw L.args.length cw] 24)=u1 at *; refine hK.out _ _ ?_ (fun hHeld2=>?_)
     ·exact hHz
     clear hK K; clear hHeld; have hHeld:=hHeld2; clear hHeld2;(try simp only [Act.put,sI,sZ,sS]);clear hHz; refine wTk (i:=4) (v:=?_) rfl ?hy ?_
     case hy =>
      intro w hSw
      skip
      go_simp
      all_goals with_reducible rfl
     (try simp only [Act.put,sI,sZ,sS]);refine wpAnyH_ready (rs:=[3]) (by as_aux_lemma=>kernel_rfl) (by simp) ?_; refine rdY rfl (fun K hK=>?_); go_simp; have hbz:Below u1.heap.size u1 (u1.alloc (.cells #[iv rx.head.2.op,.bool rx.head.2.nt,sv rx.head.2.rel,.slice xa rx.head.2.args.length xc,iv rx.agg,iv rx.at_,.slice ya rx.body.length yc] 27)):=(zN _ _).alloc (zM _) _; have hHz:=hHeld.alloc hHeld.size (.cells #[iv rx.head.2.op,.bool rx.head.2.nt,sv rx.head.2.rel,.slice xa rx.head.2.args.length xc,iv rx.agg,iv rx.at_,.slice ya rx.body.length yc] 27); have hzge:w.heap.size<=u1.heap.size:=zV hKx.out.fr.size hHeld.size;have hRr:=hid (show aO 27 7 RuR (aF w.heap.size) (u1.alloc (.cells #[iv rx.head.2.op,.bool rx.head.2.nt,sv rx.head.2.rel,.slice xa rx.head.2.args.length xc,iv rx.agg,iv rx.at_,.slice ya rx.body.length yc] 27)) [rx] (.slice (some ⟨u1.heap.size,0,none⟩) 1 1) from fc (bS.below hNRc.out.ru hHeld) (fun k hk hk2=>zV hW6s.out hk2.1) hzge); clear hzge; have hLr':=hid (hLr.out.below df hbz); clear hLr; have hLr:=hLr'; clear hLr'; generalize u1.alloc (.cells #[iv rx.head.2.op,.bool rx.head.2.nt,sv rx.head.2.rel,.slice xa rx.head.2.args.length xc,iv rx.agg,iv rx.at_,.slice ya rx.body.length yc] 27)=u2 at *; refine hK.out _ _ ?_ (fun hHeld2=>?_)
     ·exact hHz
     clear hK K; clear hHeld; have hHeld:=hHeld2; clear hHeld2;(try simp only [Act.put,sI,sZ,sS]);clear hHz; refine wTk (i:=5) (v:=?_) rfl ?hy ?_
     case hy =>
      intro w hSw
      skip
      go_simp
      all_goals with_reducible rfl
     (try simp only [Act.put,sI,sZ,sS]);refine wTk (i:=6) (v:=?_) rfl ?hy ?_
     case hy =>
      intro w hSw
      skip
      go_simp
      all_goals with_reducible rfl
     (try simp only [Act.put,sI,sZ,sS]);refine wpAnyH_done (by as_aux_lemma=>kernel_rfl) ?_ _; have hKe:=hid (hKx.out.below hHeld);go_wp2_with fail;refine bodyPost_ret (results_tmp3 Tryz.results93 _ _ _) rfl ⟨by rw [hR.out]; exact hKe.out.pm,hKe.out.fr,?_⟩; rw [hR.out]; exact ⟨_,_,_,_,rfl,hLr.out,hRr.out,by rw [show eN t3 t4 rl l b x=([neg (bq rl l [x])],[⟨bq rl l [t3],0,0,[aQ t3,aS t4 l,bM b t4 t3]⟩]) from rfl,← hL.out]; rfl,by rw [show eN t3 t4 rl l b x=([neg (bq rl l [x])],[⟨bq rl l [t3],0,0,[aQ t3,aS t4 l,bM b t4 t3]⟩]) from rfl,← hru.out]; rfl,hND.out⟩
    ·go_simp
     have hbz:Below wd.heap.size wd (wd.alloc (.cells #[iv rx.head.2.op,.bool rx.head.2.nt,sv rx.head.2.rel,.slice xa rx.head.2.args.length xc,iv rx.agg,iv rx.at_,.slice ya rx.body.length yc] 27)):=(zN _ _).alloc (zM _) _; have hHz:=hHeld.alloc hHeld.size (.cells #[iv rx.head.2.op,.bool rx.head.2.nt,sv rx.head.2.rel,.slice xa rx.head.2.args.length xc,iv rx.agg,iv rx.at_,.slice ya rx.body.length yc] 27); have hzge:w.heap.size<=wd.heap.size:=zV hKx.out.fr.size hHeld.size;have hRr:=hid (show aO 27 7 RuR (aF w.heap.size) (wd.alloc (.cells #[iv rx.head.2.op,.bool rx.head.2.nt,sv rx.head.2.rel,.slice xa rx.head.2.args.length xc,iv rx.agg,iv rx.at_,.slice ya rx.body.length yc] 27)) [rx] (.slice (some ⟨wd.heap.size,0,none⟩) 1 1) from fc (bS.below hNRc.out.ru hHeld) (fun k hk hk2=>zV hW6s.out hk2.1) hzge); clear hzge; generalize wd.alloc (.cells #[iv rx.head.2.op,.bool rx.head.2.nt,sv rx.head.2.rel,.slice xa rx.head.2.args.length xc,iv rx.agg,iv rx.at_,.slice ya rx.body.length yc] 27)=u1 at *; refine hK.out _ _ ?_ (fun hHeld2=>?_)
     ·exact hHz
     clear hK K; clear hHeld; have hHeld:=hHeld2; clear hHeld2;(try simp only [Act.put,sI,sZ,sS]);clear hHz; refine wpAnyH_ready (rs:=[1]) (by as_aux_lemma=>kernel_rfl) (by simp) ?_; refine rdY rfl (fun K hK=>?_); go_simp; have hbz:Below u1.heap.size u1 (u1.alloc (.cells #[iv L.op,.bool true,sv L.rel,.slice aw L.args.length cw] 24)):=(zN _ _).alloc (zM _) _; have hHz:=hHeld.alloc hHeld.size (.cells #[iv L.op,.bool true,sv L.rel,.slice aw L.args.length cw] 24); have hzge:w.heap.size<=u1.heap.size:=zV hKx.out.fr.size hHeld.size
     have hLr:=hid (show aO 24 4 LdR (aF w.heap.size) (u1.alloc (.cells #[iv L.op,.bool true,sv L.rel,.slice aw L.args.length cw] 24)) (List.map (fun p:Lt × Value=>(p.2.ownBlock,p.1)) [(neg L,.slice aw L.args.length cw)]) (.slice (some ⟨u1.heap.size,0,none⟩) 1 1) from cG [(neg L,.slice aw L.args.length cw)] (af u1 _) (by show 1<=maxLen; decide) hzge (by
      intro p hp; simp only [Ae,List.not_mem_nil,or_false] at hp; rcases hp with rfl
      exact (hQc.out.below aD hHeld).move aD fun k hk hk2=>⟨⟨zV hW5s.out hk2,by omega⟩,(z7 _ _ _ hk)⟩))
     clear hzge; have hRr':=hid (hRr.out.below bS hbz); clear hRr; have hRr:=hRr'; clear hRr'; generalize u1.alloc (.cells #[iv L.op,.bool true,sv L.rel,.slice aw L.args.length cw] 24)=u2 at *; refine hK.out _ _ ?_ (fun hHeld2=>?_)
     ·exact hHz
     clear hK K; clear hHeld; have hHeld:=hHeld2; clear hHeld2;(try simp only [Act.put,sI,sZ,sS]);clear hHz; refine wTk (i:=4) (v:=?_) rfl ?hy ?_
     case hy =>
      intro w hSw
      skip
      go_simp
      all_goals with_reducible rfl
     (try simp only [Act.put,sI,sZ,sS]);refine wTk (i:=5) (v:=?_) rfl ?hy ?_
     case hy =>
      intro w hSw
      skip
      go_simp
      all_goals with_reducible rfl
     (try simp only [Act.put,sI,sZ,sS]);refine wTk (i:=6) (v:=?_) rfl ?hy ?_
     case hy =>
      intro w hSw
      skip
      go_simp
      all_goals with_reducible rfl
     (try simp only [Act.put,sI,sZ,sS]);refine wpAnyH_done (by as_aux_lemma=>kernel_rfl) ?_ _; have hKe:=hid (hKx.out.below hHeld);go_wp2_with fail;refine bodyPost_ret (results_tmp3 Tryz.results93 _ _ _) rfl ⟨by rw [hR.out]; exact hKe.out.pm,hKe.out.fr,?_⟩; rw [hR.out]; exact ⟨_,_,_,_,rfl,hLr.out,hRr.out,by rw [show eN t3 t4 rl l b x=([neg (bq rl l [x])],[⟨bq rl l [t3],0,0,[aQ t3,aS t4 l,bM b t4 t3]⟩]) from rfl,← hL.out]; rfl,by rw [show eN t3 t4 rl l b x=([neg (bq rl l [x])],[⟨bq rl l [t3],0,0,[aQ t3,aS t4 l,bM b t4 t3]⟩]) from rfl,← hru.out]; rfl,hND.out⟩
end Go.Proofs.YtffdpoifdahadaaGreatDoor
