/- AskBd: AskBa, AskBb, AskBe, AskBf, AskBg, SlBig, AskBc, AskBd, in one text. -/
import Derived.Test.YtffdpoifdahadaaGreatDoorAskZb
import Derived.Test.YtffdpoifdahadaaGreatDoorLexB
import Derived.Test.YtffdpoifdahadaaGreatDoorAskX
set_option linter.unusedVariables false
set_option linter.unusedSimpArgs false
set_option maxHeartbeats 40000000
set_option maxRecDepth 100000
namespace Go.Proofs.YtffdpoifdahadaaGreatDoor
open Go.RowKit
open Go.Lib (hid byteCells itoa decDigits itoa_nonneg itoa_neg)
def it (Y:List UInt8):Prop:=∀ c,Y.head? = some c->bP c=false
def Wr (E:List UInt8->Prop) (u:List UInt8) (tk:List Tk):Prop:=∀ Y l2,E Y->Scans Y l2->Scans (u++Y) (tk++l2)
abbrev Any (_:List UInt8):Prop:=True
theorem Wr.app {E E':List UInt8->Prop} {u v:List UInt8} {a b:List Tk} (h:Wr E u a) (k:Wr E' v b) (hE:∀ Y,E' Y->E (v++Y)):Wr E' (u++v) (a++b):=by
 intro Y l2 hY hs; have:=h (v++Y) (b++l2) (hE Y hY) (k Y l2 hY hs); simpa [Ad] using this
theorem Wr.nil {E:List UInt8->Prop}:Wr E [] []:=fun _ _ _ h=>h
theorem Wr.weak {E E':List UInt8->Prop} {u:List UInt8} {a:List Tk} (h:Wr E u a) (hE:∀ Y,E' Y->E Y):Wr E' u a:=fun Y l2 hY hs=>h Y l2 (hE Y hY) hs
def tkN (s:List UInt8):Tk:=⟨1,s,0,0⟩
def tkI (n:Int):Tk:=⟨2,[],n,0⟩
def tkT (s:List UInt8):Tk:=⟨3,s,0,0⟩
def tkM (s:List UInt8):Tk:=⟨4,s,0,0⟩
theorem jC {s:List UInt8} (h:iJ s=true):Wr it s [tkN s]:=by
 intro Y l2 hY hs; obtain ⟨c,u,rfl,h3,h4⟩:=ml h; obtain ⟨a1,a2⟩:=lk (D:=(c::u)++Y) rfl h4 hY; have hn:=zv h3; have hsk:bo false ((c::u)++Y)=(c::u)++Y:=eW hn.1 (Or.inl hn.2); refine Scans.cons (t:=tkN (c::u)) (r2:=Y) ?_ rfl hs; rw [hsk]; show cQ (c::(u++Y))=_; simp only [cQ]; rw [if_pos h3]; unfold jV; rw [List.cons_append] at a1 a2; rw [a1,a2]; rfl
theorem u9 {n:Int} (h0:0<=n) (h1:n<=9007199254740992):Wr it (itoa n) [tkI n]:=by
 intro Y l2 hY hs; obtain ⟨b1,b2,b3⟩:=wO n h0 h1
 have hwd:(itoa n).all bP=true:=by
  rw [List.all_eq_true] at b2 ⊢
  exact fun c hc=>lq (b2 c hc)
 obtain ⟨a1,a2⟩:=lk (D:=itoa n++Y) rfl hwd hY; obtain ⟨c,u,hcu⟩:=tm b3; rw [hcu] at a1 a2 b1 b2 ⊢
 have hc:dE c=true:=by simp only [List.all_cons,Bool.and_eq_true] at b2; exact b2.1
 have hn:=dg_ne hc; have hsk:bo false ((c::u)++Y)=(c::u)++Y:=eW hn.1 (Or.inl hn.2.1); refine Scans.cons (t:=tkI n) (r2:=Y) ?_ rfl hs; rw [hsk]; show cQ (c::(u++Y))=_; simp only [cQ]; rw [if_neg (by rw [hn.2.2]; decide),if_pos hc]; unfold dQ; rw [List.cons_append] at a1 a2; rw [a1,a2,b1]; rfl
theorem xC {s:List UInt8} (h:s.length<=4096):Wr Any (dc s) [tkT s]:=by
 intro Y l2 _ hs
 have htk:dc s++Y=34::(dF s++34::Y):=by unfold dc; simp
 have hsk:bo false (34::(dF s++34::Y))=34::(dF s++34::Y):=eW (by decide) (Or.inl (by decide)); refine Scans.cons (t:=tkT s) (r2:=Y) ?_ rfl hs; rw [htk,hsk]; simp only [cQ]; rw [if_neg (by decide),if_neg (by decide),if_pos trivial]; unfold iA; rw [List.tail_cons,pX]; simp only [List.nil_append]; rw [if_neg (by omega)]; rfl
def vq (a:UInt8):Bool:=eO [a] && !j6 a && !cL a && !dE a && !decide (a=34) && !decide (a=47) && pV.all fun m=>match m with
 | [x,_]=>!decide (x=a)
 | _=>true
theorem eG {a:UInt8} (h:vq a=true):Wr Any [a] [tkM [a]]:=by
 intro Y l2 _ hs; unfold vq at h; simp only [Bool.and_eq_true,Bool.not_eq_true',decide_eq_false_iff_not] at h; obtain ⟨⟨⟨⟨⟨⟨h1,h2⟩,h3⟩,h4⟩,h5⟩,h6⟩,h7⟩:=h; rw [List.all_eq_true] at h7
 have hno:¬ (2<=(a::Y).length/\eO ((a::Y).take 2)=true):=by
  rintro ⟨q1,q2⟩
  cases Y with
  | nil=>simp at q1
  | cons b Y =>
   have:=h7 [a,b] (wb (by simpa using q2)); simp at this
 have hmk:mkF (a::Y)=some 1:=by
  unfold mkF; rw [if_neg hno,if_pos ⟨by simp,by simpa using h1⟩]
 refine Scans.cons (t:=tkM [a]) (r2:=Y) ?_ rfl hs; show cQ (bo false (a::Y))=_; rw [eW h2 (Or.inl h6)]; simp only [cQ]; rw [if_neg (by rw [h3]; decide),if_neg (by rw [h4]; decide),if_neg h5]; unfold gp; rw [hmk]; rfl
theorem nv {E:List UInt8->Prop} {u:List UInt8} {a:List Tk} (h:Wr E u a):Wr E (32::u) a:=by
 intro Y l2 hY hs; exact Scans.skip (z:=[32]) (h Y l2 hY hs) (by show bo false (32::(u++Y))=bo false (u++Y); rw [bo,if_pos (by decide)])
theorem pe {c:UInt8} (hc:j6 c=true):Wr Any [c] []:=by
 intro Y l2 _ hs; exact Scans.skip (z:=[c]) hs (by show bo false (c::Y)=bo false Y; rw [bo,if_pos hc])
theorem nw {m:List UInt8} (h:eO m=true):Wr Any (m++[32]) [tkM m]:=by
 intro Y l2 _ hs; have hs':Scans (32::Y) l2:=pe (by decide) Y l2 trivial hs; obtain ⟨m1,m2⟩:=zt h (r:=32::Y) (Or.inr ⟨32,Y,rfl,Or.inr (Or.inr (Or.inr rfl))⟩)
 have e:(m++[32])++Y=m++32::Y:=by simp
 rw [e]; exact Scans.cons (t:=⟨4,m,0,0⟩) (by rw [m2]; exact m1) rfl hs'
theorem lH:Wr Any [44,32] [tkM [44]]:=(eG (a:=44) (by decide)).app (pe (c:=32) (by decide)) fun _ _=>trivial
theorem cO {c:UInt8} (h:bP c=false) (Y:List UInt8):it (c::Y):=fun d hd=>by simp at hd; subst hd; exact h
theorem tz (n:Nat) (h:n < 9007199254740992):eT ([95]++itoa ((n+1:Nat):Int))=true:=by
 show (95 == 95 && (parse (itoa ((n+1:Nat):Int)) 1 9007199254740992).isSome)=true; rw [gY _ 1 9007199254740992 (by omega) (by omega) (by omega) (by omega)]; rfl
theorem km {s:List UInt8} (h:et s=true):iJ s=true/\fX s=false:=by
 unfold et at h; simpa using h
theorem oC {s:List UInt8} (h:dz s=true):et s=true:=by
 unfold dz at h; rw [Bool.and_eq_true] at h; exact h.1
theorem vb {s:List UInt8} (h:et s=true):eT s=false:=by
 obtain ⟨c,r,rfl,h3,_⟩:=ml (km h).1; show (c == 95 && _)=false
 have:c≠95:=by rintro rfl; revert h3; decide
 simp [this]
theorem ko {s:List UInt8} (h:et s=true):s≠[]/\s≠[95]:=by
 obtain ⟨c,r,rfl,h3,_⟩:=ml (km h).1; refine ⟨by simp,?_⟩
 intro e; injection e with e1 e2; subst e1; revert h3; decide
theorem jJ {s w:List UInt8} (h:et s=true) (hw:w∈tW):s≠w:=by
 rintro rfl; have:=(km h).2; unfold fX at this; rw [List.contains_eq_mem] at this; simp [hw] at this
theorem yG {s:List UInt8} (h:et s=true):ga s=0:=by
 unfold ga; rw [if_neg (jJ h (by decide)),if_neg (jJ h (by decide)),if_neg (jJ h (by decide)),if_neg (jJ h (by decide))]
end Go.Proofs.YtffdpoifdahadaaGreatDoor
namespace Go.Proofs.YtffdpoifdahadaaGreatDoor
open Go.RowKit
open Go.Lib (hid byteCells itoa decDigits itoa_nonneg itoa_neg)
def adv (st:PSt) (k:Nat):PSt:={ st with nx:=st.nx+k }
theorem cc (st:PSt) (a b:Nat):adv (adv st a) b=adv st (a+b):=by unfold adv; simp [Nat.add_assoc]
theorem iS (st:PSt):adv st 0=st:=rfl
theorem dM (st:PSt):am st=adv st 1:=rfl
theorem bJ {ts:List Tw} {i:Nat} {a:Tw} {r:List Tw} (h:ts.drop i=a::r):br ts i=a/\ts.drop (i+1)=r:=by
 constructor
 ·unfold br
  rw [zZ]
  have:(ts.drop i)[0]? = some a:=by rw [h]; rfl
  rw [List.getElem?_drop] at this; rw [Nat.add_zero] at this; rw [this]; rfl
 ·rw [← List.drop_drop,h]; rfl
theorem ee {ts:List Tw} {st:PSt} {a b:List Tw} (h:ts.drop st.nx=a++b) {k:Nat} (hk:k=a.length):ts.drop (adv st k).nx=b:=by
 show ts.drop (st.nx+k)=b; rw [← List.drop_drop,h,hk,List.drop_left]
theorem sn {ts:List Tw} {i:Nat} {a b:List Tw} (h:ts.drop i=a++b):a.length<=ts.length:=by
 have:=congrArg List.length h; rw [List.length_drop,zQ] at this; omega
theorem cJ {ts:List Tw} {st:PSt} {a:Tw} {r:List Tw} (h:ts.drop st.nx=a::r) (k:Int) (s:List UInt8):isP ts st k s=(a.kind == k && a.text == s):=by
 unfold isP; rw [(bJ h).1]
theorem zx {ts:List Tw} {st:PSt} (h:ts.drop st.nx=[]) (k:Int) (hk:k≠0) (s:List UInt8):isP ts st k s=false:=by
 unfold isP br
 have:ts.length<=st.nx:=by
  have:=congrArg List.length h; rw [List.length_drop] at this; simp at this; omega
 rw [zZ,List.getElem?_eq_none this]; show (0 == k && _)=false
 have:(0 == k)=false:=by simpa using fun e=>hk e.symm
 rw [this]; rfl
inductive TmTok:List Tk->Tm->Prop
 | int (n:Int):TmTok [tkI n] (dv n)
 | neg (n:Int):TmTok [tkM [45],tkI n] (dv (-n))
 | text (s:List UInt8):TmTok [tkT s] (eI s)
 | var (s:List UInt8) (h:et s=true):TmTok [tkN s] (bh s)
theorem TmTok.parse {tk:List Tk} {t:Tm} (h:TmTok tk t) {ts:List Tw} {st:PSt} {r:List Tw} (hd:ts.drop st.nx=tk.map tw++r):aT ts st=(some t,adv st tk.length):=by
 unfold aT
 cases h with
 | int n =>
  rw [(bJ hd).1]; rfl
 | text s =>
  rw [(bJ hd).1]; rfl
 | neg n =>
  have h1:=bJ hd; have h2:=bJ h1.2; rw [cJ hd,h1.1,h2.1]; rfl
 | var s hv =>
  have h1:=bJ hd; rw [cJ hd]; unfold eH; rw [h1.1]; show (if (1:Int)=2 then _ else if (1:Int)=3 then _ else if ((1:Int) == 4 && _)=true then _ else if (1:Int)=1/\et s=true then _ else _)=_; rw [if_neg (by decide),if_neg (by decide),if_neg (by simp),if_pos ⟨rfl,hv⟩]; rfl
theorem TmTok.var_ok {tk:List Tk} {t:Tm} (h:TmTok tk t):t.var≠[95]/\(t.var≠[]->et t.var=true/\tk=[tkN t.var]/\t=bh t.var):=by
 cases h with
 | int n=>exact ⟨by simp [dv],fun h=>absurd rfl h⟩
 | neg n=>exact ⟨by simp [dv],fun h=>absurd rfl h⟩
 | text s=>exact ⟨by simp [eI],fun h=>absurd rfl h⟩
 | var s hv=>exact ⟨(ko hv).2,fun _=>⟨hv,rfl,rfl⟩⟩
def ik (a:Tw):Prop:=a.kind=2\/a.kind=3\/(a.kind=4/\a.text=[45])\/(a.kind=1/\et a.text=true)
theorem TmTok.head {tk:List Tk} {t:Tm} (h:TmTok tk t):∃ a r,tk=a::r/\ik (tw a):=by
 cases h with
 | int n=>exact ⟨_,_,rfl,Or.inl rfl⟩
 | neg n=>exact ⟨_,_,rfl,Or.inr (Or.inr (Or.inl ⟨rfl,rfl⟩))⟩
 | text s=>exact ⟨_,_,rfl,Or.inr (Or.inl rfl)⟩
 | var s hv=>exact ⟨_,_,rfl,Or.inr (Or.inr (Or.inr ⟨rfl,hv⟩))⟩
theorem ik.mark {a:Tw} (h:ik a) {s:List UInt8} (hs:s≠[45]):(a.kind == 4 && a.text == s)=false:=by
 rcases h with h | h | ⟨h,h2⟩ | ⟨h,h2⟩
 ·simp [h]
 ·simp [h]
 ·simp [h,h2]; exact fun e=>hs e.symm
 ·simp [h]
theorem ik.word {a:Tw} (h:ik a) {s:List UInt8} (hs:s∈tW):(a.kind == 1 && a.text == s)=false:=by
 rcases h with h | h | ⟨h,h2⟩ | ⟨h,h2⟩
 ·simp [h]
 ·simp [h]
 ·simp [h]
 ·simp [h]; exact jJ h2 hs
theorem ik.agg {a:Tw} (h:ik a):¬ (a.kind=1/\ga a.text≠0):=by
 rcases h with h | h | ⟨h,h2⟩ | ⟨h,h2⟩
 ·simp [h]
 ·simp [h]
 ·simp [h]
 ·simp [h]; exact yG h2
theorem gP (t:Tm) (l:List Tm):cB (t::l)=cB [t]+cB l:=by
 unfold cB; rw [show t::l=[t]++l from rfl,List.filter_append,zQ]
theorem o5 (t:Tm) (h:t.var=[95]):cB [t]=1:=by unfold cB; simp [h]
theorem gO (t:Tm) (h:t.var≠[95]):cB [t]=0:=by unfold cB; simp [h]
theorem kx (n:Nat) (t:Tm) (l:List Tm):cj n (t::l)=cj n [t]++cj (n+cB [t]) l:=by
 by_cases h:t.var=[95]
 ·rw [o5 t h]; simp [cj,h]
 ·rw [gO t h]; simp [cj,h]
theorem iH {n:Int} (h:n < 0):itoa n=[45]++itoa (-n):=by
 have e1:=itoa_neg n.natAbs (by omega); have e2:=itoa_nonneg n.natAbs; rw [show (-(n.natAbs:Int))=n by omega] at e1; rw [show ((n.natAbs:Int)) = -n by omega] at e2; rw [e1,e2]; rfl
theorem xD (n:Int) (h0:-9007199254740992<=n) (h1:n<=9007199254740992):∃ tk,Wr it (itoa n) tk/\TmTok tk (dv n):=by
 by_cases h:n < 0
 ·rw [iH h]
  refine ⟨[tkM [45],tkI (-n)],(eG (a:=45) (by decide)).app (u9 (by omega) (by omega)) fun _ _=>trivial,?_⟩; have:=TmTok.neg (-n)
  rwa [Int.neg_neg] at this
 ·exact ⟨[tkI n],u9 (by omega) h1,TmTok.int n⟩
theorem kO {s:List UInt8} (h:s.length<=4096):er [⟨3,s,0,0⟩]=dc s:=by
 unfold er
 have:List.all [(⟨3,s,0,0⟩:Tk)] db=true:=by
  simp [db,h]
 rw [if_pos this]; show (if false then [32] else [])++tkW ⟨3,s,0,0⟩++[]=_; simp [tkW]
theorem nC {al:Bool} {t:Tg} {l:List UInt8} {n:Nat} {p:List UInt8 × Nat} (h:aX al t l n=some p) :
  (∃ u tk t',TmTok tk t'/\p=(l++u,n)/\Wr it u tk/\t'.g=t)\/(al=true/\t=(⟨[95]++itoa ((n+1:Nat):Int),(bh [95]).val⟩:Tm).g/\p=(l++[95],n+1)):=by
 obtain ⟨var,kind,vt,nn,m,vs,ln⟩:=t; unfold aX at h; simp only at h; split at h
 ·rename_i hv
  left
  subst hv
  cases hc:dS ⟨[],kind,vt,nn,m,vs,ln⟩ with
  | none=>rw [hc] at h; cases h
  | some s =>
   rw [hc] at h; simp only [Option.map_some,Al] at h; subst h; unfold dS d_ at hc; simp only at hc; split at hc
   ·cases hc
   ·rename_i hp
    simp only [Bool.not_eq_false,Bool.and_eq_true,decide_eq_true_eq] at hp; obtain ⟨⟨rfl,rfl⟩,rfl⟩:=hp; split at hc
    ·rename_i hk
     obtain ⟨rfl,rfl,h3,h4⟩:=hk; injection hc with hc; subst hc; obtain ⟨tk,w1,w2⟩:=xD nn h3 h4; exact ⟨_,tk,_,w2,rfl,w1,rfl⟩
    ·split at hc
     ·rename_i hk
      obtain ⟨rfl,rfl,h3⟩:=hk; injection hc with hc; subst hc; rw [kO h3]; exact ⟨_,_,_,TmTok.text vs,rfl,(xC h3).weak fun _ _=>trivial,rfl⟩
     ·cases hc
 ·rename_i hv
  split at h
  ·cases h
  ·rename_i hz
   simp only [not_or,Decidable.not_not,Bool.not_eq_false] at hz; obtain ⟨rfl,rfl,hp,rfl⟩:=hz; unfold d_ at hp; simp only [Bool.and_eq_true,decide_eq_true_eq] at hp; obtain ⟨⟨rfl,rfl⟩,rfl⟩:=hp; split at h
   ·split at h
    ·rename_i hw ha
     injection h with h; subst h; obtain ⟨rfl,rfl⟩:=ha; exact Or.inr ⟨rfl,rfl,rfl⟩
    ·cases h
   ·split at h
    ·rename_i hw hvf
     injection h with h; subst h; exact Or.inl ⟨_,_,_,TmTok.var var hvf,rfl,jC (km hvf).1,rfl⟩
    ·cases h
inductive ArgTok:List Tk->Tm->Prop
 | term {tk:List Tk} {t:Tm} (h:TmTok tk t):ArgTok tk t
 | wild:ArgTok [tkM [95]] (bh [95])
theorem ArgTok.parse {tk:List Tk} {t:Tm} (h:ArgTok tk t) {ts:List Tw} {st:PSt} {r:List Tw} (hd:ts.drop st.nx=tk.map tw++r):fM ts st=(some t,adv st tk.length)/\isP ts st 4 [41]=false:=by
 cases h with
 | term h =>
  obtain ⟨a,q,rfl,ha⟩:=h.head; have h1:=cJ hd 4 [95]; rw [ha.mark (by decide)] at h1; refine ⟨?_,(cJ hd 4 [41]).trans (ha.mark (by decide))⟩; unfold fM; rw [h1,if_neg (by decide)]; exact h.parse hd
 | wild =>
  refine ⟨?_,cJ hd 4 [41]⟩; unfold fM; rw [cJ hd]; rfl
theorem qQ {t:Tg} {l:List UInt8} {n:Nat} {p:List UInt8 × Nat} (h:aX true t l n=some p) :
  ∃ u tk t',ArgTok tk t'/\p=(l++u,n+cB [t'])/\Wr it u tk/\(cj n [t']).map Tm.g=[t]:=by
 rcases nC h with ⟨u,tk,t',h1,h2,h3,h4⟩ | ⟨_,h2,h3⟩
 ·have hv:=h1.var_ok.1
  exact ⟨u,tk,t',.term h1,by rw [gO t' hv]; exact h2,h3,by simp [cj,hv,h4]⟩
 ·refine ⟨[95],[tkM [95]],bh [95],.wild,by rw [o5 _ rfl]; exact h3,(eG (a:=95) (by decide)).weak fun _ _=>trivial,?_⟩
  rw [h2]; rfl
def te (ts:List Tw) (f:Nat) (st:PSt) (acc:List Tm):Option (List Tm) × PSt:=if isP ts st 4 [44]=true then bW ts f (am st) acc else (some acc,st)
theorem mV {ts:List Tw} {f:Nat} {st s:PSt} {acc:List Tm} {t:Tm} (h:fM ts st=(some t,s)):bW ts (f+1) st acc=te ts f s (acc++[t]):=by
 rw [bW,h]; rfl
def uX (s:List UInt8) (r:List Tw):Prop:=∀ a,r.head? = some a->a.text≠s
theorem i5 {s:List UInt8} {r:List Tw} (h:uX s r) {ts:List Tw} {st:PSt} (hd:ts.drop st.nx=r) (k:Int) (hk:k≠0):isP ts st k s=false:=by
 cases r with
 | nil=>exact zx hd k hk s
 | cons a r =>
  rw [cJ hd]; have:=h a rfl; simp [this]
def xA (u:List UInt8):Prop:=u=[]\/∃ v,u=44::v
theorem xA.noWd {u:List UInt8} (h:xA u) {Y:List UInt8} (hY:it Y):it (u++Y):=by
 rcases h with rfl | ⟨v,rfl⟩
 ·exact hY
 ·exact cO (by decide) _
theorem nH:∀ (args:List Tg) (l:List UInt8) (n:Nat) (p:List UInt8 × Nat),eo true false args l n=some p ->
  ∃ u tk az,p=(l++u,n+cB az)/\(cj n az).map Tm.g=args/\Wr it u tk/\xA u /\
   ∀ ts f st acc r,ts.drop st.nx=tk.map tw++r->uX [44] r->tk.length<=f->te ts f st acc=(some (acc++az),adv st tk.length)
 | [],l,n,p,h=>by
  injection h with h; subst h; refine ⟨[],[],[],by simp [cB],rfl,Wr.nil,Or.inl rfl,fun ts f st acc r hd hr _=>?_⟩; unfold te; rw [i5 hr hd 4 (by decide)]; simp [iS]
 | t::args,l,n,p,h=>by
  unfold eo at h; simp only [Bool.false_eq_true,if_false] at h
  cases ht:aX true t (l++[44,32]) n with
  | none=>rw [ht] at h; cases h
  | some p1 =>
   rw [ht] at h; obtain ⟨u1,tk1,t1,a1,rfl,a3,a4⟩:=qQ ht; obtain ⟨u2,tk2,az,rfl,b2,b3,b4,b5⟩:=nH args _ _ p h; refine ⟨[44,32]++(u1++u2),tkM [44]::(tk1++tk2),t1::az,?_,?_,?_,Or.inr ⟨_,rfl⟩,fun ts f st acc r hd hr hf=>?_⟩
   ·rw [gP t1 az]; simp [Nat.add_assoc]
   ·rw [kx,List.map_append,a4,b2]; rfl
   ·exact lH.app (a3.app b3 fun Y hY=>b4.noWd hY) fun _ _=>trivial
   ·simp only [zT,zQ] at hf
    obtain ⟨g,rfl⟩:∃ g,f=g+1:=⟨f - 1,by omega⟩
    have hd1:ts.drop (am st).nx=tk1.map tw++(tk2.map tw++r):=by
     have:ts.drop (am st).nx=(tk1++tk2).map tw++r:=(bJ hd).2; rw [List.map_append,Ad] at this; exact this
    unfold te; rw [cJ hd]; show (if true=true then bW ts (g+1) (am st) acc else _)=_; rw [if_pos rfl,mV (a1.parse hd1).1,b5 ts g _ (acc++[t1]) r (ee hd1 (by simp)) hr (by omega)]; rw [dM,cc,cc]; simp [Nat.add_comm,Nat.add_left_comm]
theorem uP {args:List Tg} {l:List UInt8} {n:Nat} {p:List UInt8 × Nat} (h:eo true true args l n=some p) :
  ∃ u tk az,p=(l++u,n+cB az)/\(cj n az).map Tm.g=args/\Wr it u tk /\
   ∀ ts st (rel:List UInt8) r,ts.drop st.nx=tk.map tw++tw (tkM [41])::r->(if isP ts st 4 [41]=true then ((some ⟨0,false,rel,[]⟩:Option Lt),am st) else match bW ts (ts.length+1) st [] with
   | (none,s2)=>(none,s2)
   | (some al,s2)=>if isP ts s2 4 [41] then (some ⟨0,false,rel,al⟩,am s2) else (none,bf s2))=(some ⟨0,false,rel,az⟩,adv st (tk.length+1)):=by
 cases args with
 | nil =>
  injection h with h; subst h; refine ⟨[],[],[],by simp [cB],rfl,Wr.nil,fun ts st rel r hd=>?_⟩; rw [cJ hd]; show (if true=true then _ else _)=_; rw [if_pos rfl]; rfl
 | cons t args =>
  unfold eo at h; rw [if_pos rfl] at h
  cases ht:aX true t l n with
  | none=>rw [ht] at h; cases h
  | some p1 =>
   rw [ht] at h; obtain ⟨u1,tk1,t1,a1,rfl,a3,a4⟩:=qQ ht; obtain ⟨u2,tk2,az,rfl,b2,b3,b4,b5⟩:=nH args _ _ p h; refine ⟨u1++u2,tk1++tk2,t1::az,?_,?_,?_,fun ts st rel r hd=>?_⟩
   ·rw [gP t1 az]; simp [Nat.add_assoc]
   ·rw [kx,List.map_append,a4,b2]; rfl
   ·exact a3.app b3 fun Y hY=>b4.noWd hY
   ·have hl:=sn (b:=tw (tkM [41])::r) hd
    rw [List.map_append,Ad] at hd; have hp:=a1.parse hd; rw [hp.2,if_neg (by decide),mV hp.1,b5 ts _ _ _ (tw (tkM [41])::r) (ee hd (by simp)) (by intro a ha; simp at ha; subst ha; decide) (by simp at hl; omega)]; simp only; rw [cJ (a:=tw (tkM [41])) (r:=r)]
    ·show (if true=true then _ else _)=_
     rw [if_pos rfl,dM,cc,cc]; simp [Nat.add_assoc]
    ·rw [cc]
     exact ee (a:=tk1.map tw++tk2.map tw) (by rw [Ad]; exact hd) (by simp)
def ye:List UInt8:=[110,111,116,32]
theorem og {x:Lg} {l:List UInt8} {n:Nat} {p:List UInt8 × Nat} (h:iQ x l n=some p) :
  ∃ u tk az,p=((if x.nt then l++ye else l)++u,n+cB az)/\(cj n az).map Tm.g=x.args/\Wr Any u (tkN x.rel::tkM [40]::tk)/\dz x.rel=true /\
   ∀ ts st r,ts.drop st.nx=(tkN x.rel::tkM [40]::tk).map tw++r->aY ts st=(some ⟨0,false,x.rel,az⟩,adv st (tk.length+2)):=by
 unfold iQ at h; split at h
 ·cases h
 ·rename_i hr
  rw [Bool.not_eq_false] at hr
  cases ha:eo true true x.args ((if x.nt=true then l++[110,111,116,32] else l)++(x.rel++[40])) n with
  | none=>rw [ha] at h; cases h
  | some p1 =>
   rw [ha] at h; simp only [Option.map_some,Al] at h; subst h; obtain ⟨u1,tk,az,rfl,a2,a3,a4⟩:=uP ha; refine ⟨x.rel++([40]++(u1++[41])),tk++[tkM [41]],az,?_,a2,?_,hr,fun ts st r hd=>?_⟩
   ·unfold ye
    split <;> simp
   ·have w1:=jC (km (oC hr)).1
    have w2:=eG (a:=40) (by decide);(have w3:=a3.app (eG (a:=41) (by decide)) fun Y _=>cO (by decide) _);(exact w1.app (w2.app w3 fun _ _=>trivial) fun Y _=>cO (by decide) _)
   ·have h1:=bJ hd
    have h2:=bJ (ts:=ts) (i:=st.nx+1) h1.2
    have hrel:bN ts st=((x.rel,true),adv st 2):=by
     unfold bN; rw [h1.1]; show (if (1:Int)=1/\dz x.rel=true then _ else _)=_; rw [if_pos ⟨rfl,hr⟩]; unfold aW
     have:isP ts (am st) 4 [40]=true:=by
      rw [cJ (st:=am st) h1.2]; rfl
     rw [this]; rfl
    unfold aY; rw [hrel]; simp only [if_true]
    have hd2:ts.drop (adv st 2).nx=tk.map tw++tw (tkM [41])::r:=by
     have:ts.drop (adv st 2).nx=(tk++[tkM [41]]).map tw++r:=h2.2; rw [List.map_append,Ad] at this; exact this
    refine Eq.trans (a4 ts (adv st 2) x.rel r hd2) ?_; rw [cc]; simp [Nat.add_comm,Nat.add_left_comm]
end Go.Proofs.YtffdpoifdahadaaGreatDoor
namespace Go.Proofs.YtffdpoifdahadaaGreatDoor
open Go.RowKit
open Go.Lib (hid byteCells itoa decDigits itoa_nonneg itoa_neg)
def wl (t:Tm):Nat:=if t.var=[] then ((dS t.g).getD []).length else t.var.length
def OkT (al:Bool) (t:Tm):Prop:=((t.var=[]/\(dS t.g).isSome=true)\/(et t.var=true/\t=bh t.var)\/(al=true/\t=bh [95]))/\t.var.length<=40000
theorem OkT.up {al:Bool} {t:Tm} (h:OkT false t):OkT al t:=by
 refine ⟨?_,h.2⟩; rcases h.1 with h | h | h
 ·exact Or.inl h
 ·exact Or.inr (Or.inl h)
 ·cases h.1
theorem OkT.ne {t:Tm} (h:OkT false t):t.var≠[95]:=by
 rcases h.1 with h | h | h
 ·rw [h.1]; decide
 ·exact (ko h.1).2
 ·cases h.1
def wA (az:List Tm):Nat:=(az.map fun t=>wl t+2).sum
theorem fS:wA []=0:=rfl
theorem b_ (t:Tm) (az:List Tm):wA (t::az)=wl t+2+wA az:=rfl
theorem yY (az bs:List Tm):wA (az++bs)=wA az+wA bs:=by unfold wA; rw [List.map_append,List.sum_append]
theorem xj (az:List Tm):cB az<=az.length:=List.length_filter_le _ _
theorem q7:∀ az:List Tm,2 * az.length<=wA az
 | []=>zM _
 | t::az=>by have:=q7 az; rw [b_,zT]; omega
def kK (x:Lt):Prop:=x.op=0/\dz x.rel=true/\x.rel.length<=40000/\x.args.length<=100000/\∀ t∈x.args,OkT true t
def k8 (x:Lt):Prop:=(1<=x.op/\x.op<=5)/\x.rel=[]/\x.nt=false/\x.args.length=(if x.op=5 then 3 else 2)/\∀ t∈x.args,OkT false t
def OkL (x:Lt):Prop:=kK x\/k8 x
def wL (x:Lt):Nat:=x.rel.length+6+wA x.args
def d9 (n:Nat) (x:Lt):Lt:=⟨x.op,x.nt,x.rel,cj n x.args⟩
theorem jr:∀ (az:List Tm) (n:Nat),(∀ t∈az,t.var≠[95])->cj n az=az
 | [],n,_=>rfl
 | t::az,n,h=>by rw [cj,if_neg (h t (by simp)),jr az n fun x hx=>h x (by simp [hx])]
theorem kQ:∀ (az:List Tm),(∀ t∈az,t.var≠[95])->cB az=0
 | [],_=>rfl
 | t::az,h=>by rw [gP,gO t (h t (by simp)),kQ az fun x hx=>h x (by simp [hx])]
theorem mh (n:Nat) (x:Lt) (l:List Lt):g7 n (x::l)=d9 n x::g7 (n+cB x.args) l:=rfl
theorem pO:∀ (xs:List Lt) (n:Nat),(g7 n xs).length=xs.length
 | [],n=>rfl
 | x::xs,n=>by rw [mh,zT,pO,zT]
theorem sx (s:List UInt8):¬ ((bh s).g.kind≠0\/(bh s).g.n≠0\/d_ (bh s).g=false\/(bh s).g.vs≠[]):=by
 rintro (h | h | h | h)
 ·exact h rfl
 ·exact h rfl
 ·exact absurd (show d_ (bh s).g=true from rfl) (by rw [h]; decide)
 ·exact h rfl
theorem nD (al:Bool) {s:List UInt8} (h:et s=true) (l:List UInt8) (n:Nat):aX al (bh s).g l n=some (l++s,n):=by
 unfold aX; rw [if_neg (show ¬ (bh s).g.var=[] from (ko h).1),if_neg (sx s),if_neg (by rw [show (bh s).g.var=s from rfl,vb h]; decide),if_pos (show et (bh s).g.var=true from h)]; rfl
theorem ri (l:List UInt8) (n:Nat) (hn:n < 9007199254740992):aX true (bh ([95]++itoa ((n+1:Nat):Int))).g l n=some (l++[95],n+1):=by
 unfold aX; rw [if_neg (show ¬ (bh ([95]++itoa ((n+1:Nat):Int))).g.var=[] from by simp [Tm.g,bh]),if_neg (sx _),if_pos (show eT (bh ([95]++itoa ((n+1:Nat):Int))).g.var=true from tz n hn),if_pos ⟨rfl,rfl⟩]
theorem vj {al:Bool} {t:Tm} (h:OkT al t) (l:List UInt8) (n:Nat) (hn:n+cB [t]<=9007199254740992):∃ u,aX al ((cj n [t]).headD t).g l n=some (l++u,n+cB [t])/\u.length<=wl t:=by
 rcases h.1 with ⟨h1,h2⟩ | ⟨h1,h2⟩ | ⟨h1,h2⟩
 ·have hv:t.var≠[95]:=by rw [h1]; decide
  have e:(cj n [t]).headD t=t:=by simp [cj,hv]
  rw [e,gO t hv]; obtain ⟨s,hs⟩:=Option.isSome_iff_exists.1 h2; refine ⟨s,?_,by unfold wl; rw [if_pos h1,hs]; exact zM _⟩; unfold aX; rw [if_pos (show t.g.var=[] from h1),hs]; rfl
 ·obtain ⟨hne,hv⟩:=ko h1
  have e:(cj n [t]).headD t=t:=by simp [cj,hv]
  rw [e,gO t hv]; refine ⟨t.var,?_,by unfold wl; rw [if_neg hne]; exact zM _⟩; have:=nD al h1 l n; rw [← h2] at this; exact this
 ·subst h1
  subst h2; rw [o5 _ rfl] at hn ⊢
  have e:(cj n [bh [95]]).headD (bh [95])=⟨[95]++itoa ((n+1:Nat):Int),(bh [95]).val⟩:=by simp [cj,bh]
  rw [e]; refine ⟨[95],?_,by decide⟩; exact ri l n (by omega)
theorem nE {t:Tm} (h:OkT false t) (l:List UInt8) (n:Nat):∃ u,aX false t.g l n=some (l++u,n)/\u.length<=wl t:=by
 rcases h.1 with ⟨h1,h2⟩ | ⟨h1,h2⟩ | ⟨h1,_⟩
 ·obtain ⟨s,hs⟩:=Option.isSome_iff_exists.1 h2
  refine ⟨s,?_,by unfold wl; rw [if_pos h1,hs]; exact zM _⟩; unfold aX; rw [if_pos (show t.g.var=[] from h1),hs]; rfl
 ·obtain ⟨hne,hv⟩:=ko h1
  refine ⟨t.var,?_,by unfold wl; rw [if_neg hne]; exact zM _⟩; have:=nD false h1 l n; rw [← h2] at this; exact this
 ·cases h1
theorem ud (n:Nat) (t:Tm):cj n [t]=[(cj n [t]).headD t]:=by
 by_cases h:t.var=[95] <;> simp [cj,h]
theorem th (al:Bool):∀ (az:List Tm) (first:Bool) (l:List UInt8) (n:Nat),(∀ t∈az,OkT al t)->n+cB az<=9007199254740992->∃ u,eo al first ((cj n az).map Tm.g) l n=some (l++u,n+cB az)/\u.length<=wA az
 | [],first,l,n,_,_=>⟨[],by simp [cj,eo,cB],zW _⟩
 | t::az,first,l,n,h,hn=>by
  rw [gP] at hn ⊢; obtain ⟨u1,h1,h2⟩:=vj (h t (by simp)) (if first=true then l else l++[44,32]) n (by omega); obtain ⟨u2,h3,h4⟩:=th al az false ((if first=true then l else l++[44,32])++u1) (n+cB [t]) (fun x hx=>h x (by simp [hx])) (by omega); refine ⟨(if first=true then [] else [44,32])++(u1++u2),?_,?_⟩
  ·rw [kx,ud,List.map_append]
   show eo al first (((cj n [t]).headD t).g::(cj (n+cB [t]) az).map Tm.g) l n=_; rw [eo,h1]; simp only [Option.bind_some]; rw [h3]; cases first <;> simp [Nat.add_assoc]
  ·rw [b_]
   cases first <;> (simp; omega)
theorem yF {x:Lt} (h:kK x) (l:List UInt8) (n:Nat) (hn:n+cB x.args<=9007199254740992):∃ u,iQ (d9 n x).g l n=some (l++u,n+cB x.args)/\u.length<=wL x:=by
 obtain ⟨u,h1,h2⟩:=th true x.args true ((if x.nt=true then l++[110,111,116,32] else l)++(x.rel++[40])) n h.2.2.2.2 hn; refine ⟨(if x.nt=true then [110,111,116,32] else [])++(x.rel++([40]++(u++[41]))),?_,?_⟩
 ·unfold iQ
  have e1:(d9 n x).g.rel=x.rel:=rfl; have e2:(d9 n x).g.nt=x.nt:=rfl; have e3:(d9 n x).g.args=(cj n x.args).map Tm.g:=rfl; rw [e1,e2,e3,if_neg (by rw [h.2.1]; decide),h1]; cases x.nt <;> simp
 ·unfold wL
  cases x.nt <;> (simp; omega)
theorem zD {x:Lt} (h:k8 x) (l:List UInt8) (n:Nat):∃ u,dK (mkW x.op) 0 (d9 n x).g.args l n=some (l++u,n)/\u.length<=wL x:=by
 obtain ⟨op,nt,rel,args⟩:=x; obtain ⟨h1,h2,h3,h4,h5⟩:=h; simp only at h1 h2 h3 h4 h5; have hno:=(jr args n fun t ht=>(h5 t ht).ne)
 have e3:(d9 n ⟨op,nt,rel,args⟩).g.args=args.map Tm.g:=by show (cj n args).map Tm.g=_; rw [hno]
 rw [e3]; have hm:=sQ op
 have hT:∀ t,t∈args->∀ l n,∃ u,aX false t.g l n=some (l++u,n)/\u.length<=wl t:=by
  intro t ht l n; obtain ⟨u,q1,q2⟩:=nE (h5 t ht) l n; exact ⟨u,q1,q2⟩
 match args,h4,hT with
 | [a,b],h4,hT =>
  obtain ⟨u1,a1,a2⟩:=hT a (by simp) l n; obtain ⟨u2,b1,b2⟩:=hT b (by simp) (l++u1++mkW op) n; refine ⟨u1++(mkW op++u2),?_,by unfold wL; simp [b_,fS]; omega⟩; simp only [List.map_cons,List.map_nil,dK]; rw [if_neg (by decide),if_neg (by decide),a1]; simp only [Option.bind_some]; rw [if_pos (by decide),b1]; simp
 | [a,b,c],h4,hT =>
  obtain ⟨u1,a1,a2⟩:=hT a (by simp) l n; obtain ⟨u2,b1,b2⟩:=hT b (by simp) (l++u1++mkW op) n; obtain ⟨u3,c1,c2⟩:=hT c (by simp) (l++u1++mkW op++u2++[32,43,32]) n; refine ⟨u1++(mkW op++(u2++(([32,43,32]:List UInt8)++u3))),?_,by unfold wL; simp [b_,fS]; omega⟩; simp only [List.map_cons,List.map_nil,dK]; rw [if_neg (by decide),if_neg (by decide),a1]; simp only [Option.bind_some]; rw [if_pos (by decide),b1]; simp only [Option.bind_some]; rw [if_neg (by decide),if_pos (by decide),c1]; simp
 | [],h4,_=>split at h4 <;> simp at h4
 | [_],h4,_=>split at h4 <;> simp at h4
 | _::_::_::_::_,h4,_=>split at h4 <;> simp at h4
theorem wC {x:Lt} (h:OkL x) (l:List UInt8) (n:Nat) (hn:n+cB x.args<=9007199254740992):∃ u,fa (d9 n x).g l n=some (l++u,n+cB x.args)/\u.length<=wL x:=by
 unfold fa; have e0:(d9 n x).g.op=x.op:=rfl; rw [e0]; rcases h with h | h
 ·rw [if_pos h.1]; exact yF h l n hn
 ·have hc:=(kQ x.args fun t ht=>(h.2.2.2.2 t ht).ne)
  have e1:(d9 n x).g.rel=x.rel:=rfl; have e2:(d9 n x).g.nt=x.nt:=rfl
  have e3:(d9 n x).g.args.length=x.args.length:=by show ((cj n x.args).map Tm.g).length=_; rw [zY,jr _ _ fun t ht=>(h.2.2.2.2 t ht).ne]
  rw [e1,e2,e3,if_neg (by have:=h.1; omega),if_neg (by rw [h.2.1,h.2.2.1]; have:=h.1; simp; omega),if_neg (by rw [h.2.2.2.1]; simp),hc]; exact zD h l n
def wLs (xs:List Lt):Nat:=(xs.map fun x=>wL x+4).sum
theorem iT:wLs []=0:=rfl
theorem cC (x:Lt) (xs:List Lt):wLs (x::xs)=wL x+4+wLs xs:=rfl
theorem xG (xs ys:List Lt):wLs (xs++ys)=wLs xs+wLs ys:=by unfold wLs; rw [List.map_append,List.sum_append]
theorem xi (x:Lt):cB x.args<=wL x:=by
 have h1:=xj x.args; have h2:=q7 x.args; unfold wL; omega
theorem tf:∀ (xs:List Lt) (i:Nat) (l:List UInt8) (n:Nat),(∀ x∈xs,OkL x)->n+wLs xs<=9007199254740992->l.length+wLs xs<=32768->∃ u m,dD i ((g7 n xs).map Lt.g) l n=some (l++u,m)/\u.length<=wLs xs
 | [],i,l,n,_,_,_=>⟨[],n,by simp [g7,dD],zW _⟩
 | x::xs,i,l,n,h,hn,hl=>by
  rw [cC] at hn hl ⊢; have hc:=xi x; obtain ⟨u1,h1,h2⟩:=wC (h x (by simp)) (l++(if decide (i=0)=true then [32,58,45,32] else [44,32])) n (by omega)
  have hs:(if decide (i=0)=true then [32,58,45,32] else [44,32]:List UInt8).length<=4:=by split <;> simp
  obtain ⟨u2,m,h3,h4⟩:=tf xs (i+1) (l++(if decide (i=0)=true then [32,58,45,32] else [44,32])++u1) (n+cB x.args) (fun y hy=>h y (by simp [hy])) (by omega) (by simp only [zQ]; omega); refine ⟨(if decide (i=0)=true then [32,58,45,32] else [44,32])++(u1++u2),m,?_,by simp only [zQ]; omega⟩; show dD i ((d9 n x).g::(g7 (n+cB x.args) xs).map Lt.g) l n=_; rw [dD,h1]; simp only [Option.bind_some]; rw [if_neg (by simp only [zQ]; omega),h3]; simp
def OkR (r:Ru):Prop:=(r.head.op=0/\r.head.nt=false/\dz r.head.rel=true/\r.head.rel.length<=40000/\r.head.args.length<=100000/\∀ t∈r.head.args,OkT false t)
 /\ ((r.agg=0/\r.at_=0)\/(1<=r.agg/\r.agg<=4/\0<=r.at_/\r.at_ < r.head.args.length/\r.head.args[r.at_.toNat]?.map Tm.var≠some []))/\(∀ x∈r.body,OkL x)/\r.body.length<=100000
def wR (r:Ru):Nat:=wL r.head+7+wLs r.body+2
theorem uk (agg:Int):(di agg).length<=5:=by unfold di; split; simp; split; simp; split <;> simp
theorem qp (agg at_:Int):∀ (az:List Tm) (i:Nat) (l:List UInt8) (n:Nat),(∀ t∈az,OkT false t)->∃ u,bK agg at_ i (az.map Tm.g) l n=some (l++u,n)/\u.length<=wA az+(if (i:Int)<=at_ then 7 else 0)
 | [],i,l,n,_=>⟨[],by simp [bK],zW _⟩
 | t::az,i,l,n,h=>by
  obtain ⟨u1,h1,h2⟩:=nE (h t (by simp)) (if decide (agg≠0/\(i:Int)=at_)=true then (if decide (i=0)=true then l else l++[44,32])++(di agg++[40]) else (if decide (i=0)=true then l else l++[44,32])) n; obtain ⟨u2,h3,h4⟩:=qp agg at_ az (i+1) (if decide (agg≠0/\(i:Int)=at_)=true then (if decide (agg≠0/\(i:Int)=at_)=true then (if decide (i=0)=true then l else l++[44,32])++(di agg++[40]) else (if decide (i=0)=true then l else l++[44,32]))++u1++[41] else (if decide (agg≠0/\(i:Int)=at_)=true then (if decide (i=0)=true then l else l++[44,32])++(di agg++[40]) else (if decide (i=0)=true then l else l++[44,32]))++u1) n (fun x hx=>h x (by simp [hx])); have hnl:=uk agg; by_cases hg:agg≠0/\(i:Int)=at_
  ·have e:decide (agg≠0/\(i:Int)=at_)=true:=zP hg
   rw [e] at h1 h3; simp only [if_true] at h1 h3; refine ⟨(if decide (i=0)=true then [] else [44,32])++((di agg++[40])++(u1++([41]++u2))),?_,?_⟩
   ·show bK agg at_ i (t.g::az.map Tm.g) l n=_
    rw [bK,e]; simp only [if_true]; rw [h1]; simp only [Option.bind_some]; rw [h3]; split <;> simp
   ·rw [if_neg (by omega)] at h4
    have e7:(if (i:Int)<=at_ then 7 else 0)=7:=if_pos (by omega); rw [e7,b_]; split <;> (simp only [zQ,zT,z_]; omega)
  ·have e:decide (agg≠0/\(i:Int)=at_)=false:=zO hg
   rw [e] at h1 h3; simp only [Bool.false_eq_true,if_false] at h1 h3; refine ⟨(if decide (i=0)=true then [] else [44,32])++(u1++u2),?_,?_⟩
   ·show bK agg at_ i (t.g::az.map Tm.g) l n=_
    rw [bK,e]; simp only [Bool.false_eq_true,if_false]; rw [h1]; simp only [Option.bind_some]; rw [h3]; split <;> simp
   ·rw [b_]
    have:(if ((i+1:Nat):Int)<=at_ then 7 else 0)<=(if (i:Int)<=at_ then 7 else 0):=by
     split
     ·rw [if_pos (by omega)]; exact zM _
     ·exact zW _
    split <;> (simp; omega)
theorem xU {r:Ru} (h:OkR r) (l:List UInt8) (hl:l.length+wR r<=32768):∃ u m,gC (eF r).g l=some (l++u,m)/\u.length<=wR r:=by
 obtain ⟨⟨op,nt,rel,args⟩,agg,at_,body⟩:=r; obtain ⟨⟨h1,h2,h3,h4,h5,h6⟩,h7,h8,h9⟩:=h; simp only at h1 h2 h3 h4 h5 h6 h7 h8 h9; subst h1; subst h2; unfold wR wL at hl; simp only at hl; obtain ⟨u1,a1,a2⟩:=qp agg at_ args 0 (l++(rel++[40])) 0 h6
 have a2':u1.length<=wA args+7:=by split at a2 <;> omega
 have hw:gK (eF ⟨⟨0,false,rel,args⟩,agg,at_,body⟩).g l 0=some (l++(rel++([40]++(u1++[41]))),0):=by
  unfold gK
  show (if agg < 0\/5<=agg\/(agg=0/\at_≠0) then none
   else if agg≠0/\(at_ < 0\/((args.map Tm.g).length:Int)<=at_\/((args.map Tm.g)[at_.toNat]?.map Tg.var)=some []) then none
   else if (0:Int)≠0\/false=true\/dz rel=false then none
   else (bK agg at_ 0 (args.map Tm.g) (l++(rel++[40])) 0).map fun p=>(p.1++[41],p.2))=_
  rw [if_neg (by rintro (q | q | ⟨q,q2⟩) <;> rcases h7 with ⟨z1,z2⟩ | ⟨z1,z2,z3,z4,z5⟩ <;> omega),if_neg ?_,if_neg (by rw [h3]; simp),a1]
  ·simp
  ·rintro ⟨q,q2⟩
   rcases h7 with ⟨z1,z2⟩ | ⟨z1,z2,z3,z4,z5⟩
   ·exact q z1
   ·rw [zY,Ai,Option.map_map] at q2
    rcases q2 with q2 | q2 | q2
    ·omega
    ·omega
    ·exact z5 q2
 obtain ⟨u2,m,b1,b2⟩:=tf body 0 (l++(rel++([40]++(u1++[41])))) 0 h8 (by omega) (by simp only [zQ,zT,z_]; omega); refine ⟨rel++([40]++(u1++[41]))++(u2++[46,10]),m,?_,?_⟩
 ·unfold gC
  rw [hw]; simp only [Option.bind_some]; have e:(eF ⟨⟨0,false,rel,args⟩,agg,at_,body⟩).g.body=(g7 0 body).map Lt.g:=rfl; rw [e,b1]; simp
 ·unfold wR wL
  simp; omega
def wRs (rs:List Ru):Nat:=(rs.map wR).sum
theorem jH (r:Ru) (rs:List Ru):wRs (r::rs)=wR r+wRs rs:=rfl
theorem sy (rs zs:List Ru):wRs (rs++zs)=wRs rs+wRs zs:=by unfold wRs; rw [List.map_append,List.sum_append]
theorem pC:∀ (rs:List Ru) (l:List UInt8),(∀ r∈rs,OkR r)->l.length+wRs rs<=32768->∃ u,eY ((rs.map eF).map Ru.g) l=some (l++u)/\u.length<=wRs rs
 | [],l,_,_=>⟨[],by simp [eY],zW _⟩
 | r::rs,l,h,hl=>by
  rw [jH] at hl ⊢; obtain ⟨u1,m,a1,a2⟩:=xU (h r (by simp)) l (by omega); obtain ⟨u2,b1,b2⟩:=pC rs (l++u1) (fun x hx=>h x (by simp [hx])) (by simp only [zQ]; omega); refine ⟨u1++u2,?_,by simp; omega⟩; show eY ((eF r).g::(rs.map eF).map Ru.g) l=_; rw [eY,a1]; simp only [Option.bind_some]; rw [b1]; simp
theorem xL {rs:List Ru} {g:Lt} (h:∀ r∈rs,OkR r) (hg:kK g) (hnt:g.nt=false) (hn:rs.length<=64) (hw:wRs rs+2+wL g<=32768):(cI (⟨rs.map eF,d9 0 g⟩:Qu).g).isSome=true:=by
 obtain ⟨u1,a1,a2⟩:=pC rs [] h (by simp; omega); have hc:=xi g; obtain ⟨u2,b1,b2⟩:=wC (Or.inl hg) ([]++u1++[63,32]) 0 (by omega); unfold cI; have e1:(⟨rs.map eF,d9 0 g⟩:Qu).g.rules=(rs.map eF).map Ru.g:=rfl; have e2:(⟨rs.map eF,d9 0 g⟩:Qu).g.goal=(d9 0 g).g:=rfl; have e3:(d9 0 g).g.op=g.op:=rfl; have e4:(d9 0 g).g.nt=g.nt:=rfl; rw [e1,e2,e3,e4,if_neg (by rw [hg.1,hnt,zY,zY]; simp; omega),a1]; simp only [Option.bind_some]; rw [b1]; simp only [Option.bind_some]; rw [if_neg (by simp at b2 ⊢; omega)]; rfl
/-! the bounds that the writer asks for -/
theorem sO:∀ (n:Nat) (az:List Tm),(cj n az).length=az.length
 | _,[]=>rfl
 | n,t::az=>by
  rw [cj]; split <;> simp [sO]
theorem yo (n:Nat) (h:n<=9007199254740992):(itoa (n:Int)).length<=40:=by
 have:=fR (n:Int) (by omega) (by omega); omega
theorem oL:∀ (az:List Tm) (n:Nat),(∀ t∈az,t.var.length<=40000)->n+az.length<=9007199254740992->∀ t∈cj n az,t.var.length<=40000
 | [],n,_,_=>fun t ht=>by cases ht
 | a::az,n,h,hn=>by
  simp only [zT] at hn; intro t ht; rw [cj] at ht; split at ht
  ·simp only [Ae] at ht
   rcases ht with rfl | ht
   ·have:=yo (n+1) (by omega)
    show ([95]++itoa ((n+1:Nat):Int)).length<=_; rw [zQ]; simp only [zT,z_]; omega
   ·exact oL az (n+1) (fun x hx=>h x (by simp [hx])) (by omega) t ht
  ·simp only [Ae] at ht
   rcases ht with rfl | ht
   ·exact h t (by simp)
   ·exact oL az n (fun x hx=>h x (by simp [hx])) (by omega) t ht
theorem lt_b {x:Lt} (h:OkL x) (n:Nat) (hn:n<=9007199254640992):LgB (d9 n x).g:=by
 have h1:x.rel.length<=40000/\x.args.length<=100000/\∀ t∈x.args,t.var.length<=40000:=by
  rcases h with h | h
  ·exact ⟨h.2.2.1,h.2.2.2.1,fun t ht=>(h.2.2.2.2 t ht).2⟩
  ·refine ⟨by rw [h.2.1]; exact zW _,by rw [h.2.2.2.1]; split <;> decide,fun t ht=>(h.2.2.2.2 t ht).2⟩
 refine ⟨h1.1,by show ((cj n x.args).map Tm.g).length<=_; rw [zY,sO]; exact h1.2.1,fun t ht=>?_⟩; obtain ⟨y,hy,rfl⟩:=List.mem_map.1 (show t∈(cj n x.args).map Tm.g from ht); exact oL x.args n h1.2.2 (by omega) y hy
theorem yO:∀ (xs:List Lt) (n:Nat),(∀ x∈xs,OkL x)->n+100000 * xs.length<=9007199254640992->∀ x∈(g7 n xs).map Lt.g,LgB x
 | [],n,_,_=>fun x hx=>by cases hx
 | a::xs,n,h,hn=>by
  simp only [zT] at hn; intro x hx; rw [mh,List.map_cons,Ae] at hx; rcases hx with rfl | hx
  ·exact lt_b (h a (by simp)) n (by omega)
  ·have hc:cB a.args<=100000:=by
    have:=xj a.args; rcases h a (by simp) with h | h
    ·have:=h.2.2.2.1; omega
    ·have:=h.2.2.2.1; split at this <;> omega
   exact yO xs (n+cB a.args) (fun x hx=>h x (by simp [hx])) (by omega) x hx
theorem ru_b {r:Ru} (h:OkR r):RgB (eF r).g:=by
 refine ⟨⟨h.1.2.2.2.1,by show (r.head.args.map Tm.g).length<=_; rw [zY]; exact h.1.2.2.2.2.1,fun t ht=>?_⟩,?_,yO r.body 0 h.2.2.1 (by have:=h.2.2.2; omega)⟩
 ·obtain ⟨y,hy,rfl⟩:=List.mem_map.1 (show t∈r.head.args.map Tm.g from ht)
  exact (h.1.2.2.2.2.2 y hy).2
 ·show ((g7 0 r.body).map Lt.g).length<=_
  rw [zY,pO]; exact h.2.2.2
theorem qu_b {rs:List Ru} {g:Lt} (h:∀ r∈rs,OkR r) (hg:kK g):QgB (⟨rs.map eF,d9 0 g⟩:Qu).g:=by
 refine ⟨fun r hr=>?_,lt_b (Or.inl hg) 0 (by decide)⟩; obtain ⟨y,hy,rfl⟩:=List.mem_map.1 (show r∈(rs.map eF).map Ru.g from hr); obtain ⟨z,hz,rfl⟩:=List.mem_map.1 hy; exact ru_b (h z hz)
end Go.Proofs.YtffdpoifdahadaaGreatDoor
namespace Go.Proofs.YtffdpoifdahadaaGreatDoor
open Go.RowKit
open Go.Lib (hid byteCells itoa decDigits itoa_nonneg itoa_neg)
def zw (t:Tw):Nat:=if t.kind=3 then 16 * (dc t.text).length else if t.kind=2 then 32 * (itoa t.n).length else 32 * t.text.length
theorem qy (a b:List UInt8):dF (a++b)=dF a++dF b:=by unfold dF; simp
theorem qw (c:UInt8):(dF [c]).length<=2:=by have:=iM [c]; simpa using this
theorem my:∀ (r acc t r':List UInt8),dj r acc=some (t,r')->(dF t).length+2 * r'.length+2<=(dF acc).length+2 * r.length
 | [],acc,t,r',h=>by simp [dj] at h
 | [c],acc,t,r',h=>by
  simp only [dj] at h; split at h
  ·simp only [Al,Prod.mk.injEq] at h; obtain ⟨rfl,rfl⟩:=h; simp
  ·cases h
 | c::e::r,acc,t,r',h=>by
  simp only [dj] at h; split at h
  ·cases h
  ·split at h
   ·simp only [Al,Prod.mk.injEq] at h; obtain ⟨rfl,rfl⟩:=h; simp; omega
   ·split at h
    ·split at h
     ·rename_i x hx
      have:=my r _ _ _ h; rw [qy,zQ] at this; have:=qw x; simp only [zT]; omega
     ·cases h
    ·have:=my (e::r) _ _ _ h
     rw [qy,zQ] at this; have:=qw c; simp only [zT] at *; omega
theorem vh {D:List UInt8} {t:Tk} {r:List UInt8} (h:cQ D=.ok (t,r)):zw (tw t)+32 * r.length<=32 * D.length:=by
 cases D with
 | nil=>simp [cQ] at h
 | cons c q =>
  have hsum:((c::q).takeWhile bP).length+((c::q).dropWhile bP).length=(c::q).length:=by
   rw [← zQ,List.takeWhile_append_dropWhile]
  simp only [cQ] at h; split at h
  ·simp only [jV,Except.ok.injEq,Prod.mk.injEq] at h
   obtain ⟨rfl,rfl⟩:=h; show 32 * ((c::q).takeWhile bP).length+_<=_; omega
  ·split at h
   ·unfold dQ at h
    split at h
    ·rename_i n hn
     simp only [Except.ok.injEq,Prod.mk.injEq] at h; obtain ⟨rfl,rfl⟩:=h; unfold lg at hn; split at hn
     ·cases hn
     ·split at hn
      ·cases hn
      ·split at hn
       ·rename_i k hk
        simp only [Except.ok.injEq] at hn; subst hn; have:=(me hk).1; show 32 * (itoa k).length+_<=_; rw [this]; omega
       ·cases hn
    ·cases h
   ·split at h
    ·unfold iA at h
     split at h
     ·rename_i t' r' hl
      split at h
      ·cases h
      ·simp only [Except.ok.injEq,Prod.mk.injEq] at h
       obtain ⟨rfl,rfl⟩:=h; have:=my _ _ _ _ hl; rw [List.tail_cons] at this; show 16 * (dc t').length+_<=_; unfold dc; simp only [zT,zQ,z_] at *; have e:(dF ([]:List UInt8)).length=0:=rfl; omega
     ·cases h
    ·unfold gp at h
     split at h
     ·rename_i k hk
      simp only [Except.ok.injEq,Prod.mk.injEq] at h; obtain ⟨rfl,rfl⟩:=h; have:=(rO hk).2.2.1; show 32 * ((c::q).take k).length+32 * ((c::q).drop k).length<=_; rw [Ah,List.length_drop]; omega
     ·cases h
theorem yV {t t':Tk} (h:iz t'=iz t):zw (tw t')=zw (tw t):=by
 have e:tw t'=tw t:=by
  unfold iz at h; simp only [Prod.mk.injEq] at h; unfold tw; rw [h.1,h.2.1,h.2.2]
 rw [e]
theorem Scans.cost {s:List UInt8} {l:List Tk} (h:Scans s l):((l.map tw).map zw).sum<=32 * s.length:=by
 induction h with
 | nil h=>exact zW _
 | cons h hk hs ih =>
  rename_i r r2 t t' l; have h1:=vh h; have h2:=fT false r; rw [List.map_cons,List.map_cons,List.sum_cons,yV hk]; omega
/-! the cost of the first tokens -/
def Zs (ts:List Tw) (i:Nat):Nat:=((ts.take i).map zw).sum
theorem ja {ts:List Tw} {i:Nat} (h:i < ts.length):Zs ts (i+1)=Zs ts i+zw (br ts i):=by
 unfold Zs br; rw [List.take_add_one,zR h,List.map_append,List.sum_append,zZ,zR h]; simp
theorem su (ts:List Tw) (i:Nat):Zs ts i+((ts.drop i).map zw).sum=(ts.map zw).sum:=by
 unfold Zs; rw [← List.sum_append,← List.map_append,List.take_append_drop]
theorem yU {ts:List Tw} {i:Nat} (h:i < ts.length):zw (br ts i)<=(ts.map zw).sum:=by
 have h1:=ja h; have h2:=su ts (i+1); omega
structure Ts (ts:List Tw):Prop where
 int:∀ i,(br ts i).kind=2->0<=(br ts i).n/\(br ts i).n<=9007199254740992
 text:∀ i,(br ts i).kind=3->(br ts i).text.length<=4096
 sum:(ts.map zw).sum<=100000
 len:ts.length<=3000
section
variable {ts:List Tw}
theorem cf {st:PSt} {k:Int} {s:List UInt8} (hk:k=1\/k=4) (h:isP ts st k s=true):Zs ts (am st).nx=Zs ts st.nx+32 * s.length:=by
 have hl:=cT (by omega) h; show Zs ts (st.nx+1)=_; rw [ja hl]; unfold isP at h; rw [Bool.and_eq_true,beq_iff_eq,beq_iff_eq] at h; unfold zw; rw [if_neg (by omega),if_neg (by omega),h.2]
theorem lj {st:PSt} (h:(br ts st.nx).kind=1\/(br ts st.nx).kind=4):Zs ts (am st).nx=Zs ts st.nx+32 * (br ts st.nx).text.length:=by
 have hl:st.nx < ts.length:=eV (by omega); show Zs ts (st.nx+1)=_; rw [ja hl]; unfold zw; rw [if_neg (by omega),if_neg (by omega)]
theorem lN (hT:Ts ts) {i:Nat} (h:(br ts i).kind=1):(br ts i).text.length<=3125:=by
 have hl:i < ts.length:=eV (by omega); have h1:=yU hl; have h2:=hT.sum
 have h3:zw (br ts i)=32 * (br ts i).text.length:=by
  unfold zw; rw [if_neg (by omega),if_neg (by omega)]
 omega
theorem rI {st:PSt} {s:List UInt8} (h:(aW ts st s).1=true):(aW ts st s).2=am st/\Zs ts (am st).nx=Zs ts st.nx+32 * s.length:=by
 unfold aW at h ⊢; split
 ·rename_i h1; exact ⟨rfl,cf (Or.inr rfl) h1⟩
 ·rename_i h1; rw [if_neg h1] at h; cases h
theorem yM (hT:Ts ts) {st:PSt} (h:(bN ts st).1.2=true):dz (bN ts st).1.1=true/\(bN ts st).1.1.length<=40000/\Zs ts (bN ts st).2.nx=Zs ts st.nx+32 * (bN ts st).1.1.length+32:=by
 unfold bN at h ⊢; split
 ·rename_i hc
  rw [if_pos hc] at h; simp only at h ⊢; obtain ⟨h1,h2⟩:=rI h; rw [h1,h2,lj (Or.inl hc.1)]; have:=lN hT hc.1; exact ⟨hc.2,by omega,rfl⟩
 ·rename_i hc; rw [if_neg hc] at h; cases h
theorem yJ (hT:Ts ts) {st:PSt} {t:Tm} (h:(eH ts st).1=some t):OkT false t/\t.var≠[]/\16 * wl t+Zs ts st.nx<=Zs ts (eH ts st).2.nx:=by
 unfold eH at h ⊢; split
 ·rename_i hc
  rw [if_pos hc] at h; injection h with h; subst h; have:=lN hT hc.1; have hne:=(ko hc.2).1; refine ⟨⟨Or.inr (Or.inl ⟨hc.2,rfl⟩),by show (br ts st.nx).text.length<=_; omega⟩,hne,?_⟩; simp only; rw [lj (Or.inl hc.1)]; unfold wl; rw [if_neg (show ¬ (bh (br ts st.nx).text).var=[] from hne)]; show 16 * (br ts st.nx).text.length+_<=_; omega
 ·rename_i hc; rw [if_neg hc] at h; cases h
theorem r9 (n:Int) (h:0<=n):(itoa (-n)).length<=(itoa n).length+1:=by
 by_cases hz:n=0
 ·subst hz; simp
 ·have:=iH (n:=-n) (by omega)
  rw [Int.neg_neg] at this; rw [this]; simp
theorem sV {n:Int} (h0:-9007199254740992<=n) (h1:n<=9007199254740992):OkT false (dv n)/\wl (dv n)=(itoa n).length:=by
 have e:dS (dv n).g=some (itoa n):=by
  unfold dS; rw [if_neg (show ¬ d_ (dv n).g=false from by rw [show d_ (dv n).g=true from rfl]; decide),if_pos ⟨rfl,rfl,h0,h1⟩]; rfl
 refine ⟨⟨Or.inl ⟨rfl,by rw [e]; rfl⟩,zW _⟩,?_⟩; unfold wl; rw [if_pos (show (dv n).var=[] from rfl),e]; rfl
theorem vi {s:List UInt8} (h:s.length<=4096):OkT false (eI s)/\wl (eI s)=(dc s).length:=by
 have e:dS (eI s).g=some (dc s):=by
  unfold dS; rw [if_neg (show ¬ d_ (eI s).g=false from by rw [show d_ (eI s).g=true from rfl]; decide),if_neg (fun q=>absurd (show (4:Int)=3 from q.1) (by decide)),if_pos ⟨rfl,rfl,h⟩]; show some (er [⟨3,s,0,0⟩])=_; rw [kO h]
 refine ⟨⟨Or.inl ⟨rfl,by rw [e]; rfl⟩,zW _⟩,?_⟩; unfold wl; rw [if_pos (show (eI s).var=[] from rfl),e]; rfl
theorem jk (hT:Ts ts) {st:PSt} {t:Tm} (h:(aT ts st).1=some t):OkT false t/\16 * wl t+Zs ts st.nx<=Zs ts (aT ts st).2.nx:=by
 unfold aT at h ⊢; split
 ·rename_i hc
  rw [if_pos hc] at h; injection h with h; subst h; have hl:st.nx < ts.length:=eV (by omega); obtain ⟨h1,h2⟩:=hT.int _ hc; obtain ⟨h3,h4⟩:=sV (n:=(br ts st.nx).n) (by omega) h2; refine ⟨h3,?_⟩; rw [h4]; show _<=Zs ts (st.nx+1); rw [ja hl]; unfold zw; rw [if_neg (by omega),if_pos hc]; omega
 ·rename_i hc
  rw [if_neg hc] at h; split
  ·rename_i hc
   rw [if_pos hc] at h; injection h with h; subst h; have hl:st.nx < ts.length:=eV (by omega); obtain ⟨h3,h4⟩:=vi (hT.text _ hc); refine ⟨h3,?_⟩; rw [h4]; show _<=Zs ts (st.nx+1); rw [ja hl]; unfold zw; rw [if_pos hc]; omega
  ·rename_i hc
   rw [if_neg hc] at h; split
   ·rename_i hc
    rw [if_pos hc] at h; have hm:=cf (Or.inr rfl) hc; split
    ·rename_i hk
     rw [if_pos hk] at h; injection h with h; subst h; have hl:st.nx+1 < ts.length:=eV (by omega); obtain ⟨h1,h2⟩:=hT.int _ hk; obtain ⟨h3,h4⟩:=sV (n:=-(br ts (st.nx+1)).n) (by omega) (by omega); refine ⟨h3,?_⟩; rw [h4]; have:=r9 _ h1; show _<=Zs ts (st.nx+1+1); rw [ja hl]; have hm':Zs ts (st.nx+1)=Zs ts st.nx+32:=hm; rw [hm']; unfold zw; rw [if_neg (by omega),if_pos hk]; omega
    ·rename_i hk; rw [if_neg hk] at h; cases h
   ·rename_i hc
    rw [if_neg hc] at h; have:=yJ hT h; exact ⟨this.1,this.2.2⟩
theorem arg_z (hT:Ts ts) {st:PSt} {t:Tm} (h:(fM ts st).1=some t):OkT true t/\16 * wl t+Zs ts st.nx<=Zs ts (fM ts st).2.nx:=by
 unfold fM at h ⊢; split
 ·rename_i hc
  rw [if_pos hc] at h; injection h with h; subst h; refine ⟨⟨Or.inr (Or.inr ⟨rfl,rfl⟩),by decide⟩,?_⟩; have hm:=cf (Or.inr rfl) hc; simp only; rw [hm]
  have:wl (bh [95])=1:=by decide
  rw [this]; simp; omega
 ·rename_i hc
  rw [if_neg hc] at h; have:=jk hT h; exact ⟨this.1.up,this.2⟩
theorem xq (hT:Ts ts):∀ (f:Nat) (st:PSt) (acc al:List Tm),(bW ts f st acc).1=some al->∃ az,al=acc++az/\(∀ t∈az,OkT true t)/\16 * wA az+Zs ts st.nx<=Zs ts (bW ts f st acc).2.nx+32
 | 0,st,acc,al,h=>by cases h
 | f+1,st,acc,al,h=>by
  unfold bW at h ⊢
  have hz:=fun t=>arg_z hT (st:=st) (t:=t)
  generalize fM ts st=r at *; obtain ⟨o,s⟩:=r
  cases o with
  | none=>cases h
  | some t =>
   obtain ⟨h1,h2⟩:=hz t rfl; simp only at h h2 ⊢; split
   ·rename_i hc
    rw [if_pos hc] at h; have hm:=cf (Or.inr rfl) hc; obtain ⟨az,rfl,h3,h4⟩:=xq hT f (am s) (acc++[t]) al h; refine ⟨t::az,by simp,fun x hx=>?_,?_⟩
    ·simp only [Ae] at hx
     rcases hx with rfl | hx
     ·exact h1
     ·exact h3 x hx
    ·rw [b_]
     rw [hm] at h4; simp only [zT,z_] at h4; omega
   ·rename_i hc
    rw [if_neg hc] at h; injection h with h; subst h; refine ⟨[t],rfl,fun x hx=>by simp at hx; subst hx; exact h1,?_⟩; rw [b_,fS]; simp only; omega
theorem jx (hT:Ts ts) {st:PSt} {l:Lt} (hst:st.nx<=ts.length) (h:(aY ts st).1=some l):kK l/\l.nt=false/\16 * wA l.args+32 * l.rel.length+32+Zs ts st.nx<=Zs ts (aY ts st).2.nx:=by
 have hlen:=(d8 ts st hst).2 l h; have hL:=hT.len; unfold aY at h ⊢; split
 ·rename_i hr
  rw [if_pos hr] at h; obtain ⟨r1,r2,r3⟩:=yM hT hr; split
  ·rename_i hc
   rw [if_pos hc] at h; injection h with h; subst h; have hm:=cf (Or.inr rfl) hc; refine ⟨⟨rfl,r1,r2,zW _,fun t ht=>by cases ht⟩,rfl,?_⟩; simp only; rw [hm,r3,fS]; simp only [zT,z_]; omega
  ·rename_i hc
   rw [if_neg hc] at h
   have hz:=fun al=>xq hT (ts.length+1) (bN ts st).2 [] al
   generalize bW ts (ts.length+1) (bN ts st).2 []=r at *; obtain ⟨o,s⟩:=r
   cases o with
   | none=>cases h
   | some al =>
    obtain ⟨az,rfl,h1,h2⟩:=hz al rfl; simp only at h h2 ⊢; split
    ·rename_i hc2
     rw [if_pos hc2] at h; injection h with h; subst h; have hm:=cf (Or.inr rfl) hc2; refine ⟨⟨rfl,r1,r2,by simp only at hlen ⊢; omega,by simpa using h1⟩,rfl,?_⟩; simp only [List.nil_append]; rw [hm]; simp only [zT,z_]; omega
    ·rename_i hc2; rw [if_neg hc2] at h; cases h
 ·rename_i hr; rw [if_neg hr] at h; cases h
end
end Go.Proofs.YtffdpoifdahadaaGreatDoor
namespace Go.Proofs.YtffdpoifdahadaaGreatDoor
open Go.RowKit
open Go.Lib (hid byteCells itoa decDigits itoa_nonneg itoa_neg)
section
variable {ts:List Tw}
theorem uY (ts:List Tw) (i:Nat):Zs ts i<=(ts.map zw).sum:=by have:=su ts i; omega
def HOk (x:Hd):Prop:=(x.agg=0/\x.at_=0)\/(1<=x.agg/\x.agg<=4/\x.at_ < x.args.length/\x.args[x.at_]?.map Tm.var≠some [])
theorem zI {s:List UInt8} (h:ga s≠0):1<=ga s/\ga s<=4:=by
 unfold ga at h ⊢; split
 ·decide
 ·split
  ·decide
  ·split
   ·decide
   ·split
    ·decide
    ·rename_i h1 h2 h3 h4; rw [if_neg h1,if_neg h2,if_neg h3,if_neg h4] at h; exact absurd rfl h
theorem HOk.push {rel:List UInt8} {args:List Tm} {agg:Int} {at_:Nat} (h:HOk ⟨rel,args,agg,at_⟩) (t:Tm):HOk ⟨rel,args++[t],agg,at_⟩:=by
 rcases h with h | ⟨h1,h2,h3,h4⟩
 ·exact Or.inl h
 ·refine Or.inr ⟨h1,h2,by show at_ < (args++[t]).length; rw [zQ]; simp only at h3; omega,?_⟩
  show (args++[t])[at_]?.map Tm.var≠some []; rw [Aa h3]; exact h4
theorem zB (hT:Ts ts) {st:PSt} {x y:Hd} (hx:HOk x) (h:(bV ts st x).1=some y):∃ t,y.rel=x.rel/\y.args=x.args++[t]/\OkT false t/\HOk y/\16 * wl t+Zs ts st.nx<=Zs ts (bV ts st x).2.nx:=by
 obtain ⟨rel,args,agg,at_⟩:=x; unfold bV at h ⊢; split
 ·rename_i hc
  rw [if_pos hc] at h; have h0:=lj (ts:=ts) (st:=st) (Or.inl hc.1); split
  ·rename_i h1
   rw [if_pos h1] at h; obtain ⟨n1,n2⟩:=rI h1
   have hz:=fun t=>yJ hT (st:=(aW ts (am st) [40]).2) (t:=t)
   generalize eH ts (aW ts (am st) [40]).2=r at *; obtain ⟨o,s⟩:=r
   cases o with
   | none=>cases h
   | some t =>
    obtain ⟨h2,h3,h4⟩:=hz t rfl; simp only at h h4 ⊢; split
    ·rename_i h5
     rw [if_pos h5] at h; injection h with h; subst h; obtain ⟨n3,n4⟩:=rI h5; refine ⟨t,rfl,rfl,h2,?_,?_⟩
     ·have ha:=zI hc.2.1
      refine Or.inr ⟨ha.1,ha.2,by simp,?_⟩; simp [h3]
     ·rw [n1,n2,h0] at h4
      rw [n3,n4]; omega
    ·rename_i h5; rw [if_neg h5] at h; cases h
  ·rename_i h1; rw [if_neg h1] at h; cases h
 ·rename_i hc
  rw [if_neg hc] at h
  have hz:=fun t=>jk hT (st:=st) (t:=t)
  generalize aT ts st=r at *; obtain ⟨o,s⟩:=r
  cases o with
  | none=>cases h
  | some t =>
   obtain ⟨h1,h2⟩:=hz t rfl; simp only at h h2 ⊢; injection h with h; subst h; exact ⟨t,rfl,rfl,h1,hx.push t,h2⟩
theorem sW (hT:Ts ts):∀ (f:Nat) (st:PSt) (x y:Hd),HOk x->(cX ts f st x).1=some y->∃ az,y.rel=x.rel/\y.args=x.args++az/\(∀ t∈az,OkT false t)/\HOk y/\16 * wA az+Zs ts st.nx<=Zs ts (cX ts f st x).2.nx+32
 | 0,st,x,y,_,h=>by cases h
 | f+1,st,x,y,hx,h=>by
  unfold cX at h ⊢
  have hz:=fun y=>zB hT (st:=st) (x:=x) (y:=y) hx
  generalize bV ts st x=r at *; obtain ⟨o,s⟩:=r
  cases o with
  | none=>cases h
  | some z =>
   obtain ⟨t,h1,h2,h3,h4,h5⟩:=hz z rfl; simp only at h h5 ⊢; split
   ·rename_i hc
    rw [if_pos hc] at h; have hm:=cf (Or.inr rfl) hc; obtain ⟨az,k1,k2,k3,k4,k5⟩:=sW hT f (am s) z y h4 h; refine ⟨t::az,k1.trans h1,by rw [k2,h2]; simp,fun u hu=>?_,k4,?_⟩
    ·simp only [Ae] at hu
     rcases hu with rfl | hu
     ·exact h3
     ·exact k3 u hu
    ·rw [b_]
     rw [hm] at k5; simp only [zT,z_] at k5; omega
   ·rename_i hc
    rw [if_neg hc] at h; injection h with h; subst h; refine ⟨[t],h1,h2,fun u hu=>by simp at hu; subst hu; exact h3,h4,?_⟩; rw [b_,fS]; simp only; omega
theorem zA (hT:Ts ts) {st:PSt} {x:Hd} (h:(dC ts st).1=some x):dz x.rel=true/\x.rel.length<=40000/\x.args.length<=100000/\(∀ t∈x.args,OkT false t)/\HOk x/\16 * wA x.args+32 * x.rel.length+32+Zs ts st.nx<=Zs ts (dC ts st).2.nx:=by
 have key:dz x.rel=true/\x.rel.length<=40000/\(∀ t∈x.args,OkT false t)/\HOk x/\16 * wA x.args+32 * x.rel.length+32+Zs ts st.nx<=Zs ts (dC ts st).2.nx:=by
  unfold dC at h ⊢; split
  ·rename_i hr
   rw [if_pos hr] at h; obtain ⟨r1,r2,r3⟩:=yM hT hr; split
   ·rename_i hc
    rw [if_pos hc] at h; injection h with h; subst h; have hm:=cf (Or.inr rfl) hc; refine ⟨r1,r2,fun t ht=>(by cases ht),Or.inl ⟨rfl,rfl⟩,?_⟩; simp only; rw [hm,r3,fS]; simp only [zT,z_]; omega
   ·rename_i hc
    rw [if_neg hc] at h;(have hz:=fun y=>sW hT (ts.length+1) (bN ts st).2 ⟨(bN ts st).1.1,[],0,0⟩ y (Or.inl ⟨rfl,rfl⟩));generalize cX ts (ts.length+1) (bN ts st).2 ⟨(bN ts st).1.1,[],0,0⟩=r at *; obtain ⟨o,s⟩:=r
    cases o with
    | none=>cases h
    | some y =>
     obtain ⟨az,k1,k2,k3,k4,k5⟩:=hz y rfl; unfold n_ at h ⊢; simp only at h k5 k1 k2 ⊢; split
     ·rename_i hc2
      rw [if_pos hc2] at h; injection h with h; subst h; have hm:=cf (Or.inr rfl) hc2; rw [List.nil_append] at k2; rw [k1,k2]; refine ⟨r1,r2,k3,k4,?_⟩; simp only; rw [hm]; simp only [zT,z_]; omega
     ·rename_i hc2; rw [if_neg hc2] at h; cases h
  ·rename_i hr; rw [if_neg hr] at h; cases h
 refine ⟨key.1,key.2.1,?_,key.2.2.1,key.2.2.2.1,key.2.2.2.2⟩; have h1:=key.2.2.2.2; have h2:=uY ts (dC ts st).2.nx; have h3:=hT.sum; have h4:=q7 x.args; omega
theorem zj {s:List UInt8} {op:Int} {sw:Bool} (h:ir s=some (op,sw)):1<=op/\op<=4/\1<=s.length:=by
 unfold ir at h; split at h
 ·rename_i e; subst e; cases h; decide
 ·split at h
  ·rename_i e; subst e; cases h; decide
  ·split at h
   ·rename_i e; subst e; cases h; decide
   ·split at h
    ·rename_i e; subst e; cases h; decide
    ·split at h
     ·rename_i e; subst e; cases h; decide
     ·split at h
      ·rename_i e; subst e; cases h; decide
      ·cases h
theorem eC {op:Int} (h:1<=op/\op<=4) {a b:Tm} (ha:OkT false a) (hb:OkT false b):k8 (aE op a b)/\wL (aE op a b)=wl a+wl b+10:=by
 refine ⟨⟨by show 1<=op/\op<=5; omega,rfl,rfl,?_,fun t ht=>?_⟩,?_⟩
 ·show ([a,b]:List Tm).length=if op=5 then 3 else 2
  rw [if_neg (by omega)]; rfl
 ·simp [aE] at ht
  rcases ht with rfl | rfl
  ·exact ha
  ·exact hb
 ·show 0+6+wA [a,b]=_
  rw [b_,b_,fS]; omega
theorem xr {a b c:Tm} (ha:OkT false a) (hb:OkT false b) (hc:OkT false c):k8 ⟨5,false,[],[a,b,c]⟩/\wL ⟨5,false,[],[a,b,c]⟩=wl a+wl b+wl c+12:=by
 refine ⟨⟨⟨(by decide:(1:Int)<=5),(by decide:(5:Int)<=5)⟩,rfl,rfl,rfl,fun t ht=>?_⟩,?_⟩
 ·simp at ht
  rcases ht with rfl | rfl | rfl
  ·exact ha
  ·exact hb
  ·exact hc
 ·show 0+6+wA [a,b,c]=_
  rw [b_,b_,b_,fS]; omega
theorem xv (hT:Ts ts) {m:Bool} {a b:Tm} (ha:OkT false a) (hb:OkT false b) {st:PSt} {l:Lt} (h:(ki m a b (aT ts st)).1=some l):k8 l/\wL l+Zs ts st.nx<=Zs ts (ki m a b (aT ts st)).2.nx+wl a+wl b+12:=by
 have hz:=fun t=>jk hT (st:=st) (t:=t)
 generalize aT ts st=r at *; obtain ⟨o,s⟩:=r
 cases o with
 | none=>cases h
 | some c =>
  obtain ⟨h1,h2⟩:=hz c rfl; unfold ki at h ⊢; simp only at h h2 ⊢; injection h with h; subst h; cases m
  ·obtain ⟨k1,k2⟩:=xr ha hb h1
   exact ⟨k1,by show wL ⟨5,false,[],[a,b,c]⟩+_<=_; rw [k2]; omega⟩
  ·obtain ⟨k1,k2⟩:=xr hb ha h1
   exact ⟨k1,by show wL ⟨5,false,[],[b,a,c]⟩+_<=_; rw [k2]; omega⟩
theorem zE (hT:Ts ts) {op:Int} {sw:Bool} (ho:1<=op/\op<=4) {a:Tm} (ha:OkT false a) {st:PSt} {l:Lt} (h:(lh ts op sw a (aT ts st)).1=some l):k8 l/\wL l+Zs ts st.nx<=Zs ts (lh ts op sw a (aT ts st)).2.nx+wl a+12:=by
 have hz:=fun t=>jk hT (st:=st) (t:=t)
 generalize aT ts st=r at *; obtain ⟨o,s⟩:=r
 cases o with
 | none=>cases h
 | some b =>
  obtain ⟨h1,h2⟩:=hz b rfl; unfold lh at h ⊢; simp only at h h2 ⊢; split
  ·rename_i hc
   rw [if_pos hc] at h; have hm:=cf (Or.inr rfl) hc.2; have k:=xv hT ha h1 h; refine ⟨k.1,?_⟩; have:=k.2; rw [hm] at this; simp only [zT,z_] at this; omega
  ·rename_i hc
   rw [if_neg hc] at h; split
   ·rename_i hc
    rw [if_pos hc] at h; have hm:=cf (Or.inr rfl) hc.2; have k:=xv hT ha h1 h; refine ⟨k.1,?_⟩; have:=k.2; rw [hm] at this; simp only [zT,z_] at this; omega
   ·rename_i hc
    rw [if_neg hc] at h; injection h with h; subst h; simp only; cases sw
    ·obtain ⟨k1,k2⟩:=eC ho ha h1
     exact ⟨k1,by show wL (aE op a b)+_<=_; rw [k2]; omega⟩
    ·obtain ⟨k1,k2⟩:=eC ho h1 ha
     exact ⟨k1,by show wL (aE op b a)+_<=_; rw [k2]; omega⟩
theorem cmp_z (hT:Ts ts) {st:PSt} {l:Lt} (h:(aV ts st).1=some l):k8 l/\wL l+4+Zs ts st.nx<=Zs ts (aV ts st).2.nx:=by
 unfold aV at h ⊢
 have hz:=fun t=>jk hT (st:=st) (t:=t)
 generalize aT ts st=r at *; obtain ⟨o,s⟩:=r
 cases o with
 | none=>cases h
 | some a =>
  obtain ⟨h1,h2⟩:=hz a rfl; simp only at h h2 ⊢; split
  ·rename_i hk
   rw [if_pos hk] at h; have hm:=lj (ts:=ts) (st:=s) (Or.inr hk); split
   ·rename_i ho; rw [ho] at h; cases h
   ·rename_i op sw ho
    rw [ho] at h; obtain ⟨o1,o2,o3⟩:=zj ho; have k:=zE hT ⟨o1,o2⟩ h1 h; refine ⟨k.1,?_⟩; have:=k.2; rw [hm] at this; omega
  ·rename_i hk; rw [if_neg hk] at h; cases h
theorem vC (hT:Ts ts) {st:PSt} {b:Bool} {a:Tm} (h:(cW ts st).1=some (b,a)):OkT false a/\16 * wl a+160+Zs ts st.nx<=Zs ts (cW ts st).2.nx:=by
 have hE:∀ (c:Bool) (st:PSt),(im c (aT ts st)).1=some (b,a)->OkT false a/\16 * wl a+Zs ts st.nx<=Zs ts (im c (aT ts st)).2.nx:=by
  intro c st h
  have hz:=fun t=>jk hT (st:=st) (t:=t)
  generalize aT ts st=r at *; obtain ⟨o,s⟩:=r
  cases o with
  | none=>cases h
  | some t =>
   have:=hz t rfl; unfold im at h; simp only [Option.map_some,Al,Prod.mk.injEq] at h; obtain ⟨-,rfl⟩:=h; exact this
 unfold cW at h ⊢; split
 ·rename_i hc
  rw [if_pos hc] at h; have hm:=cf (Or.inl rfl) hc; have:=hE _ _ h; refine ⟨this.1,?_⟩; have h2:=this.2; rw [hm] at h2; simp only [zT,z_] at h2; omega
 ·rename_i hc
  rw [if_neg hc] at h; split
  ·rename_i hc
   rw [if_pos hc] at h; have hm:=cf (Or.inl rfl) hc; have:=hE _ _ h; refine ⟨this.1,?_⟩; have h2:=this.2; rw [hm] at h2; simp only [zT,z_] at h2; omega
  ·rename_i hc; rw [if_neg hc] at h; cases h
/-! generated names -/
theorem s_:∀ (k n:Nat),1<=k->n < 10 ^ k->(decDigits n).length<=k
 | 0,n,h,_=>by omega
 | 1,n,_,h=>by
  rw [decDigits,dif_pos (by simpa using h)]; simp
 | k+2,n,_,h=>by
  rw [decDigits]; split
  ·simp
  ·have:=s_ (k+1) (n / 10) (by omega) (by rw [Nat.pow_succ] at h; omega)
   rw [zQ]; simp only [zT,z_]; omega
theorem mC {n:Nat} (h:n < 10000000000):(itoa (n:Int)).length<=10:=by
 rw [itoa_nonneg]; exact s_ 10 n (by decide) h
theorem sU (n:Nat) (h:n<=9007199254740992):(itoa (n:Int)).all bP=true:=by
 obtain ⟨_,b2,_⟩:=wO (n:Int) (by omega) (by omega); rw [List.all_eq_true] at b2 ⊢
 exact fun c hc=>lq (b2 c hc)
theorem resT (s:List UInt8):fX (84::s)=false:=by
 have:∀ w∈tW,w.head?≠some 84:=by decide
 unfold fX; rw [List.contains_eq_mem,decide_eq_false_iff_not]; intro h; exact this _ h rfl
theorem resX (s:List UInt8):fX (97::117::s)=false:=by
 have:∀ w∈tW,w.take 2≠[97,117]:=by decide
 unfold fX; rw [List.contains_eq_mem,decide_eq_false_iff_not]; intro h; exact this _ h rfl
theorem varT {n:Nat} (h:n<=9007199254740992):et ([84]++itoa (n:Int))=true:=by
 unfold et; rw [show [84]++itoa (n:Int)=84::itoa (n:Int) from rfl,resT]; show ((cL 84 && (bP 84 && (itoa (n:Int)).all bP)) && !false)=true; rw [sU n h]; decide
theorem relX {n:Nat} (h:n<=9007199254740992):dz ([97,117,120]++itoa (n:Int))=true:=by
 unfold dz et; rw [show [97,117,120]++itoa (n:Int)=97::117::120::itoa (n:Int) from rfl,resX]; show (((cL 97 && (bP 97 && (bP 117 && (bP 120 && (itoa (n:Int)).all bP)))) && !false) && (decide (97<=(97:UInt8).toNat) && decide ((97:UInt8).toNat<=122)))=true; rw [sU n h]; decide
theorem fY (hT:Ts ts) {st:PSt} (h:st.vars<=1000000000):OkT false (aq ts st).1/\wl (aq ts st).1<=11/\(aq ts st).1.var.length<=11:=by
 have h1:=(bL ts st).1; have hL:=hT.len; have h2:(aq ts st).1=bh ([84]++itoa (((aq ts st).2.vars:Nat):Int)):=rfl; generalize (aq ts st).2.vars=n at *; rw [h2]; have hv:=varT (n:=n) (by omega); have hl:=mC (n:=n) (by omega)
 have hlen:(bh ([84]++itoa (n:Int))).var.length<=11:=by
  show ([84]++itoa (n:Int)).length<=11; rw [zQ]; simp only [zT,z_]; omega
 refine ⟨⟨Or.inr (Or.inl ⟨hv,rfl⟩),by omega⟩,?_,hlen⟩; unfold wl; rw [if_neg (by simp [bh])]; exact hlen
theorem pQ (hT:Ts ts) {st:PSt} (h:st.rels<=1000000000):dz (bg ts st).1=true/\(bg ts st).1.length<=13:=by
 have h1:=(g9 ts st).1; have hL:=hT.len; have h2:(bg ts st).1=[97,117,120]++itoa (((bg ts st).2.rels:Nat):Int):=rfl; generalize (bg ts st).2.rels=n at *; rw [h2]; have hl:=mC (n:=n) (by omega); refine ⟨relX (by omega),?_⟩; rw [zQ]; simp only [zT,z_]; omega
theorem kF:∀ (l:List Tm) (seen:List (List UInt8)),∀ t∈dg seen l,t∈l/\t.var ∉ seen
 | [],seen=>fun t ht=>by cases ht
 | a::l,seen=>fun t ht=>by
  unfold dg at ht; split at ht
  ·have:=kF l seen t ht
   exact ⟨by simp [this.1],this.2⟩
  ·rename_i hn
   simp only [Ae] at ht; rcases ht with rfl | ht
   ·exact ⟨by simp,hn⟩
   ·have:=kF l _ t ht
    refine ⟨by simp [this.1],fun h=>this.2 (by simp [h])⟩
theorem oY:∀ (l:List Tm) (seen:List (List UInt8)),wA (dg seen l)<=wA l
 | [],seen=>zM _
 | a::l,seen=>by
  unfold dg; split
  ·have:=oY l seen; rw [b_]; omega
  ·have:=oY l (a.var::seen); rw [b_,b_]; omega
theorem w_ {l:List Tm} (h:∀ t∈l,OkT true t):∀ t∈dg [[],[95]] l,OkT false t:=by
 intro t ht; obtain ⟨h1,h2⟩:=kF l _ t ht; have h3:=h t h1; refine ⟨?_,h3.2⟩; rcases h3.1 with h | h | h
 ·rw [h.1] at h2; exact absurd (by simp) h2
 ·exact Or.inr (Or.inl h)
 ·rw [h.2] at h2; exact absurd (by simp [bh]) h2
theorem jE {rel:List UInt8} {l:Lt} {xs:List Tm} (hr:dz rel=true) (hrl:rel.length<=40000) (hl:kK l) (hla:l.args.length<=4000) (hx:∀ t∈xs,OkT false t) (hxl:xs.length<=5) :
  (∀ t∈(bq rel l xs).args,OkT false t)/\(bq rel l xs).args.length<=100000/\kK (bq rel l xs)/\kK (neg (bq rel l xs))/\wL (bq rel l xs)<=rel.length+6+wA xs+wA l.args:=by
 have h1:∀ t∈(bq rel l xs).args,OkT false t:=by
  intro t ht; rcases List.mem_append.1 (show t∈xs++dg [[],[95]] l.args from ht) with ht | ht
  ·exact hx t ht
  ·exact w_ hl.2.2.2.2 t ht
 have h2:(bq rel l xs).args.length<=100000:=by have:=lJ rel l xs; omega
 refine ⟨h1,h2,⟨rfl,hr,hrl,h2,fun t ht=>(h1 t ht).up⟩,⟨rfl,hr,hrl,h2,fun t ht=>(h1 t ht).up⟩,?_⟩; show rel.length+6+wA (xs++dg [[],[95]] l.args)<=_; rw [yY]; have:=oY l.args [[],[95]]; omega
theorem jN {x:Tm} {l:Lt} (hx:OkT false x) (hl:kK l) (hla:l.args.length<=4000):kK (aS x l)/\wL (aS x l)=l.rel.length+8+wl x+wA l.args:=by
 refine ⟨⟨rfl,hl.2.1,hl.2.2.1,by show l.args.length+1<=_; omega,fun t ht=>?_⟩,?_⟩
 ·rcases List.mem_cons.1 (show t∈x::l.args from ht) with rfl | ht
  ·exact hx.up
  ·exact hl.2.2.2.2 t ht
 ·show l.rel.length+6+wA (x::l.args)=_
  rw [b_]; omega
theorem jt {x:Tm} (hx:OkT false x):kK (aQ x)/\wL (aQ x)=wl x+16:=by
 refine ⟨⟨rfl,(by decide:dz [101,118,101,110,116]=true),(by decide:[101,118,101,110,116].length<=40000),(by decide:2<=100000),fun t ht=>?_⟩,?_⟩
 ·simp [aQ] at ht
  rcases ht with rfl | rfl
  ·exact hx.up
  ·exact ⟨Or.inr (Or.inr ⟨rfl,rfl⟩),by decide⟩
 ·show 5+6+wA [x,bh [95]]=_
  rw [b_,b_,fS]
  have:wl (bh [95])=1:=by decide
  omega
theorem oe {b:Bool} {x a:Tm} (hx:OkT false x) (ha:OkT false a):k8 (bM b x a)/\wL (bM b x a)=wl x+wl a+10:=by
 cases b
 ·have:=eC (op:=3) (by decide) ha hx
  exact ⟨this.1,by show wL (aE 3 a x)=_; rw [this.2]; omega⟩
 ·exact eC (op:=3) (by decide) hx ha
def LZ (q:List Lt × List Ru) (w:Nat):Prop:=(∀ x∈q.1,OkL x)/\(∀ r∈q.2,OkR r)/\wLs q.1+wRs q.2<=w
theorem zk (hT:Ts ts) {st:PSt} {q:List Lt} (hst:st.nx<=ts.length) (hv:st.vars<=100000000) (h:(eM ts st).1=some q):∃ w,LZ (q,[]) w/\w+Zs ts st.nx<=Zs ts (eM ts st).2.nx:=by
 unfold eM at h ⊢; have hL:=hT.len; have hg:=d8 ts st hst
 have hz:=fun l=>jx hT (st:=st) (l:=l) hst
 generalize aY ts st=r at *; obtain ⟨o,s⟩:=r
 cases o with
 | none=>cases h
 | some l =>
  obtain ⟨h1,h2,h3⟩:=hz l rfl; have hla:=hg.2 l rfl; have hg1:=hg.1; simp only at h h3 hg1 ⊢; have hs:=ll ts s
  have hz2:=fun b a=>vC hT (st:=s) (b:=b) (a:=a)
  generalize cW ts s=r at *; obtain ⟨o,s2⟩:=r
  cases o with
  | none=>cases h
  | some x =>
   obtain ⟨b,a⟩:=x; obtain ⟨k1,k2⟩:=hz2 b a rfl; have v1:=hg1.vars; have v2:=hs.vars; simp only at v2 k2; unfold pM at h ⊢; simp only at h ⊢; injection h with h; subst h; obtain ⟨n1,n2,n3⟩:=fY hT (st:=s2) (by omega); obtain ⟨t1,t2⟩:=jN n1 h1 (by omega); obtain ⟨b1,b2⟩:=oe (b:=b) n1 k1; refine ⟨_,⟨fun y hy=>?_,fun r hr=>(by cases hr),zM _⟩,?_⟩
   ·simp at hy
    rcases hy with rfl | rfl
    ·exact Or.inl t1
    ·exact Or.inr b1
   ·show wLs [aS (aq ts s2).1 l,bM b (aq ts s2).1 a]+0+_<=Zs ts s2.nx
    rw [cC,cC,iT,t2,b2]; omega
theorem xn {rel:List UInt8} {l:Lt} {xs:List Tm} {body:List Lt} (hr:dz rel=true) (hrl:rel.length<=40000) (hl:kK l) (hla:l.args.length<=4000) (hx:∀ t∈xs,OkT false t) (hxl:xs.length<=5) (hb:∀ x∈body,OkL x) (hbl:body.length<=100000) :
  OkR ⟨bq rel l xs,0,0,body⟩:=by
 obtain ⟨w1,w2,w3,w4,w5⟩:=jE hr hrl hl hla hx hxl; exact ⟨⟨rfl,rfl,hr,hrl,w2,w1⟩,Or.inl ⟨rfl,rfl⟩,hb,hbl⟩
theorem yg (hT:Ts ts) {st:PSt} {q:List Lt × List Ru} (hst:st.nx<=ts.length) (hv:st.vars<=100000000) (hr:st.rels<=100000000) (h:(dN ts st).1=some q):∃ w,LZ q w/\w+Zs ts st.nx<=Zs ts (dN ts st).2.nx:=by
 unfold dN at h ⊢; have hL:=hT.len; have hg:=d8 ts st hst
 have hz:=fun l=>jx hT (st:=st) (l:=l) hst
 generalize aY ts st=r at *; obtain ⟨o,s⟩:=r
 cases o with
 | none=>cases h
 | some l =>
  obtain ⟨h1,h2,h3⟩:=hz l rfl; have hla:=hg.2 l rfl; have hg1:=hg.1; simp only at h h3 hg1 ⊢; have hs:=ll ts s
  have hz2:=fun b a=>vC hT (st:=s) (b:=b) (a:=a)
  generalize cW ts s=r at *; obtain ⟨o,s2⟩:=r
  cases o with
  | none=>cases h
  | some x =>
   obtain ⟨b,a⟩:=x; obtain ⟨k1,k2⟩:=hz2 b a rfl; have v1:=hg1.vars; have v2:=hs.vars; have u1:=hg1.rels; have u2:=hs.rels; simp only at v2 u2 k2; unfold mp at h ⊢; simp only at h ⊢; injection h with h; subst h; have m1:=bL ts s2; obtain ⟨n1,n2,n3⟩:=fY hT (st:=s2) (by omega); obtain ⟨p1,p2,p3⟩:=fY hT (st:=(aq ts s2).2) (by omega); have m2:=bL ts (aq ts s2).2; obtain ⟨r1,r2⟩:=pQ hT (st:=(aq ts (aq ts s2).2).2) (by rw [m2.2.1,m1.2.1]; omega); have hnx:(bg ts (aq ts (aq ts s2).2).2).2.nx=s2.nx:=rfl; rw [hnx]; generalize (aq ts s2).1=y at *; generalize (aq ts (aq ts s2).2).1=x at *; generalize (bg ts (aq ts (aq ts s2).2).2).1=rel at *
   obtain ⟨w1,w2,w3,w4,w5⟩:=jE (xs:=[a]) r1 (by omega) h1 (by omega) (by intro t ht; simp at ht; subst ht; exact k1) (by simp); obtain ⟨z1,z2,z3,z4,z5⟩:=jE (xs:=[y]) r1 (by omega) h1 (by omega) (by intro t ht; simp at ht; subst ht; exact n1) (by simp); obtain ⟨t1,t2⟩:=jN p1 h1 (by omega); obtain ⟨e1,e2⟩:=jt n1; obtain ⟨b1,b2⟩:=oe (b:=b) p1 n1; have hneg:wL (neg (bq rel l [a]))=wL (bq rel l [a]):=rfl; rw [b_,fS] at w5 z5; refine ⟨_,⟨fun q hq=>?_,fun r hr=>?_,zM _⟩,?_⟩
   ·simp [eN] at hq; subst hq; exact Or.inl w4
   ·simp [eN] at hr; subst hr
    refine xn r1 (by omega) h1 (by omega) (by intro t ht; simp at ht; subst ht; exact n1) (by simp) (fun q hq=>?_) (by show 3<=_; decide); simp at hq; rcases hq with rfl | rfl | rfl
    ·exact Or.inl e1
    ·exact Or.inl t1
    ·exact Or.inr b1
   ·show wLs [neg (bq rel l [a])]+wRs [⟨bq rel l [y],0,0,[aQ y,aS x l,bM b x y]⟩]+_<=_
    rw [jH,cC,iT,hneg]; show _+(wL (bq rel l [y])+7+wLs [aQ y,aS x l,bM b x y]+2+0)+_<=_; rw [cC,cC,cC,iT,e2,t2,b2]; omega
theorem xS (hT:Ts ts) {st:PSt} {q:List Lt × List Ru} (hst:st.nx<=ts.length) (hv:st.vars<=100000000) (hr:st.rels<=100000000) (h:(dJ ts st).1=some q):∃ w,LZ q w/\w+Zs ts st.nx<=Zs ts (dJ ts st).2.nx+160:=by
 unfold dJ at h ⊢; have hL:=hT.len; have hg:=d8 ts st hst
 have hz:=fun l=>jx hT (st:=st) (l:=l) hst
 generalize aY ts st=r at *; obtain ⟨o,s⟩:=r
 cases o with
 | none=>cases h
 | some l =>
  obtain ⟨h1,h2,h3⟩:=hz l rfl; have hla:=hg.2 l rfl; have hg1:=hg.1; simp only at h h3 hg1 ⊢; split
  ·rename_i hno
   rw [if_pos hno] at h; have hm:=cf (Or.inl rfl) hno; have hlt:=cT (by decide) hno; have hst2:(am s).nx<=ts.length:=hlt; have hgm:=d8 ts (am s) hst2
   have hzm:=fun l=>jx hT (st:=am s) (l:=l) hst2
   generalize aY ts (am s)=r at *; obtain ⟨o,s2⟩:=r
   cases o with
   | none=>cases h
   | some m =>
    obtain ⟨i1,i2,i3⟩:=hzm m rfl; have hma:=hgm.2 m rfl; have hg2:=hgm.1; unfold jn at h ⊢; simp only at h i3 hg2 ⊢; split
    ·rename_i hat
     rw [if_pos hat] at h; have hm2:=cf (Or.inl rfl) hat; have ht:=gg ts (am s2);(have hzt:=fun t=>jk hT (st:=am s2) (t:=t));generalize aT ts (am s2)=r at *; obtain ⟨o,s3⟩:=r
     cases o with
     | none=>cases h
     | some a =>
      (obtain ⟨k1,k2⟩:=hzt a rfl; have v1:=hg1.vars; have v2:s2.vars<=s.vars+0:=hg2.vars; have v3:s3.vars<=s2.vars+0:=ht.vars; have u1:=hg1.rels; have u2:s2.rels<=s.rels+0:=hg2.rels; have u3:s3.rels<=s2.rels+0:=ht.rels; simp only at k2; unfold lS at h ⊢; simp only at h ⊢; injection h with h; subst h; have m1:=bL ts s3; have m2:=bL ts (aq ts s3).2; have m3:=bL ts (aq ts (aq ts s3).2).2; have m4:=bL ts (aq ts (aq ts (aq ts s3).2).2).2; obtain ⟨n1,n2,n3⟩:=fY hT (st:=s3) (by omega); obtain ⟨p1,p2,p3⟩:=fY hT (st:=(aq ts s3).2) (by omega); obtain ⟨q1,q2,q3⟩:=fY hT (st:=(aq ts (aq ts s3).2).2) (by omega));obtain ⟨o1,o2,o3⟩:=fY hT (st:=(aq ts (aq ts (aq ts s3).2).2).2) (by omega); obtain ⟨r1,r2⟩:=pQ hT (st:=(aq ts (aq ts (aq ts (aq ts s3).2).2).2).2) (by rw [m4.2.1,m3.2.1,m2.2.1,m1.2.1]; omega); have hnx:(bg ts (aq ts (aq ts (aq ts (aq ts s3).2).2).2).2).2.nx=s3.nx:=rfl; rw [hnx]; clear m1 m2 m3 m4 hnx; generalize (bg ts (aq ts (aq ts (aq ts (aq ts s3).2).2).2).2).1=rel at *; generalize (aq ts (aq ts (aq ts (aq ts s3).2).2).2).1=w at *; generalize (aq ts (aq ts (aq ts s3).2).2).1=z at *; generalize (aq ts (aq ts s3).2).1=y at *; generalize (aq ts s3).1=x at *;obtain ⟨w1,w2,w3,w4,w5⟩:=jE (xs:=[x,a]) r1 (by omega) i1 (by omega) (by intro t ht; simp at ht; rcases ht with rfl | rfl; exact n1; exact k1) (by simp); obtain ⟨z1,z2,z3,z4,z5⟩:=jE (xs:=[y,z]) r1 (by omega) i1 (by omega) (by intro t ht; simp at ht; rcases ht with rfl | rfl; exact p1; exact q1) (by simp); obtain ⟨t1,t2⟩:=jN n1 h1 (by omega); obtain ⟨t3,t4⟩:=jN o1 i1 (by omega); obtain ⟨e1,e2⟩:=jt p1; obtain ⟨e3,e4⟩:=jt q1; obtain ⟨c1,c2⟩:=eC (op:=4) (by decide) n1 k1; obtain ⟨c3,c4⟩:=eC (op:=3) (by decide) p1 o1; obtain ⟨c5,c6⟩:=eC (op:=4) (by decide) o1 q1; have hneg:wL (neg (bq rel m [x,a]))=wL (bq rel m [x,a]):=rfl; rw [b_,b_,fS] at w5 z5;refine ⟨_,⟨fun q hq=>?_,fun r hr=>?_,zM _⟩,?_⟩
      ·simp [eJ] at hq
       rcases hq with rfl | rfl | rfl
       ·exact Or.inl t1
       ·exact Or.inr c1
       ·exact Or.inl w4
      ·simp [eJ] at hr; subst hr
       refine xn r1 (by omega) i1 (by omega) (by intro t ht; simp at ht; rcases ht with rfl | rfl; exact p1; exact q1) (by simp) (fun q hq=>?_) (by show 5<=_; decide); simp at hq; rcases hq with rfl | rfl | rfl | rfl | rfl
       ·exact Or.inl t3
       ·exact Or.inl e1
       ·exact Or.inl e3
       ·exact Or.inr c3
       ·exact Or.inr c5
      ·show wLs [aS x l,aE 4 x a,neg (bq rel m [x,a])]+wRs [⟨bq rel m [y,z],0,0,[aS w m,aQ y,aQ z,aE 3 y w,aE 4 w z]⟩]+_<=_
       rw [jH,cC,cC,cC,iT,hneg,t2,c2]; show _+(wL (bq rel m [y,z])+7+wLs [aS w m,aQ y,aQ z,aE 3 y w,aE 4 w z]+2+0)+_<=_; rw [cC,cC,cC,cC,cC,iT,e2,e4,t4,c4,c6]; simp only [zT,z_] at hm hm2; have hm2':Zs ts (am s2).nx=Zs ts s2.nx+64:=hm2; have hm':Zs ts (am s).nx=Zs ts s.nx+64:=hm; omega
    ·rename_i hat; rw [if_neg hat] at h; cases h
  ·rename_i hno; rw [if_neg hno] at h; cases h
theorem rS {f:Lt->Lt} {r:Option Lt × PSt} {q:List Lt × List Ru} {n:Nat} (hf:∀ l,wL (f l)=wL l) (hr:∀ l,r.1=some l->OkL (f l)/\wL l+4+n<=Zs ts r.2.nx) (h:(gw f r).1=some q):∃ w,LZ q w/\w+n<=Zs ts (gw f r).2.nx:=by
 obtain ⟨o,s⟩:=r
 cases o with
 | none=>cases h
 | some l =>
  obtain ⟨h1,h2⟩:=hr l rfl; unfold gw at h ⊢; simp only [Option.map_some,Al] at h; subst h; refine ⟨_,⟨fun x hx=>by simp at hx; subst hx; exact h1,fun r hr=>(by cases hr),zM _⟩,?_⟩; show wLs [f l]+0+n<=_; rw [cC,iT,hf]; exact zV (by omega) h2
theorem ur (hT:Ts ts) {st:PSt} {q:List Lt × List Ru} (hst:st.nx<=ts.length) (hv:st.vars<=100000000) (hr:st.rels<=100000000) (h:(bx ts st).1=some q):∃ w,LZ q w/\w+Zs ts st.nx<=Zs ts (bx ts st).2.nx:=by
 have hn:∀ k s,k≠0->isP ts st k s=true->(am st).nx<=ts.length:=fun k s hk hz=>cT hk hz
 unfold bx at h ⊢; split
 ·rename_i hc
  rw [if_pos hc] at h; have hm:=cf (Or.inl rfl) hc; refine rS (fun _=>rfl) (fun l hl=>?_) h; obtain ⟨a1,a2,a3⟩:=jx hT (hn _ _ (by decide) hc) hl; refine ⟨Or.inl ⟨a1.1,a1.2.1,a1.2.2.1,a1.2.2.2.1,a1.2.2.2.2⟩,?_⟩; rw [hm] at a3; unfold wL; simp only [zT,z_] at a3; omega
 ·rename_i hc
  rw [if_neg hc] at h; split
  ·rename_i hc
   rw [if_pos hc] at h; have hm:=cf (Or.inl rfl) hc
   have hz:=fun q=>zk hT (st:=am st) (q:=q) (hn _ _ (by decide) hc) hv
   generalize eM ts (am st)=r at *; obtain ⟨o,s⟩:=r
   cases o with
   | none=>cases h
   | some ls =>
    obtain ⟨w,w1,w2⟩:=hz ls rfl; unfold kS at h ⊢; simp only [Option.map_some,Al] at h; subst h; refine ⟨w,w1,?_⟩; rw [hm] at w2; exact zV (by omega) w2
  ·rename_i hc
   rw [if_neg hc] at h; split
   ·rename_i hc
    rw [if_pos hc] at h; have hm:=cf (Or.inl rfl) hc; obtain ⟨w,w1,w2⟩:=yg hT (st:=am st) (hn _ _ (by decide) hc) hv hr h; rw [hm] at w2; exact ⟨w,w1,by omega⟩
   ·rename_i hc
    rw [if_neg hc] at h; split
    ·rename_i hc
     rw [if_pos hc] at h; have hm:=cf (Or.inl rfl) hc; obtain ⟨w,w1,w2⟩:=xS hT (st:=am st) (hn _ _ (by decide) hc) hv hr h; rw [hm] at w2; simp only [zT,z_] at w2; exact ⟨w,w1,by omega⟩
    ·rename_i hc
     rw [if_neg hc] at h; split
     ·rename_i hc
      rw [if_pos hc] at h; refine rS (fun _=>rfl) (fun l hl=>?_) h; obtain ⟨a1,a2,a3⟩:=jx hT hst hl; refine ⟨Or.inl a1,?_⟩; unfold wL; omega
     ·rename_i hc
      rw [if_neg hc] at h; refine rS (fun _=>rfl) (fun l hl=>?_) h; obtain ⟨a1,a2⟩:=cmp_z hT hl; exact ⟨Or.inr a1,a2⟩
def VOk (ts:List Tw) (st:PSt):Prop:=st.nx<=ts.length/\st.vars<=(4 * (ts.length+1)) * st.nx/\st.rels<=(4 * (ts.length+1)) * st.nx
theorem VOk.small (hT:Ts ts) {st:PSt} (h:VOk ts st):st.vars<=100000000/\st.rels<=100000000:=by
 have hL:=hT.len; have h1:(4 * (ts.length+1)) * st.nx<=12004 * 3000:=Nat.mul_le_mul (by omega) (by have:=h.1; omega); have h2:=h.2.1; have h3:=h.2.2; omega
theorem VOk.step {st s:PSt} {c:Nat} {b:Bool} (h:VOk ts st) (hg:Gr ts.length c st b s) (hc:c=0\/(c=4 * (ts.length+1)/\st.nx < s.nx)):VOk ts s:=by
 have h1:=hg.nx; have h2:=hg.vars; have h3:=hg.rels; have h4:=h.2.1; have h5:=h.2.2; refine ⟨hg.top h.1,?_⟩; rcases hc with rfl | ⟨rfl,hlt⟩
 ·have:=Nat.mul_le_mul_left (4 * (ts.length+1)) h1
  omega
 ·have:=Nat.mul_le_mul_left (4 * (ts.length+1)) hlt
  rw [Nat.mul_succ] at this; omega
theorem wv (hT:Ts ts):∀ (f:Nat) (st:PSt) (body:List Lt) (aux:List Ru) (q:List Lt × List Ru),VOk ts st->(cp ts f st body aux).1=some q->∃ ls au w,q=(body++ls,aux++au)/\LZ (ls,au) w/\w+Zs ts st.nx<=Zs ts (cp ts f st body aux).2.nx/\VOk ts (cp ts f st body aux).2
 | 0,st,body,aux,q,_,h=>by cases h
 | f+1,st,body,aux,q,hV,h=>by
  rw [mw] at h ⊢; have hg:=(js ts st hV.1).1; have hlt:=iG ts st hV.1; obtain ⟨hv,hr⟩:=hV.small hT
  have hz:=fun q=>ur hT (q:=q) hV.1 hv hr
  generalize bx ts st=r at *; obtain ⟨o,s⟩:=r
  cases o with
  | none=>cases h
  | some p =>
   obtain ⟨ls,au⟩:=p; obtain ⟨w,w1,w2⟩:=hz (ls,au) rfl; have hV2:VOk ts s:=hV.step hg (Or.inr ⟨rfl,hlt rfl⟩); unfold wB at h ⊢; simp only at h w2 ⊢; split
   ·rename_i hc
    rw [if_pos hc] at h; have hm:=cf (Or.inr rfl) hc; have hV3:VOk ts (am s):=hV2.step (Gr.next (cT (by decide) hc)) (Or.inl rfl); obtain ⟨ls2,au2,w',rfl,k2,k3,k4⟩:=wv hT f (am s) (body++ls) (aux++au) q hV3 h; refine ⟨ls++ls2,au++au2,w+w',by simp,⟨fun x hx=>?_,fun x hx=>?_,?_⟩,?_,k4⟩
    ·rcases List.mem_append.1 hx with hx | hx
     ·exact w1.1 x hx
     ·exact k2.1 x hx
    ·rcases List.mem_append.1 hx with hx | hx
     ·exact w1.2.1 x hx
     ·exact k2.2.1 x hx
    ·have a1:=w1.2.2
     have a2:=k2.2.2; simp only at a1 a2 ⊢; rw [xG,sy]; omega
    ·rw [hm] at k3
     omega
   ·rename_i hc
    rw [if_neg hc] at h; injection h with h; subst h; exact ⟨ls,au,w,rfl,w1,w2,hV2⟩
theorem sA:∀ xs:List Lt,xs.length<=wLs xs
 | []=>zM _
 | x::xs=>by have:=sA xs; rw [cC,zT]; omega
theorem zh (hT:Ts ts) {st:PSt} {rs:List Ru} (hV:VOk ts st) (h:(fC ts st).1=some rs):∃ rs0,rs=rs0.map eF/\(∀ r∈rs0,OkR r)/\wRs rs0+Zs ts st.nx<=Zs ts (fC ts st).2.nx/\VOk ts (fC ts st).2:=by
 rw [lW] at h ⊢; have hg:=(oW ts st hV.1).1
 have hz:=fun x=>zA hT (st:=st) (x:=x)
 generalize dC ts st=r at *; obtain ⟨o,s⟩:=r
 cases o with
 | none=>cases h
 | some x =>
  obtain ⟨h1,h2,h3,h4,h5,h6⟩:=hz x rfl; have hV1:VOk ts s:=hV.step hg (Or.inl rfl); unfold sH at h ⊢; simp only at h h6 ⊢
  have hb:∀ q,(if isP ts s 4 [58,45]=true then cp ts (ts.length+1) (am s) [] [] else (some ([],[]),s)).1=some q->∃ w,LZ q w/\w+Zs ts s.nx<=Zs ts (if isP ts s 4 [58,45]=true then cp ts (ts.length+1) (am s) [] [] else (some ([],[]),s)).2.nx/\VOk ts (if isP ts s 4 [58,45]=true then cp ts (ts.length+1) (am s) [] [] else (some ([],[]),s)).2:=by
   intro q hq; split
   ·rename_i hc
    rw [if_pos hc] at hq; have hm:=cf (Or.inr rfl) hc; have hV2:VOk ts (am s):=hV1.step (Gr.next (cT (by decide) hc)) (Or.inl rfl); obtain ⟨ls,au,w,rfl,k2,k3,k4⟩:=wv hT _ _ _ _ q hV2 hq; refine ⟨w,by simpa using k2,?_,k4⟩; rw [hm] at k3; omega
   ·rename_i hc
    rw [if_neg hc] at hq; injection hq with hq; subst hq; exact ⟨0,⟨fun x hx=>(by cases hx),fun x hx=>(by cases hx),zM _⟩,by simp,hV1⟩
  generalize (if isP ts s 4 [58,45]=true then cp ts (ts.length+1) (am s) [] [] else (some ([],[]),s))=r at *; obtain ⟨o,s2⟩:=r
  cases o with
  | none=>cases h
  | some q =>
   obtain ⟨body,aux⟩:=q; obtain ⟨w,w1,w2,w3⟩:=hb (body,aux) rfl; rw [lX] at h ⊢; split
   ·rename_i hc
    rw [if_pos hc] at h; injection h with h; subst h; have hm:=cf (Or.inr rfl) hc; have hw:=w1.2.2; simp only at hw w2 w3; refine ⟨⟨⟨0,false,x.rel,x.args⟩,x.agg,x.at_,body⟩::aux,rfl,fun r hr=>?_,?_,w3.step (Gr.next (cT (by decide) hc)) (Or.inl rfl)⟩
    ·rcases List.mem_cons.1 hr with rfl | hr
     ·refine ⟨⟨rfl,rfl,h1,h2,h3,h4⟩,?_,w1.1,?_⟩
      ·rcases h5 with ⟨a,b⟩ | ⟨a,b,c,d⟩
       ·exact Or.inl ⟨a,by show (x.at_:Int)=0; rw [b]; rfl⟩
       ·exact Or.inr ⟨a,b,by simp,by simpa using c,by simpa using d⟩
      ·have b1:=sA body
       have b2:=uY ts s2.nx; have b3:=hT.sum; show body.length<=_; omega
     ·exact w1.2.1 r hr
    ·rw [jH]
     unfold wR wL; simp only; rw [hm]; simp only [zT,z_]; omega
   ·rename_i hc; rw [if_neg hc] at h; cases h
theorem sJ (hT:Ts ts):∀ (f:Nat) (st:PSt) (rs0:List Ru) (q:Qu),VOk ts st->(∀ r∈rs0,OkR r)->rs0.length<=64->wRs rs0<=Zs ts st.nx->(cR ts f st (rs0.map eF)).1=some q ->
  ∃ rs g,q=⟨rs.map eF,d9 0 g⟩/\(∀ r∈rs,OkR r)/\kK g/\g.nt=false/\rs.length<=64/\wRs rs+2+wL g<=(ts.map zw).sum
 | 0,st,rs0,q,_,_,_,_,h=>by cases h
 | f+1,st,rs0,q,hV,hR,hN,hW,h=>by
  rw [kt] at h; split at h
  ·rename_i hc
   have hm:=cf (Or.inr rfl) hc
   have hz:=fun l=>jx hT (st:=am st) (l:=l) (cT (by decide) hc)
   generalize aY ts (am st)=r at *; obtain ⟨o,s⟩:=r
   cases o with
   | none=>cases h
   | some l =>
    obtain ⟨a1,a2,a3⟩:=hz l rfl; unfold j7 at h; simp only at h a3; split at h
    ·cases h
    ·injection h with h
     subst h; refine ⟨rs0,l,rfl,hR,a1,a2,hN,?_⟩; have b1:=uY ts s.nx; rw [hm] at a3; unfold wL; simp only [zT,z_] at a3; omega
  ·have hz:=fun rs=>zh hT (st:=st) (rs:=rs) hV
   generalize fC ts st=r at *; obtain ⟨o,s⟩:=r
   cases o with
   | none=>cases h
   | some rs =>
    obtain ⟨rs1,rfl,k1,k2,k3⟩:=hz rs rfl; unfold fw at h; simp only at h k2; split at h
    ·cases h
    ·rename_i hl
     rw [← List.map_append] at h hl; rw [zY] at hl; refine sJ hT f s (rs0++rs1) q k3 (fun r hr=>?_) (by omega) (by rw [sy]; omega) h; rcases List.mem_append.1 hr with hr | hr
     ·exact hR r hr
     ·exact k1 r hr
end
theorem xJ {s:List UInt8} {l:List Tk} (h:ef s=.ok l) (hs:s.length<=3000):Ts (l.map tw)/\((l.map tw).map zw).sum<=32 * s.length:=by
 obtain ⟨h1,h2,h3⟩:=pB h; obtain ⟨-,-,h4⟩:=kM h; have hr:=h4.right; rw [List.all_eq_true] at hr; have hc:=h4.cost
 have hat:∀ i,br (l.map tw) i=⟨0,[],0⟩\/∃ t∈l,br (l.map tw) i=tw t:=by
  intro i; unfold br; rw [zZ,Ai]
  cases hi:l[i]? with
  | none=>exact Or.inl rfl
  | some t=>exact Or.inr ⟨t,zU hi,rfl⟩
 refine ⟨⟨fun i hk=>?_,fun i hk=>?_,by omega,by rw [zY]; omega⟩,hc⟩
 ·rcases hat i with e | ⟨t,ht,e⟩
  ·rw [e] at hk; cases hk
  ·rw [e]; exact ⟨(h3 t ht).1,(h3 t ht).2.1⟩
 ·rcases hat i with e | ⟨t,ht,e⟩
  ·rw [e] at hk; cases hk
  ·rw [e] at hk ⊢
   have:=hr t ht; unfold db at this; have hk':t.kind=3:=hk; rw [if_neg (by omega),if_neg (by omega),if_pos hk'] at this; simp only [Bool.and_eq_true,decide_eq_true_eq] at this; exact this.1
theorem pH {s:List UInt8} {u:Qu} (h:de s=.ok u) (hs:s.length<=3000):QgB u.g/\(s.length<=1000->(cI u.g).isSome=true):=by
 unfold de at h
 cases hl:ef s with
 | error x=>rw [hl] at h; cases h
 | ok l =>
  rw [hl] at h; simp only at h; obtain ⟨hT,hc⟩:=xJ hl hs
  have hz:=fun q=>sJ hT (l.length+1) st0 [] q ⟨zW _,zW _,zW _⟩ (fun r hr=>by cases hr) (by decide) (zW _)
  simp only [List.map_nil] at hz; generalize cR (l.map tw) (l.length+1) st0 []=r at *; obtain ⟨o,st⟩:=r
  cases o with
  | none =>
   simp only at h; split at h <;> cases h
  | some q =>
   injection h with h; subst h; obtain ⟨rs,g,rfl,k1,k2,k3,k4,k5⟩:=hz q rfl; exact ⟨qu_b k1 k2,fun hs=>xL k1 k2 k3 k4 (by omega)⟩
end Go.Proofs.YtffdpoifdahadaaGreatDoor
namespace Go.Proofs.YtffdpoifdahadaaGreatDoor
open Go.RowKit
open Go.Lib (hid itoa)
theorem tQ (s:List UInt8) (w:World) (hbig:32768 < s.length):Calls Tryz.prog 36 #[sv s] w fun e w'=>e=.returned (.tuple #[.slice none 0 0,iv 15,iv 0])/\w'=w:=by
 have q1:decide ((s.length:Int) > 32768)=true:=zP (by omega)
 have q1i:(32768:Int) < (s.length:Int):=by omega
 go_enter Tryz.func36,Tryz.ntmps36
 go_wp2_with fail
 go_step3
 go_wp2_with fail
 rw [Exit.noGoto_ret]; refine bodyPost_ret (results_tmp3 Tryz.results36 _ _ _) rfl ?_; exact ⟨rfl,rfl⟩
theorem rB (s:List UInt8) (w:World) (hbig:32768 < s.length):Calls Tryz.prog 19 #[sv s] w (pc w (de s)):=by
 have hv:de s=.error (15,0):=by rw [pI,show ef s=.error (15,0) by unfold ef; rw [if_pos hbig]]; rfl
 rw [hv]; have hbq:=hid ((zN w.heap.size w).alloc (zM _) (.cells (aG (.slice none 0 0) 0 false [] (.slice none 0 0)) 32)); have hscan:=hid (tQ s (w.alloc (.cells (aG (.slice none 0 0) 0 false [] (.slice none 0 0)) 32)) hbig); have hmm:=@run_makeMap Tryz.prog; replace hbig:=hid hbig; replace hv:=hid hv
 go_enter Tryz.func19,Tryz.ntmps19
 go_wp2_with fail
 with_reducible refine hscan.out.mono ?_
 rintro e w1 ⟨rfl,hw1⟩; obtain ⟨w1',rfl⟩:∃ w1',w1'=w1:=⟨_,rfl⟩
 have hR0:w1'.heap[w.heap.size]? = some (.cells (aG (.slice none 0 0) 0 false [] (.slice none 0 0)) 32 (0,0)):=by rw [hw1]; exact af w _
 obtain ⟨r0,r1,r2,r3,r4,rz⟩:=cg hR0; have rz0:=rz 0; have rz1:=rz 1; have rz2:=rz 2; have rz3:=rz 3; have rz4:=rz 4; clear rz; have hb1':=hid (show Below w.heap.size w w1' from by rw [hw1]; exact hbq.out); have hfin:=hid (iB hR0 (.slice none 0 0) 0 false [] (.slice none 0 0)); have hbf:=hid (show Below w.heap.size w (setQ w1' w.heap.size (.slice none 0 0) 0 false [] (.slice none 0 0)) from (((Fr.of_below hb1'.out (fun _=>False)).setQ (zM _) (.slice none 0 0) 0 false [] (.slice none 0 0)).to_below (zM _) (fun _ _ h=>h))); replace hw1:=hid hw1; clear hR0 hscan
 go_wp2_with fail
 refine bodyPost_ret (gW (by rfl) _ _ w.heap.size _ 15 0 (by rfl) (by rfl) (by rfl) hfin.out (by kernel_rfl)) rfl ?_; exact ⟨hbf.out,rfl⟩
theorem nM (s:List UInt8) (w:World) (hTab:Tab w):Calls Tryz.prog 19 #[sv s] w (pc w (de s)):=by
 by_cases h:32768 < s.length
 ·exact rB s w h
 ·exact sK s w (by omega) hTab
end Go.Proofs.YtffdpoifdahadaaGreatDoor
namespace Go.Proofs.YtffdpoifdahadaaGreatDoor
open Go.RowKit
open Go.Lib (hid byteCells itoa decDigits itoa_nonneg itoa_neg)
theorem eu {t:Tg} {l:List UInt8} {n:Nat} {p:List UInt8 × Nat} (h:aX false t l n=some p):∃ u tk t',TmTok tk t'/\p=(l++u,n)/\Wr it u tk/\t'.g=t:=by
 rcases nC h with h | ⟨h,_⟩
 ·exact h
 ·cases h
def mkT (op:Int):List UInt8:=if op=2 then [33,61] else if op=3 then [60] else if op=4 then [60,61] else [61]
theorem mk_wr (op:Int):∃ v,mkW op=32::v/\Wr Any (32::v) [tkM (mkT op)]/\eO (mkT op)=true/\mkT op≠[40]:=by
 unfold mkW mkT; split
 ·exact ⟨[33,61,32],rfl,nv (nw (m:=[33,61]) (by decide)),by decide,by decide⟩
 ·split
  ·exact ⟨[60,32],rfl,nv (nw (m:=[60]) (by decide)),by decide,by decide⟩
  ·split
   ·exact ⟨[60,61,32],rfl,nv (nw (m:=[60,61]) (by decide)),by decide,by decide⟩
   ·exact ⟨[61,32],rfl,nv (nw (m:=[61]) (by decide)),by decide,by decide⟩
theorem kw:∀ (az:List Tm) (n:Nat),(∀ t∈az,t.var≠[95])->cj n az=az/\cB az=0
 | [],n,_=>⟨rfl,rfl⟩
 | t::az,n,h=>by
  have ih:=kw az n fun x hx=>h x (by simp [hx])
  have ht:=h t (by simp); constructor
  ·rw [cj,if_neg ht,ih.1]
  ·rw [gP,gO t ht,ih.2]
def zL (r:List Tw):Prop:=uX [43] r/\uX [45] r
theorem vX {x:Lg} {l:List UInt8} {n:Nat} {p:List UInt8 × Nat} (hop:1<=x.op/\x.op<=5) (hrel:x.rel=[]) (hnt:x.nt=false) (hlen:x.args.length=(if x.op=5 then 3 else 2)) (h:dK (mkW x.op) 0 x.args l n=some p) :
  ∃ u tk x',p=(l++u,n+cB x'.args)/\(⟨x'.op,x'.nt,x'.rel,cj n x'.args⟩:Lt).g=x/\Wr it u tk/\(∃ a b r,tk=a::b::r/\ik (tw a)/\(tw b).text≠[40]) /\
   ∀ ts st r,ts.drop st.nx=tk.map tw++r->zL r->aV ts st=(some x',adv st tk.length):=by
 obtain ⟨op,nt,rel,args⟩:=x; simp only at hop hrel hnt hlen h; subst hrel; subst hnt; obtain ⟨v,hv1,hv2,hv3,hv4⟩:=mk_wr op
 match args,hlen,h with
 | [a,b],hlen,h =>
  have h5:op≠5:=fun e=>by rw [if_pos e] at hlen; simp at hlen
  simp only [dK] at h; rw [if_neg (by decide),if_neg (by decide)] at h
  cases ha:aX false a l n with
  | none=>rw [ha] at h; cases h
  | some p1 =>
   rw [ha] at h; obtain ⟨u1,tk1,a',a1,rfl,a3,a4⟩:=eu ha; simp only [Option.bind_some] at h; rw [if_pos (by decide)] at h
   cases hb:aX false b (l++u1++mkW op) n with
   | none=>rw [hb] at h; cases h
   | some p2 =>
    rw [hb] at h; obtain ⟨u2,tk2,b',b1,rfl,b3,b4⟩:=eu hb; simp only [Option.bind_some,Al] at h; subst h; have hno:=kw [a',b'] n (by intro t ht; simp at ht; rcases ht with rfl | rfl; exact a1.var_ok.1; exact b1.var_ok.1); refine ⟨u1++(mkW op++u2),tk1++(tkM (mkT op)::tk2),⟨op,false,[],[a',b']⟩,?_,?_,?_,?_,fun ts st r hd hr=>?_⟩
    ·simp only; rw [hno.2]; simp
    ·simp only; rw [hno.1]; show (⟨op,false,[],[a'.g,b'.g]⟩:Lg)=_; rw [a4,b4]
    ·rw [hv1]
     exact a3.app (hv2.app b3 fun _ _=>trivial) fun Y _=>cO (by decide) _
    ·obtain ⟨f,q,rfl,hf⟩:=a1.head
     cases q with
     | nil=>exact ⟨f,_,_,rfl,hf,hv4⟩
     | cons g q =>
      refine ⟨f,g,_,rfl,hf,?_⟩; cases a1; show ([]:List UInt8)≠_; decide
    ·rw [List.map_append,Ad] at hd
     have hp:=a1.parse hd; have hd2:ts.drop (adv st tk1.length).nx=tw (tkM (mkT op))::(tk2.map tw++r):=ee hd (by simp); have hd3:ts.drop (am (adv st tk1.length)).nx=tk2.map tw++r:=(bJ hd2).2; have hd4:ts.drop (adv (am (adv st tk1.length)) tk2.length).nx=r:=ee hd3 (by simp); unfold aV; rw [hp]; simp only; rw [(bJ hd2).1]; have hk:(tw (tkM (mkT op))).kind=4:=rfl; rw [if_pos hk]
     have ho:ir (tw (tkM (mkT op))).text=some (op,false):=by
      show ir (mkT op)=_; unfold mkT; split
      ·rename_i e; subst e; rfl
      ·split
       ·rename_i e; subst e; rfl
       ·split
        ·rename_i e; subst e; rfl
        ·rw [show op=1 by omega]; rfl
     rw [ho]; simp only; rw [b1.parse hd3]; unfold lh; simp only; rw [i5 hr.1 hd4 4 (by decide),i5 hr.2 hd4 4 (by decide)]; rw [if_neg (by simp),if_neg (by simp),dM,cc,cc]; simp [aE,Nat.add_comm,Nat.add_left_comm]
 | [a,b,c],hlen,h =>
  have h5:op=5:=Classical.byContradiction fun e=>by rw [if_neg e] at hlen; simp at hlen
  subst h5; simp only [dK] at h; rw [if_neg (by decide),if_neg (by decide)] at h
  cases ha:aX false a l n with
  | none=>rw [ha] at h; cases h
  | some p1 =>
   rw [ha] at h; obtain ⟨u1,tk1,a',a1,rfl,a3,a4⟩:=eu ha; simp only [Option.bind_some] at h; rw [if_pos (by decide)] at h
   cases hb:aX false b (l++u1++mkW 5) n with
   | none=>rw [hb] at h; cases h
   | some p2 =>
    rw [hb] at h; obtain ⟨u2,tk2,b',b1,rfl,b3,b4⟩:=eu hb; simp only [Option.bind_some] at h; rw [if_neg (by decide),if_pos (by decide)] at h
    cases hc:aX false c (l++u1++mkW 5++u2++[32,43,32]) n with
    | none=>rw [hc] at h; cases h
    | some p3 =>
     rw [hc] at h; obtain ⟨u3,tk3,c',c1,rfl,c3,c4⟩:=eu hc; simp only [Option.bind_some,Al] at h; subst h; have hno:=kw [a',b',c'] n (by intro t ht; simp at ht; rcases ht with rfl | rfl | rfl; exact a1.var_ok.1; exact b1.var_ok.1; exact c1.var_ok.1); refine ⟨u1++(mkW 5++(u2++(([32,43,32]:List UInt8)++u3))),tk1++(tkM (mkT 5)::(tk2++tkM [43]::tk3)),⟨5,false,[],[a',b',c']⟩,?_,?_,?_,?_,fun ts st r hd hr=>?_⟩
     ·simp only; rw [hno.2]; simp
     ·simp only; rw [hno.1]; show (⟨5,false,[],[a'.g,b'.g,c'.g]⟩:Lg)=_; rw [a4,b4,c4]
     ·rw [hv1]
      (have hw:Wr it ([32,43,32]++u3) (tkM [43]::tk3):=(nv (nw (m:=[43]) (by decide))).app c3 fun _ _=>trivial);(exact a3.app (hv2.app (b3.app hw fun Y _=>cO (by decide) _) fun _ _=>trivial) fun Y _=>cO (by decide) _)
     ·obtain ⟨f,q,rfl,hf⟩:=a1.head
      cases q with
      | nil=>exact ⟨f,_,_,rfl,hf,hv4⟩
      | cons g q =>
       refine ⟨f,g,_,rfl,hf,?_⟩; cases a1; show ([]:List UInt8)≠_; decide
     ·rw [List.map_append,Ad] at hd
      have hp:=a1.parse hd; have hd2:ts.drop (adv st tk1.length).nx=tw (tkM (mkT 5))::((tk2++tkM [43]::tk3).map tw++r):=ee hd (by simp)
      have hd3:ts.drop (am (adv st tk1.length)).nx=tk2.map tw++(tw (tkM [43])::(tk3.map tw++r)):=by
       have:=(bJ hd2).2; rw [List.map_append,Ad] at this; exact this
      have hd4:ts.drop (adv (am (adv st tk1.length)) tk2.length).nx=tw (tkM [43])::(tk3.map tw++r):=ee hd3 (by simp); have hd5:ts.drop (am (adv (am (adv st tk1.length)) tk2.length)).nx=tk3.map tw++r:=(bJ hd4).2; unfold aV; rw [hp]; simp only; rw [(bJ hd2).1]; have hk:(tw (tkM (mkT 5))).kind=4:=rfl; rw [if_pos hk]; have ho:ir (tw (tkM (mkT 5))).text=some (1,false):=rfl; rw [ho]; simp only; rw [b1.parse hd3]; unfold lh; simp only; rw [cJ hd4]; rw [if_pos ⟨trivial,rfl⟩,c1.parse hd5]; unfold ki; simp only [dM,cc]; simp [Nat.add_comm,Nat.add_left_comm]
 | [],hlen,_=>split at hlen <;> simp at hlen
 | [_],hlen,_=>split at hlen <;> simp at hlen
 | _::_::_::_::_,hlen,_=>split at hlen <;> simp at hlen
theorem yW:Wr Any ye [tkN [110,111,116]]:=(jC (s:=[110,111,116]) (by decide)).app (pe (c:=32) (by decide)) fun Y _=>cO (by decide) _
theorem pY {x:Lg} {l:List UInt8} {n:Nat} {p:List UInt8 × Nat} (h:fa x l n=some p) :
  ∃ u tk x',p=(l++u,n+cB x'.args)/\(⟨x'.op,x'.nt,x'.rel,cj n x'.args⟩:Lt).g=x/\Wr it u tk/\tk≠[] /\
   ∀ ts st r,ts.drop st.nx=tk.map tw++r->zL r->bx ts st=(some ([x'],[]),adv st tk.length):=by
 unfold fa at h; split at h
 ·rename_i hop
  obtain ⟨u,tk,az,rfl,a2,a3,a4,a5⟩:=og h; obtain ⟨op,nt,rel,args⟩:=x; simp only at hop a2 a3 a4 a5 ⊢; subst hop; have hv:=oC a4
  cases nt with
  | true =>
   refine ⟨ye++u,tkN [110,111,116]::(tkN rel::tkM [40]::tk),⟨0,true,rel,az⟩,by simp,by show (⟨0,true,rel,(cj n az).map Tm.g⟩:Lg)=_; rw [a2],(yW.app a3 fun _ _=>trivial).weak fun _ _=>trivial,by simp,fun ts st r hd hr=>?_⟩; have h1:=bJ hd; unfold bx; rw [cJ hd]; rw [if_pos (by decide),a5 ts (am st) r h1.2]; unfold gw neg; simp [dM,cc,Nat.add_comm,Nat.add_left_comm]
  | false =>
   refine ⟨u,tkN rel::tkM [40]::tk,⟨0,false,rel,az⟩,by simp,by show (⟨0,false,rel,(cj n az).map Tm.g⟩:Lg)=_; rw [a2],a3.weak fun _ _=>trivial,by simp,fun ts st r hd hr=>?_⟩; have h1:=bJ hd; have h2:=bJ (ts:=ts) (i:=st.nx+1) h1.2; have hH:ik (tw (tkN rel)):=Or.inr (Or.inr (Or.inr ⟨rfl,hv⟩)); unfold bx; rw [cJ hd,cJ hd,cJ hd,cJ hd,hH.word (by decide),hH.word (by decide),hH.word (by decide),hH.word (by decide),h1.1,h2.1]; rw [if_neg (by decide),if_neg (by decide),if_neg (by decide),if_neg (by decide),if_pos ⟨rfl,a4,rfl,rfl⟩,a5 ts st r hd]; simp [gw]
 ·rename_i hop
  split at h
  ·cases h
  ·rename_i hz
   simp only [not_or,Decidable.not_not,Bool.not_eq_true] at hz; by_cases hl:x.args.length=(if x.op=5 then 3 else 2)
   rotate_left
   ·rw [if_pos hl] at h; cases h
   ·rw [if_neg (fun e=>e hl)] at h
    obtain ⟨u,tk,x',rfl,a2,a3,⟨a,b,q,rfl,hH,hb⟩,a5⟩:=vX (by omega) hz.2.2.1 hz.2.2.2 hl h; refine ⟨u,_,x',rfl,a2,a3,by simp,fun ts st r hd hr=>?_⟩; have h1:=bJ hd; have h2:=bJ (ts:=ts) (i:=st.nx+1) h1.2; unfold bx; rw [cJ hd,cJ hd,cJ hd,cJ hd,hH.word (by decide),hH.word (by decide),hH.word (by decide),hH.word (by decide),h2.1]; rw [if_neg (by decide),if_neg (by decide),if_neg (by decide),if_neg (by decide),if_neg (fun e=>hb e.2.2.2),a5 ts st r hd hr]; simp [gw]
theorem nR (n:Nat) (x:Lt) (l:List Lt):g7 n (x::l)=⟨x.op,x.nt,x.rel,cj n x.args⟩::g7 (n+cB x.args) l:=rfl
def qI (ts:List Tw) (f:Nat) (st:PSt) (body:List Lt) (aux:List Ru):Option (List Lt × List Ru) × PSt:=if isP ts st 4 [44]=true then cp ts f (am st) body aux else (some (body,aux),st)
theorem mx {ts:List Tw} {f:Nat} {st s:PSt} {body:List Lt} {aux:List Ru} {x:Lt} (h:bx ts st=(some ([x],[]),s)):cp ts (f+1) st body aux=qI ts f s (body++[x]) aux:=by
 rw [cp,h]; simp [qI]
def Dot (r:List Tw):Prop:=∃ a q,r=a::q/\a.kind=4/\a.text=[46]
theorem Dot.noTx {r:List Tw} (h:Dot r) {s:List UInt8} (hs:s≠[46]):uX s r:=by
 obtain ⟨a,q,rfl,_,h2⟩:=h; intro b hb; simp at hb; subst hb
 rw [h2]; exact fun e=>hs e.symm
theorem nZ {u:List UInt8} {tk:List Tk} {r:List Tw} (h:tk=[]\/∃ q,tk=tkM [44]::q) (hr:Dot r):zL (tk.map tw++r):=by
 rcases h with rfl | ⟨q,rfl⟩
 ·exact ⟨hr.noTx (by decide),hr.noTx (by decide)⟩
 ·constructor <;> (intro a ha; simp at ha; subst ha; decide)
theorem kZ:∀ (body:List Lg) (i:Nat) (l:List UInt8) (n:Nat) (p:List UInt8 × Nat),i≠0->dD i body l n=some p ->
  ∃ u tk bs,p.1=l++u/\(g7 n bs).map Lt.g=body/\Wr it u tk/\xA u/\(tk=[]\/∃ q,tk=tkM [44]::q) /\
   ∀ ts f st acc aux r,ts.drop st.nx=tk.map tw++r->Dot r->tk.length<=f->qI ts f st acc aux=(some (acc++bs,aux),adv st tk.length)
 | [],i,l,n,p,hi,h=>by
  injection h with h; subst h; refine ⟨[],[],[],by simp,rfl,Wr.nil,Or.inl rfl,Or.inl rfl,fun ts f st acc aux r hd hr _=>?_⟩; unfold qI; rw [i5 (hr.noTx (by decide)) hd 4 (by decide)]; simp [iS]
 | x::body,i,l,n,p,hi,h=>by
  unfold dD at h; have e:decide (i=0)=false:=zO hi; rw [e] at h; simp only [Bool.false_eq_true,if_false] at h
  cases hx:fa x (l++[44,32]) n with
  | none=>rw [hx] at h; cases h
  | some p1 =>
   rw [hx] at h; simp only [Option.bind_some] at h; split at h
   ·cases h
   ·obtain ⟨u1,tk1,x',rfl,a2,a3,a4,a5⟩:=pY hx
    obtain ⟨u2,tk2,bs,b1,b2,b3,b4,b5,b6⟩:=kZ body (i+1) _ _ p (by omega) h; refine ⟨[44,32]++(u1++u2),tkM [44]::(tk1++tk2),x'::bs,?_,?_,?_,Or.inr ⟨_,rfl⟩,Or.inr ⟨_,rfl⟩,fun ts f st acc aux r hd hr hf=>?_⟩
    ·rw [b1]; simp
    ·rw [nR,List.map_cons,a2,b2]
    ·exact lH.app (a3.app b3 fun Y hY=>b4.noWd hY) fun _ _=>trivial
    ·simp only [zT,zQ] at hf
     obtain ⟨g,rfl⟩:∃ g,f=g+1:=⟨f - 1,by omega⟩
     have hd1:ts.drop (am st).nx=tk1.map tw++(tk2.map tw++r):=by
      have:ts.drop (am st).nx=(tk1++tk2).map tw++r:=(bJ hd).2; rw [List.map_append,Ad] at this; exact this
     unfold qI; rw [cJ hd]; show (if true=true then cp ts (g+1) (am st) acc aux else _)=_; rw [if_pos rfl,mx (a5 ts _ _ hd1 (nZ (u:=u2) b5 hr)),b6 ts g _ _ aux r (ee hd1 (by simp)) hr (by omega)]; rw [dM,cc,cc]; simp [Nat.add_comm,Nat.add_left_comm]
theorem uK {body:List Lg} {l:List UInt8} {n:Nat} {p:List UInt8 × Nat} (h:dD 0 body l n=some p) :
  ∃ u tk bs,p.1=l++u/\(g7 n bs).map Lt.g=body/\Wr it u tk/\(u=[]\/∃ v,u=32::v) /\
   ∀ ts st r,ts.drop st.nx=tk.map tw++r->Dot r->(if isP ts st 4 [58,45] then cp ts (ts.length+1) (am st) [] [] else (some ([],[]),st))=(some (bs,[]),adv st tk.length):=by
 cases body with
 | nil =>
  injection h with h; subst h; refine ⟨[],[],[],by simp,rfl,Wr.nil,Or.inl rfl,fun ts st r hd hr=>?_⟩; rw [i5 (hr.noTx (by decide)) hd 4 (by decide)]; simp [iS]
 | cons x body =>
  unfold dD at h; have e:decide ((0:Nat)=0)=true:=rfl; rw [e] at h; simp only [if_true] at h
  cases hx:fa x (l++[32,58,45,32]) n with
  | none=>rw [hx] at h; cases h
  | some p1 =>
   rw [hx] at h; simp only [Option.bind_some] at h; split at h
   ·cases h
   ·obtain ⟨u1,tk1,x',rfl,a2,a3,a4,a5⟩:=pY hx
    obtain ⟨u2,tk2,bs,b1,b2,b3,b4,b5,b6⟩:=kZ body 1 _ _ p (by omega) h; refine ⟨[32,58,45,32]++(u1++u2),tkM [58,45]::(tk1++tk2),x'::bs,?_,?_,?_,Or.inr ⟨_,rfl⟩,fun ts st r hd hr=>?_⟩
    ·rw [b1]; simp
    ·rw [nR,List.map_cons,a2,b2]
    ·exact (nv (nw (m:=[58,45]) (by decide))).app (a3.app b3 fun Y hY=>b4.noWd hY) fun _ _=>trivial
    ·have hl:=sn hd
     simp only [zY,zT,zQ] at hl
     have hd1:ts.drop (am st).nx=tk1.map tw++(tk2.map tw++r):=by
      have:ts.drop (am st).nx=(tk1++tk2).map tw++r:=(bJ hd).2; rw [List.map_append,Ad] at this; exact this
     rw [cJ hd]; show (if true=true then cp ts (ts.length+1) (am st) [] [] else _)=_; rw [if_pos rfl,mx (a5 ts _ _ hd1 (nZ (u:=u2) b5 hr)),b6 ts _ _ _ [] r (ee hd1 (by simp)) hr (by omega)]; rw [dM,cc,cc]; simp [Nat.add_comm,Nat.add_left_comm]
end Go.Proofs.YtffdpoifdahadaaGreatDoor
namespace Go.Proofs.YtffdpoifdahadaaGreatDoor
open Go.RowKit
open Go.Lib (hid byteCells itoa decDigits itoa_nonneg itoa_neg)
theorem um {agg:Int} (h:1<=agg/\agg<=4):iJ (di agg)=true/\ga (di agg)=agg:=by
 have:agg=1\/agg=2\/agg=3\/agg=4:=by omega
 rcases this with rfl | rfl | rfl | rfl <;> exact ⟨by decide,by decide⟩
def hst (agg at_:Int) (i:Nat):Int × Nat:=if agg≠0/\at_ < i then (agg,at_.toNat) else (0,0)
theorem oa {agg at_:Int} (ha:agg=0\/1<=agg/\agg<=4) (h0:0<=at_) {i:Nat} {t:Tg} {l:List UInt8} {n:Nat} {p:List UInt8 × Nat} (hc:agg≠0->(i:Int)=at_->t.var≠[])
  (h:aX false t (if decide (agg≠0/\(i:Int)=at_)=true then l++(di agg++[40]) else l) n=some p) :
  ∃ u tk t',(if decide (agg≠0/\(i:Int)=at_)=true then p.1++[41] else p.1)=l++u/\p.2=n/\t'.g=t/\Wr it u tk/\(∃ a q,tk=a::q/\(a.kind == 4 && a.text == [41])=false) /\
   ∀ ts st r rel acc,acc.length=i->ts.drop st.nx=tk.map tw++r->bV ts st ⟨rel,acc,(hst agg at_ i).1,(hst agg at_ i).2⟩=(some ⟨rel,acc++[t'],(hst agg at_ (i+1)).1,(hst agg at_ (i+1)).2⟩,adv st tk.length):=by
 by_cases hg:agg≠0/\(i:Int)=at_
 ·have e:decide (agg≠0/\(i:Int)=at_)=true:=zP hg
  rw [e] at h ⊢; simp only [if_true] at h ⊢; obtain ⟨u,tk,t',a1,rfl,a3,a4⟩:=eu h
  have hv:t'.var≠[]:=by
   have:=hc hg.1 hg.2; rw [← a4] at this; exact this
  obtain ⟨v1,rfl,v3⟩:=a1.var_ok.2 hv; obtain ⟨n1,n2⟩:=um (agg:=agg) (by omega); have s1:hst agg at_ i=(0,0):=if_neg (by rintro ⟨_,h⟩; omega)
  have s2:hst agg at_ (i+1)=(agg,i):=by
   unfold hst; rw [if_pos ⟨hg.1,by omega⟩,← hg.2]; rfl
  refine ⟨di agg++([40]++(u++[41])),tkN (di agg)::tkM [40]::tkN t'.var::[tkM [41]],t',by simp,rfl,a4,?_,⟨_,_,rfl,rfl⟩,fun ts st r rel acc hi hd=>?_⟩
  ·exact (jC n1).app ((eG (a:=40) (by decide)).app ((a3.app (eG (a:=41) (by decide)) fun Y _=>cO (by decide) _).weak fun _ _=>trivial) fun _ _=>trivial) fun Y _=>cO (by decide) _
  ·rw [s1,s2]
   have h1:=bJ hd; have h2:=bJ (ts:=ts) (i:=st.nx+1) h1.2; have h3:=bJ (ts:=ts) (i:=st.nx+1+1) h2.2
   have e1:aW ts (am st) [40]=(true,adv st 2):=by
    unfold aW; rw [cJ (st:=am st) h1.2]; rfl
   have e2:eH ts (adv st 2)=(some t',adv st 3):=by
    unfold eH; have:(br ts (adv st 2).nx)=tw (tkN t'.var):=h3.1.symm ▸ (bJ (i:=(adv st 2).nx) (ts:=ts) (r:=tw (tkM [41])::r) h2.2).1; rw [this,if_pos ⟨rfl,v1⟩]; show (some (bh t'.var),_)=_; rw [← v3]; rfl
   have e3:aW ts (adv st 3) [41]=(true,adv st 4):=by
    unfold aW; rw [cJ (st:=adv st 3) h3.2]; rfl
   have e4:br ts st.nx=tw (tkN (di agg)):=h1.1; unfold bV; rw [e4,if_pos ⟨rfl,by show ga (di agg)≠0; rw [n2]; exact hg.1,rfl⟩,e1]; simp only [if_true]; rw [e2]; simp only; rw [e3]; simp only [if_true]; show (some (⟨rel,acc++[t'],ga (di agg),acc.length⟩:Hd),_)=_; rw [n2,hi]; rfl
 ·have e:decide (agg≠0/\(i:Int)=at_)=false:=zO hg
  rw [e] at h ⊢; simp only [Bool.false_eq_true,if_false] at h ⊢; obtain ⟨u,tk,t',a1,rfl,a3,a4⟩:=eu h
  have s2:hst agg at_ (i+1)=hst agg at_ i:=by
   unfold hst; by_cases hz:agg≠0/\at_ < (i:Int)
   ·rw [if_pos hz,if_pos ⟨hz.1,by omega⟩]
   ·rw [if_neg hz,if_neg (by rintro ⟨q1,q2⟩; exact hz ⟨q1,by rcases Classical.em ((i:Int)=at_) with e | e; exact absurd ⟨q1,e⟩ hg; omega⟩)]
  obtain ⟨a,q,hq,hH⟩:=a1.head; refine ⟨u,tk,t',rfl,rfl,a4,a3,⟨a,q,hq,hH.mark (by decide)⟩,fun ts st r rel acc hi hd=>?_⟩; rw [s2]; unfold bV; have hp:=a1.parse hd
  have e4:br ts st.nx=tw a:=by
   rw [hq] at hd; exact (bJ hd).1
  rw [e4,if_neg (fun e=>hH.agg ⟨e.1,e.2.1⟩),hp]
def td (ts:List Tw) (f:Nat) (st:PSt) (x:Hd):Option Hd × PSt:=if isP ts st 4 [44]=true then cX ts f (am st) x else (some x,st)
theorem kW {ts:List Tw} {f:Nat} {st s:PSt} {x y:Hd} (h:bV ts st x=(some y,s)):cX ts (f+1) st x=td ts f s y:=by
 rw [cX,h]; rfl
theorem mG {agg at_:Int} (ha:agg=0\/1<=agg/\agg<=4) (h0:0<=at_):∀ (args:List Tg) (i:Nat) (l:List UInt8) (n:Nat) (p:List UInt8 × Nat),i≠0->(∀ k t,args[k]? = some t->agg≠0->((i+k:Nat):Int)=at_->t.var≠[])->bK agg at_ i args l n=some p ->
  ∃ u tk az,p=(l++u,n)/\az.map Tm.g=args/\Wr it u tk/\xA u /\
   ∀ ts f st r rel acc,acc.length=i->ts.drop st.nx=tk.map tw++r->uX [44] r->tk.length<=f->td ts f st ⟨rel,acc,(hst agg at_ i).1,(hst agg at_ i).2⟩=(some ⟨rel,acc++az,(hst agg at_ (i+args.length)).1,(hst agg at_ (i+args.length)).2⟩,adv st tk.length)
 | [],i,l,n,p,hi,_,h=>by
  injection h with h; subst h; refine ⟨[],[],[],by simp,rfl,Wr.nil,Or.inl rfl,fun ts f st r rel acc hi hd hr _=>?_⟩; unfold td; rw [i5 hr hd 4 (by decide)]; simp [iS]
 | t::args,i,l,n,p,hi,hc,h=>by
  unfold bK at h; have e:decide (i=0)=false:=zO hi; rw [e] at h; simp only [Bool.false_eq_true,if_false] at h
  cases ht:aX false t (if decide (agg≠0/\(i:Int)=at_)=true then l++[44,32]++(di agg++[40]) else l++[44,32]) n with
  | none=>rw [ht] at h; cases h
  | some p1 =>
   rw [ht] at h; simp only [Option.bind_some] at h; obtain ⟨u1,tk1,t1,a1,a2,a3,a4,-,a5⟩:=oa (i:=i) ha h0 (fun q1 q2=>hc 0 t rfl q1 (by simpa using q2)) ht; rw [a1,a2] at h; obtain ⟨u2,tk2,az,rfl,b2,b3,b4,b5⟩:=mG ha h0 args (i+1) _ _ p (by omega) (fun k y hk q1 q2=>hc (k+1) y hk q1 (by rw [← q2]; congr 1; omega)) h; refine ⟨[44,32]++(u1++u2),tkM [44]::(tk1++tk2),t1::az,by simp,by rw [List.map_cons,a3,b2],lH.app (a4.app b3 fun Y hY=>b4.noWd hY) fun _ _=>trivial,Or.inr ⟨_,rfl⟩,fun ts f st r rel acc hl hd hr hf=>?_⟩; simp only [zT,zQ] at hf; obtain ⟨g,rfl⟩:∃ g,f=g+1:=⟨f - 1,by omega⟩
   have hd1:ts.drop (am st).nx=tk1.map tw++(tk2.map tw++r):=by
    have:ts.drop (am st).nx=(tk1++tk2).map tw++r:=(bJ hd).2; rw [List.map_append,Ad] at this; exact this
   unfold td; rw [cJ hd]; show (if true=true then cX ts (g+1) (am st) _ else _)=_; rw [if_pos rfl,kW (a5 ts _ _ rel acc hl hd1),b5 ts g _ r rel (acc++[t1]) (by simp [hl]) (ee hd1 (by simp)) hr (by omega)]; rw [dM,cc,cc,show i+1+args.length=i+(t::args).length by simp; omega]; simp [Nat.add_comm,Nat.add_left_comm]
theorem uB {x:Rg} {l:List UInt8} {n:Nat} {p:List UInt8 × Nat} (h:gK x l n=some p) :
  ∃ u tk az,p=(l++u,n)/\az.map Tm.g=x.head.args/\x.head.op=0/\x.head.nt=false/\0<=x.at_/\Wr Any u tk/\(∃ q,tk=tkN x.head.rel::q) /\
   ∀ ts st r,ts.drop st.nx=tk.map tw++r->dC ts st=(some ⟨x.head.rel,az,x.agg,x.at_.toNat⟩,adv st tk.length):=by
 obtain ⟨⟨op,nt,rel,args⟩,agg,at_,body⟩:=x; unfold gK at h; simp only at h ⊢; split at h
 ·cases h
 ·rename_i h1
  split at h
  ·cases h
  ·rename_i h2
   split at h
   ·cases h
   ·rename_i h3
    simp only [not_or,not_and,Decidable.not_not,Bool.not_eq_true,Bool.not_eq_false] at h1 h2 h3; obtain ⟨rfl,rfl,hr⟩:=h3;(have ha:agg=0\/1<=agg/\agg<=4:=by omega)
    have h0:0<=at_:=by
     rcases ha with rfl | ha
     ·have:=h1.2.2 rfl; omega
     ·have:=(h2 (by omega)).1; omega
    have hend:(hst agg at_ args.length).1=agg/\(hst agg at_ args.length).2=at_.toNat:=by
     rcases ha with rfl | ha
     ·have:=h1.2.2 rfl
      subst this; exact ⟨rfl,rfl⟩
     ·have:=(h2 (by omega)).2.1
      have e:hst agg at_ args.length=(agg,at_.toNat):=if_pos ⟨by omega,by omega⟩; rw [e]; exact ⟨rfl,rfl⟩
    have hc:∀ k t,args[k]? = some t->agg≠0->((k:Nat):Int)=at_->t.var≠[]:=by
     intro k t hk q1 q2 e; have:=(h2 q1).2.2; rw [← q2,Int.toNat_natCast,hk] at this; exact this (by rw [Option.map_some,e])
    cases hw:bK agg at_ 0 args (l++(rel++[40])) n with
    | none=>rw [hw] at h; cases h
    | some p1 =>
     rw [hw] at h; simp only [Option.map_some,Al] at h; subst h; have wn:=jC (km (oC hr)).1; have wo:=eG (a:=40) (by decide); have wc:=eG (a:=41) (by decide)
     have hrel:∀ ts st r,ts.drop st.nx=tw (tkN rel)::tw (tkM [40])::r->bN ts st=((rel,true),adv st 2)/\ts.drop (adv st 2).nx=r:=by
      intro ts st r hd; have h1:=bJ hd; have h2:=bJ (ts:=ts) (i:=st.nx+1) h1.2; refine ⟨?_,h2.2⟩; unfold bN; rw [h1.1]; show (if (1:Int)=1/\dz rel=true then _ else _)=_; rw [if_pos ⟨rfl,hr⟩]; unfold aW
      have:isP ts (am st) 4 [40]=true:=by
       rw [cJ (st:=am st) h1.2]; rfl
      rw [this]; rfl
     cases args with
     | nil =>
      injection hw with hw; subst hw; refine ⟨rel++([40]++[41]),tkN rel::tkM [40]::[tkM [41]],[],by simp,rfl,rfl,rfl,h0,wn.app (wo.app wc fun _ _=>trivial) fun Y _=>cO (by decide) _,⟨_,rfl⟩,fun ts st r hd=>?_⟩; obtain ⟨e1,e2⟩:=hrel ts st _ hd; have hz:hst agg at_ 0=(0,0):=if_neg (by rintro ⟨_,h⟩; omega); rw [show ([]:List Tg).length=0 from rfl,hz] at hend; unfold dC; rw [e1]; simp only [if_true]; rw [cJ e2]; show (if true=true then _ else _)=_; rw [if_pos rfl,← hend.1,← hend.2,dM,cc]; rfl
     | cons t args =>
      unfold bK at hw; have e0:decide ((0:Nat)=0)=true:=rfl; rw [e0] at hw; simp only [if_true] at hw
      cases ht:aX false t (if decide (agg≠0/\((0:Nat):Int)=at_)=true then l++(rel++[40])++(di agg++[40]) else l++(rel++[40])) n with
      | none=>rw [ht] at hw; cases hw
      | some p2 =>
       rw [ht] at hw; simp only [Option.bind_some] at hw; obtain ⟨u1,tk1,t1,a1,a2,a3,a4,⟨a,q,hq,hna⟩,a5⟩:=oa ha h0 (fun q1 q2=>hc 0 t rfl q1 q2) ht; rw [a1,a2] at hw; obtain ⟨u2,tk2,az,rfl,b2,b3,b4,b5⟩:=mG ha h0 args 1 _ _ p1 (by omega) (fun k y hk q1 q2=>hc (k+1) y hk q1 (by rw [← q2]; congr 1; omega)) hw; refine ⟨rel++([40]++((u1++u2)++[41])),tkN rel::tkM [40]::((tk1++tk2)++[tkM [41]]),t1::az,by simp,by rw [List.map_cons,a3,b2],rfl,rfl,h0,?_,⟨_,rfl⟩,fun ts st r hd=>?_⟩
       ·exact wn.app (wo.app ((a4.app b3 fun Y hY=>b4.noWd hY).app wc fun Y _=>cO (by decide) _) fun _ _=>trivial) fun Y _=>cO (by decide) _
       ·have hl:=sn hd
        obtain ⟨e1,e2⟩:=hrel ts st _ hd
        have e3:ts.drop (adv st 2).nx=tk1.map tw++(tk2.map tw++tw (tkM [41])::r):=by
         rw [e2]; simp
        have hz:hst agg at_ 0=(0,0):=if_neg (by rintro ⟨_,h⟩; omega); have hp:=a5 ts (adv st 2) _ rel [] rfl e3; rw [hz] at hp; unfold dC; rw [e1]; simp only [if_true]
        have hx:isP ts (adv st 2) 4 [41]=false:=by
         rw [hq] at e3; rw [cJ e3]; exact hna
        simp only [zY,zT,zQ] at hl; rw [hx,if_neg (by decide),kW hp,b5 ts _ _ (tw (tkM [41])::r) rel ([]++[t1]) rfl (ee e3 (by simp)) (by intro b hb; simp at hb; subst hb; decide) (by omega)]; unfold n_; simp only; rw [cJ (a:=tw (tkM [41])) (r:=r)]
        ·rw [show 1+args.length=(t::args).length by simp; omega,hend.1,hend.2]
         show (if true=true then _ else _)=_; rw [if_pos rfl,dM,cc,cc,cc];(have e:2+(tk1.length+(tk2.length+1))=(tkN rel::tkM [40]::((tk1++tk2)++[tkM [41]])).length:=by simp; omega);rw [e]; simp
        ·rw [cc (adv st 2)]
         exact ee (a:=tk1.map tw++tk2.map tw) (by rw [Ad]; exact e3) (by simp)
theorem tS {x:Rg} {l:List UInt8} {p:List UInt8 × Nat} (h:gC x l=some p) :
  ∃ u tk r',p.1=l++u/\(eF r').g=x/\Wr Any u tk/\(∃ q,tk=tkN x.head.rel::q) /\
   ∀ ts st r,ts.drop st.nx=tk.map tw++r->fC ts st=(some [eF r'],adv st tk.length):=by
 unfold gC at h
 cases hh:gK x l 0 with
 | none=>rw [hh] at h; cases h
 | some p1 =>
  rw [hh] at h; simp only [Option.bind_some] at h; obtain ⟨u1,tk1,az,rfl,a2,a3,a4,a5,a6,⟨q,rfl⟩,a8⟩:=uB hh
  cases hb:dD 0 x.body (l++u1) 0 with
  | none=>rw [hb] at h; cases h
  | some p2 =>
   rw [hb] at h; simp only [Option.map_some,Al] at h; subst h; obtain ⟨u2,tk2,bs,b1,b2,b3,b4,b5⟩:=uK hb; refine ⟨u1++(u2++([46]++[10])),(tkN x.head.rel::q)++(tk2++([tkM [46]]++[])),⟨⟨0,false,x.head.rel,az⟩,x.agg,x.at_.toNat,bs⟩,?_,?_,?_,⟨_,rfl⟩,fun ts st r hd=>?_⟩
   ·simp [b1]
   ·obtain ⟨⟨op,nt,rel,args⟩,agg,at_,body⟩:=x
    simp only at a2 a3 a4 a5 b2; subst a3; subst a4; show (⟨⟨0,false,rel,az.map Tm.g⟩,agg,((at_.toNat:Nat):Int),(g7 0 bs).map Lt.g⟩:Rg)=_; rw [a2,b2,Int.toNat_of_nonneg a5]
   ·refine a6.app (b3.app ((eG (a:=46) (by decide)).app (pe (c:=10) (by decide)) fun _ _=>trivial) fun Y _=>cO (by decide) _) fun _ _=>trivial
   ·rw [List.map_append,Ad] at hd
    have hp:=a8 ts st _ hd
    have hd1:ts.drop (adv st (tkN x.head.rel::q).length).nx=tk2.map tw++(tw (tkM [46])::r):=by
     have:=ee (k:=(tkN x.head.rel::q).length) hd (by simp); rw [this]; simp
    have hp2:=b5 ts _ _ hd1 ⟨_,_,rfl,rfl,rfl⟩; unfold fC; rw [hp]; simp only; rw [hp2]; unfold io; simp only; rw [cJ (a:=tw (tkM [46])) (r:=r)]
    ·show (if true=true then _ else _)=_
     rw [if_pos rfl,dM,cc,cc]; simp [Nat.add_comm,Nat.add_left_comm]
    ·exact ee hd1 (by simp)
theorem lV:∀ (rs:List Rg) (l l':List UInt8),eY rs l=some l' ->
  ∃ u tk rs',l'=l++u/\rs'.map Ru.g=rs/\rs.length<=tk.length/\Wr Any u tk /\
   ∀ ts f st acc r,ts.drop st.nx=tk.map tw++r->acc.length+rs.length<=64->cR ts (rs.length+f) st acc=cR ts f (adv st tk.length) (acc++rs')
 | [],l,l',h=>by
  injection h with h; subst h; exact ⟨[],[],[],by simp,rfl,zM _,Wr.nil,fun ts f st acc r _ _=>by rw [List.append_nil]; simp [iS]⟩
 | x::rs,l,l',h=>by
  unfold eY at h
  cases hx:gC x l with
  | none=>rw [hx] at h; cases h
  | some p =>
   rw [hx] at h; simp only [Option.bind_some] at h; obtain ⟨u1,tk1,r',a1,a2,a3,⟨q,rfl⟩,a5⟩:=tS hx; rw [a1] at h; obtain ⟨u2,tk2,rs',rfl,b2,b3,b4,b5⟩:=lV rs _ l' h; refine ⟨u1++u2,(tkN x.head.rel::q)++tk2,eF r'::rs',by simp,by rw [List.map_cons,a2,b2],by simp; omega,a3.app b4 fun _ _=>trivial,fun ts f st acc r hd hl=>?_⟩; rw [List.map_append,Ad] at hd; simp only [zT] at hl; have hp:=a5 ts st _ hd; have hd1:ts.drop (adv st (tkN x.head.rel::q).length).nx=tk2.map tw++r:=ee hd (by simp); rw [show (x::rs).length+f=(rs.length+f)+1 by simp; omega,cR]
   have hq:isP ts st 4 [63]=false:=by rw [cJ hd]; rfl
   rw [hq,if_neg (by decide),hp]; simp only; rw [if_neg (by simp; omega),b5 ts f _ (acc++[eF r']) r hd1 (by simp; omega),cc,zQ,Ad]; rfl
theorem tJ {q:Qg} {t:List UInt8} (h:cI q=some t):∃ u,de t=.ok u/\u.g=q:=by
 obtain ⟨rules,op,nt,rel,args⟩:=q; unfold cI at h; split at h
 ·cases h
 ·rename_i hc
  simp only [not_or,Nat.not_lt,Decidable.not_not,Bool.not_eq_true] at hc; obtain ⟨hc1,rfl,rfl⟩:=hc; simp only at h
  cases hr:eY rules [] with
  | none=>rw [hr] at h; cases h
  | some l =>
   rw [hr] at h; simp only [Option.bind_some] at h; obtain ⟨u1,tk1,rs',hl,a2,a3,a4,a5⟩:=lV rules _ _ hr; rw [List.nil_append] at hl; rw [hl] at h
   cases hg:fa (⟨0,false,rel,args⟩:Lg) (u1++[63,32]) 0 with
   | none=>rw [hg] at h; cases h
   | some p =>
    rw [hg] at h; simp only [Option.bind_some] at h; split at h
    ·cases h
    ·rename_i hlen
     injection h with h; subst h; unfold fa at hg; rw [if_pos rfl] at hg; obtain ⟨u2,tk2,az,rfl,b2,b3,b4,b5⟩:=og hg; simp only [Bool.false_eq_true,if_false] at *
     have hW:Wr Any (u1++([63,32]++u2)) (tk1++(tkM [63]::(tkN rel::tkM [40]::tk2))) :=
      a4.app (((eG (a:=63) (by decide)).app (pe (c:=32) (by decide)) fun _ _=>trivial).app b3 fun _ _=>trivial) fun _ _=>trivial
     have hS:=hW [] [] trivial (Scans.nil rfl); rw [List.append_nil,List.append_nil] at hS;(have htx:u1++[63,32]++u2=u1++([63,32]++u2):=by simp);rw [htx] at hlen ⊢; obtain ⟨l',h1,h2⟩:=vG (by omega) hS
     have htw:l'.map tw=(tk1++(tkM [63]::(tkN rel::tkM [40]::tk2))).map tw:=by
      (have e:∀ x:Tk,tw x=⟨(iz x).1,(iz x).2.1,(iz x).2.2⟩:=fun _=>rfl);(have e2:∀ m:List Tk,m.map tw=(m.map iz).map fun k=>⟨k.1,k.2.1,k.2.2⟩:=fun m=>by rw [List.map_map]; rfl);rw [e2,e2,h2]
     have hll:l'.length=tk1.length+(tk2.length+3):=by
      have:=congrArg List.length htw; simp at this; omega
     refine ⟨⟨rs',⟨0,false,rel,cj 0 az⟩⟩,?_,by show (⟨rs'.map Ru.g,⟨0,false,rel,(cj 0 az).map Tm.g⟩⟩:Qg)=_; rw [a2,b2]⟩; unfold de; rw [h1]; simp only; rw [htw];(have hd0:((tk1++(tkM [63]::(tkN rel::tkM [40]::tk2))).map tw).drop st0.nx=tk1.map tw++((tkM [63]::(tkN rel::tkM [40]::tk2)).map tw):=by simp [st0]);have hd1:((tk1++(tkM [63]::(tkN rel::tkM [40]::tk2))).map tw).drop (adv st0 tk1.length).nx=tw (tkM [63])::((tkN rel::tkM [40]::tk2).map tw):=ee hd0 (by simp); have hd2:=(bJ hd1).2;(have hlt:(tk1++(tkM [63]::(tkN rel::tkM [40]::tk2))).length=tk1.length+(tk2.length+3):=by simp);generalize htsd:(tk1++(tkM [63]::(tkN rel::tkM [40]::tk2))).map tw=ts at *;(have htl:ts.length=tk1.length+(tk2.length+3):=by rw [← htsd,zY,hlt]);rw [show l'.length+1=rules.length+((l'.length - rules.length)+1) by omega,a5 ts _ st0 [] _ hd0 (by simp; exact hc1),cR,cJ hd1]; rw [if_pos (by decide),b5 ts (am (adv st0 tk1.length)) [] (by rw [List.append_nil]; exact hd2)]; unfold j7; simp only; rw [if_neg (by rw [htl]; show ¬ 0+tk1.length+1+(tk2.length+2) < _; omega)]; simp
end Go.Proofs.YtffdpoifdahadaaGreatDoor
