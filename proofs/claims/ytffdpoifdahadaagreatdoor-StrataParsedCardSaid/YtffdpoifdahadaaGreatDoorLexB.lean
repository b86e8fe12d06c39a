/- LexB: LexW9, LexQ, LexQ2, LexB, in one text. -/
import Derived.Test.YtffdpoifdahadaaGreatDoorLexW6
import Derived.Test.YtffdpoifdahadaaGreatDoorLexW8
set_option linter.unusedVariables false
set_option linter.unusedSimpArgs false
namespace Go.Proofs.YtffdpoifdahadaaGreatDoor
open Go.RowKit
open Go.Lib (hid byteCells)
def iz (t:Tk):Int × List UInt8 × Int:=(t.kind,t.text,t.n)
end Go.Proofs.YtffdpoifdahadaaGreatDoor
set_option linter.unusedSimpArgs false
namespace Go.Proofs.YtffdpoifdahadaaGreatDoor
open Go.Lib (itoa decDigits itoa_nonneg)
inductive Scans:List UInt8->List Tk->Prop
 | nil {r:List UInt8} (h:bo false r=[]):Scans r []
 | cons {r r2:List UInt8} {t t':Tk} {l:List Tk} (h:cQ (bo false r)=.ok (t,r2)) (hk:iz t'=iz t) (hs:Scans r2 l):Scans r (t'::l)
theorem Scans.run {r:List UInt8} {l:List Tk} (h:Scans r l) (N:Nat):∃ l',fm N r=.ok l'/\l'.map iz=l.map iz:=by
 induction h with
 | nil h=>exact ⟨[],fO N _ h,rfl⟩
 | cons h hk hs ih =>
  rename_i r r2 t t' l; obtain ⟨l',h1,h2⟩:=ih; refine ⟨{ t with pos:=((N - (bo false r).length:Nat):Int) }::l',?_,?_⟩
  ·rw [jP N r t r2 h,h1]
  ·simp only [List.map_cons,h2,hk]; rfl
theorem Scans.of (N:Nat):∀ (n:Nat) (r:List UInt8) (l:List Tk),r.length<=n->fm N r=.ok l->Scans r l:=by
 intro n
 induction n with
 | zero =>
  intro r l hn h; have:r=[]:=List.length_eq_zero_iff.1 (by omega); subst this; rw [fO N [] rfl] at h; cases h; exact Scans.nil rfl
 | succ n ih =>
  intro r l hn h; by_cases hs:bo false r=[]
  ·rw [fO N r hs] at h
   cases h; exact Scans.nil hs
  ·cases ht:cQ (bo false r) with
   | error e=>rw [kr N r e ht hs] at h; cases h
   | ok x =>
    obtain ⟨t,r2⟩:=x; have h1:=iU ht; have h2:=fT false r; rw [jP N r t r2 ht] at h
    cases hr:fm N r2 with
    | error e=>rw [hr] at h; cases h
    | ok l2 =>
     rw [hr] at h; simp only [Except.ok.injEq] at h; subst h; exact Scans.cons ht rfl (ih r2 l2 (by omega) hr)
theorem Scans.skip {z Y:List UInt8} {l:List Tk} (h:Scans Y l) (hz:bo false (z++Y)=bo false Y):Scans (z++Y) l:=by
 cases h with
 | nil h=>exact Scans.nil (hz.trans h)
 | cons h hk hs=>exact Scans.cons (by rw [hz]; exact h) hk hs
theorem vG {s:List UInt8} {l:List Tk} (hs:s.length<=32768) (h:Scans s l):∃ l',ef s=.ok l'/\l'.map iz=l.map iz:=by
 obtain ⟨l',h1,h2⟩:=h.run s.length; refine ⟨l',?_,h2⟩; unfold ef; rw [if_neg (by omega)]; exact h1
theorem kM {s:List UInt8} {l:List Tk} (h:ef s=.ok l):s.length<=32768/\fm s.length s=.ok l/\Scans s l:=by
 unfold ef at h; split at h
 ·cases h
 ·have h':fm s.length s=.ok l:=h
  exact ⟨by omega,h',Scans.of _ _ _ _ (zM _) h'⟩
/-! a token ends where a white byte follows -/
def SepOk (r:List UInt8):Prop:=r=[]\/∃ d r',r=d::r'/\(d=9\/d=10\/d=13\/d=32)
theorem ml {s:List UInt8} (h:iJ s=true):∃ c r,s=c::r/\cL c=true/\s.all bP=true:=by
 cases s with
 | nil=>cases h
 | cons c r =>
  simp only [iJ,Bool.and_eq_true] at h; exact ⟨c,r,rfl,h.1,h.2⟩
theorem zv {c:UInt8} (h:cL c=true):j6 c=false/\c≠47:=by
 constructor
 ·rw [Bool.eq_false_iff]; intro h2
  simp only [j6,Bool.or_eq_true,decide_eq_true_eq] at h2; rcases h2 with ((rfl | rfl) | rfl) | rfl <;> revert h <;> decide
 ·rintro rfl; revert h; decide
theorem dg_ne {c:UInt8} (h:dE c=true):j6 c=false/\c≠47/\cL c=false:=by
 refine ⟨?_,?_,?_⟩
 ·rw [Bool.eq_false_iff]; intro h2
  simp only [j6,Bool.or_eq_true,decide_eq_true_eq] at h2; rcases h2 with ((rfl | rfl) | rfl) | rfl <;> revert h <;> decide
 ·rintro rfl; revert h; decide
 ·rw [dP] at h
  rw [Bool.eq_false_iff]; intro h2; simp only [cL,Bool.or_eq_true,Bool.and_eq_true,decide_eq_true_eq] at h2; omega
theorem eW {c:UInt8} {r:List UInt8} (h1:j6 c=false) (h2:c≠47\/r.head?≠some 47):bo false (c::r)=c::r:=by
 rw [bo,if_neg (by rw [h1]; decide),if_neg]; rintro ⟨a,b⟩; rcases h2 with h | h
 ·exact h a
 ·exact h b
theorem wK (n:Int) (h:0<=n):itoa n=decDigits n.toNat:=by
 have:=itoa_nonneg n.toNat
 rwa [Int.toNat_of_nonneg h] at this
theorem wO (n:Int) (h0:0<=n) (h1:n<=9007199254740992):lg (itoa n)=.ok n/\(itoa n).all dE=true/\itoa n≠[]:=by
 have hp:=gY n 0 9007199254740992 (by omega) (by omega) h0 h1; have hd:=wK n h0
 have ha:(itoa n).all dE=true:=by rw [List.all_eq_true,hd]; exact lw _
 have hh:¬ ((itoa n).head? = some 48/\itoa n≠[48]):=by
  rintro ⟨a,b⟩; by_cases hz:n.toNat=0
  ·apply b; rw [hd,hz,ke]
  ·rw [hd] at a; exact mN _ hz a
 refine ⟨?_,ha,by rw [hd]; exact mM _⟩; unfold lg; rw [if_neg (by rw [ha]; decide),if_neg hh,hp]
theorem pX (r:List UInt8):∀ (s acc:List UInt8),dj (dF s++34::r) acc=some (acc++s,r)
 | [],acc=>by
  show dj (34::r) acc=_; rw [rR,List.append_nil]
 | c::s,acc=>by
  have ih:=pX r s
  have e:dF (c::s)++34::r=ju c++(dF s++34::r):=by simp [dF]
  rw [e]; by_cases h1:c=10
  ·subst h1
   show dj (92::110::(dF s++34::r)) acc=_; rw [jX]; show dj (dF s++34::r) (acc++[10])=_; rw [ih]; simp
  ·by_cases h2:c=9
   ·subst h2
    show dj (92::116::(dF s++34::r)) acc=_; rw [jX]; show dj (dF s++34::r) (acc++[9])=_; rw [ih]; simp
   ·by_cases h3:c=34\/c=92
    ·have he:ju c=[92,c]:=by unfold ju; rw [if_neg h1,if_neg h2,if_pos h3]
     have hu:jL c=some c:=by rcases h3 with rfl | rfl <;> decide
     rw [he]; show dj (92::c::(dF s++34::r)) acc=_; rw [jX,hu]; show dj (dF s++34::r) (acc++[c])=_; rw [ih]; simp
    ·have he:ju c=[c]:=by unfold ju; rw [if_neg h1,if_neg h2,if_neg h3]
     rw [he]; show dj (c::(dF s++34::r)) acc=_; rw [oP c _ _ h1 (fun h=>h3 (Or.inl h)) (fun h=>h3 (Or.inr h)),ih]; simp
theorem wb {s:List UInt8} (h:eO s=true):s∈pV:=by simpa [eO] using h
def we (m:List UInt8):Bool:=match m with
 | [a]=>!j6 a && !cL a && !dE a && !decide (a=34) && !eO [a,9] && !eO [a,10] && !eO [a,13] && !eO [a,32] && eO [a]
 | [a,b]=>!j6 a && !cL a && !dE a && !decide (a=34) && eO [a,b] && !decide (a=47)
 | _=>false
theorem zu:∀ m∈pV,we m=true:=by decide +kernel
theorem zt {s:List UInt8} (h:eO s=true) {r:List UInt8} (hr:SepOk r):cQ (s++r)=.ok (⟨4,s,0,0⟩,r)/\bo false (s++r)=s++r:=by
 have hm:=zu s (wb h)
 match s,hm with
 | [a],hm =>
  simp only [we,Bool.and_eq_true,Bool.not_eq_true',decide_eq_false_iff_not] at hm; obtain ⟨⟨⟨⟨⟨⟨⟨⟨h1,h2⟩,h3⟩,h4⟩,h5⟩,h6⟩,h7⟩,h8⟩,h9⟩:=hm
  have hmk:mkF (a::r)=some 1:=by
   unfold mkF; rw [if_neg,if_pos ⟨by simp,by simpa using h9⟩]; rcases hr with rfl | ⟨d,r',rfl,hd⟩
   ·simp
   ·rintro ⟨_,e⟩
    simp only [List.take_succ_cons,List.take_zero] at e; rcases hd with rfl | rfl | rfl | rfl
    ·rw [h5] at e; cases e
    ·rw [h6] at e; cases e
    ·rw [h7] at e; cases e
    ·rw [h8] at e; cases e
  constructor
  ·show cQ (a::r)=_
   simp only [cQ]; rw [if_neg (by rw [h2]; decide),if_neg (by rw [h3]; decide),if_neg h4]; unfold gp; rw [hmk]; rfl
  ·exact eW h1 (Or.inr (by
    rcases hr with rfl | ⟨d,r',rfl,rfl | rfl | rfl | rfl⟩ <;> simp))
 | [a,b],hm =>
  simp only [we,Bool.and_eq_true,Bool.not_eq_true',decide_eq_false_iff_not] at hm; obtain ⟨⟨⟨⟨⟨h1,h2⟩,h3⟩,h4⟩,h5⟩,h6⟩:=hm
  have hmk:mkF (a::b::r)=some 2:=by
   unfold mkF; rw [if_pos ⟨by simp,by simpa using h5⟩]
  constructor
  ·show cQ (a::b::r)=_
   simp only [cQ]; rw [if_neg (by rw [h2]; decide),if_neg (by rw [h3]; decide),if_neg h4]; unfold gp; rw [hmk]; rfl
  ·exact eW h1 (Or.inl h6)
 | [],hm=>cases hm
 | _::_::_::_,hm=>cases hm
theorem tH {D r2:List UInt8} {t:Tk} (h:cQ D=.ok (t,r2)):db t=true:=by
 cases D with
 | nil=>simp [cQ] at h
 | cons c r =>
  simp only [cQ] at h; split at h
  ·rename_i hc
   simp only [jV,Except.ok.injEq,Prod.mk.injEq] at h; obtain ⟨rfl,_⟩:=h; unfold db; rw [if_pos rfl]
   have h1:(c::r).takeWhile bP=c::r.takeWhile bP:=by rw [List.takeWhile_cons,if_pos (iI hc)]
   have h2:((c::r).takeWhile bP).all bP=true:=List.all_takeWhile; rw [h1] at h2 ⊢; simp only [iJ,hc,h2,Bool.and_true,decide_true]
  ·split at h
   ·rename_i hc
    unfold dQ at h; split at h
    ·rename_i n hn
     simp only [Except.ok.injEq,Prod.mk.injEq] at h; obtain ⟨rfl,_⟩:=h; unfold lg at hn; split at hn
     ·cases hn
     ·split at hn
      ·cases hn
      ·split at hn
       ·rename_i k hk
        simp only [Except.ok.injEq] at hn; subst hn; have:=me hk; unfold db; simp only; rw [if_neg (by decide),if_pos trivial]; simp [this.2.1,this.2.2.1]
       ·cases hn
    ·cases h
   ·split at h
    ·unfold iA at h
     split at h
     ·split at h
      ·cases h
      ·rename_i hl
       simp only [Except.ok.injEq,Prod.mk.injEq] at h; obtain ⟨rfl,_⟩:=h; unfold db; simp only; rw [if_neg (by decide),if_neg (by decide),if_pos trivial]; simp; omega
     ·cases h
    ·unfold gp at h
     split at h
     ·rename_i k hk
      simp only [Except.ok.injEq,Prod.mk.injEq] at h; obtain ⟨rfl,_⟩:=h; have:=(rO hk).2.2.2; unfold db; simp only; rw [if_neg (by decide),if_neg (by decide),if_neg (by decide),if_pos trivial]; simp [this]
     ·cases h
theorem tU {a b:Tk} (h:iz a=iz b):db a=db b/\tkW a=tkW b:=by
 obtain ⟨a1,a2,a3,a4⟩:=a; obtain ⟨b1,b2,b3,b4⟩:=b; simp only [iz,Prod.mk.injEq] at h; obtain ⟨rfl,rfl,rfl⟩:=h; exact ⟨rfl,rfl⟩
theorem Scans.right {r:List UInt8} {l:List Tk} (h:Scans r l):l.all db=true:=by
 induction h with
 | nil h=>rfl
 | cons h hk hs ih =>
  simp only [List.all_cons,ih,Bool.and_true]; rw [(tU hk).1]; exact tH h
end Go.Proofs.YtffdpoifdahadaaGreatDoor
set_option linter.unusedSimpArgs false
namespace Go.Proofs.YtffdpoifdahadaaGreatDoor
open Go.Lib (itoa decDigits itoa_nonneg)
theorem sY {s:List UInt8} {x:Int × Int} (h:ef s=.error x):x.1≠0/\0<=x.2/\x.2 < max (s.length:Int) 1:=by
 unfold ef at h; split at h
 ·cases h; exact ⟨by decide,by decide,by simp; omega⟩
 ·have key:∀ (n:Nat) (r:List UInt8),r.length<=n->r.length<=s.length->fm s.length r=.error x->x.1≠0/\0<=x.2/\x.2 < (s.length:Int):=by
   intro n
   induction n with
   | zero =>
    intro r hn _ hr; have:r=[]:=List.length_eq_zero_iff.1 (by omega); subst this; rw [fO _ [] rfl] at hr; cases hr
   | succ n ih =>
    intro r hn hle hr; by_cases hs:bo false r=[]
    ·rw [fO _ r hs] at hr; cases hr
    ·have h2:=fT false r
     have h3:=List.length_pos_iff.2 hs
     cases ht:cQ (bo false r) with
     | error e =>
      rw [kr _ r e ht hs] at hr; cases hr; exact ⟨sD ht,by simp,by simp; omega⟩
     | ok y =>
      obtain ⟨t1,r2⟩:=y; have h1:=iU ht; rw [jP _ r t1 r2 ht] at hr
      cases hr2:fm s.length r2 with
      | error e =>
       rw [hr2] at hr; cases hr; exact ih r2 (by omega) (by omega) hr2
      | ok l2=>rw [hr2] at hr; cases hr
  have:=key s.length s (zM _) (zM _) h; exact ⟨this.1,this.2.1,by omega⟩
end Go.Proofs.YtffdpoifdahadaaGreatDoor
set_option linter.unusedSimpArgs false
namespace Go.Proofs.YtffdpoifdahadaaGreatDoor
open Go.RowKit
open Go.Lib (hid byteCells itoa)
theorem mA:∀ (n:Nat) (r acc t r':List UInt8),r.length<=n->dj r acc=some (t,r')->t.length<=acc.length+r.length
 | 0,r,acc,t,r',hn,h=>by
  have:r=[]:=List.length_eq_zero_iff.1 (by omega); subst this; simp [dj] at h
 | n+1,[],acc,t,r',hn,h=>by simp [dj] at h
 | n+1,c::r,acc,t,r',hn,h=>by
  by_cases h10:c=10
  ·subst h10; rw [wE] at h; cases h
  ·by_cases h34:c=34
   ·subst h34; rw [rR] at h
    simp only [Al,Prod.mk.injEq] at h; obtain ⟨rfl,_⟩:=h; omega
   ·by_cases h92:c=92
    ·subst h92
     cases r with
     | nil=>rw [wD] at h; cases h
     | cons e r =>
      rw [jX] at h
      cases hu:jL e with
      | none=>rw [hu] at h; cases h
      | some x =>
       rw [hu] at h; have:=mA n r _ t r' (by simp at hn; omega) h; simp at this ⊢; omega
    ·rw [oP c _ _ h10 h34 h92] at h
     have:=mA n r _ t r' (by simp at hn; omega) h; simp at this ⊢; omega
theorem pi {D r2:List UInt8} {t:Tk} (h:cQ D=.ok (t,r2)):t.text.length<=D.length:=by
 cases D with
 | nil=>simp [cQ] at h
 | cons c r =>
  simp only [cQ] at h; split at h
  ·simp only [jV,Except.ok.injEq,Prod.mk.injEq] at h
   obtain ⟨rfl,_⟩:=h; exact (List.takeWhile_prefix bP (l:=c::r)).length_le
  ·split at h
   ·unfold dQ at h
    split at h
    ·simp only [Except.ok.injEq,Prod.mk.injEq] at h
     obtain ⟨rfl,_⟩:=h; simp
    ·cases h
   ·split at h
    ·unfold iA at h
     split at h
     ·rename_i tt r3 hl
      split at h
      ·cases h
      ·simp only [Except.ok.injEq,Prod.mk.injEq] at h
       obtain ⟨rfl,_⟩:=h; have:=mA _ _ _ _ _ (zM _) hl; simp at this ⊢; omega
     ·cases h
    ·unfold gp at h
     split at h
     ·simp only [Except.ok.injEq,Prod.mk.injEq] at h
      obtain ⟨rfl,_⟩:=h; simp only [Ah]; omega
     ·cases h
theorem xY {t:Tk} (h:db t=true):0<=t.n/\t.n<=9007199254740992:=by
 unfold db at h; split at h
 ·simp only [Bool.and_eq_true,decide_eq_true_eq] at h; omega
 ·split at h
  ·simp only [Bool.and_eq_true,decide_eq_true_eq] at h; omega
  ·split at h
   ·simp only [Bool.and_eq_true,decide_eq_true_eq] at h; omega
   ·split at h
    ·simp only [Bool.and_eq_true,decide_eq_true_eq] at h; omega
    ·cases h
theorem Scans.bound {r:List UInt8} {l:List Tk} (h:Scans r l):l.length<=r.length/\∀ t∈l,t.text.length<=r.length:=by
 induction h with
 | nil h=>exact ⟨zW _,fun t ht=>by cases ht⟩
 | cons h hk hs ih =>
  rename_i r r2 t t' l; have h1:=iU h; have h2:=fT false r; have h3:=pi h; refine ⟨by simp only [zT]; omega,fun x hx=>?_⟩; rcases List.mem_cons.1 hx with rfl | hx
  ·have:x.text=t.text:=by simp only [iz,Prod.mk.injEq] at hk; exact hk.2.1
   rw [this]; omega
  ·have:=ih.2 x hx; omega
theorem pB {s:List UInt8} {l:List Tk} (h:ef s=.ok l):l.length<=s.length/\s.length<=32768/\∀ t∈l,0<=t.n/\t.n<=9007199254740992/\t.text.length<=32768:=by
 obtain ⟨h1,-,h3⟩:=kM h; have hb:=h3.bound; have ha:=h3.right; rw [List.all_eq_true] at ha; exact ⟨hb.1,h1,fun t ht=>by have:=xY (ha t ht); have:=hb.2 t ht; omega⟩
end Go.Proofs.YtffdpoifdahadaaGreatDoor
