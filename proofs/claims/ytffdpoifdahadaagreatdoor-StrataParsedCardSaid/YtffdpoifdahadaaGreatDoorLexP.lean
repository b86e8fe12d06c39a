/- LexP: NumN, NumP, LexM, LexC, LexW1, LexP, in one text. -/
import Derived.Below
import Derived.Lib.ItoaNum
import Derived.Lib.ItoaMem
import Derived.Test.YtffdpoifdahadaaGreatDoorChecked
import Derived.Test.YtffdpoifdahadaaGreatDoorRel
import Derived.Test.YtffdpoifdahadaaGreatDoorShelf
import Derived.Deep.LoopGhost
import Derived.StillTailTactics
import Derived.BigQuiet
import Derived.BigRegion
import Derived.Deep.QuietTactic
set_option linter.unusedVariables false
set_option linter.unusedSimpArgs false
set_option maxHeartbeats 40000000
set_option maxRecDepth 100000
namespace Go.Proofs.YtffdpoifdahadaaGreatDoor
end Go.Proofs.YtffdpoifdahadaaGreatDoor
namespace Go.Proofs.YtffdpoifdahadaaGreatDoor
open Go.Lib (itoa decDigits itoa_nonneg itoa_neg)
def dE (c:UInt8):Bool:=decide (48<=c.toNat) && decide (c.toNat<=57)
theorem dP (c:UInt8):dE c=true ↔ 48<=c.toNat/\c.toNat<=57:=by simp [dE]
def pgo:List UInt8->Int->Option Int
 | [],n=>some n
 | c::r,n=>if dE c then (if n < (-9223372036854775808+((c.toNat:Int) - 48)).tdiv 10 then none else pgo r (n * 10 - ((c.toNat:Int) - 48))) else none
def iq:List UInt8->Int->Int
 | [],n=>n
 | c::r,n=>iq r (n * 10 - ((c.toNat:Int) - 48))
theorem kq (c:UInt8):∀ (l:List UInt8) (n:Int),iq (l++[c]) n=iq l n * 10 - ((c.toNat:Int) - 48)
 | [],_=>rfl
 | _::l,_=>kq c l _
theorem jK:∀ (l:List UInt8) (n:Int),(∀ c∈l,dE c=true)->n<=0->iq l n<=n
 | [],_,_,_=>Int.le_refl _
 | c::l,n,h,hn=>by
  have h1:=(dP c).1 (h c (by simp)); have h2:=jK l (n * 10 - ((c.toNat:Int) - 48)) (fun d hd=>h d (by simp [hd])) (by omega); show iq l _<=n; omega
theorem pF:∀ (l:List UInt8) (n m:Int),pgo l n=some m->(∀ c∈l,dE c=true)/\m=iq l n
 | [],n,m,h=>⟨by simp,by simpa [pgo,iq] using h.symm⟩
 | c::l,n,m,h=>by
  unfold pgo at h; split at h
  ·rename_i hc
   split at h
   ·cases h
   ·obtain ⟨h1,h2⟩:=pF l _ m h
    exact ⟨by intro d hd; rcases List.mem_cons.1 hd with rfl | hd; exact hc; exact h1 d hd,h2⟩
  ·cases h
theorem vl (z:Int) (h:z<=0) (n:Int):n < z.tdiv 10 ↔ n * 10 < z - 9\/(n * 10 < z):=by
 obtain ⟨m,rfl⟩:∃ m:Int,z = -m:=⟨-z,by omega⟩; rw [Int.neg_tdiv,Int.tdiv_eq_ediv_of_nonneg (by omega)]; omega
theorem ry:∀ (l:List UInt8) (n:Int),(∀ c∈l,dE c=true)->n<=0->-9223372036854775808<=iq l n->pgo l n=some (iq l n)
 | [],_,_,_,_=>rfl
 | c::l,n,h,hn,hv=>by
  have hc:=h c (by simp); have h1:=(dP c).1 hc; have h2:=jK l (n * 10 - ((c.toNat:Int) - 48)) (fun d hd=>h d (by simp [hd])) (by omega); have hv':-9223372036854775808<=iq l (n * 10 - ((c.toNat:Int) - 48)):=hv; unfold pgo; rw [if_pos hc,if_neg]
  ·exact ry l _ (fun d hd=>h d (by simp [hd])) (by omega) hv'
  ·rw [vl _ (by omega)]; omega
theorem pE {c:UInt8} {n:Int} (hc:dE c=true) (hn:n<=0) (h:¬ n < (-9223372036854775808+((c.toNat:Int) - 48)).tdiv 10):-9223372036854775808<=n * 10 - ((c.toNat:Int) - 48)/\n * 10 - ((c.toNat:Int) - 48)<=0:=by
 have h1:=(dP c).1 hc; rw [vl _ (by omega)] at h; omega

theorem vR:∀ (l:List UInt8) (n m:Int),pgo l n=some m->n<=0->-9223372036854775808<=n->-9223372036854775808<=m
 | [],n,m,h,_,h1=>by
  have:n=m:=by simpa [pgo] using h
  omega
 | c::l,n,m,h,h0,h1=>by
  unfold pgo at h; split at h
  ·rename_i hc
   split at h
   ·cases h
   ·rename_i hs
    obtain ⟨a,b⟩:=pE hc h0 hs; exact vR l _ m h b a
  ·cases h

theorem gN (k:Nat) (h:k < 10):(UInt8.ofNat (48+k)).toNat=48+k:=by simp; omega
theorem lw (u:Nat):∀ c∈decDigits u,dE c=true:=by
 induction u using Nat.strongRecOn with
 | _ u ih =>
  intro c hc; rw [decDigits] at hc; split at hc
  ·rename_i h
   simp only [List.mem_singleton] at hc; subst hc; rw [dP,gN u h]; omega
  ·rename_i h
   rcases List.mem_append.1 hc with hc | hc
   ·exact ih _ (by omega) c hc
   ·simp only [List.mem_singleton] at hc
    subst hc; rw [dP,gN _ (by omega)]; omega
theorem lu (u:Nat):iq (decDigits u) 0 = -(u:Int):=by
 induction u using Nat.strongRecOn with
 | _ u ih =>
  rw [decDigits]; split
  ·rename_i h
   show (0:Int) * 10 - (((UInt8.ofNat (48+u)).toNat:Int) - 48)=_; rw [gN u h]; omega
  ·rename_i h
   rw [kq,ih _ (by omega),gN _ (by omega)]; omega
theorem mM (u:Nat):decDigits u≠[]:=by
 rw [decDigits]; split <;> simp
theorem mN (u:Nat) (h:u≠0):(decDigits u).head?≠some 48:=by
 induction u using Nat.strongRecOn with
 | _ u ih =>
  rw [decDigits]; split
  ·rename_i hu
   simp only [List.head?_cons,ne_eq,Al]; intro e; have:=congrArg UInt8.toNat e; rw [gN u hu] at this; have e2:(48:UInt8).toNat=48:=rfl; omega
  ·rename_i hu
   rw [List.head?_append]; have:=ih (u / 10) (by omega) (by omega); rcases hh:(decDigits (u / 10)).head? with _ | x
   ·exact absurd (List.head?_eq_none_iff.1 hh) (mM _)
   ·rw [hh] at this; simpa using this
theorem ke:decDigits 0=[48]:=by rw [decDigits]; rfl
theorem xh (n:Nat):∀ (l:List UInt8),l.length=n+1->(∀ c∈l,dE c=true)->(l.head?≠some 48\/l=[48])->decDigits (-(iq l 0)).toNat=l:=by
 induction n with
 | zero =>
  intro l hl hd hh; obtain ⟨c,rfl⟩:=List.length_eq_one_iff.1 hl; have h1:=(dP c).1 (hd c (by simp))
  have e:(-(iq [c] 0)).toNat=c.toNat - 48:=by
   show (-((0:Int) * 10 - ((c.toNat:Int) - 48))).toNat=_; omega
  rw [e,decDigits,dif_pos (by omega)]
  have:48+(c.toNat - 48)=c.toNat:=by omega
  rw [this]; simp
 | succ n ih =>
  intro l hl hd hh; obtain ⟨l',c,rfl⟩:∃ l' c,l=l'++[c]:=⟨l.dropLast,l.getLast (by intro e; simp [e] at hl),(List.dropLast_concat_getLast _).symm⟩
  have hl':l'.length=n+1:=by simpa using hl
  have hne:l'≠[]:=by intro e; simp [e] at hl'
  have hh':l'.head?≠some 48:=by
   rcases hh with hh | hh
   ·rw [List.head?_append] at hh
    intro h9; rw [h9] at hh; simp at hh
   ·have:=congrArg List.length hh; simp at this; exact absurd this hne
  have h1:=(dP c).1 (hd c (by simp)); have h2:=ih l' hl' (fun d hd'=>hd d (by simp [hd'])) (Or.inl hh'); have h3:=jK l' 0 (fun d hd'=>hd d (by simp [hd'])) (Int.le_refl _)
  have h4:(-(iq l' 0)).toNat≠0:=by
   intro e; rw [e,ke] at h2; rw [← h2] at hh'; simp at hh'
  rw [kq]
  have e1:(-(iq l' 0 * 10 - ((c.toNat:Int) - 48))).toNat / 10=(-(iq l' 0)).toNat:=by omega
  have e2:(-(iq l' 0 * 10 - ((c.toNat:Int) - 48))).toNat % 10=c.toNat - 48:=by omega
  rw [decDigits,dif_neg (by omega),e1,e2,h2]
  have:48+(c.toNat - 48)=c.toNat:=by omega
  rw [this]; simp

def gf (neg:Bool) (n low high:Int):Option Int :=
 if neg then (if n < low\/high < n then none else some n) else if n = -9223372036854775808 then none else if -n < low\/high < -n then none else some (-n)
def gX (s:List UInt8):Bool:=decide (s.head? = some 45)
def eZ (s:List UInt8):List UInt8:=if gX s then s.tail else s
def jp (s:List UInt8):Bool:=decide (eZ s=[]) || (decide ((eZ s).head? = some 48) && !decide (s=[48]))
def parse (s:List UInt8) (low high:Int):Option Int:=if jp s then none else (pgo (eZ s) 0).bind fun n=>gf (gX s) n low high

theorem r8 (n:Int) (h0:-9223372036854775808<=n) (h1:n<=9223372036854775807):jp (itoa n)=false/\gX (itoa n)=decide (n < 0)/\pgo (eZ (itoa n)) 0=some (if n < 0 then n else -n):=by
 rcases Int.lt_or_le n 0 with hn | hn
 ·obtain ⟨u,rfl⟩:∃ u:Nat,n = -(u:Int):=⟨n.natAbs,by omega⟩
  have e:itoa (-(u:Int))=45::decDigits u:=itoa_neg u (by omega)
  have hp:gX (itoa (-(u:Int)))=true:=by rw [e]; simp [gX]
  have hd:eZ (itoa (-(u:Int)))=decDigits u:=by unfold eZ; rw [hp,e]; rfl
  refine ⟨?_,by rw [hp]; simp; omega,?_⟩
  ·unfold jp
   rw [hd]; have:=mN u (by omega); have:=mM u; simp [*]
  ·rw [hd,if_pos hn,ry _ _ (lw u) (Int.le_refl _) (by rw [lu]; omega),lu]
 ·obtain ⟨u,rfl⟩:∃ u:Nat,n=(u:Int):=⟨n.toNat,by omega⟩
  have e:itoa (u:Int)=decDigits u:=itoa_nonneg u
  have hp:gX (itoa (u:Int))=false:=by
   rw [e]; unfold gX; simp only [decide_eq_false_iff_not]; intro hh; rcases hc:decDigits u with _ | ⟨c,r⟩
   ·exact mM u hc
   ·rw [hc] at hh
    have h1:=(dP c).1 (lw u c (by rw [hc]; simp)); simp at hh; subst hh; simp at h1
  have hd:eZ (itoa (u:Int))=decDigits u:=by unfold eZ; rw [hp,e]; rfl
  refine ⟨?_,by rw [hp]; simp,?_⟩
  ·unfold jp
   rw [hd,e]; have h2:=mM u; by_cases hu:u=0
   ·subst hu; rw [ke]; simp
   ·have:=mN u hu
    simp [*]
  ·rw [hd,if_neg (by omega),ry _ _ (lw u) (Int.le_refl _) (by rw [lu]; omega),lu]
theorem gY (n low high:Int) (h0:-9223372036854775808<=n) (h1:n<=9223372036854775807) (hl:low<=n) (hh:n<=high):parse (itoa n) low high=some n:=by
 obtain ⟨a,b,c⟩:=r8 n h0 h1; unfold parse; rw [a,b,c]; simp only [Bool.false_eq_true,if_false,Option.bind_some,gf,decide_eq_true_eq]; split
 ·rw [if_neg (by omega)]
 ·rw [if_neg (by omega),if_neg (by omega)]; simp
theorem me {s:List UInt8} {low high k:Int} (h:parse s low high=some k):itoa k=s/\low<=k/\k<=high/\jp s=false/\k<=9223372036854775807:=by
 unfold parse at h
 cases hb:jp s with
 | true=>rw [hb] at h; simp at h
 | false =>
  rw [hb] at h; simp only [Bool.false_eq_true,if_false] at h
  cases hg:pgo (eZ s) 0 with
  | none=>rw [hg] at h; simp at h
  | some m =>
   rw [hg] at h; simp only [Option.bind_some] at h; obtain ⟨hd,hv⟩:=pF _ _ _ hg; have hle:=jK _ 0 hd (Int.le_refl _); unfold jp at hb; simp only [Bool.or_eq_false_iff,decide_eq_false_iff_not,Bool.and_eq_false_iff,Bool.not_eq_false'] at hb; obtain ⟨b1,b2⟩:=hb
   cases hp:gX s with
   | true =>
    have hs:∃ r,s=45::r:=by
     unfold gX at hp; simp only [decide_eq_true_eq] at hp
     cases s with
     | nil=>simp at hp
     | cons x r=>simp at hp; exact ⟨r,by rw [hp]⟩
    obtain ⟨r,rfl⟩:=hs;(have e:eZ (45::r)=r:=by unfold eZ; rw [hp]; rfl);rw [e] at hd hv b1 b2 hle
    have b3:r.head?≠some 48:=by
     rcases b2 with b2 | b2
     ·exact b2
     ·simp at b2
    have hdec:=xh (r.length - 1) r (by have:=List.length_pos_iff.2 b1; omega) hd (Or.inl b3); unfold gf at h; rw [hp] at h; simp only [if_true] at h; split at h
    ·cases h
    ·rename_i hr
     obtain rfl:=Option.some.inj h
     have hz:iq r 0≠0:=by
      intro hz; rw [hz] at hdec; have:decDigits (-(0:Int)).toNat=[48]:=ke; rw [this] at hdec; rw [← hdec] at b3; simp at b3
     refine ⟨?_,by omega,by omega,rfl,by omega⟩;(have e2:m = -((-m).toNat:Int):=by omega);rw [e2,itoa_neg _ (by omega),hv,hdec]
   | false =>
    (have e:eZ s=s:=by unfold eZ; rw [hp]; rfl);rw [e] at hd hv b1 b2 hle; have hdec:=xh (s.length - 1) s (by have:=List.length_pos_iff.2 b1; omega) hd (by rcases b2 with b2 | b2; exact Or.inl b2; exact Or.inr (by simpa using b2)); unfold gf at h; rw [hp] at h; simp only [Bool.false_eq_true,if_false] at h; split at h
    ·cases h
    ·split at h
     ·cases h
     ·rename_i hr
      obtain rfl:=Option.some.inj h; have hlo:=jK s 0 hd (Int.le_refl _)
      have hge:-9223372036854775808<=m:=by
       rw [e] at hg; exact vR s 0 m hg (by omega) (by omega)
      refine ⟨?_,by omega,by omega,rfl,by omega⟩;(have e2:-m=((-m).toNat:Int):=by omega);rw [e2,itoa_nonneg,hv,hdec]
end Go.Proofs.YtffdpoifdahadaaGreatDoor
namespace Go.Proofs.YtffdpoifdahadaaGreatDoor
open Go.Lib (itoa)
def cL (c:UInt8):Bool:=(decide (97<=c.toNat) && decide (c.toNat<=122)) || (decide (65<=c.toNat) && decide (c.toNat<=90))
def bP (c:UInt8):Bool:=cL c || dE c || decide (c=95)
def j6 (c:UInt8):Bool:=decide (c=9) || decide (c=10) || decide (c=13) || decide (c=32)
def bo:Bool->List UInt8->List UInt8
 | _,[]=>[]
 | true,c::r=>if c=10 then bo false r else bo true r
 | false,c::r=>if j6 c then bo false r else if c=47/\r.head? = some 47 then bo true r else c::r
structure Tk where
 kind:Int
 text:List UInt8
 n:Int
 pos:Int
def pV:List (List UInt8):=[[40],[41],[123],[125],[91],[93],[44],[46],[58],[59],[63],[95],[61],[43],[45],[42],[47],[37],[60],[62],[61,61],[33,61],[60,61],[62,61],[43,43],[61,62],[58,45]]
def eO (s:List UInt8):Bool:=pV.contains s
def iJ:List UInt8->Bool
 | []=>false
 | c::r=>cL c && (c::r).all bP
def jL (c:UInt8):Option UInt8:=if c=110 then some 10 else if c=116 then some 9 else if c=34\/c=92 then some c else none
def dj:List UInt8->List UInt8->Option (List UInt8 × List UInt8)
 | [],_=>none
 | [c],acc=>if c=34 then some (acc,[]) else none
 | c::e::r,acc =>
  if c=10 then none
  else if c=34 then some (acc,e::r)
  else if c=92 then
   match jL e with
   | some x=>dj r (acc++[x])
   | none=>none
  else dj (e::r) (acc++[c])
def lg (w:List UInt8):Except Int Int :=
 if w.all dE=false then .error 2
 else if w.head? = some 48/\w≠[48] then .error 2
 else match parse w 0 9007199254740992 with
  | some n=>.ok n
  | none=>.error 6
def mkF (r:List UInt8):Option Nat:=if 2<=r.length/\eO (r.take 2)=true then some 2 else if 1<=r.length/\eO (r.take 1)=true then some 1 else none
def jV (r:List UInt8):Except Int (Tk × List UInt8):=.ok (⟨1,r.takeWhile bP,0,0⟩,r.dropWhile bP)
def dQ (r:List UInt8):Except Int (Tk × List UInt8) :=
 match lg (r.takeWhile bP) with
 | .ok n=>.ok (⟨2,[],n,0⟩,r.dropWhile bP)
 | .error e=>.error e
def iA (r:List UInt8):Except Int (Tk × List UInt8) :=
 match dj r.tail [] with
 | some (t,r')=>if 4096 < t.length then .error 15 else .ok (⟨3,t,0,0⟩,r')
 | none=>.error 2
def gp (r:List UInt8):Except Int (Tk × List UInt8) :=
 match mkF r with
 | some k=>.ok (⟨4,r.take k,0,0⟩,r.drop k)
 | none=>.error 2
def cQ (r:List UInt8):Except Int (Tk × List UInt8) :=
 match r with
 | []=>.error 2
 | c::_=>if cL c then jV r else if dE c then dQ r else if c=34 then iA r else gp r
def iC (N:Nat):Nat->List UInt8->Except (Int × Int) (List Tk)
 | 0,_=>.ok []
 | f+1,r =>
  if bo false r=[] then .ok [] else
  match cQ (bo false r) with
  | .error e=>.error (e,((N - (bo false r).length:Nat):Int))
  | .ok (t,r2) =>
   match iC N f r2 with
   | .error x=>.error x
   | .ok l=>.ok ({ t with pos:=((N - (bo false r).length:Nat):Int) }::l)
def ef (s:List UInt8):Except (Int × Int) (List Tk):=if 32768 < s.length then .error (15,0) else iC s.length (s.length+1) s
/-! what is left gets shorter -/
theorem gA:∀ (m:Bool) (r:List UInt8),∃ u,r=u++bo m r
 | _,[]=>⟨[],by simp [bo]⟩
 | true,c::r=>by
  unfold bo; split
  ·obtain ⟨u,hu⟩:=gA false r; exact ⟨c::u,by rw [List.cons_append,← hu]⟩
  ·obtain ⟨u,hu⟩:=gA true r; exact ⟨c::u,by rw [List.cons_append,← hu]⟩
 | false,c::r=>by
  unfold bo; split
  ·obtain ⟨u,hu⟩:=gA false r; exact ⟨c::u,by rw [List.cons_append,← hu]⟩
  ·split
   ·obtain ⟨u,hu⟩:=gA true r; exact ⟨c::u,by rw [List.cons_append,← hu]⟩
   ·exact ⟨[],rfl⟩
theorem fT (m:Bool) (r:List UInt8):(bo m r).length<=r.length:=by
 obtain ⟨u,hu⟩:=gA m r; have:=congrArg List.length hu; rw [zQ] at this; omega
theorem oO:∀ (r acc:List UInt8) (t r':List UInt8),dj r acc=some (t,r')->∃ u,r=u++r'/\u≠[]
 | [],acc,t,r',h=>by simp [dj] at h
 | [c],acc,t,r',h=>by
  simp only [dj] at h; split at h
  ·simp only [Al,Prod.mk.injEq] at h; obtain ⟨_,rfl⟩:=h; exact ⟨[c],by simp,by simp⟩
  ·cases h
 | c::e::r,acc,t,r',h=>by
  simp only [dj] at h; split at h
  ·cases h
  ·split at h
   ·simp only [Al,Prod.mk.injEq] at h; obtain ⟨_,rfl⟩:=h; exact ⟨[c],by simp,by simp⟩
   ·split at h
    ·split at h
     ·obtain ⟨u,hu,_⟩:=oO r _ _ _ h
      exact ⟨c::e::u,by rw [hu]; simp,by simp⟩
     ·cases h
    ·obtain ⟨u,hu,_⟩:=oO (e::r) _ _ _ h
     exact ⟨c::u,by rw [hu]; simp,by simp⟩
theorem rO {r:List UInt8} {k:Nat} (h:mkF r=some k):1<=k/\k<=2/\k<=r.length/\eO (r.take k)=true:=by
 unfold mkF at h; split at h
 ·rename_i h1; simp only [Al] at h; subst h; exact ⟨by omega,by omega,h1.1,h1.2⟩
 ·split at h
  ·rename_i h1; simp only [Al] at h; subst h; exact ⟨by omega,by omega,h1.1,h1.2⟩
  ·cases h
theorem iI {c:UInt8} (h:cL c=true):bP c=true:=by simp [bP,h]
theorem lq {c:UInt8} (h:dE c=true):bP c=true:=by simp [bP,h]
theorem sC {r:List UInt8} {t:Tk} {r':List UInt8} (h:cQ r=.ok (t,r')):∃ u,r=u++r'/\u≠[]:=by
 cases r with
 | nil=>simp [cQ] at h
 | cons c r =>
  simp only [cQ] at h; split at h
  ·rename_i hc
   simp only [jV,Except.ok.injEq,Prod.mk.injEq] at h; obtain ⟨_,rfl⟩:=h; refine ⟨(c::r).takeWhile bP,(List.takeWhile_append_dropWhile).symm,?_⟩; rw [List.takeWhile_cons,if_pos (iI hc)]; simp
  ·split at h
   ·rename_i hc
    unfold dQ at h; split at h
    ·simp only [Except.ok.injEq,Prod.mk.injEq] at h
     obtain ⟨_,rfl⟩:=h; refine ⟨(c::r).takeWhile bP,(List.takeWhile_append_dropWhile).symm,?_⟩; rw [List.takeWhile_cons,if_pos (lq hc)]; simp
    ·cases h
   ·split at h
    ·unfold iA at h
     split at h
     ·rename_i t' r2 hl
      split at h
      ·cases h
      ·simp only [Except.ok.injEq,Prod.mk.injEq] at h
       obtain ⟨_,rfl⟩:=h; obtain ⟨u,hu,_⟩:=oO _ _ _ _ hl; exact ⟨c::u,by rw [List.tail_cons] at hu; rw [hu]; simp,by simp⟩
     ·cases h
    ·unfold gp at h
     split at h
     ·rename_i k hk
      simp only [Except.ok.injEq,Prod.mk.injEq] at h; obtain ⟨_,rfl⟩:=h; obtain ⟨h1,h2,h3,_⟩:=rO hk; refine ⟨(c::r).take k,(List.take_append_drop _ _).symm,?_⟩; intro e; have:=congrArg List.length e; simp at this; omega
     ·cases h
theorem iU {r:List UInt8} {t:Tk} {r':List UInt8} (h:cQ r=.ok (t,r')):r'.length < r.length:=by
 obtain ⟨u,hu,hne⟩:=sC h; have h1:=congrArg List.length hu; have h2:=List.length_pos_iff.2 hne; rw [zQ] at h1; omega
theorem lU (N:Nat):∀ (f g:Nat) (r:List UInt8),r.length < f->r.length < g->iC N f r=iC N g r
 | 0,_,_,h,_=>by omega
 | _,0,_,_,h=>by omega
 | f+1,g+1,r,h1,h2=>by
  have hs:=fT false r; unfold iC; split
  ·rfl
  ·split
   ·rfl
   ·rename_i t r2 ht
    have:=iU ht; rw [lU N f g r2 (by omega) (by omega)]
def fm (N:Nat) (r:List UInt8):Except (Int × Int) (List Tk):=iC N (r.length+1) r
theorem fO (N:Nat) (r:List UInt8) (h:bo false r=[]):fm N r=.ok []:=by
 unfold fm iC; rw [if_pos h]
theorem kr (N:Nat) (r:List UInt8) (e:Int) (h:cQ (bo false r)=.error e) (hn:bo false r≠[]):fm N r=.error (e,((N - (bo false r).length:Nat):Int)):=by
 unfold fm iC; rw [if_neg hn,h]
theorem jP (N:Nat) (r:List UInt8) (t:Tk) (r2:List UInt8) (h:cQ (bo false r)=.ok (t,r2)) :
  fm N r=match fm N r2 with
   | .error x=>.error x
   | .ok l=>.ok ({ t with pos:=((N - (bo false r).length:Nat):Int) }::l):=by
 have h1:=iU h; have h2:=fT false r
 have hn:bo false r≠[]:=by intro e; rw [e] at h1; simp at h1
 unfold fm; rw [iC,if_neg hn,h]; simp only; rw [lU N r.length (r2.length+1) r2 (by omega) (by omega)]
end Go.Proofs.YtffdpoifdahadaaGreatDoor
namespace Go.Proofs.YtffdpoifdahadaaGreatDoor
open Go.RowKit
open Go.Lib (hid byteCells)
theorem xf (k:Nat) (c:UInt8):decide ((c.toNat:Int)<=(k:Int))=decide (c.toNat<=k):=by rw [decide_eq_decide]; omega
theorem xg (k:Nat) (c:UInt8):decide ((k:Int)<=(c.toNat:Int))=decide (k<=c.toNat):=by rw [decide_eq_decide]; omega
abbrev bv (c:UInt8):Value:=.int .u8 (c.toNat:Int)
theorem ib (c:UInt8) (w:World):Calls Tryz.prog 51 #[bv c] w fun e w'=>e=.returned (.bool (cL c))/\w'=w:=by
 by_cases h1:97<=c.toNat <;> by_cases h2:c.toNat<=122 <;> by_cases h3:65<=c.toNat <;> by_cases h4:c.toNat<=90 <;> try omega
 all_goals
  obtain ⟨r,hr⟩:∃ r,r=cL c:=⟨_,rfl⟩; have hr2:=hr; simp only [cL,h1,h2,h3,h4,decide_true,decide_false,Bool.and_true,Bool.and_false,Bool.or_false,Bool.or_true,Bool.false_and,Bool.true_and,Bool.false_or,Bool.true_or] at hr2; rw [← hr]; clear hr; subst hr2; have d1:decide ((97:Int)<=(c.toNat:Int))=_:=xg 97 c; have d2:decide ((c.toNat:Int)<=122)=_:=xf 122 c; have d3:decide ((65:Int)<=(c.toNat:Int))=_:=xg 65 c; have d4:decide ((c.toNat:Int)<=90)=_:=xf 90 c; simp only [h1,h2,h3,h4,decide_true,decide_false] at d1 d2 d3 d4
  go_enter Tryz.func51,Tryz.ntmps51
  go_wp2_with fail
  go_ret; exact ⟨rfl,rfl⟩
theorem iK (c:UInt8) (w:World):Calls Tryz.prog 53 #[bv c] w fun e w'=>e=.returned (.bool (dE c))/\w'=w:=by
 by_cases h1:48<=c.toNat <;> by_cases h2:c.toNat<=57 <;> try omega
 all_goals
  obtain ⟨r,hr⟩:∃ r,r=dE c:=⟨_,rfl⟩; have hr2:=hr; simp only [dE,h1,h2,decide_true,decide_false,Bool.and_true,Bool.and_false,Bool.or_false,Bool.or_true,Bool.false_and,Bool.true_and,Bool.false_or,Bool.true_or] at hr2; rw [← hr]; clear hr; subst hr2; have d1:decide ((48:Int)<=(c.toNat:Int))=_:=xg 48 c; have d2:decide ((c.toNat:Int)<=57)=_:=xf 57 c; simp only [h1,h2,decide_true,decide_false] at d1 d2
  go_enter Tryz.func53,Tryz.ntmps53
  go_wp2_with fail
  go_ret; exact ⟨rfl,rfl⟩
theorem mD (c:UInt8) (w:World):Calls Tryz.prog 110 #[bv c] w fun e w'=>e=.returned (.bool (bP c))/\w'=w:=by
 have hl:=hid (ib c w); have hd:=hid (iK c w); by_cases h3:c=95
 ·subst h3
  obtain ⟨r,hr⟩:∃ r,r=bP 95:=⟨_,rfl⟩
  have h2:r=true:=by rw [hr]; decide
  have e1:cL 95=false:=by decide
  have e2:dE 95=false:=by decide
  rw [← hr]; subst h2; clear hr; rw [e1] at hl; rw [e2] at hd
  go_enter Tryz.func110,Tryz.ntmps110
  go_wp2_with fail
  refine hl.out.mono ?_; rintro e w1 ⟨rfl,rfl⟩
  go_wp2_with fail
  refine hd.out.mono ?_; rintro e w1 ⟨rfl,rfl⟩
  go_wp2_with fail
  go_ret; exact ⟨rfl,rfl⟩
 ·have hne:((c.toNat:Int) == 95)=false:=by
   rw [beq_eq_false_iff_ne]; intro e; exact h3 (UInt8.toNat_inj.1 (by show c.toNat=95; omega))
  have hne2:¬ ((c.toNat:Int)=95):=by simpa using hne
  have hne3:¬ c.toNat=95:=by omega
  obtain ⟨r,hr⟩:∃ r,r=bP c:=⟨_,rfl⟩
  have hr2:r=(cL c || dE c):=by rw [hr]; simp [bP,h3]
  rw [← hr]; clear hr; generalize cL c=a at *; generalize dE c=b at *; cases a <;> cases b <;> simp only [Bool.or_false,Bool.or_true] at hr2 <;> subst hr2
  all_goals
   go_enter Tryz.func110,Tryz.ntmps110
   go_wp2_with fail
   refine hl.out.mono ?_; rintro e w1 ⟨rfl,rfl⟩
   go_wp2_with fail
   try
    refine hd.out.mono ?_; rintro e w1 ⟨rfl,rfl⟩;go_wp2_with fail
   go_ret; exact ⟨rfl,rfl⟩
theorem mE (s:List UInt8) (w:World):Calls Tryz.prog 86 #[sv s] w fun e w'=>e=.returned (.bool (eO s))/\w'=w:=by
 go_enter Tryz.func86,Tryz.ntmps86
 go_wp2_with fail
 all_goals first
  | (exfalso; simp_all; done)
  | (go_ret; exact ⟨by simp_all [eO,pV],rfl⟩)
theorem jh {s:List UInt8} {k:Nat} {c:UInt8} (hc:s[k]? = some c) (p:UInt8->Bool):(s.take (k+1)).all p=((s.take k).all p && p c):=by
 rw [List.take_add_one,hc]; simp [List.all_append]
theorem iR {s:List UInt8} {k:Nat} {c:UInt8} (hc:s[k]? = some c) {p:UInt8->Bool} (h:p c=false):s.all p=false:=by
 rw [Bool.eq_false_iff]; intro h2; rw [List.all_eq_true] at h2; have:=h2 c (zU hc); rw [h] at this; cases this
theorem r_ (s:List UInt8) (w:World) (hs:s.length<=140737488355328):Calls Tryz.prog 129 #[sv s] w fun e w'=>e=.returned (.bool (iJ s))/\w'=w:=by
 rcases s with _ | ⟨c,r⟩
 ·go_enter Tryz.func129,Tryz.ntmps129
  go_wp2_with fail
  go_ret; exact ⟨rfl,rfl⟩
 ·have hix:=f8 (P:=Tryz.prog) 9 (by kernel_rfl) c r
  have hle:=hid (ib c w)
  cases hcl:cL c with
  | false =>
   have hn:iJ (c::r)=false:=by simp [iJ,hcl]
   rw [hn]; rw [hcl] at hle; clear hn hcl
   go_enter Tryz.func129,Tryz.ntmps129
   go_wp2_with fail
   refine hle.out.mono ?_; rintro e w1 ⟨rfl,rfl⟩
   go_wp2_with fail
   go_ret; exact ⟨rfl,rfl⟩
  | true =>
   have hn:iJ (c::r)=(c::r).all bP:=by simp [iJ,hcl]
   rw [hn]; rw [hcl] at hle; generalize hres:(c::r).all bP=res; replace hres:=hid hres; clear hn hcl
   have hsz:(ByteArray.mk (c::r).toArray).size=(c::r).length:=by rw [ByteArray.size_mk',List.size_toArray]
   go_enter Tryz.func129,Tryz.ntmps129
   go_wp2_with fail
   refine hle.out.mono ?_; rintro e w1 ⟨rfl,rfl⟩; clear hix hle; generalize c::r=s at *
   go_wp2_with fail
   go_loop [14] (fun i=>∃ k:Nat,i=.int .i64 k/\k<=s.length/\Hid ((s.take k).all bP=true)) (fun i=>s.length - (intOf i).toNat)
   case atStart=>exact ⟨0,rfl,zW _,hid rfl⟩
   case round =>
    obtain ⟨k,rfl,hk,hall⟩:=hrel; by_cases hlt:k < s.length
    ·have q1:decide ((k:Int) < (s.length:Int))=true:=zP (by omega)
     have q1':decide (k < s.length)=true:=zP hlt;(have q1i:(k:Int) < (s.length:Int):=by omega);obtain ⟨d,hd⟩:∃ d,s[k]? = some d:=⟨_,zR hlt⟩; have hix:=eP (P:=Tryz.prog) 9 (by kernel_rfl) s k d hd; have hw:=hid (fun W=>mD d W); have hst:=jh hd bP; rw [hall.out,Bool.true_and] at hst;(have hfl:=fun h=>iR hd (p:=bP) h);replace hst:=hid hst; replace hd:=hid hd
     cases hwd:bP d with
     | true =>
      rw [hwd] at hw hst; clear hwd hfl;go_wp2_with fail;refine (hw.out _).mono ?_; rintro e w1 ⟨rfl,rfl⟩;go_wp2_with fail;exact ⟨⟨k+1,by go_num,by omega,hst⟩,by simp [intOf]; omega⟩
     | false =>
      have hv:=hid (hres.out.symm.trans (hfl hwd)); rw [hwd] at hw; clear hwd hfl hst;go_wp2_with fail;refine (hw.out _).mono ?_; rintro e w1 ⟨rfl,rfl⟩;go_wp2_with fail;go_ret; exact ⟨by rw [hv.out]; rfl,rfl⟩
    ·have hk2:k=s.length:=by omega
     subst hk2;(have q1:decide ((s.length:Int) < (s.length:Int))=false:=by simp);have hv:=hall.out; rw [List.take_length] at hv; replace hv:=hid (hres.out.symm.trans hv); clear hall hk hlt;go_wp2_with fail;go_ret; exact ⟨by rw [hv.out]; rfl,rfl⟩
theorem ou (c:UInt8) (w:World):Calls Tryz.prog 84 #[bv c] w fun e w'=>e=.returned (.tuple #[bv ((jL c).getD 0),.bool (jL c).isSome])/\w'=w:=by
 by_cases h1:c=110
 ·subst h1
  go_enter Tryz.func84,Tryz.ntmps84
  go_wp2_with fail
  go_ret2
  exact ⟨rfl,rfl⟩
 ·by_cases h2:c=116
  ·subst h2
   go_enter Tryz.func84,Tryz.ntmps84
   go_wp2_with fail
   go_ret2
   exact ⟨rfl,rfl⟩
  ·by_cases h3:c=34
   ·subst h3
    go_enter Tryz.func84,Tryz.ntmps84;go_wp2_with fail;go_ret2;exact ⟨rfl,rfl⟩
   ·by_cases h4:c=92
    ·subst h4
     go_enter Tryz.func84,Tryz.ntmps84;go_wp2_with fail;go_ret2;exact ⟨rfl,rfl⟩
    ·have e:jL c=none:=by simp [jL,h1,h2,h3,h4]
     rw [e];(have b1:((c.toNat:Int) == 110)=false:=by rw [beq_eq_false_iff_ne]; intro e; exact h1 (UInt8.toNat_inj.1 (by show c.toNat=110; omega)));(have b2:((c.toNat:Int) == 116)=false:=by rw [beq_eq_false_iff_ne]; intro e; exact h2 (UInt8.toNat_inj.1 (by show c.toNat=116; omega)));(have b3:((c.toNat:Int) == 34)=false:=by rw [beq_eq_false_iff_ne]; intro e; exact h3 (UInt8.toNat_inj.1 (by show c.toNat=34; omega)));(have b4:((c.toNat:Int) == 92)=false:=by rw [beq_eq_false_iff_ne]; intro e; exact h4 (UInt8.toNat_inj.1 (by show c.toNat=92; omega)));clear h1 h2 h3 h4 e;go_enter Tryz.func84,Tryz.ntmps84;go_wp2_with fail;go_ret2;exact ⟨rfl,rfl⟩
theorem m_ (s:List UInt8) (w:World):Calls Tryz.prog 40 #[sv s,sv [47,47]] w fun e w'=>e=.returned (.bool (decide (s.take 2=[47,47])))/\w'=w:=by
 refine (Tryz.strings_HasPrefix ⟨s.toArray⟩ ⟨[47,47].toArray⟩ w).mono ?_; rintro e w' ⟨rfl,rfl⟩; refine ⟨?_,rfl⟩; show Ending.returned (.bool ([47,47].isPrefixOf s))=_
 congr 2
 rcases s with _ | ⟨a,_ | ⟨b,r⟩⟩
 ·rfl
 ·simp [List.isPrefixOf]
 ·simp only [List.isPrefixOf,List.take_succ_cons,List.take_zero,Bool.and_true]
  rw [Bool.eq_iff_iff]; simp; constructor
  ·rintro ⟨rfl,rfl⟩; exact ⟨rfl,rfl⟩
  ·rintro ⟨rfl,rfl⟩; exact ⟨rfl,rfl⟩
end Go.Proofs.YtffdpoifdahadaaGreatDoor
namespace Go.Proofs.YtffdpoifdahadaaGreatDoor
open Go.RowKit
open Go.Lib (hid byteCells)
def Sc (b:Nat) (s:List UInt8) (k:Nat) (w:World):Prop:=w.heap[b]? = some (.cells #[sv s,iv k] 121 (0,0))
theorem Sc.c0 {b:Nat} {s:List UInt8} {k:Nat} {w:World} (h:Sc b s k w):w.cell? ⟨b,0,none⟩=some (sv s):=by rw [aj h]; rfl
theorem Sc.c1 {b:Nat} {s:List UInt8} {k:Nat} {w:World} (h:Sc b s k w):w.cell? ⟨b,1,none⟩=some (iv k):=by rw [aj h]; rfl
theorem Sc.f {b:Nat} {s:List UInt8} {k:Nat} {w:World} (h:Sc b s k w) (i:Nat):w.frozen? ⟨b,i,none⟩=false:=bX h
theorem Sc.set {b:Nat} {s:List UInt8} {k:Nat} {w:World} (h:Sc b s k w) (n:Nat):Sc b s n (w.setCell ⟨b,1,none⟩ (iv n)):=aC h _
theorem Sc.fr {b:Nat} {s:List UInt8} {k:Nat} {w w':World} (h:Sc b s k w) {S:Nat->Prop} (hf:Fr S w w') (hs:¬ S b):Sc b s k w':=hf.keep h hs
theorem Sc.below {b:Nat} {s:List UInt8} {k:Nat} {w w':World} (h:Sc b s k w) (hf:Below w.heap.size w w'):Sc b s k w':=an hf h (ae h)
theorem cU {S:Nat->Prop} {w w':World} (h:Fr S w w') (n:Nat):Fr S w (w'.drewN n):=⟨h.os,h.tape,h.output,h.size,h.block⟩
theorem j9 {b:Nat} {w w':World} (h:Fr (one b) w w') (i:Nat) (v:Value):Fr (one b) w (w'.setCell ⟨b,i,none⟩ v):=h.setCell (p:=⟨b,i,none⟩) (Or.inl rfl) v
theorem kc {s:List UInt8} {k:Nat} {c:UInt8} (h:s[k]? = some c):s.drop k=c::s.drop (k+1):=by
 obtain ⟨hk,rfl⟩:=List.getElem?_eq_some_iff.1 h; exact Ac hk
theorem bn (c d:UInt8) (n:Nat) (hd:d.toNat=n) (h:c≠d):((c.toNat:Int) == (n:Int))=false/\¬ ((c.toNat:Int)=(n:Int))/\¬ c.toNat=n:=by
 have h3:¬ c.toNat=n:=fun e=>h (UInt8.toNat_inj.1 (e.trans hd.symm))
 have h2:¬ ((c.toNat:Int)=(n:Int)):=by omega
 exact ⟨by rw [beq_eq_false_iff_ne]; exact h2,h2,h3⟩
theorem tL {c:UInt8} {D r:List UInt8} (hD:D=c::r) (hw:j6 c=false) (hp:¬ D.take 2=[47,47]):bo false D=D:=by
 subst hD; rw [bo,if_neg (by rw [hw]; decide),if_neg]; rintro ⟨rfl,h2⟩; apply hp
 cases r with
 | nil=>simp at h2
 | cons d r=>simp at h2; subst h2; rfl
theorem xR {D:List UInt8} (hp:D.take 2=[47,47]):bo false D=bo true D/\D.head? = some 47:=by
 match D,hp with
 | a::b::r,hp =>
  simp at hp; obtain ⟨rfl,rfl⟩:=hp; exact ⟨rfl,rfl⟩
theorem vw (b:Nat) (s:List UInt8) (k:Nat) (w:World) (hS:Sc b s k w) (hk:k<=s.length) (hs:s.length<=140737488355328) :
  Calls Tryz.prog 50 #[pt b] w fun e w'=>e=.returned (.tuple #[])/\Sc b s (s.length - (bo false (s.drop k)).length) w'/\Fr (one b) w w':=by
 obtain ⟨T,hT⟩:∃ T,T=bo false (s.drop k):=⟨_,rfl⟩; rw [← hT]
 go_enter Tryz.func50,Tryz.ntmps50
 go_wp2_with fail
 go_loopg [2] (s.length - k) (fun g _ wr=>∃ k':Nat,k'+g=s.length/\Hid (bo false (s.drop k')=T)/\Hid (Sc b s k' wr)/\Hid (Fr (one b) w wr))
 case atStart=>exact ⟨k,by omega,hid hT.symm,hid hS,hid (Fr.refl _ _)⟩
 case round =>
  clear hS hT; obtain ⟨k',hkg,hT,hS,hF⟩:=hrel; have c0:=hS.out.c0; have c1:=hS.out.c1; by_cases hlt:k' < s.length
  ·have q1:decide ((k':Int) < (s.length:Int))=true:=zP (by omega)
   have q1':decide (k' < s.length)=true:=zP hlt
   have q1i:(k':Int) < (s.length:Int):=by omega
   have q0i:(0:Int)<=(k':Int):=by omega
   obtain ⟨c,hc⟩:∃ c,s[k']? = some c:=⟨_,zR hlt⟩; have hix:=eP (P:=Tryz.prog) 9 (by kernel_rfl) s k' c hc
   go_wp2_with fail
   go_quiet (fail)
   replace hS:=hid (show Sc b s k' (wr.drewN nq) from hS.out); replace hF:=hid (cU hF.out nq); clear c0 c1; generalize wr.drewN nq=w1 at *; have c0:=hS.out.c0; have c1:=hS.out.c1
   go_wp2_with fail
   go_quiet (fail)
   replace hS:=hid (show Sc b s k' (w1.drewN nq) from hS.out); replace hF:=hid (cU hF.out nq); clear c0 c1; generalize w1.drewN nq=w2 at *; have c0:=hS.out.c0; have c1:=hS.out.c1; have f1:=hS.out.f 1; have e1:IntKind.i64.wrap ((k':Int)+1)=(k':Int)+1:=c_ _ (by omega) (by omega); have hd:=kc hc
   have hcs:c=9\/c=10\/c=13\/c=32\/j6 c=false:=by
    by_cases a1:c=9; exact Or.inl a1; by_cases a2:c=10; exact Or.inr (Or.inl a2); by_cases a3:c=13; exact Or.inr (Or.inr (Or.inl a3)); by_cases a4:c=32; exact Or.inr (Or.inr (Or.inr (Or.inl a4))); exact Or.inr (Or.inr (Or.inr (Or.inr (by simp [j6,a1,a2,a3,a4]))))
   have hstep:j6 c=true->Hid (bo false (s.drop (k'+1))=T):=fun hw=>hid (by rw [← hT.out,hd,bo,if_pos hw])
   have hset:=hid (hS.out.set (k'+1)); have hFs:=hid (j9 hF.out 1 (iv (k'+1:Nat)))
   have hpush:((k'+1:Nat):Int)=(k':Int)+1:=by omega
   rw [hpush] at hset hFs; replace hc:=hid hc; replace hd:=hid hd; clear hpush; rcases hcs with rfl | rfl | rfl | rfl | hw
   rotate_left 4
   ·clear hstep hset hFs e1 f1
    obtain ⟨b1,b1',b1''⟩:((c.toNat:Int) == 9)=false/\¬ ((c.toNat:Int)=9)/\¬ c.toNat=9:=bn c 9 9 rfl (by rintro rfl; exact absurd hw (by decide)); obtain ⟨b2,b2',b2''⟩:((c.toNat:Int) == 10)=false/\¬ ((c.toNat:Int)=10)/\¬ c.toNat=10:=bn c 10 10 rfl (by rintro rfl; exact absurd hw (by decide)); obtain ⟨b3,b3',b3''⟩:((c.toNat:Int) == 13)=false/\¬ ((c.toNat:Int)=13)/\¬ c.toNat=13:=bn c 13 13 rfl (by rintro rfl; exact absurd hw (by decide)); obtain ⟨b4,b4',b4''⟩:((c.toNat:Int) == 32)=false/\¬ ((c.toNat:Int)=32)/\¬ c.toNat=32:=bn c 32 32 rfl (by rintro rfl; exact absurd hw (by decide)); have hps:=hid (fun W=>m_ (s.drop k') W); have hex:=mK s k';(have hk'i:(k':Int)<=(s.length:Int):=by omega);generalize hD:s.drop k'=D at *;go_wp2_with fail
    by_cases hp:D.take 2=[47,47]
    ·obtain ⟨hcm,h47⟩:=xR hp
     have hT2:=hid (hcm.symm.trans hT.out); rw [show decide (D.take 2=[47,47])=true from zP hp] at hps;(have hc47:c=47:=by rw [hd.out] at h47; simpa using h47);clear hp hcm h47
     go_quiet (first | (go_at_call 40; refine Calls.quiet_of_same (hps.out _)))
     replace hS:=hid (show Sc b s k' (w2.drewN nq) from hS.out); replace hF:=hid (cU hF.out nq); clear c0 c1 hix b1 b1' b1'' b2 b2' b2'' b3 b3' b3'' b4 b4' b4'' hps hex hw; generalize w2.drewN nq=w3 at *; generalize gk=go at *; subst hD; subst hc47;go_wp2_with fail
     go_loopg [76] (s.length - k') (fun g _ wr=>∃ k2:Nat,k2+g=s.length/\k'<=k2/\Hid (bo true (s.drop k2)=T)/\Hid (Sc b s k2 wr)/\Hid (Fr (one b) w wr))
     case atStart=>exact ⟨k',by omega,zM _,hT2,hS,hF⟩
     case round =>
      clear hS hF hT2 hd hk'i; obtain ⟨k2,hg2,hk2,hT2,hS,hF⟩:=hrel; have c0:=hS.out.c0; have c1:=hS.out.c1; by_cases hl2:k2 < s.length
      ·have p1:decide ((k2:Int) < (s.length:Int))=true:=zP (by omega)
       (have p1i:(k2:Int) < (s.length:Int):=by omega);obtain ⟨d,hdd⟩:∃ d,s[k2]? = some d:=⟨_,zR hl2⟩; have hix:=eP (P:=Tryz.prog) 9 (by kernel_rfl) s k2 d hdd; have hd2:=kc hdd; have e2:IntKind.i64.wrap ((k2:Int)+1)=(k2:Int)+1:=c_ _ (by omega) (by omega); by_cases h10:d=10
       ·subst h10
        (have hkk:k'≠k2:=by rintro rfl; rw [hc.out] at hdd; simp at hdd);have hT3:=hid (show bo false (s.drop k2)=T by rw [← hT2.out,hd2]; rfl); replace hdd:=hid hdd; clear hd2;go_wp2_with fail;go_quiet (fail);replace hS:=hid (show Sc b s k2 (wr.drewN nq) from hS.out); replace hF:=hid (cU hF.out nq);go_wp2_with fail
        go_roundg (s.length - k2)
        case measure=>omega
        case rel=>exact ⟨k2,by omega,hT3,hS,hF⟩
       ·obtain ⟨b1,b1',b1''⟩:((d.toNat:Int) == 10)=false/\¬ ((d.toNat:Int)=10)/\¬ d.toNat=10:=bn d 10 10 rfl h10
        have hT3:=hid (show bo true (s.drop (k2+1))=T by rw [← hT2.out,hd2,bo,if_neg h10]); replace hdd:=hid hdd; clear hd2;go_wp2_with fail;go_quiet (fail);replace hS:=hid (show Sc b s k2 (wr.drewN nq) from hS.out); replace hF:=hid (cU hF.out nq); clear c0 c1; generalize wr.drewN nq=w4 at *; have c0:=hS.out.c0; have c1:=hS.out.c1; have f1:=hS.out.f 1; have hset:=hid (hS.out.set (k2+1)); have hFs:=hid (j9 hF.out 1 (iv (k2+1:Nat))); rw [show ((k2+1:Nat):Int)=(k2:Int)+1 by omega] at hset hFs;go_wp2_with fail
        go_roundg (gk - 1)
        case measure=>omega
        case rel=>exact ⟨k2+1,by omega,by omega,hT3,hset,hFs⟩
      ·have p1:decide ((k2:Int) < (s.length:Int))=false:=zO (by omega)
       (have hkl:k2=s.length:=by omega);have hT3:=hid (show bo false (s.drop k2)=T by rw [← hT2.out,hkl,List.drop_length]; rfl);(have hkk:k'≠k2:=by omega);go_wp2_with fail;go_quiet (fail);replace hS:=hid (show Sc b s k2 (wr.drewN nq) from hS.out); replace hF:=hid (cU hF.out nq);go_wp2_with fail
       go_roundg (s.length - k2)
       case measure=>omega
       case rel=>exact ⟨k2,by omega,hT3,hS,hF⟩
    ·have hst:=tL hd.out hw hp
     rw [show decide (D.take 2=[47,47])=false from zO hp] at hps
     have hlen:s.length - T.length=k':=by
      rw [← hT.out,hst,← hD,List.length_drop]; omega
     clear hp hst
     go_quiet (first | (go_at_call 40; refine Calls.quiet_of_same (hps.out _)))
     replace hS:=hid (show Sc b s k' (w2.drewN nq) from hS.out); replace hF:=hid (cU hF.out nq);go_wp2_with fail;refine bodyPost_ret (v:=.tuple #[]) (results_none rfl _ _ _) rfl ⟨rfl,by rw [hlen]; exact hS.out,hF.out⟩
   all_goals
    have hst:=hstep (by decide); clear hstep hix;go_wp2_with fail
    go_roundg (gk - 1)
    case measure=>omega
    case rel=>exact ⟨k'+1,by omega,hst,hset,hFs⟩
  ·have q1:decide ((k':Int) < (s.length:Int))=false:=zO (by omega)
   have hkl:k'=s.length:=by omega
   have hlen:s.length - T.length=k':=by
    rw [← hT.out,hkl,List.drop_length]; simp [bo]
   go_wp2_with fail
   go_quiet (fail)
   replace hS:=hid (show Sc b s k' (wr.drewN nq) from hS.out); replace hF:=hid (cU hF.out nq)
   go_wp2_with fail
   go_end0
   exact ⟨rfl,by rw [hlen]; exact hS.out,hF.out⟩
theorem lk {p:UInt8->Bool} {D U r:List UInt8} (hD:D=U++r) (hU:U.all p=true) (hr:∀ c,r.head? = some c->p c=false):D.takeWhile p=U/\D.dropWhile p=r:=by
 subst hD
 induction U with
 | nil =>
  cases r with
  | nil=>exact ⟨rfl,rfl⟩
  | cons c r =>
   have:=hr c rfl; simp [this]
 | cons a U ih =>
  simp only [List.all_cons,Bool.and_eq_true] at hU; have:=ih hU.2; simp [hU.1,this.1,this.2]
theorem oX (s U r:List UInt8) (k k2:Nat) (h:s.drop k=U++r) (hk:k+U.length=k2):(ByteArray.mk s.toArray).extract k k2=⟨U.toArray⟩:=by
 rw [ByteArray.extract_mk]
 congr 1
 apply Array.toList_inj.1; simp only [Array.toList_extract,List.extract_eq_take_drop]; rw [show (k2 - k)=U.length by omega,h]; simp
theorem pf (b:Nat) (s:List UInt8) (k:Nat) (w:World) (hS:Sc b s k w) (hk:k<=s.length) (hs:s.length<=140737488355328) :
  Calls Tryz.prog 83 #[pt b] w fun e w'=>e=.returned (sv ((s.drop k).takeWhile bP))/\Sc b s (s.length - ((s.drop k).dropWhile bP).length) w'/\Fr (one b) w w':=by
 obtain ⟨T,hT⟩:∃ T,T=(s.drop k).takeWhile bP:=⟨_,rfl⟩; obtain ⟨R,hR⟩:∃ R,R=(s.drop k).dropWhile bP:=⟨_,rfl⟩; rw [← hT,← hR]; replace hT:=hid hT; replace hR:=hid hR; have c0:=hS.c0; have c1:=hS.c1; replace hS:=hid hS
 go_enter Tryz.func83,Tryz.ntmps83
 go_wp2_with fail
 go_loopg [29] (s.length - k) (fun g _ wr=>∃ (k2:Nat) (U:List UInt8),k2+g=s.length/\k+U.length=k2/\Hid (s.drop k=U++s.drop k2)/\Hid (U.all bP=true)/\Hid (Sc b s k2 wr)/\Hid (Fr (one b) w wr))
 case atStart=>exact ⟨k,[],by omega,rfl,hid rfl,hid rfl,hS,hid (Fr.refl _ _)⟩
 case round =>
  clear hS c0 c1; obtain ⟨k2,U,hg,hkU,hU,hall,hS,hF⟩:=hrel; have c0:=hS.out.c0; have c1:=hS.out.c1; by_cases hlt:k2 < s.length
  ·have q1:decide ((k2:Int) < (s.length:Int))=true:=zP (by omega)
   have q1i:(k2:Int) < (s.length:Int):=by omega
   obtain ⟨c,hc⟩:∃ c,s[k2]? = some c:=⟨_,zR hlt⟩; have hix:=eP (P:=Tryz.prog) 9 (by kernel_rfl) s k2 c hc; have hd:=hid (kc hc); have hw:=hid (fun W=>mD c W); clear hc; have e1:IntKind.i64.wrap ((k2:Int)+1)=(k2:Int)+1:=c_ _ (by omega) (by omega)
   cases hwd:bP c with
   | true =>
    rw [hwd] at hw; have hU2:=hid (show s.drop k=(U++[c])++s.drop (k2+1) by rw [hU.out,hd.out]; simp); have hall2:=hid (show (U++[c]).all bP=true by rw [List.all_append,hall.out]; simp [hwd]);(have hlen2:k+(U++[c]).length=k2+1:=by rw [zQ]; simp; omega);clear hwd;go_wp2_with fail
    go_quiet (first | (go_at_call 110; refine Calls.quiet_of_same (hw.out _)))
    replace hS:=hid (show Sc b s k2 (wr.drewN nq) from hS.out); replace hF:=hid (cU hF.out nq); clear c0 c1; generalize wr.drewN nq=w4 at *; have c0:=hS.out.c0; have c1:=hS.out.c1; have f1:=hS.out.f 1; have hset:=hid (hS.out.set (k2+1)); have hFs:=hid (j9 hF.out 1 (iv (k2+1:Nat))); rw [show ((k2+1:Nat):Int)=(k2:Int)+1 by omega] at hset hFs;go_wp2_with fail
    go_roundg (gk - 1)
    case measure=>omega
    case rel=>exact ⟨k2+1,U++[c],by omega,hlen2,hU2,hall2,hset,hFs⟩
   | false =>
    rw [hwd] at hw; obtain ⟨t1,t2⟩:=lk hU.out hall.out (fun x hx=>by rw [hd.out] at hx; simp at hx; subst hx; exact hwd); have hex:=oX s U (s.drop k2) k k2 hU.out hkU; have hTU:T=U:=hT.out.trans t1;(have hRl:s.length - R.length=k2:=by rw [hR.out,t2,List.length_drop]; omega);(have l1:(k:Int)<=(k2:Int):=by omega);(have l2:(k2:Int)<=(s.length:Int):=by omega);replace hTU:=hid hTU; clear hwd t1 t2;go_wp2_with fail
    go_quiet (first | (go_at_call 110; refine Calls.quiet_of_same (hw.out _)))
    replace hS:=hid (show Sc b s k2 (wr.drewN nq) from hS.out); replace hF:=hid (cU hF.out nq); clear c0 c1; generalize wr.drewN nq=w4 at *; have c0:=hS.out.c0; have c1:=hS.out.c1;go_wp2_with fail;go_quiet (fail);replace hS:=hid (show Sc b s k2 (w4.drewN nq) from hS.out); replace hF:=hid (cU hF.out nq);go_wp2_with fail;go_ret; exact ⟨by rw [hTU.out]; rfl,by rw [hRl]; exact hS.out,hF.out⟩
  ·have q1:decide ((k2:Int) < (s.length:Int))=false:=zO (by omega)
   have hkl:k2=s.length:=by omega
   obtain ⟨t1,t2⟩:=lk hU.out hall.out (fun x hx=>by rw [hkl,List.drop_length] at hx; simp at hx); have hex:=oX s U (s.drop k2) k k2 hU.out hkU; have hTU:T=U:=hT.out.trans t1
   have hRl:s.length - R.length=k2:=by rw [hR.out,t2,List.length_drop]; omega
   have l1:(k:Int)<=(k2:Int):=by omega
   have l2:(k2:Int)<=(s.length:Int):=by omega
   replace hTU:=hid hTU; clear t1 t2; subst hkl
   go_wp2_with fail
   go_quiet (fail)
   replace hS:=hid (show Sc b s s.length (wr.drewN nq) from hS.out); replace hF:=hid (cU hF.out nq); clear c0 c1; generalize wr.drewN nq=w4 at *; have c0:=hS.out.c0; have c1:=hS.out.c1
   go_wp2_with fail
   go_quiet (fail)
   replace hS:=hid (show Sc b s s.length (w4.drewN nq) from hS.out); replace hF:=hid (cU hF.out nq)
   go_wp2_with fail
   go_ret; exact ⟨by rw [hTU.out]; rfl,by rw [hRl]; exact hS.out,hF.out⟩
end Go.Proofs.YtffdpoifdahadaaGreatDoor
namespace Go.Proofs.YtffdpoifdahadaaGreatDoor
open Go.RowKit
open Go.Lib (hid IsBuilder byteCells)

abbrev two (n:Int) (b:Bool):Value:=.tuple #[.int .i64 n,.bool b]
theorem vT:jp []=true:=by decide
theorem fP (c:UInt8) (r:List UInt8):gX (c::r)=decide (c=45):=by simp [gX]
theorem ly {c d:UInt8} (h:c≠d):((c.toNat:Int) == (d.toNat:Int))=false:=by
 simp only [beq_eq_false_iff_ne,ne_eq,Int.natCast_inj]; intro e; exact h (UInt8.toNat_inj.1 e)

abbrev optv (o:Option Int):Value:=two (o.getD 0) o.isSome

theorem t8 (s:List UInt8) (low high:Int) (w:World) (hb:jp s=true):Calls Tryz.prog 41 #[sv s,iv low,iv high] w fun e w'=>e=.returned (two 0 false)/\w=w':=by
 rcases s with _ | ⟨c,r⟩
 ·go_enter Tryz.func41,Tryz.ntmps41
  go_wp2
  go_ret2
  exact ⟨rfl,rfl⟩
 ·have hi:=f8 (P:=Tryz.prog) 9 (by kernel_rfl) c r
  by_cases hc:c=45
  ·subst hc
   rcases r with _ | ⟨d,r'⟩
   ·go_enter Tryz.func41,Tryz.ntmps41
    go_wp2;go_ret2;exact ⟨rfl,rfl⟩
   ·have hi2:=f8 (P:=Tryz.prog) 9 (by kernel_rfl) d r'
    have hd:d=48:=by
     unfold jp eZ at hb; rw [fP] at hb; simpa using hb
    subst hd; have hex:=uD 45 48 r';go_enter Tryz.func41,Tryz.ntmps41;go_wp2;go_ret2;exact ⟨rfl,rfl⟩
  ·have h45:((c.toNat:Int) == 45)=false:=ly hc
   have hd:c=48/\r≠[]:=by
    unfold jp eZ at hb; rw [fP,zO hc] at hb;(have hb':c=48/\(¬c=48\/¬r=[]):=by simpa using hb);exact ⟨hb'.1,by have:=hb'.1; have:=hb'.2; simp_all⟩
   obtain ⟨rfl,hr⟩:=hd; rcases r with _ | ⟨d,r'⟩
   ·exact absurd rfl hr
   ·clear hr
    go_enter Tryz.func41,Tryz.ntmps41;go_wp2;go_ret2;exact ⟨rfl,rfl⟩

theorem pu (l:List UInt8):(ByteArray.mk l.toArray).size=l.length:=by rw [ByteArray.size_mk',List.size_toArray]
theorem xO (l:List UInt8) (k:Nat) (c:UInt8) (h:k < (ByteArray.mk l.toArray).size) (hc:l[k]? = some c):(ByteArray.mk l.toArray)[k]'h=c:=by
 obtain ⟨hk,e⟩:=List.getElem?_eq_some_iff.1 hc; subst e; rfl
theorem vS (c:UInt8) (r:List UInt8) (n:Int):pgo (c::r) n=if dE c then (if n < (-9223372036854775808+((c.toNat:Int) - 48)).tdiv 10 then none else pgo r (n * 10 - ((c.toNat:Int) - 48))) else none:=rfl
theorem rC (s:List UInt8) (low high:Int) (hb:jp s=false):parse s low high=(pgo (eZ s) 0).bind fun n=>gf (gX s) n low high:=by unfold parse; rw [hb]; rfl

theorem vU (s:List UInt8) (low high:Int) (w:World) (hs:s.length<=140737488355328) (hb:jp s=false):Calls Tryz.prog 41 #[sv s,iv low,iv high] w fun e w'=>e=.returned (optv ((pgo (eZ s) 0).bind fun n=>gf (gX s) n low high))/\Below w.heap.size w w':=by
 rcases s with _ | ⟨c,r⟩
 ·rw [vT] at hb; cases hb
 ·have hi:=f8 (P:=Tryz.prog) 9 (by kernel_rfl) c r
  have hlen:(eZ (c::r)).length<=140737488355328:=by
   unfold eZ; split
   ·simp at hs ⊢; omega
   ·exact hs
  have hb0:=hb; unfold jp at hb; simp only [Bool.or_eq_false_iff,decide_eq_false_iff_not,Bool.and_eq_false_iff,Bool.not_eq_false'] at hb; obtain ⟨b1,b2⟩:=hb
  have key:∀ (d:List UInt8) (neg:Bool),d=eZ (c::r)->neg=gX (c::r)->True:=fun _ _ _ _=>trivial
  clear hb0
  go_enter Tryz.func41,Tryz.ntmps41
  go_upto_if 21 with (fail)
  go_cut [8,9] (fun d g w'=>d=sv (eZ (c::r))/\g=.bool (gX (c::r))/\w=w')
  case first =>
   by_cases hc:c=45
   ·subst hc
    (have e1:eZ ((45:UInt8)::r)=r:=by unfold eZ; rw [fP]; rfl);(have e2:gX ((45:UInt8)::r)=true:=by rw [fP]; rfl);replace e1:=hid e1; replace e2:=hid e2; have hex:=qv 45 r;go_wp2;go_meet
    case rel=>exact ⟨by rw [e1.out],by rw [e2.out],rfl⟩
   ·have h45:((c.toNat:Int) == 45)=false:=ly hc
    (have e1:eZ (c::r)=c::r:=by unfold eZ; rw [fP,zO hc]; rfl);(have e2:gX (c::r)=false:=by rw [fP,zO hc]);replace e1:=hid e1; replace e2:=hid e2;go_wp2;go_meet
    case rel=>exact ⟨by rw [e1.out],by rw [e2.out],rfl⟩
  case rest =>
   obtain ⟨rfl,rfl,rfl⟩:=hcut; clear key; generalize hpn:gX (c::r)=neg at *; generalize hpd:eZ (c::r)=d at *; replace hpn:=hid hpn; replace hpd:=hid hpd; rcases d with _ | ⟨x,t⟩
   ·exact absurd rfl b1
   ·have hix:=f8 (P:=Tryz.prog) 9 (by kernel_rfl) x t
    have hcase:((x.toNat:Int) == 48)=false\/(((x.toNat:Int) == 48)=true/\c=48/\r=[]):=by
     rcases b2 with b2 | b2
     ·left; exact ly (d:=48) (by intro e; subst e; exact b2 rfl)
     ·by_cases hx:x=48
      ·right; exact ⟨by subst hx; rfl,by simpa using b2⟩
      ·left; exact ly (d:=48) hx
    clear b1 b2; have hres0:=hid (show ∀ m,pgo (x::t) 0=some m->(pgo (eZ (c::r)) 0).bind (fun n=>gf (gX (c::r)) n low high)=gf neg m low high from fun m h=>by rw [hpd.out,hpn.out,h]; rfl); rcases hcase with h48 | ⟨h48,rfl,rfl⟩
    all_goals
     go_wp2_with fail;clear hix h48; generalize x::t=l at *;go_loopw [10] (fun n w'=>∃ (pos:Nat) (m:Int),w'=w.iter ⟨l.toArray⟩ pos/\n=.int .i64 m/\pos<=l.length/\-9223372036854775808<=m/\m<=0/\pgo l 0=pgo (l.drop pos) m) (fun _ w'=>l.length - w'.iterPos w.heap.size)
     case atStart=>exact ⟨0,0,rfl,rfl,zW _,by omega,by omega,rfl⟩
     case round =>
      obtain ⟨pos,m,rfl,rfl,hp,h0,h1,h2⟩:=hrel; by_cases hlt:pos < l.length
      ·obtain ⟨q,hq⟩:∃ q,l[pos]? = some q:=⟨_,zR hlt⟩
       (have hsz:pos < (ByteArray.mk l.toArray).size:=by rw [pu]; exact hlt);have hget:=xO l pos q hsz hq
       have hdrop:l.drop pos=q::l.drop (pos+1):=by
        obtain ⟨_,e⟩:=List.getElem?_eq_some_iff.1 hq; rw [Ac hlt,e]
       rw [hdrop,vS] at h2; clear hdrop hq; have hq256:q.toNat < 256:=q.toNat_lt
       cases hdg:dE q with
       | true =>
        have hdg2:=(dP q).1 hdg; obtain ⟨hg1,hg2⟩:=hdg2;(have hnx:∀ ty,(Instr.next (.pointer (some ⟨w.heap.size,0,none⟩)) true ty).run Tryz.prog (w.iter ⟨l.toArray⟩ pos)=_:=fun ty=>run_next_ascii w ⟨l.toArray⟩ pos ty hsz (by rw [hget]; omega));rw [hget] at hnx; clear hget; rw [hdg,if_pos rfl] at h2; have hst:=pE (c:=q) (n:=m) hdg h1; by_cases hov:m < (-9223372036854775808+((q.toNat:Int) - 48)).tdiv 10
        ·rw [if_pos hov] at h2
         replace h2:=hid h2; clear hst hdg;go_wp2;go_ret2;exact ⟨by rw [hpd.out,h2.out]; rfl,(zN _ _).alloc (zM _) _⟩
        ·rw [if_neg hov] at h2
         replace h2:=hid h2; have hst2:=hst hov; obtain ⟨hs1,hs2⟩:=hst2; clear hst hdg;go_wp2;go_roundw
         case rel=>exact ⟨pos+1,_,rfl,rfl,by omega,hs1,hs2,h2.out⟩
         case measure=>simp; omega
       | false =>
        rw [hdg,if_neg (by simp)] at h2; replace h2:=hid h2
        have hnd:q.toNat < 48\/(57 < q.toNat/\q.toNat < 128)\/128<=q.toNat:=by
         have:=dP q; rw [hdg] at this; simp at this; omega
        clear hdg; rcases hnd with hnd | hnd | hnd
        ·have hnx:∀ ty,(Instr.next (.pointer (some ⟨w.heap.size,0,none⟩)) true ty).run Tryz.prog (w.iter ⟨l.toArray⟩ pos)=_:=fun ty=>run_next_ascii w ⟨l.toArray⟩ pos ty hsz (by rw [hget]; omega)
         rw [hget] at hnx; clear hget;go_wp2;go_ret2;exact ⟨by rw [hpd.out,h2.out]; rfl,(zN _ _).alloc (zM _) _⟩
        ·obtain ⟨hn1,hn2⟩:=hnd
         (have hnx:∀ ty,(Instr.next (.pointer (some ⟨w.heap.size,0,none⟩)) true ty).run Tryz.prog (w.iter ⟨l.toArray⟩ pos)=_:=fun ty=>run_next_ascii w ⟨l.toArray⟩ pos ty hsz (by rw [hget]; omega));rw [hget] at hnx; clear hget;go_wp2;go_ret2;exact ⟨by rw [hpd.out,h2.out]; rfl,(zN _ _).alloc (zM _) _⟩
        ·have hnx:∀ ty,(Instr.next (.pointer (some ⟨w.heap.size,0,none⟩)) true ty).run Tryz.prog (w.iter ⟨l.toArray⟩ pos)=_:=fun ty=>run_next_any w ⟨l.toArray⟩ pos ty hsz
         have hh:=(decode_high ⟨l.toArray⟩ pos hsz (by rw [hget]; exact hnd)).1; clear hget; generalize Utf8.decode ⟨l.toArray⟩ pos=rn at *;go_wp2;go_ret2;exact ⟨by rw [hpd.out,h2.out]; rfl,(zN _ _).alloc (zM _) _⟩
      ·have hpl:pos=l.length:=by omega
       rw [hpl,List.drop_length] at h2; have h3:pgo l 0=some m:=h2;(have hnx:∀ ty,(Instr.next (.pointer (some ⟨w.heap.size,0,none⟩)) true ty).run Tryz.prog (w.iter ⟨l.toArray⟩ pos)=_:=fun ty=>run_next_end w ⟨l.toArray⟩ pos ty (by rw [pu]; exact hlt));clear h2; subst hpl; have hres:=hres0.out m h3; replace hres:=hid hres; clear h3
       cases neg with
       | true =>
        by_cases k1:m < low
        ·have hp:gf true m low high=none:=by simp [gf,k1]
         replace hp:=hid hp;go_wp2;go_ret2;exact ⟨by rw [hres.out,hp.out]; rfl,(zN _ _).alloc (zM _) _⟩
        ·by_cases k2:high < m
         ·have hp:gf true m low high=none:=by simp [gf,k2]
          replace hp:=hid hp;go_wp2;go_ret2;exact ⟨by rw [hres.out,hp.out]; rfl,(zN _ _).alloc (zM _) _⟩
         ·have hp:gf true m low high=some m:=by simp [gf,k1,k2]
          replace hp:=hid hp;go_wp2;go_ret2;exact ⟨by rw [hres.out,hp.out]; rfl,(zN _ _).alloc (zM _) _⟩
       | false =>
        by_cases k0:m = -9223372036854775808
        ·subst k0
         (have hp:gf false (-9223372036854775808) low high=none:=by simp [gf]);replace hp:=hid hp;go_wp2;go_ret2;exact ⟨by rw [hres.out,hp.out]; rfl,(zN _ _).alloc (zM _) _⟩
        ·have k0':(m == -9223372036854775808)=false:=by simpa using k0
         by_cases k1:-m < low
         ·have hp:gf false m low high=none:=by simp [gf,k0,k1]
          replace hp:=hid hp;(have k3:-9223372036854775808 < m:=by omega);clear k0;go_wp2;go_ret2;exact ⟨by rw [hres.out,hp.out]; rfl,(zN _ _).alloc (zM _) _⟩
         ·by_cases k2:high < -m
          ·have hp:gf false m low high=none:=by simp [gf,k0,k2]
           replace hp:=hid hp;(have k3:-9223372036854775808 < m:=by omega);clear k0;go_wp2;go_ret2;exact ⟨by rw [hres.out,hp.out]; rfl,(zN _ _).alloc (zM _) _⟩
          ·have hp:gf false m low high=some (-m):=by simp [gf,k0,k1,k2]
           replace hp:=hid hp;(have k3:-9223372036854775808 < m:=by omega);clear k0;go_wp2;go_ret2;exact ⟨by rw [hres.out,hp.out]; rfl,(zN _ _).alloc (zM _) _⟩

theorem ku (s:List UInt8) (low high:Int) (w:World) (hs:s.length<=140737488355328):Calls Tryz.prog 41 #[sv s,iv low,iv high] w fun e w'=>e=.returned (optv (parse s low high))/\Below w.heap.size w w':=by
 cases hb:jp s with
 | true =>
  refine (t8 s low high w hb).mono ?_; rintro e w' ⟨rfl,rfl⟩; refine ⟨?_,zN _ _⟩; unfold parse; rw [hb]; rfl
 | false =>
  rw [rC s low high hb]; exact vU s low high w hs hb
end Go.Proofs.YtffdpoifdahadaaGreatDoor
