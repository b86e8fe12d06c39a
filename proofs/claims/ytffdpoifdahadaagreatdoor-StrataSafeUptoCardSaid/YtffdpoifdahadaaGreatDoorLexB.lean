/- LexB: LexW9, LexQ, LexQ2, LexB, in one text. -/
import Derived.Test.YtffdpoifdahadaaGreatDoorLexW6
import Derived.Test.YtffdpoifdahadaaGreatDoorLexW8
set_option linter.unusedVariables false
set_option linter.unusedSimpArgs false
namespace Go.Proofs.YtffdpoifdahadaaGreatDoor
open Go.RowKit
open Go.Lib (hid byteCells)
def tkey (t:Tk):Int × List UInt8 × Int:=(t.kind,t.text,t.n)
end Go.Proofs.YtffdpoifdahadaaGreatDoor
set_option linter.unusedSimpArgs false
namespace Go.Proofs.YtffdpoifdahadaaGreatDoor
open Go.Lib (itoa decDigits itoa_nonneg)
/-- r scans to tokens that are those of l, but for their offsets -/
inductive Scans:List UInt8→List Tk→Prop
 | nil {r:List UInt8} (h:skipM false r=[]):Scans r []
 | cons {r r2:List UInt8} {t t':Tk} {l:List Tk} (h:tokF (skipM false r)=.ok (t,r2)) (hk:tkey t'=tkey t) (hs:Scans r2 l):Scans r (t'::l)
theorem Scans.run {r:List UInt8} {l:List Tk} (h:Scans r l) (N:Nat):∃ l',scanE N r=.ok l'∧l'.map tkey=l.map tkey:=by
 induction h with
 | nil h=>exact ⟨[],scanE_end N _ h,rfl⟩
 | cons h hk hs ih =>
  rename_i r r2 t t' l; obtain ⟨l',h1,h2⟩:=ih; refine ⟨{ t with pos:=((N - (skipM false r).length:Nat):Int) }::l',?_,?_⟩
  ·rw [scanE_ok N r t r2 h,h1]
  ·simp only [List.map_cons,h2,hk]; rfl
theorem Scans.of (N:Nat):∀ (n:Nat) (r:List UInt8) (l:List Tk),r.length≤n→scanE N r=.ok l→Scans r l:=by
 intro n
 induction n with
 | zero =>
  intro r l hn h; have:r=[]:=List.length_eq_zero_iff.1 (by omega); subst this; rw [scanE_end N [] rfl] at h; cases h; exact Scans.nil rfl
 | succ n ih =>
  intro r l hn h; by_cases hs:skipM false r=[]
  ·rw [scanE_end N r hs] at h
   cases h; exact Scans.nil hs
  ·cases ht:tokF (skipM false r) with
   | error e=>rw [scanE_err N r e ht hs] at h; cases h
   | ok x =>
    obtain ⟨t,r2⟩:=x; have h1:=tok_len ht; have h2:=skip_len false r; rw [scanE_ok N r t r2 ht] at h
    cases hr:scanE N r2 with
    | error e=>rw [hr] at h; cases h
    | ok l2 =>
     rw [hr] at h; simp only [Except.ok.injEq] at h; subst h; exact Scans.cons ht rfl (ih r2 l2 (by omega) hr)
theorem Scans.skip {z Y:List UInt8} {l:List Tk} (h:Scans Y l) (hz:skipM false (z++Y)=skipM false Y):Scans (z++Y) l:=by
 cases h with
 | nil h=>exact Scans.nil (hz.trans h)
 | cons h hk hs=>exact Scans.cons (by rw [hz]; exact h) hk hs
theorem scanF_scans {s:List UInt8} {l:List Tk} (h:scanF s=.ok l):s.length≤32768∧scanE s.length s=.ok l∧Scans s l:=by
 unfold scanF at h; split at h
 ·cases h
 ·have h':scanE s.length s=.ok l:=h
  exact ⟨by omega,h',Scans.of _ _ _ _ (Nat.le_refl _) h'⟩
/-! a token ends where a white byte follows -/
/-- what scans is right -/
theorem tok_right {D r2:List UInt8} {t:Tk} (h:tokF D=.ok (t,r2)):rightF t=true:=by
 cases D with
 | nil=>simp [tokF] at h
 | cons c r =>
  simp only [tokF] at h; split at h
  ·rename_i hc
   simp only [nameF,Except.ok.injEq,Prod.mk.injEq] at h; obtain ⟨rfl,_⟩:=h; unfold rightF; rw [if_pos rfl]
   have h1:(c::r).takeWhile isWd=c::r.takeWhile isWd:=by rw [List.takeWhile_cons,if_pos (isWd_let hc)]
   have h2:((c::r).takeWhile isWd).all isWd=true:=List.all_takeWhile; rw [h1] at h2 ⊢; simp only [isNm,hc,h2,Bool.and_true,decide_true]
  ·split at h
   ·rename_i hc
    unfold integerF at h; split at h
    ·rename_i n hn
     simp only [Except.ok.injEq,Prod.mk.injEq] at h; obtain ⟨rfl,_⟩:=h; unfold intF at hn; split at hn
     ·cases hn
     ·split at hn
      ·cases hn
      ·split at hn
       ·rename_i k hk
        simp only [Except.ok.injEq] at hn; subst hn; have:=parse_some hk; unfold rightF; simp only; rw [if_neg (by decide),if_pos trivial]; simp [this.2.1,this.2.2.1]
       ·cases hn
    ·cases h
   ·split at h
    ·unfold textF at h
     split at h
     ·split at h
      ·cases h
      ·rename_i hl
       simp only [Except.ok.injEq,Prod.mk.injEq] at h; obtain ⟨rfl,_⟩:=h; unfold rightF; simp only; rw [if_neg (by decide),if_neg (by decide),if_pos trivial]; simp; omega
     ·cases h
    ·unfold markF at h
     split at h
     ·rename_i k hk
      simp only [Except.ok.injEq,Prod.mk.injEq] at h; obtain ⟨rfl,_⟩:=h; have:=(mkF_le hk).2.2.2; unfold rightF; simp only; rw [if_neg (by decide),if_neg (by decide),if_neg (by decide),if_pos trivial]; simp [this]
     ·cases h
theorem right_key {a b:Tk} (h:tkey a=tkey b):rightF a=rightF b∧tkW a=tkW b:=by
 obtain ⟨a1,a2,a3,a4⟩:=a; obtain ⟨b1,b2,b3,b4⟩:=b; simp only [tkey,Prod.mk.injEq] at h; obtain ⟨rfl,rfl,rfl⟩:=h; exact ⟨rfl,rfl⟩
theorem Scans.right {r:List UInt8} {l:List Tk} (h:Scans r l):l.all rightF=true:=by
 induction h with
 | nil h=>rfl
 | cons h hk hs ih =>
  simp only [List.all_cons,ih,Bool.and_true]; rw [(right_key hk).1]; exact tok_right h
end Go.Proofs.YtffdpoifdahadaaGreatDoor
set_option linter.unusedSimpArgs false
namespace Go.Proofs.YtffdpoifdahadaaGreatDoor
open Go.Lib (itoa decDigits itoa_nonneg)
theorem err_law {s:List UInt8} {x:Int × Int} (h:scanF s=.error x):x.1≠0∧0≤x.2∧x.2 < max (s.length:Int) 1:=by
 unfold scanF at h; split at h
 ·cases h; exact ⟨by decide,by decide,by simp; omega⟩
 ·have key:∀ (n:Nat) (r:List UInt8),r.length≤n→r.length≤s.length→scanE s.length r=.error x→x.1≠0∧0≤x.2∧x.2 < (s.length:Int):=by
   intro n
   induction n with
   | zero =>
    intro r hn _ hr; have:r=[]:=List.length_eq_zero_iff.1 (by omega); subst this; rw [scanE_end _ [] rfl] at hr; cases hr
   | succ n ih =>
    intro r hn hle hr; by_cases hs:skipM false r=[]
    ·rw [scanE_end _ r hs] at hr; cases hr
    ·have h2:=skip_len false r
     have h3:=List.length_pos_iff.2 hs
     cases ht:tokF (skipM false r) with
     | error e =>
      rw [scanE_err _ r e ht hs] at hr; cases hr; exact ⟨tok_err ht,by simp,by simp; omega⟩
     | ok y =>
      obtain ⟨t1,r2⟩:=y; have h1:=tok_len ht; rw [scanE_ok _ r t1 r2 ht] at hr
      cases hr2:scanE s.length r2 with
      | error e =>
       rw [hr2] at hr; cases hr; exact ih r2 (by omega) (by omega) hr2
      | ok l2=>rw [hr2] at hr; cases hr
  have:=key s.length s (Nat.le_refl _) (Nat.le_refl _) h; exact ⟨this.1,this.2.1,by omega⟩
end Go.Proofs.YtffdpoifdahadaaGreatDoor
set_option linter.unusedSimpArgs false
namespace Go.Proofs.YtffdpoifdahadaaGreatDoor
open Go.RowKit
open Go.Lib (hid byteCells itoa)
theorem litF_len:∀ (n:Nat) (r acc t r':List UInt8),r.length≤n→litF r acc=some (t,r')→t.length≤acc.length+r.length
 | 0,r,acc,t,r',hn,h=>by
  have:r=[]:=List.length_eq_zero_iff.1 (by omega); subst this; simp [litF] at h
 | n+1,[],acc,t,r',hn,h=>by simp [litF] at h
 | n+1,c::r,acc,t,r',hn,h=>by
  by_cases h10:c=10
  ·subst h10; rw [lit_10] at h; cases h
  ·by_cases h34:c=34
   ·subst h34; rw [lit_34] at h
    simp only [Option.some.injEq,Prod.mk.injEq] at h; obtain ⟨rfl,_⟩:=h; omega
   ·by_cases h92:c=92
    ·subst h92
     cases r with
     | nil=>rw [lit_92] at h; cases h
     | cons e r =>
      rw [lit_esc] at h
      cases hu:unesc e with
      | none=>rw [hu] at h; cases h
      | some x =>
       rw [hu] at h; have:=litF_len n r _ t r' (by simp at hn; omega) h; simp at this ⊢; omega
    ·rw [lit_one c _ _ h10 h34 h92] at h
     have:=litF_len n r _ t r' (by simp at hn; omega) h; simp at this ⊢; omega
theorem tok_textlen {D r2:List UInt8} {t:Tk} (h:tokF D=.ok (t,r2)):t.text.length≤D.length:=by
 cases D with
 | nil=>simp [tokF] at h
 | cons c r =>
  simp only [tokF] at h; split at h
  ·simp only [nameF,Except.ok.injEq,Prod.mk.injEq] at h
   obtain ⟨rfl,_⟩:=h; exact (List.takeWhile_prefix isWd (l:=c::r)).length_le
  ·split at h
   ·unfold integerF at h
    split at h
    ·simp only [Except.ok.injEq,Prod.mk.injEq] at h
     obtain ⟨rfl,_⟩:=h; simp
    ·cases h
   ·split at h
    ·unfold textF at h
     split at h
     ·rename_i tt r3 hl
      split at h
      ·cases h
      ·simp only [Except.ok.injEq,Prod.mk.injEq] at h
       obtain ⟨rfl,_⟩:=h; have:=litF_len _ _ _ _ _ (Nat.le_refl _) hl; simp at this ⊢; omega
     ·cases h
    ·unfold markF at h
     split at h
     ·simp only [Except.ok.injEq,Prod.mk.injEq] at h
      obtain ⟨rfl,_⟩:=h; simp only [List.length_take]; omega
     ·cases h
theorem right_n {t:Tk} (h:rightF t=true):0≤t.n∧t.n≤9007199254740992:=by
 unfold rightF at h; split at h
 ·simp only [Bool.and_eq_true,decide_eq_true_eq] at h; omega
 ·split at h
  ·simp only [Bool.and_eq_true,decide_eq_true_eq] at h; omega
  ·split at h
   ·simp only [Bool.and_eq_true,decide_eq_true_eq] at h; omega
   ·split at h
    ·simp only [Bool.and_eq_true,decide_eq_true_eq] at h; omega
    ·cases h
theorem Scans.bound {r:List UInt8} {l:List Tk} (h:Scans r l):l.length≤r.length∧∀ t∈l,t.text.length≤r.length:=by
 induction h with
 | nil h=>exact ⟨Nat.zero_le _,fun t ht=>by cases ht⟩
 | cons h hk hs ih =>
  rename_i r r2 t t' l; have h1:=tok_len h; have h2:=skip_len false r; have h3:=tok_textlen h; refine ⟨by simp only [List.length_cons]; omega,fun x hx=>?_⟩; rcases List.mem_cons.1 hx with rfl | hx
  ·have:x.text=t.text:=by simp only [tkey,Prod.mk.injEq] at hk; exact hk.2.1
   rw [this]; omega
  ·have:=ih.2 x hx; omega
/-- what the scanner answers: not many tokens, short ones, numbers in range -/
theorem scanF_ok {s:List UInt8} {l:List Tk} (h:scanF s=.ok l):l.length≤s.length∧s.length≤32768∧∀ t∈l,0≤t.n∧t.n≤9007199254740992∧t.text.length≤32768:=by
 obtain ⟨h1,-,h3⟩:=scanF_scans h; have hb:=h3.bound; have ha:=h3.right; rw [List.all_eq_true] at ha; exact ⟨hb.1,h1,fun t ht=>by have:=right_n (ha t ht); have:=hb.2 t ht; omega⟩
end Go.Proofs.YtffdpoifdahadaaGreatDoor
