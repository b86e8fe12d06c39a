/- Tmp27: LexW9, LexQ, LexQ2, LexB, LexI, in one text. -/
import Derived.Test.YtbkdakbhagjkhaaGreatDoorLexW6
import Derived.Test.YtbkdakbhagjkhaaGreatDoorLexW8
set_option linter.unusedVariables false
set_option linter.unusedSimpArgs false
namespace Go.Proofs.YtbkdakbhagjkhaaGreatDoor
open Go.RowKit
open Go.Lib (hid byteCells)
def tkey (t : Tk) : Int × List UInt8 × Int:=(t.kind,t.text,t.n)
end Go.Proofs.YtbkdakbhagjkhaaGreatDoor
set_option linter.unusedSimpArgs false
namespace Go.Proofs.YtbkdakbhagjkhaaGreatDoor
open Go.Lib (itoa decDigits itoa_nonneg)
/-- r scans to tokens that are those of l, but for their offsets -/
inductive Scans : List UInt8 → List Tk → Prop
 | nil {r : List UInt8} (h : skipM false r = []) : Scans r []
 | cons {r r2 : List UInt8} {t t' : Tk} {l : List Tk} (h : tokF (skipM false r) = .ok (t,r2)) (hk : tkey t' = tkey t) (hs : Scans r2 l) : Scans r (t' :: l)
theorem Scans.run {r : List UInt8} {l : List Tk} (h : Scans r l) (N : Nat) : ∃ l',scanE N r = .ok l' ∧ l'.map tkey = l.map tkey:=by
 induction h with
 | nil h=>exact ⟨[],scanE_end N _ h,rfl⟩
 | cons h hk hs ih =>
  rename_i r r2 t t' l; obtain ⟨l',h1,h2⟩:=ih; refine ⟨{ t with pos:=((N - (skipM false r).length : Nat) : Int) } :: l',?_,?_⟩
  ·rw [scanE_ok N r t r2 h,h1]
  ·simp only [List.map_cons,h2,hk]; rfl
theorem Scans.of (N : Nat) : ∀ (n : Nat) (r : List UInt8) (l : List Tk),r.length ≤ n → scanE N r = .ok l → Scans r l:=by
 intro n
 induction n with
 | zero =>
  intro r l hn h; have : r = []:=List.length_eq_zero_iff.1 (by omega); subst this; rw [scanE_end N [] rfl] at h; cases h; exact Scans.nil rfl
 | succ n ih =>
  intro r l hn h; by_cases hs : skipM false r = []
  ·rw [scanE_end N r hs] at h
   cases h; exact Scans.nil hs
  ·cases ht : tokF (skipM false r) with
   | error e=>rw [scanE_err N r e ht hs] at h; cases h
   | ok x =>
    obtain ⟨t,r2⟩:=x; have h1:=tok_len ht; have h2:=skip_len false r; rw [scanE_ok N r t r2 ht] at h
    cases hr : scanE N r2 with
    | error e=>rw [hr] at h; cases h
    | ok l2 =>
     rw [hr] at h; simp only [Except.ok.injEq] at h; subst h; exact Scans.cons ht rfl (ih r2 l2 (by omega) hr)
theorem Scans.skip {z Y : List UInt8} {l : List Tk} (h : Scans Y l) (hz : skipM false (z ++ Y) = skipM false Y) : Scans (z ++ Y) l:=by
 cases h with
 | nil h=>exact Scans.nil (hz.trans h)
 | cons h hk hs=>exact Scans.cons (by rw [hz]; exact h) hk hs
theorem scanF_of {s : List UInt8} {l : List Tk} (hs : s.length ≤ 32768) (h : Scans s l) : ∃ l',scanF s = .ok l' ∧ l'.map tkey = l.map tkey:=by
 obtain ⟨l',h1,h2⟩:=h.run s.length; refine ⟨l',?_,h2⟩; unfold scanF; rw [if_neg (by omega)]; exact h1
theorem scanF_scans {s : List UInt8} {l : List Tk} (h : scanF s = .ok l) : s.length ≤ 32768 ∧ scanE s.length s = .ok l ∧ Scans s l:=by
 unfold scanF at h; split at h
 ·cases h
 ·have h' : scanE s.length s = .ok l:=h
  exact ⟨by omega,h',Scans.of _ _ _ _ (Nat.le_refl _) h'⟩
/-! a token ends where a white byte follows -/
def SepOk (r : List UInt8) : Prop:=r = [] ∨ ∃ d r',r = d :: r' ∧ (d = 9 ∨ d = 10 ∨ d = 13 ∨ d = 32)
theorem nm_parts {s : List UInt8} (h : isNm s = true) : ∃ c r,s = c :: r ∧ isLet c = true ∧ s.all isWd = true:=by
 cases s with
 | nil=>cases h
 | cons c r =>
  simp only [isNm,Bool.and_eq_true] at h; exact ⟨c,r,rfl,h.1,h.2⟩
theorem let_ne {c : UInt8} (h : isLet c = true) : isWs c = false ∧ c ≠ 47:=by
 constructor
 ·rw [Bool.eq_false_iff]; intro h2
  simp only [isWs,Bool.or_eq_true,decide_eq_true_eq] at h2; rcases h2 with ((rfl | rfl) | rfl) | rfl <;> revert h <;> decide
 ·rintro rfl; revert h; decide
theorem dg_ne {c : UInt8} (h : isDg c = true) : isWs c = false ∧ c ≠ 47 ∧ isLet c = false:=by
 refine ⟨?_,?_,?_⟩
 ·rw [Bool.eq_false_iff]; intro h2
  simp only [isWs,Bool.or_eq_true,decide_eq_true_eq] at h2; rcases h2 with ((rfl | rfl) | rfl) | rfl <;> revert h <;> decide
 ·rintro rfl; revert h; decide
 ·rw [isDg_iff] at h
  rw [Bool.eq_false_iff]; intro h2; simp only [isLet,Bool.or_eq_true,Bool.and_eq_true,decide_eq_true_eq] at h2; omega
theorem skip_first {c : UInt8} {r : List UInt8} (h1 : isWs c = false) (h2 : c ≠ 47 ∨ r.head? ≠ some 47) : skipM false (c :: r) = c :: r:=by
 rw [skipM,if_neg (by rw [h1]; decide),if_neg]; rintro ⟨a,b⟩; rcases h2 with h | h
 ·exact h a
 ·exact h b
theorem itoa_dec (n : Int) (h : 0 ≤ n) : itoa n = decDigits n.toNat:=by
 have:=itoa_nonneg n.toNat
 rwa [Int.toNat_of_nonneg h] at this
theorem int_ok (n : Int) (h0 : 0 ≤ n) (h1 : n ≤ 9007199254740992) : intF (itoa n) = .ok n ∧ (itoa n).all isDg = true ∧ itoa n ≠ []:=by
 have hp:=parse_itoa n 0 9007199254740992 (by omega) (by omega) h0 h1; have hd:=itoa_dec n h0
 have ha : (itoa n).all isDg = true:=by rw [List.all_eq_true,hd]; exact dec_all _
 have hh : ¬ ((itoa n).head? = some 48 ∧ itoa n ≠ [48]):=by
  rintro ⟨a,b⟩; by_cases hz : n.toNat = 0
  ·apply b; rw [hd,hz,dec_zero]
  ·rw [hd] at a; exact dec_head _ hz a
 refine ⟨?_,ha,by rw [hd]; exact dec_ne _⟩; unfold intF; rw [if_neg (by rw [ha]; decide),if_neg hh,hp]
theorem lit_escs (r : List UInt8) : ∀ (s acc : List UInt8),litF (escs s ++ 34 :: r) acc = some (acc ++ s,r)
 | [],acc=>by
  show litF (34 :: r) acc = _; rw [lit_34,List.append_nil]
 | c :: s,acc=>by
  have ih:=lit_escs r s
  have e : escs (c :: s) ++ 34 :: r = escF c ++ (escs s ++ 34 :: r):=by simp [escs]
  rw [e]; by_cases h1 : c = 10
  ·subst h1
   show litF (92 :: 110 :: (escs s ++ 34 :: r)) acc = _; rw [lit_esc]; show litF (escs s ++ 34 :: r) (acc ++ [10]) = _; rw [ih]; simp
  ·by_cases h2 : c = 9
   ·subst h2
    show litF (92 :: 116 :: (escs s ++ 34 :: r)) acc = _; rw [lit_esc]; show litF (escs s ++ 34 :: r) (acc ++ [9]) = _; rw [ih]; simp
   ·by_cases h3 : c = 34 ∨ c = 92
    ·have he : escF c = [92,c]:=by unfold escF; rw [if_neg h1,if_neg h2,if_pos h3]
     have hu : unesc c = some c:=by rcases h3 with rfl | rfl <;> decide
     rw [he]; show litF (92 :: c :: (escs s ++ 34 :: r)) acc = _; rw [lit_esc,hu]; show litF (escs s ++ 34 :: r) (acc ++ [c]) = _; rw [ih]; simp
    ·have he : escF c = [c]:=by unfold escF; rw [if_neg h1,if_neg h2,if_neg h3]
     rw [he]; show litF (c :: (escs s ++ 34 :: r)) acc = _; rw [lit_one c _ _ h1 (fun h=>h3 (Or.inl h)) (fun h=>h3 (Or.inr h)),ih]; simp
theorem mk_mem {s : List UInt8} (h : isMk s = true) : s ∈ marks:=by simpa [isMk] using h
def mkSep (m : List UInt8) : Bool:=match m with
 | [a]=>!isWs a && !isLet a && !isDg a && !decide (a = 34) && !isMk [a,9] && !isMk [a,10] && !isMk [a,13] && !isMk [a,32] && isMk [a]
 | [a,b]=>!isWs a && !isLet a && !isDg a && !decide (a = 34) && isMk [a,b] && !decide (a = 47)
 | _=>false
theorem mk_sep : ∀ m ∈ marks,mkSep m = true:=by decide +kernel
theorem mk_tok {s : List UInt8} (h : isMk s = true) {r : List UInt8} (hr : SepOk r) : tokF (s ++ r) = .ok (⟨4,s,0,0⟩,r) ∧ skipM false (s ++ r) = s ++ r:=by
 have hm:=mk_sep s (mk_mem h)
 match s,hm with
 | [a],hm =>
  simp only [mkSep,Bool.and_eq_true,Bool.not_eq_true',decide_eq_false_iff_not] at hm; obtain ⟨⟨⟨⟨⟨⟨⟨⟨h1,h2⟩,h3⟩,h4⟩,h5⟩,h6⟩,h7⟩,h8⟩,h9⟩:=hm
  have hmk : mkF (a :: r) = some 1:=by
   unfold mkF; rw [if_neg,if_pos ⟨by simp,by simpa using h9⟩]; rcases hr with rfl | ⟨d,r',rfl,hd⟩
   ·simp
   ·rintro ⟨_,e⟩
    simp only [List.take_succ_cons,List.take_zero] at e; rcases hd with rfl | rfl | rfl | rfl
    ·rw [h5] at e; cases e
    ·rw [h6] at e; cases e
    ·rw [h7] at e; cases e
    ·rw [h8] at e; cases e
  constructor
  ·show tokF (a :: r) = _
   simp only [tokF]; rw [if_neg (by rw [h2]; decide),if_neg (by rw [h3]; decide),if_neg h4]; unfold markF; rw [hmk]; rfl
  ·exact skip_first h1 (Or.inr (by
    rcases hr with rfl | ⟨d,r',rfl,rfl | rfl | rfl | rfl⟩ <;> simp))
 | [a,b],hm =>
  simp only [mkSep,Bool.and_eq_true,Bool.not_eq_true',decide_eq_false_iff_not] at hm; obtain ⟨⟨⟨⟨⟨h1,h2⟩,h3⟩,h4⟩,h5⟩,h6⟩:=hm
  have hmk : mkF (a :: b :: r) = some 2:=by
   unfold mkF; rw [if_pos ⟨by simp,by simpa using h5⟩]
  constructor
  ·show tokF (a :: b :: r) = _
   simp only [tokF]; rw [if_neg (by rw [h2]; decide),if_neg (by rw [h3]; decide),if_neg h4]; unfold markF; rw [hmk]; rfl
  ·exact skip_first h1 (Or.inl h6)
 | [],hm=>cases hm
 | _ :: _ :: _ :: _,hm=>cases hm
/-- what scans is right -/
theorem tok_right {D r2 : List UInt8} {t : Tk} (h : tokF D = .ok (t,r2)) : rightF t = true:=by
 cases D with
 | nil=>simp [tokF] at h
 | cons c r =>
  simp only [tokF] at h; split at h
  ·rename_i hc
   simp only [nameF,Except.ok.injEq,Prod.mk.injEq] at h; obtain ⟨rfl,_⟩:=h; unfold rightF; rw [if_pos rfl]
   have h1 : (c :: r).takeWhile isWd = c :: r.takeWhile isWd:=by rw [List.takeWhile_cons,if_pos (isWd_let hc)]
   have h2 : ((c :: r).takeWhile isWd).all isWd = true:=List.all_takeWhile; rw [h1] at h2 ⊢; simp only [isNm,hc,h2,Bool.and_true,decide_true]
  ·split at h
   ·rename_i hc
    unfold integerF at h; split at h
    ·rename_i n hn
     simp only [Except.ok.injEq,Prod.mk.injEq] at h; obtain ⟨rfl,_⟩:=h; unfold intF at hn; split at hn
     ·cases hn
     ·split at hn
      ·cases hn
      ·split at hn
       ·rename_i k hk
        simp only [Except.ok.injEq] at hn; subst hn; have:=parse_some hk; unfold rightF; simp only; rw [if_neg (by decide),if_pos trivial]; simp [this.2.1,this.2.2.1]
       ·cases hn
    ·cases h
   ·split at h
    ·unfold textF at h
     split at h
     ·split at h
      ·cases h
      ·rename_i hl
       simp only [Except.ok.injEq,Prod.mk.injEq] at h; obtain ⟨rfl,_⟩:=h; unfold rightF; simp only; rw [if_neg (by decide),if_neg (by decide),if_pos trivial]; simp; omega
     ·cases h
    ·unfold markF at h
     split at h
     ·rename_i k hk
      simp only [Except.ok.injEq,Prod.mk.injEq] at h; obtain ⟨rfl,_⟩:=h; have:=(mkF_le hk).2.2.2; unfold rightF; simp only; rw [if_neg (by decide),if_neg (by decide),if_neg (by decide),if_pos trivial]; simp [this]
     ·cases h
theorem right_key {a b : Tk} (h : tkey a = tkey b) : rightF a = rightF b ∧ tkW a = tkW b:=by
 obtain ⟨a1,a2,a3,a4⟩:=a; obtain ⟨b1,b2,b3,b4⟩:=b; simp only [tkey,Prod.mk.injEq] at h; obtain ⟨rfl,rfl,rfl⟩:=h; exact ⟨rfl,rfl⟩
theorem Scans.right {r : List UInt8} {l : List Tk} (h : Scans r l) : l.all rightF = true:=by
 induction h with
 | nil h=>rfl
 | cons h hk hs ih =>
  simp only [List.all_cons,ih,Bool.and_true]; rw [(right_key hk).1]; exact tok_right h
end Go.Proofs.YtbkdakbhagjkhaaGreatDoor
set_option linter.unusedSimpArgs false
namespace Go.Proofs.YtbkdakbhagjkhaaGreatDoor
open Go.Lib (itoa decDigits itoa_nonneg)
theorem err_law {s : List UInt8} {x : Int × Int} (h : scanF s = .error x) : x.1 ≠ 0 ∧ 0 ≤ x.2 ∧ x.2 < max (s.length : Int) 1:=by
 unfold scanF at h; split at h
 ·cases h; exact ⟨by decide,by decide,by simp; omega⟩
 ·have key : ∀ (n : Nat) (r : List UInt8),r.length ≤ n → r.length ≤ s.length → scanE s.length r = .error x → x.1 ≠ 0 ∧ 0 ≤ x.2 ∧ x.2 < (s.length : Int):=by
   intro n
   induction n with
   | zero =>
    intro r hn _ hr; have : r = []:=List.length_eq_zero_iff.1 (by omega); subst this; rw [scanE_end _ [] rfl] at hr; cases hr
   | succ n ih =>
    intro r hn hle hr; by_cases hs : skipM false r = []
    ·rw [scanE_end _ r hs] at hr; cases hr
    ·have h2:=skip_len false r
     have h3:=List.length_pos_iff.2 hs
     cases ht : tokF (skipM false r) with
     | error e =>
      rw [scanE_err _ r e ht hs] at hr; cases hr; exact ⟨tok_err ht,by simp,by simp; omega⟩
     | ok y =>
      obtain ⟨t1,r2⟩:=y; have h1:=tok_len ht; rw [scanE_ok _ r t1 r2 ht] at hr
      cases hr2 : scanE s.length r2 with
      | error e =>
       rw [hr2] at hr; cases hr; exact ih r2 (by omega) (by omega) hr2
      | ok l2=>rw [hr2] at hr; cases hr
  have:=key s.length s (Nat.le_refl _) (Nat.le_refl _) h; exact ⟨this.1,this.2.1,by omega⟩
end Go.Proofs.YtbkdakbhagjkhaaGreatDoor
set_option linter.unusedSimpArgs false
namespace Go.Proofs.YtbkdakbhagjkhaaGreatDoor
open Go.RowKit
open Go.Lib (hid byteCells itoa)
theorem litF_len : ∀ (n : Nat) (r acc t r' : List UInt8),r.length ≤ n → litF r acc = some (t,r') → t.length ≤ acc.length + r.length
 | 0,r,acc,t,r',hn,h=>by
  have : r = []:=List.length_eq_zero_iff.1 (by omega); subst this; simp [litF] at h
 | n + 1,[],acc,t,r',hn,h=>by simp [litF] at h
 | n + 1,c :: r,acc,t,r',hn,h=>by
  by_cases h10 : c = 10
  ·subst h10; rw [lit_10] at h; cases h
  ·by_cases h34 : c = 34
   ·subst h34; rw [lit_34] at h
    simp only [Option.some.injEq,Prod.mk.injEq] at h; obtain ⟨rfl,_⟩:=h; omega
   ·by_cases h92 : c = 92
    ·subst h92
     cases r with
     | nil=>rw [lit_92] at h; cases h
     | cons e r =>
      rw [lit_esc] at h
      cases hu : unesc e with
      | none=>rw [hu] at h; cases h
      | some x =>
       rw [hu] at h; have:=litF_len n r _ t r' (by simp at hn; omega) h; simp at this ⊢; omega
    ·rw [lit_one c _ _ h10 h34 h92] at h
     have:=litF_len n r _ t r' (by simp at hn; omega) h; simp at this ⊢; omega
theorem tok_textlen {D r2 : List UInt8} {t : Tk} (h : tokF D = .ok (t,r2)) : t.text.length ≤ D.length:=by
 cases D with
 | nil=>simp [tokF] at h
 | cons c r =>
  simp only [tokF] at h; split at h
  ·simp only [nameF,Except.ok.injEq,Prod.mk.injEq] at h
   obtain ⟨rfl,_⟩:=h; exact (List.takeWhile_prefix isWd (l:=c :: r)).length_le
  ·split at h
   ·unfold integerF at h
    split at h
    ·simp only [Except.ok.injEq,Prod.mk.injEq] at h
     obtain ⟨rfl,_⟩:=h; simp
    ·cases h
   ·split at h
    ·unfold textF at h
     split at h
     ·rename_i tt r3 hl
      split at h
      ·cases h
      ·simp only [Except.ok.injEq,Prod.mk.injEq] at h
       obtain ⟨rfl,_⟩:=h; have:=litF_len _ _ _ _ _ (Nat.le_refl _) hl; simp at this ⊢; omega
     ·cases h
    ·unfold markF at h
     split at h
     ·simp only [Except.ok.injEq,Prod.mk.injEq] at h
      obtain ⟨rfl,_⟩:=h; simp only [List.length_take]; omega
     ·cases h
theorem right_n {t : Tk} (h : rightF t = true) : 0 ≤ t.n ∧ t.n ≤ 9007199254740992:=by
 unfold rightF at h; split at h
 ·simp only [Bool.and_eq_true,decide_eq_true_eq] at h; omega
 ·split at h
  ·simp only [Bool.and_eq_true,decide_eq_true_eq] at h; omega
  ·split at h
   ·simp only [Bool.and_eq_true,decide_eq_true_eq] at h; omega
   ·split at h
    ·simp only [Bool.and_eq_true,decide_eq_true_eq] at h; omega
    ·cases h
theorem Scans.bound {r : List UInt8} {l : List Tk} (h : Scans r l) : l.length ≤ r.length ∧ ∀ t ∈ l,t.text.length ≤ r.length:=by
 induction h with
 | nil h=>exact ⟨Nat.zero_le _,fun t ht=>by cases ht⟩
 | cons h hk hs ih =>
  rename_i r r2 t t' l; have h1:=tok_len h; have h2:=skip_len false r; have h3:=tok_textlen h; refine ⟨by simp only [List.length_cons]; omega,fun x hx=>?_⟩; rcases List.mem_cons.1 hx with rfl | hx
  ·have : x.text = t.text:=by simp only [tkey,Prod.mk.injEq] at hk; exact hk.2.1
   rw [this]; omega
  ·have:=ih.2 x hx; omega
/-- what the scanner answers: not many tokens, short ones, numbers in range -/
theorem scanF_ok {s : List UInt8} {l : List Tk} (h : scanF s = .ok l) : l.length ≤ s.length ∧ s.length ≤ 32768 ∧ ∀ t ∈ l,0 ≤ t.n ∧ t.n ≤ 9007199254740992 ∧ t.text.length ≤ 32768:=by
 obtain ⟨h1,-,h3⟩:=scanF_scans h; have hb:=h3.bound; have ha:=h3.right; rw [List.all_eq_true] at ha; exact ⟨hb.1,h1,fun t ht=>by have:=right_n (ha t ht); have:=hb.2 t ht; omega⟩
end Go.Proofs.YtbkdakbhagjkhaaGreatDoor
set_option linter.unusedSimpArgs false
namespace Go.Proofs.YtbkdakbhagjkhaaGreatDoor
open Go.RowKit
open Go.Lib (hid byteCells itoa)
end Go.Proofs.YtbkdakbhagjkhaaGreatDoor
