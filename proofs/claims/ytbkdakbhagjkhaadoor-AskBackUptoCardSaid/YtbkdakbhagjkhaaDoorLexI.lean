/- Tmp27: LexW9, LexQ, LexQ2, LexB, LexI, in one text. -/
import Derived.Test.YtbkdakbhagjkhaaDoorLexW6
import Derived.Test.YtbkdakbhagjkhaaDoorLexW8
set_option linter.unusedVariables false
set_option linter.unusedSimpArgs false
namespace Go.Proofs.YtbkdakbhagjkhaaDoor
open Go.RowKit
open Go.Lib (hid byteCells)
def tkey (t : Tk) : Int × List UInt8 × Int:=(t.kind,t.text,t.n)
end Go.Proofs.YtbkdakbhagjkhaaDoor
set_option linter.unusedSimpArgs false
namespace Go.Proofs.YtbkdakbhagjkhaaDoor
open Go.Lib (itoa decDigits itoa_nonneg)
/-- r scans to tokens that are those of l, but for their offsets -/
inductive Scans : List UInt8 → List Tk → Prop
 | nil {r : List UInt8} (h : skipM false r = []) : Scans r []
 | cons {r r2 : List UInt8} {t t' : Tk} {l : List Tk} (h : tokF (skipM false r) = .ok (t,r2)) (hk : tkey t' = tkey t) (hs : Scans r2 l) : Scans r (t' :: l)
theorem Scans.run {r : List UInt8} {l : List Tk} (h : Scans r l) (N : Nat) : ∃ l',scanE N r = .ok l' ∧ l'.map tkey = l.map tkey:=by
 induction h with
 | nil h=>exact ⟨[],scanE_end N _ h,rfl⟩
 | cons h hk hs ih =>
  rename_i r r2 t t' l; obtain ⟨l',h1,h2⟩:=ih; refine ⟨{ t with pos:=((N - (skipM false r).length : Nat) : Int) } :: l',?_,?_⟩
  ·rw [scanE_ok N r t r2 h,h1]
  ·simp only [List.map_cons,h2,hk]; rfl
theorem Scans.of (N : Nat) : ∀ (n : Nat) (r : List UInt8) (l : List Tk),r.length ≤ n → scanE N r = .ok l → Scans r l:=by
 intro n
 induction n with
 | zero =>
  intro r l hn h; have : r = []:=List.length_eq_zero_iff.1 (by omega); subst this; rw [scanE_end N [] rfl] at h; cases h; exact Scans.nil rfl
 | succ n ih =>
  intro r l hn h; by_cases hs : skipM false r = []
  ·rw [scanE_end N r hs] at h
   cases h; exact Scans.nil hs
  ·cases ht : tokF (skipM false r) with
   | error e=>rw [scanE_err N r e ht hs] at h; cases h
   | ok x =>
    obtain ⟨t,r2⟩:=x; have h1:=tok_len ht; have h2:=skip_len false r; rw [scanE_ok N r t r2 ht] at h
    cases hr : scanE N r2 with
    | error e=>rw [hr] at h; cases h
    | ok l2 =>
     rw [hr] at h; simp only [Except.ok.injEq] at h; subst h; exact Scans.cons ht rfl (ih r2 l2 (by omega) hr)
theorem Scans.skip {z Y : List UInt8} {l : List Tk} (h : Scans Y l) (hz : skipM false (z ++ Y) = skipM false Y) : Scans (z ++ Y) l:=by
 cases h with
 | nil h=>exact Scans.nil (hz.trans h)
 | cons h hk hs=>exact Scans.cons (by rw [hz]; exact h) hk hs
theorem scanF_of {s : List UInt8} {l : List Tk} (hs : s.length ≤ 32768) (h : Scans s l) : ∃ l',scanF s = .ok l' ∧ l'.map tkey = l.map tkey:=by
 obtain ⟨l',h1,h2⟩:=h.run s.length; refine ⟨l',?_,h2⟩; unfold scanF; rw [if_neg (by omega)]; exact h1
theorem scanF_scans {s : List UInt8} {l : List Tk} (h : scanF s = .ok l) : s.length ≤ 32768 ∧ scanE s.length s = .ok l ∧ Scans s l:=by
 unfold scanF at h; split at h
 ·cases h
 ·have h' : scanE s.length s = .ok l:=h
  exact ⟨by omega,h',Scans.of _ _ _ _ (Nat.le_refl _) h'⟩
/-! a token ends where a white byte follows -/
def SepOk (r : List UInt8) : Prop:=r = [] ∨ ∃ d r',r = d :: r' ∧ (d = 9 ∨ d = 10 ∨ d = 13 ∨ d = 32)
theorem nm_parts {s : List UInt8} (h : isNm s = true) : ∃ c r,s = c :: r ∧ isLet c = true ∧ s.all isWd = true:=by
 cases s with
 | nil=>cases h
 | cons c r =>
  simp only [isNm,Bool.and_eq_true] at h; exact ⟨c,r,rfl,h.1,h.2⟩
theorem let_ne {c : UInt8} (h : isLet c = true) : isWs c = false ∧ c ≠ 47:=by
 constructor
 ·rw [Bool.eq_false_iff]; intro h2
  simp only [isWs,Bool.or_eq_true,decide_eq_true_eq] at h2; rcases h2 with ((rfl | rfl) | rfl) | rfl <;> revert h <;> decide
 ·rintro rfl; revert h; decide
theorem dg_ne {c : UInt8} (h : isDg c = true) : isWs c = false ∧ c ≠ 47 ∧ isLet c = false:=by
 refine ⟨?_,?_,?_⟩
 ·rw [Bool.eq_false_iff]; intro h2
  simp only [isWs,Bool.or_eq_true,decide_eq_true_eq] at h2; rcases h2 with ((rfl | rfl) | rfl) | rfl <;> revert h <;> decide
 ·rintro rfl; revert h; decide
 ·rw [isDg_iff] at h
  rw [Bool.eq_false_iff]; intro h2; simp only [isLet,Bool.or_eq_true,Bool.and_eq_true,decide_eq_true_eq] at h2; omega
theorem skip_first {c : UInt8} {r : List UInt8} (h1 : isWs c = false) (h2 : c ≠ 47 ∨ r.head? ≠ some 47) : skipM false (c :: r) = c :: r:=by
 rw [skipM,if_neg (by rw [h1]; decide),if_neg]; rintro ⟨a,b⟩; rcases h2 with h | h
 ·exact h a
 ·exact h b
theorem itoa_dec (n : Int) (h : 0 ≤ n) : itoa n = decDigits n.toNat:=by
 have:=itoa_nonneg n.toNat
 rwa [Int.toNat_of_nonneg h] at this
theorem int_ok (n : Int) (h0 : 0 ≤ n) (h1 : n ≤ 9007199254740992) : intF (itoa n) = .ok n ∧ (itoa n).all isDg = true ∧ itoa n ≠ []:=by
 have hp:=parse_itoa n 0 9007199254740992 (by omega) (by omega) h0 h1; have hd:=itoa_dec n h0
 have ha : (itoa n).all isDg = true:=by rw [List.all_eq_true,hd]; exact dec_all _
 have hh : ¬ ((itoa n).head? = some 48 ∧ itoa n ≠ [48]):=by
  rintro ⟨a,b⟩; by_cases hz : n.toNat = 0
  ·apply b; rw [hd,hz,dec_zero]
  ·rw [hd] at a; exact dec_head _ hz a
 refine ⟨?_,ha,by rw [hd]; exact dec_ne _⟩; unfold intF; rw [if_neg (by rw [ha]; decide),if_neg hh,hp]
theorem lit_escs (r : List UInt8) : ∀ (s acc : List UInt8),litF (escs s ++ 34 :: r) acc = some (acc ++ s,r)
 | [],acc=>by
  show litF (34 :: r) acc = _; rw [lit_34,List.append_nil]
 | c :: s,acc=>by
  have ih:=lit_escs r s
  have e : escs (c :: s) ++ 34 :: r = escF c ++ (escs s ++ 34 :: r):=by simp [escs]
  rw [e]; by_cases h1 : c = 10
  ·subst h1
   show litF (92 :: 110 :: (escs s ++ 34 :: r)) acc = _; rw [lit_esc]; show litF (escs s ++ 34 :: r) (acc ++ [10]) = _; rw [ih]; simp
  ·by_cases h2 : c = 9
   ·subst h2
    show litF (92 :: 116 :: (escs s ++ 34 :: r)) acc = _; rw [lit_esc]; show litF (escs s ++ 34 :: r) (acc ++ [9]) = _; rw [ih]; simp
   ·by_cases h3 : c = 34 ∨ c = 92
    ·have he : escF c = [92,c]:=by unfold escF; rw [if_neg h1,if_neg h2,if_pos h3]
     have hu : unesc c = some c:=by rcases h3 with rfl | rfl <;> decide
     rw [he]; show litF (92 :: c :: (escs s ++ 34 :: r)) acc = _; rw [lit_esc,hu]; show litF (escs s ++ 34 :: r) (acc ++ [c]) = _; rw [ih]; simp
    ·have he : escF c = [c]:=by unfold escF; rw [if_neg h1,if_neg h2,if_neg h3]
     rw [he]; show litF (c :: (escs s ++ 34 :: r)) acc = _; rw [lit_one c _ _ h1 (fun h=>h3 (Or.inl h)) (fun h=>h3 (Or.inr h)),ih]; simp
theorem mk_mem {s : List UInt8} (h : isMk s = true) : s ∈ marks:=by simpa [isMk] using h
def mkSep (m : List UInt8) : Bool:=match m with
 | [a]=>!isWs a && !isLet a && !isDg a && !decide (a = 34) && !isMk [a,9] && !isMk [a,10] && !isMk [a,13] && !isMk [a,32] && isMk [a]
 | [a,b]=>!isWs a && !isLet a && !isDg a && !decide (a = 34) && isMk [a,b] && !decide (a = 47)
 | _=>false
theorem mk_sep : ∀ m ∈ marks,mkSep m = true:=by decide +kernel
theorem mk_tok {s : List UInt8} (h : isMk s = true) {r : List UInt8} (hr : SepOk r) : tokF (s ++ r) = .ok (⟨4,s,0,0⟩,r) ∧ skipM false (s ++ r) = s ++ r:=by
 have hm:=mk_sep s (mk_mem h)
 match s,hm with
 | [a],hm =>
  simp only [mkSep,Bool.and_eq_true,Bool.not_eq_true',decide_eq_false_iff_not] at hm; obtain ⟨⟨⟨⟨⟨⟨⟨⟨h1,h2⟩,h3⟩,h4⟩,h5⟩,h6⟩,h7⟩,h8⟩,h9⟩:=hm
  have hmk : mkF (a :: r) = some 1:=by
   unfold mkF; rw [if_neg,if_pos ⟨by simp,by simpa using h9⟩]; rcases hr with rfl | ⟨d,r',rfl,hd⟩
   ·simp
   ·rintro ⟨_,e⟩
    simp only [List.take_succ_cons,List.take_zero] at e; rcases hd with rfl | rfl | rfl | rfl
    ·rw [h5] at e; cases e
    ·rw [h6] at e; cases e
    ·rw [h7] at e; cases e
    ·rw [h8] at e; cases e
  constructor
  ·show tokF (a :: r) = _
   simp only [tokF]; rw [if_neg (by rw [h2]; decide),if_neg (by rw [h3]; decide),if_neg h4]; unfold markF; rw [hmk]; rfl
  ·exact skip_first h1 (Or.inr (by
    rcases hr with rfl | ⟨d,r',rfl,rfl | rfl | rfl | rfl⟩ <;> simp))
 | [a,b],hm =>
  simp only [mkSep,Bool.and_eq_true,Bool.not_eq_true',decide_eq_false_iff_not] at hm; obtain ⟨⟨⟨⟨⟨h1,h2⟩,h3⟩,h4⟩,h5⟩,h6⟩:=hm
  have hmk : mkF (a :: b :: r) = some 2:=by
   unfold mkF; rw [if_pos ⟨by simp,by simpa using h5⟩]
  constructor
  ·show tokF (a :: b :: r) = _
   simp only [tokF]; rw [if_neg (by rw [h2]; decide),if_neg (by rw [h3]; decide),if_neg h4]; unfold markF; rw [hmk]; rfl
  ·exact skip_first h1 (Or.inl h6)
 | [],hm=>cases hm
 | _ :: _ :: _ :: _,hm=>cases hm
/-- what scans is right -/
theorem tok_right {D r2 : List UInt8} {t : Tk} (h : tokF D = .ok (t,r2)) : rightF t = true:=by
 cases D with
 | nil=>simp [tokF] at h
 | cons c r =>
  simp only [tokF] at h; split at h
  ·rename_i hc
   simp only [nameF,Except.ok.injEq,Prod.mk.injEq] at h; obtain ⟨rfl,_⟩:=h; unfold rightF; rw [if_pos rfl]
   have h1 : (c :: r).takeWhile isWd = c :: r.takeWhile isWd:=by rw [List.takeWhile_cons,if_pos (isWd_let hc)]
   have h2 : ((c :: r).takeWhile isWd).all isWd = true:=List.all_takeWhile; rw [h1] at h2 ⊢; simp only [isNm,hc,h2,Bool.and_true,decide_true]
  ·split at h
   ·rename_i hc
    unfold integerF at h; split at h
    ·rename_i n hn
     simp only [Except.ok.injEq,Prod.mk.injEq] at h; obtain ⟨rfl,_⟩:=h; unfold intF at hn; split at hn
     ·cases hn
     ·split at hn
      ·cases hn
      ·split at hn
       ·rename_i k hk
        simp only [Except.ok.injEq] at hn; subst hn; have:=parse_some hk; unfold rightF; simp only; rw [if_neg (by decide),if_pos trivial]; simp [this.2.1,this.2.2.1]
       ·cases hn
    ·cases h
   ·split at h
    ·unfold textF at h
     split at h
     ·split at h
      ·cases h
      ·rename_i hl
       simp only [Except.ok.injEq,Prod.mk.injEq] at h; obtain ⟨rfl,_⟩:=h; unfold rightF; simp only; rw [if_neg (by decide),if_neg (by decide),if_pos trivial]; simp; omega
     ·cases h
    ·unfold markF at h
     split at h
     ·rename_i k hk
      simp only [Except.ok.injEq,Prod.mk.injEq] at h; obtain ⟨rfl,_⟩:=h; have:=(mkF_le hk).2.2.2; unfold rightF; simp only; rw [if_neg (by decide),if_neg (by decide),if_neg (by decide),if_pos trivial]; simp [this]
     ·cases h
theorem right_key {a b : Tk} (h : tkey a = tkey b) : rightF a = rightF b ∧ tkW a = tkW b:=by
 obtain ⟨a1,a2,a3,a4⟩:=a; obtain ⟨b1,b2,b3,b4⟩:=b; simp only [tkey,Prod.mk.injEq] at h; obtain ⟨rfl,rfl,rfl⟩:=h; exact ⟨rfl,rfl⟩
theorem Scans.right {r : List UInt8} {l : List Tk} (h : Scans r l) : l.all rightF = true:=by
 induction h with
 | nil h=>rfl
 | cons h hk hs ih =>
  simp only [List.all_cons,ih,Bool.and_true]; rw [(right_key hk).1]; exact tok_right h
end Go.Proofs.YtbkdakbhagjkhaaDoor
set_option linter.unusedSimpArgs false
namespace Go.Proofs.YtbkdakbhagjkhaaDoor
open Go.Lib (itoa decDigits itoa_nonneg)
theorem skip_loc : ∀ (m : Bool) (r : List UInt8),∃ ws,r = ws ++ skipM m r ∧ skipM m ws = []
 | m,[]=>⟨[],by cases m <;> simp [skipM],by cases m <;> rfl⟩
 | true,c :: r=>by
  rw [skipM]; split
  ·rename_i h
   obtain ⟨ws,h1,h2⟩:=skip_loc false r; exact ⟨c :: ws,by rw [List.cons_append,← h1],by rw [skipM,if_pos h]; exact h2⟩
  ·rename_i h
   obtain ⟨ws,h1,h2⟩:=skip_loc true r; exact ⟨c :: ws,by rw [List.cons_append,← h1],by rw [skipM,if_neg h]; exact h2⟩
 | false,c :: r=>by
  rw [skipM]; split
  ·rename_i h
   obtain ⟨ws,h1,h2⟩:=skip_loc false r; exact ⟨c :: ws,by rw [List.cons_append,← h1],by rw [skipM,if_pos h]; exact h2⟩
  ·rename_i h
   split
   ·rename_i hc
    obtain ⟨ws,h1,h2⟩:=skip_loc true r; refine ⟨c :: ws,by rw [List.cons_append,← h1],?_⟩
    have hh : ws.head? = some 47:=by
     cases ws with
     | nil =>
      exfalso
      cases r with
      | nil=>simp at hc
      | cons d r' =>
       simp at hc; obtain ⟨_,rfl⟩:=hc; rw [skipM,if_neg (by decide)] at h1; have h3:=congrArg List.length h1; have h4:=skip_len true r'; simp at h3; omega
     | cons d ws' =>
      rw [h1] at hc; simpa using hc.2
    rw [skipM,if_neg h,if_pos ⟨hc.1,hh⟩]; exact h2
   ·exact ⟨[],rfl,rfl⟩
theorem lit_loc : ∀ (r acc t r' : List UInt8),litF r acc = some (t,r') → ∃ u,r = u ++ r' ∧ ∀ z,litF (u ++ z) acc = some (t,z)
 | [],acc,t,r',h=>by simp [litF] at h
 | [c],acc,t,r',h=>by
  simp only [litF] at h; split at h
  ·rename_i hc
   simp only [Option.some.injEq,Prod.mk.injEq] at h; obtain ⟨rfl,rfl⟩:=h; subst hc; exact ⟨[34],rfl,fun z=>lit_34 z acc⟩
  ·cases h
 | c :: e :: r,acc,t,r',h=>by
  by_cases h10 : c = 10
  ·subst h10; rw [lit_10] at h; cases h
  ·by_cases h34 : c = 34
   ·subst h34
    rw [lit_34] at h; simp only [Option.some.injEq,Prod.mk.injEq] at h; obtain ⟨rfl,rfl⟩:=h; exact ⟨[34],rfl,fun z=>lit_34 z acc⟩
   ·by_cases h92 : c = 92
    ·subst h92
     rw [lit_esc] at h
     cases hu : unesc e with
     | none=>rw [hu] at h; cases h
     | some x =>
      rw [hu] at h; obtain ⟨u,h1,h2⟩:=lit_loc r _ _ _ h; refine ⟨92 :: e :: u,by rw [h1]; rfl,fun z=>?_⟩; show litF (92 :: e :: (u ++ z)) acc = _; rw [lit_esc,hu]; exact h2 z
    ·rw [lit_one c _ _ h10 h34 h92] at h
     obtain ⟨u,h1,h2⟩:=lit_loc (e :: r) _ _ _ h; refine ⟨c :: u,by rw [h1]; rfl,fun z=>?_⟩; show litF (c :: (u ++ z)) acc = _; rw [lit_one c _ _ h10 h34 h92]; exact h2 z
theorem prefix_head {z r : List UInt8} (hz : z <+: r) : ∀ c,z.head? = some c → r.head? = some c:=by
 obtain ⟨v,rfl⟩:=hz; intro c hc
 cases z with
 | nil=>simp at hc
 | cons d z=>simpa using hc
theorem dw_head : ∀ (D : List UInt8) (c : UInt8),(D.dropWhile isWd).head? = some c → isWd c = false
 | [],c,h=>by simp at h
 | a :: D,c,h=>by
  rw [List.dropWhile_cons] at h; split at h
  ·exact dw_head D c h
  ·rename_i ha
   simp at h; subst h; simpa using ha
/-- a token does not look beyond the byte behind it -/
theorem tok_loc {D r2 : List UInt8} {t : Tk} (h : tokF D = .ok (t,r2)) : ∃ u,D = u ++ r2 ∧ u ≠ [] ∧ ∀ z,z <+: r2 → tokF (u ++ z) = .ok (t,z):=by
 cases D with
 | nil=>simp [tokF] at h
 | cons c r =>
  simp only [tokF] at h; split at h
  ·rename_i hc
   simp only [nameF,Except.ok.injEq,Prod.mk.injEq] at h; obtain ⟨rfl,rfl⟩:=h
   have hU : (c :: r).takeWhile isWd = c :: r.takeWhile isWd:=by rw [List.takeWhile_cons,if_pos (isWd_let hc)]
   have hall : ((c :: r).takeWhile isWd).all isWd = true:=List.all_takeWhile; refine ⟨(c :: r).takeWhile isWd,List.takeWhile_append_dropWhile.symm,by rw [hU]; simp,fun z hz=>?_⟩; obtain ⟨a1,a2⟩:=tw_stop (D:=(c :: r).takeWhile isWd ++ z) rfl hall (fun x hx=>dw_head _ _ (prefix_head hz x hx))
   have e : tokF ((c :: r).takeWhile isWd ++ z) = nameF ((c :: r).takeWhile isWd ++ z):=by
    rw [hU]; simp only [tokF,List.cons_append]; rw [if_pos hc]
   rw [e]; unfold nameF; rw [a1,a2]
  ·rename_i hlc
   split at h
   ·rename_i hc
    unfold integerF at h; split at h
    ·rename_i n hn
     simp only [Except.ok.injEq,Prod.mk.injEq] at h; obtain ⟨rfl,rfl⟩:=h
     have hU : (c :: r).takeWhile isWd = c :: r.takeWhile isWd:=by rw [List.takeWhile_cons,if_pos (isWd_dg hc)]
     have hall : ((c :: r).takeWhile isWd).all isWd = true:=List.all_takeWhile; refine ⟨(c :: r).takeWhile isWd,List.takeWhile_append_dropWhile.symm,by rw [hU]; simp,fun z hz=>?_⟩; obtain ⟨a1,a2⟩:=tw_stop (D:=(c :: r).takeWhile isWd ++ z) rfl hall (fun x hx=>dw_head _ _ (prefix_head hz x hx))
     have e : tokF ((c :: r).takeWhile isWd ++ z) = integerF ((c :: r).takeWhile isWd ++ z):=by
      rw [hU]; simp only [tokF,List.cons_append]; rw [if_neg hlc,if_pos hc]
     rw [e]; unfold integerF; rw [a1,a2,hn]
    ·cases h
   ·rename_i hdc
    split at h
    ·rename_i hc
     subst hc; unfold textF at h; split at h
     ·rename_i tt r3 hl
      split at h
      ·cases h
      ·rename_i hlen
       simp only [Except.ok.injEq,Prod.mk.injEq] at h; obtain ⟨rfl,rfl⟩:=h; rw [List.tail_cons] at hl; obtain ⟨u,h1,h2⟩:=lit_loc _ _ _ _ hl; refine ⟨34 :: u,by rw [h1]; rfl,by simp,fun z hz=>?_⟩; show tokF (34 :: (u ++ z)) = _; simp only [tokF]; rw [if_neg hlc,if_neg hdc,if_pos trivial]; unfold textF; rw [List.tail_cons,h2 z]; simp only; rw [if_neg hlen]
     ·cases h
    ·rename_i h34
     unfold markF at h; split at h
     ·rename_i k hk
      simp only [Except.ok.injEq,Prod.mk.injEq] at h; obtain ⟨rfl,rfl⟩:=h; obtain ⟨k1,k2,k3,k4⟩:=mkF_le hk
      have hul : ((c :: r).take k).length = k:=by rw [List.length_take]; omega
      have hU : (c :: r).take k = c :: r.take (k - 1):=by
       rw [show k = (k - 1) + 1 by omega,List.take_succ_cons]; simp
      refine ⟨(c :: r).take k,(List.take_append_drop _ _).symm,by rw [hU]; simp,fun z hz=>?_⟩
      have hmk : mkF ((c :: r).take k ++ z) = some k:=by
       have hk12 : k = 1 ∨ k = 2:=by omega
       rcases hk12 with rfl | rfl
       ·have hno : ¬ (2 ≤ (c :: r).length ∧ isMk ((c :: r).take 2) = true):=by
         intro hh; unfold mkF at hk; rw [if_pos hh] at hk; cases hk
        unfold mkF; rw [if_neg,if_pos]
        ·refine ⟨by simp,?_⟩
         simpa using k4
        ·rintro ⟨q1,q2⟩
         apply hno
         cases z with
         | nil=>simp at q1
         | cons d z =>
          have hd:=prefix_head hz d rfl
          cases r with
          | nil=>simp at hd
          | cons e r =>
           simp at hd; subst hd; refine ⟨by simp,?_⟩; simpa using q2
       ·unfold mkF
        rw [if_pos]; refine ⟨by rw [List.length_append,hul]; omega,?_⟩; rw [List.take_append_of_le_length (by omega),List.take_of_length_le (by omega)]; exact k4
      have e : tokF ((c :: r).take k ++ z) = markF ((c :: r).take k ++ z):=by
       rw [hU]; simp only [tokF,List.cons_append]; rw [if_neg hlc,if_neg hdc,if_neg h34]
      rw [e]; unfold markF; rw [hmk]; simp only; rw [List.take_append_of_le_length (by omega),List.take_of_length_le (by omega),List.drop_append_of_le_length (by omega),List.drop_of_length_le (by omega)]; simp
     ·cases h
theorem skip_idem : ∀ {m : Bool} {r : List UInt8} {c : UInt8} {q : List UInt8},skipM m r = c :: q → skipM false (c :: q) = c :: q
 | m,[],c,q,h=>by cases m <;> simp [skipM] at h
 | true,a :: r,c,q,h=>by
  rw [skipM] at h; split at h
  ·exact skip_idem h
  ·exact skip_idem h
 | false,a :: r,c,q,h=>by
  rw [skipM] at h; split at h
  ·exact skip_idem h
  ·rename_i h1
   split at h
   ·exact skip_idem h
   ·rename_i h2
    cases h; rw [skipM,if_neg h1,if_neg h2]
/-- where the tokens of a scan begin -/
theorem scan_at (N : Nat) : ∀ (n : Nat) (r : List UInt8) (l : List Tk),r.length ≤ n → scanE N r = .ok l → ∀ i t,l[i]? = some t →
  ∃ D t0 r2,t.pos = ((N - D.length : Nat) : Int) ∧ tokF D = .ok (t0,r2) ∧ tkey t = tkey t0 ∧ (∃ u,r = u ++ D) ∧ skipM false D = D ∧ scanE N r2 = .ok (l.drop (i + 1)):=by
 intro n
 induction n with
 | zero =>
  intro r l hn h i t hi; have : r = []:=List.length_eq_zero_iff.1 (by omega); subst this; rw [scanE_end N [] rfl] at h; cases h; simp at hi
 | succ n ih =>
  intro r l hn h i t hi; by_cases hs : skipM false r = []
  ·rw [scanE_end N r hs] at h
   cases h; simp at hi
  ·cases ht : tokF (skipM false r) with
   | error e=>rw [scanE_err N r e ht hs] at h; cases h
   | ok x =>
    obtain ⟨t1,r2⟩:=x; have h1:=tok_len ht; have h2:=skip_len false r; obtain ⟨us,hus⟩:=skip_suf false r; rw [scanE_ok N r t1 r2 ht] at h
    cases hr : scanE N r2 with
    | error e=>rw [hr] at h; cases h
    | ok l2 =>
     rw [hr] at h; simp only [Except.ok.injEq] at h; subst h
     cases i with
     | zero =>
      simp at hi; subst hi; refine ⟨skipM false r,t1,r2,rfl,ht,rfl,⟨us,hus⟩,?_,by simpa using hr⟩; obtain ⟨c,q,hcq⟩:=all_pos hs; rw [hcq]; exact skip_idem hcq
     | succ i =>
      obtain ⟨D,t0,r3,q1,q2,q3,⟨u,q4⟩,q5,q6⟩:=ih r2 l2 (by omega) hr i t (by simpa using hi); obtain ⟨v,hv,_⟩:=tok_suf ht; refine ⟨D,t0,r3,q1,q2,q3,⟨us ++ (v ++ u),?_⟩,q5,by simpa using q6⟩
      conv=>lhs; rw [hus,hv,q4]
      simp
theorem skip_pre {c : UInt8} {q z : List UInt8} (h : skipM false (c :: q) = c :: q) (hz : z <+: q) : skipM false (c :: z) = c :: z:=by
 have h1 : isWs c = false:=by
  rw [Bool.eq_false_iff]; intro hw; rw [skipM,if_pos hw] at h; have:=skip_len false q; rw [h] at this; simp at this; omega
 have h2 : ¬ (c = 47 ∧ q.head? = some 47):=by
  intro hc; rw [skipM,if_neg (by rw [h1]; decide),if_pos hc] at h; have:=skip_len true q; rw [h] at this; simp at this; omega
 rw [skipM,if_neg (by rw [h1]; decide),if_neg]; rintro ⟨a,b⟩; exact h2 ⟨a,prefix_head hz _ b⟩
theorem first_pos {N : Nat} {r : List UInt8} {t : Tk} {q : List Tk} (h : scanE N r = .ok (t :: q)) : t.pos = ((N - (skipM false r).length : Nat) : Int) ∧ skipM false r ≠ []:=by
 by_cases hs : skipM false r = []
 ·rw [scanE_end N r hs] at h; cases h
 ·cases ht : tokF (skipM false r) with
  | error e=>rw [scanE_err N r e ht hs] at h; cases h
  | ok x =>
   obtain ⟨t1,r2⟩:=x; rw [scanE_ok N r t1 r2 ht] at h
   cases hr : scanE N r2 with
   | error e=>rw [hr] at h; cases h
   | ok l2 =>
    rw [hr] at h; simp only [Except.ok.injEq,List.cons.injEq] at h; obtain ⟨rfl,_⟩:=h; exact ⟨rfl,hs⟩
theorem suf_drop' {s D u : List UInt8} (h : s = u ++ D) : s.drop (s.length - D.length) = D:=suf_drop (k:=0) h
/-- LexOffsets, plain: token i -/
theorem off_law {s : List UInt8} {l : List Tk} (h : scanF s = .ok l) {i : Nat} {t : Tk} (hi : l[i]? = some t) :
  ∃ p e : Nat,t.pos = (p : Int) ∧ p < e ∧ e ≤ s.length ∧ (i + 1 < l.length → ∀ t',l[i + 1]? = some t' → t'.pos = (e : Int)) ∧ (¬ i + 1 < l.length → e = s.length) ∧
   (∃ l1,scanF ((s.drop p).take (e - p)) = .ok l1 ∧ l1.map tkey = [tkey t]) ∧ (∃ l2,scanF (s.drop p) = .ok l2 ∧ l2.map tkey = (l.drop i).map tkey):=by
 obtain ⟨hl,hE,_⟩:=scanF_scans h; obtain ⟨D,t0,r2,h1,h2,h3,⟨us,h4⟩,h5,h6⟩:=scan_at s.length s.length s l (Nat.le_refl _) hE i t hi; have hD:=suf_drop' h4; have hlt:=tok_len h2
 have hDl : D.length ≤ s.length:=by rw [h4,List.length_append]; omega
 have hil:=(List.getElem?_eq_some_iff.1 hi).1; have hsc : Scans r2 (l.drop (i + 1)):=Scans.of _ _ _ _ (Nat.le_refl _) h6; have hdi : l.drop i = t :: l.drop (i + 1):=drop_atT hi
 have hS : Scans D (l.drop i):=by rw [hdi]; exact Scans.cons (by rw [h5]; exact h2) h3 hsc
 obtain ⟨ws,hw1,hw2⟩:=skip_loc false r2; obtain ⟨u,hu1,hu2,hu3⟩:=tok_loc h2
 have hlen1 : D.length = u.length + r2.length:=by rw [hu1,List.length_append]
 have hlen2 : r2.length = ws.length + (skipM false r2).length:=by conv=>lhs; rw [hw1,List.length_append]
 have hupos:=List.length_pos_iff.2 hu2
 have hdl : (s.drop (s.length - D.length)).length ≤ 32768:=by rw [hD]; omega
 refine ⟨s.length - D.length,s.length - (skipM false r2).length,h1,by omega,by omega,?_,?_,?_,?_⟩
 ·intro hlt2 t' ht'
  have hd1 : l.drop (i + 1) = t' :: l.drop (i + 1 + 1):=drop_atT ht'; rw [hd1] at h6; exact (first_pos h6).1
 ·intro hn
  have hnil : l.drop (i + 1) = []:=List.drop_eq_nil_of_le (by omega); rw [hnil] at h6
  have : skipM false r2 = []:=by
   by_cases hs : skipM false r2 = []
   ·exact hs
   ·exfalso
    cases ht : tokF (skipM false r2) with
    | error e=>rw [scanE_err _ r2 e ht hs] at h6; cases h6
    | ok x =>
     obtain ⟨t1,r3⟩:=x; rw [scanE_ok _ r2 t1 r3 ht] at h6
     cases hr : scanE s.length r3 with
     | error e=>rw [hr] at h6; cases h6
     | ok l2=>rw [hr] at h6; cases h6
  rw [this]; simp
 ·rw [hD]
  have htk : D.take (s.length - (skipM false r2).length - (s.length - D.length)) = u ++ ws:=by
   rw [show s.length - (skipM false r2).length - (s.length - D.length) = (u ++ ws).length by rw [List.length_append]; omega]
   have : D = (u ++ ws) ++ skipM false r2:=by rw [List.append_assoc,← hw1,← hu1]
   conv=>lhs; rhs; rw [this]
   exact List.take_left' rfl
  rw [htk]; have hpre : ws <+: r2:=⟨skipM false r2,hw1.symm⟩
  have hsk : skipM false (u ++ ws) = u ++ ws:=by
   obtain ⟨c,v,rfl⟩:=all_pos hu2; rw [List.cons_append]; rw [hu1,List.cons_append] at h5; exact skip_pre h5 (List.prefix_append_right_inj _ |>.2 hpre)
  have hone : Scans (u ++ ws) [t]:=Scans.cons (by rw [hsk]; exact hu3 ws hpre) h3 (Scans.nil hw2); obtain ⟨l1,q1,q2⟩:=scanF_of (by rw [List.length_append]; omega) hone; exact ⟨l1,q1,q2⟩
 ·rw [hD]
  exact scanF_of (by omega) hS
theorem err_law {s : List UInt8} {x : Int × Int} (h : scanF s = .error x) : x.1 ≠ 0 ∧ 0 ≤ x.2 ∧ x.2 < max (s.length : Int) 1:=by
 unfold scanF at h; split at h
 ·cases h; exact ⟨by decide,by decide,by simp; omega⟩
 ·have key : ∀ (n : Nat) (r : List UInt8),r.length ≤ n → r.length ≤ s.length → scanE s.length r = .error x → x.1 ≠ 0 ∧ 0 ≤ x.2 ∧ x.2 < (s.length : Int):=by
   intro n
   induction n with
   | zero =>
    intro r hn _ hr; have : r = []:=List.length_eq_zero_iff.1 (by omega); subst this; rw [scanE_end _ [] rfl] at hr; cases hr
   | succ n ih =>
    intro r hn hle hr; by_cases hs : skipM false r = []
    ·rw [scanE_end _ r hs] at hr; cases hr
    ·have h2:=skip_len false r
     have h3:=List.length_pos_iff.2 hs
     cases ht : tokF (skipM false r) with
     | error e =>
      rw [scanE_err _ r e ht hs] at hr; cases hr; exact ⟨tok_err ht,by simp,by simp; omega⟩
     | ok y =>
      obtain ⟨t1,r2⟩:=y; have h1:=tok_len ht; rw [scanE_ok _ r t1 r2 ht] at hr
      cases hr2 : scanE s.length r2 with
      | error e =>
       rw [hr2] at hr; cases hr; exact ih r2 (by omega) (by omega) hr2
      | ok l2=>rw [hr2] at hr; cases hr
  have:=key s.length s (Nat.le_refl _) (Nat.le_refl _) h; exact ⟨this.1,this.2.1,by omega⟩
end Go.Proofs.YtbkdakbhagjkhaaDoor
set_option linter.unusedSimpArgs false
namespace Go.Proofs.YtbkdakbhagjkhaaDoor
open Go.RowKit
open Go.Lib (hid byteCells itoa)
theorem litF_len : ∀ (n : Nat) (r acc t r' : List UInt8),r.length ≤ n → litF r acc = some (t,r') → t.length ≤ acc.length + r.length
 | 0,r,acc,t,r',hn,h=>by
  have : r = []:=List.length_eq_zero_iff.1 (by omega); subst this; simp [litF] at h
 | n + 1,[],acc,t,r',hn,h=>by simp [litF] at h
 | n + 1,c :: r,acc,t,r',hn,h=>by
  by_cases h10 : c = 10
  ·subst h10; rw [lit_10] at h; cases h
  ·by_cases h34 : c = 34
   ·subst h34; rw [lit_34] at h
    simp only [Option.some.injEq,Prod.mk.injEq] at h; obtain ⟨rfl,_⟩:=h; omega
   ·by_cases h92 : c = 92
    ·subst h92
     cases r with
     | nil=>rw [lit_92] at h; cases h
     | cons e r =>
      rw [lit_esc] at h
      cases hu : unesc e with
      | none=>rw [hu] at h; cases h
      | some x =>
       rw [hu] at h; have:=litF_len n r _ t r' (by simp at hn; omega) h; simp at this ⊢; omega
    ·rw [lit_one c _ _ h10 h34 h92] at h
     have:=litF_len n r _ t r' (by simp at hn; omega) h; simp at this ⊢; omega
theorem tok_textlen {D r2 : List UInt8} {t : Tk} (h : tokF D = .ok (t,r2)) : t.text.length ≤ D.length:=by
 cases D with
 | nil=>simp [tokF] at h
 | cons c r =>
  simp only [tokF] at h; split at h
  ·simp only [nameF,Except.ok.injEq,Prod.mk.injEq] at h
   obtain ⟨rfl,_⟩:=h; exact (List.takeWhile_prefix isWd (l:=c :: r)).length_le
  ·split at h
   ·unfold integerF at h
    split at h
    ·simp only [Except.ok.injEq,Prod.mk.injEq] at h
     obtain ⟨rfl,_⟩:=h; simp
    ·cases h
   ·split at h
    ·unfold textF at h
     split at h
     ·rename_i tt r3 hl
      split at h
      ·cases h
      ·simp only [Except.ok.injEq,Prod.mk.injEq] at h
       obtain ⟨rfl,_⟩:=h; have:=litF_len _ _ _ _ _ (Nat.le_refl _) hl; simp at this ⊢; omega
     ·cases h
    ·unfold markF at h
     split at h
     ·simp only [Except.ok.injEq,Prod.mk.injEq] at h
      obtain ⟨rfl,_⟩:=h; simp only [List.length_take]; omega
     ·cases h
theorem right_n {t : Tk} (h : rightF t = true) : 0 ≤ t.n ∧ t.n ≤ 9007199254740992:=by
 unfold rightF at h; split at h
 ·simp only [Bool.and_eq_true,decide_eq_true_eq] at h; omega
 ·split at h
  ·simp only [Bool.and_eq_true,decide_eq_true_eq] at h; omega
  ·split at h
   ·simp only [Bool.and_eq_true,decide_eq_true_eq] at h; omega
   ·split at h
    ·simp only [Bool.and_eq_true,decide_eq_true_eq] at h; omega
    ·cases h
theorem Scans.bound {r : List UInt8} {l : List Tk} (h : Scans r l) : l.length ≤ r.length ∧ ∀ t ∈ l,t.text.length ≤ r.length:=by
 induction h with
 | nil h=>exact ⟨Nat.zero_le _,fun t ht=>by cases ht⟩
 | cons h hk hs ih =>
  rename_i r r2 t t' l; have h1:=tok_len h; have h2:=skip_len false r; have h3:=tok_textlen h; refine ⟨by simp only [List.length_cons]; omega,fun x hx=>?_⟩; rcases List.mem_cons.1 hx with rfl | hx
  ·have : x.text = t.text:=by simp only [tkey,Prod.mk.injEq] at hk; exact hk.2.1
   rw [this]; omega
  ·have:=ih.2 x hx; omega
/-- what the scanner answers: not many tokens, short ones, numbers in range -/
theorem scanF_ok {s : List UInt8} {l : List Tk} (h : scanF s = .ok l) : l.length ≤ s.length ∧ s.length ≤ 32768 ∧ ∀ t ∈ l,0 ≤ t.n ∧ t.n ≤ 9007199254740992 ∧ t.text.length ≤ 32768:=by
 obtain ⟨h1,-,h3⟩:=scanF_scans h; have hb:=h3.bound; have ha:=h3.right; rw [List.all_eq_true] at ha; exact ⟨hb.1,h1,fun t ht=>by have:=right_n (ha t ht); have:=hb.2 t ht; omega⟩
end Go.Proofs.YtbkdakbhagjkhaaDoor
set_option linter.unusedSimpArgs false
namespace Go.Proofs.YtbkdakbhagjkhaaDoor
open Go.RowKit
open Go.Lib (hid byteCells itoa)
theorem mk_second : ∀ m ∈ marks,m.getD 1 0 ≠ 32:=by decide +kernel
theorem mk_no32 (c : UInt8) : isMk [c,32] = false:=by
 rw [Bool.eq_false_iff]; intro h; exact mk_second _ (mk_mem h) rfl
theorem tok_next {D r2 : List UInt8} {t : Tk} (h : tokF D = .ok (t,r2)) : ∃ u,D = u ++ r2 ∧ u ≠ [] ∧ ∀ z : List UInt8,(∀ c,z.head? = some c → r2.head? = some c ∨ c = 32) → tokF (u ++ z) = .ok (t,z):=by
 cases D with
 | nil=>simp [tokF] at h
 | cons c r =>
  simp only [tokF] at h; split at h
  ·rename_i hc
   simp only [nameF,Except.ok.injEq,Prod.mk.injEq] at h; obtain ⟨rfl,rfl⟩:=h
   have hU : (c :: r).takeWhile isWd = c :: r.takeWhile isWd:=by rw [List.takeWhile_cons,if_pos (isWd_let hc)]
   have hall : ((c :: r).takeWhile isWd).all isWd = true:=List.all_takeWhile; refine ⟨(c :: r).takeWhile isWd,List.takeWhile_append_dropWhile.symm,by rw [hU]; simp,fun z hz=>?_⟩; obtain ⟨a1,a2⟩:=tw_stop (D:=(c :: r).takeWhile isWd ++ z) rfl hall (fun x hx=>by rcases hz x hx with h | h; exact dw_head _ _ h; rw [h]; rfl)
   have e : tokF ((c :: r).takeWhile isWd ++ z) = nameF ((c :: r).takeWhile isWd ++ z):=by
    rw [hU]; simp only [tokF,List.cons_append]; rw [if_pos hc]
   rw [e]; unfold nameF; rw [a1,a2]
  ·rename_i hlc
   split at h
   ·rename_i hc
    unfold integerF at h; split at h
    ·rename_i n hn
     simp only [Except.ok.injEq,Prod.mk.injEq] at h; obtain ⟨rfl,rfl⟩:=h
     have hU : (c :: r).takeWhile isWd = c :: r.takeWhile isWd:=by rw [List.takeWhile_cons,if_pos (isWd_dg hc)]
     have hall : ((c :: r).takeWhile isWd).all isWd = true:=List.all_takeWhile; refine ⟨(c :: r).takeWhile isWd,List.takeWhile_append_dropWhile.symm,by rw [hU]; simp,fun z hz=>?_⟩; obtain ⟨a1,a2⟩:=tw_stop (D:=(c :: r).takeWhile isWd ++ z) rfl hall (fun x hx=>by rcases hz x hx with h | h; exact dw_head _ _ h; rw [h]; rfl)
     have e : tokF ((c :: r).takeWhile isWd ++ z) = integerF ((c :: r).takeWhile isWd ++ z):=by
      rw [hU]; simp only [tokF,List.cons_append]; rw [if_neg hlc,if_pos hc]
     rw [e]; unfold integerF; rw [a1,a2,hn]
    ·cases h
   ·rename_i hdc
    split at h
    ·rename_i hc
     subst hc; unfold textF at h; split at h
     ·rename_i tt r3 hl
      split at h
      ·cases h
      ·rename_i hlen
       simp only [Except.ok.injEq,Prod.mk.injEq] at h; obtain ⟨rfl,rfl⟩:=h; rw [List.tail_cons] at hl; obtain ⟨u,h1,h2⟩:=lit_loc _ _ _ _ hl; refine ⟨34 :: u,by rw [h1]; rfl,by simp,fun z hz=>?_⟩; show tokF (34 :: (u ++ z)) = _; simp only [tokF]; rw [if_neg hlc,if_neg hdc,if_pos trivial]; unfold textF; rw [List.tail_cons,h2 z]; simp only; rw [if_neg hlen]
     ·cases h
    ·rename_i h34
     unfold markF at h; split at h
     ·rename_i k hk
      simp only [Except.ok.injEq,Prod.mk.injEq] at h; obtain ⟨rfl,rfl⟩:=h; obtain ⟨k1,k2,k3,k4⟩:=mkF_le hk
      have hul : ((c :: r).take k).length = k:=by rw [List.length_take]; omega
      have hU : (c :: r).take k = c :: r.take (k - 1):=by
       rw [show k = (k - 1) + 1 by omega,List.take_succ_cons]; simp
      refine ⟨(c :: r).take k,(List.take_append_drop _ _).symm,by rw [hU]; simp,fun z hz=>?_⟩
      have hmk : mkF ((c :: r).take k ++ z) = some k:=by
       have hk12 : k = 1 ∨ k = 2:=by omega
       rcases hk12 with rfl | rfl
       ·have hno : ¬ (2 ≤ (c :: r).length ∧ isMk ((c :: r).take 2) = true):=by
         intro hh; unfold mkF at hk; rw [if_pos hh] at hk; cases hk
        unfold mkF; rw [if_neg,if_pos]
        ·refine ⟨by simp,?_⟩
         simpa using k4
        ·rintro ⟨q1,q2⟩
         apply hno
         cases z with
         | nil=>simp at q1
         | cons d z =>
          rcases hz d rfl with hd | hd
          ·cases r with
           | nil=>simp at hd
           | cons e r =>
            simp at hd; subst hd; refine ⟨by simp,?_⟩; simpa using q2
          ·subst hd
           have q3 : isMk [c,32] = true:=by simpa using q2
           exact absurd q3 (by rw [mk_no32]; decide)
       ·unfold mkF
        rw [if_pos]; refine ⟨by rw [List.length_append,hul]; omega,?_⟩; rw [List.take_append_of_le_length (by omega),List.take_of_length_le (by omega)]; exact k4
      have e : tokF ((c :: r).take k ++ z) = markF ((c :: r).take k ++ z):=by
       rw [hU]; simp only [tokF,List.cons_append]; rw [if_neg hlc,if_neg hdc,if_neg h34]
      rw [e]; unfold markF; rw [hmk]; simp only; rw [List.take_append_of_le_length (by omega),List.take_of_length_le (by omega),List.drop_append_of_le_length (by omega),List.drop_of_length_le (by omega)]; simp
     ·cases h
theorem skip_true_len : ∀ (r : List UInt8),r ≠ [] → (skipM true r).length < r.length
 | [],h=>absurd rfl h
 | c :: r,_=>by
  unfold skipM; split
  ·have:=skip_len false r; simp only [List.length_cons]; omega
  ·have:=skip_len true r; simp only [List.length_cons]; omega
theorem skT (c : UInt8) (r : List UInt8) : skipM true (c :: r) = if c = 10 then skipM false r else skipM true r:=by rw [skipM]
theorem skF (c : UInt8) (r : List UInt8) : skipM false (c :: r) = if isWs c then skipM false r else if c = 47 ∧ r.head? = some 47 then skipM true r else c :: r:=by rw [skipM]
/-- a gap is skipped, whatever follows -/
theorem skip_ins : ∀ (g : List UInt8) (m : Bool) (D : List UInt8),D ≠ [] → skipM m (g ++ D) = D → ∀ Y : List UInt8,(∀ c,Y.head? = some c → D.head? = some c ∨ c = 32) → skipM m (g ++ Y) = skipM false Y
 | [],false,D,hD,h,Y,hY=>rfl
 | [],true,D,hD,h,Y,hY=>by
  have:=skip_true_len D hD; rw [List.nil_append] at h; rw [h] at this; omega
 | c :: g,true,D,hD,h,Y,hY=>by
  rw [List.cons_append,skT] at h ⊢; split
  ·rename_i hc; rw [if_pos hc] at h; exact skip_ins g false D hD h Y hY
  ·rename_i hc; rw [if_neg hc] at h; exact skip_ins g true D hD h Y hY
 | c :: g,false,D,hD,h,Y,hY=>by
  rw [List.cons_append,skF] at h ⊢; split
  ·rename_i hc; rw [if_pos hc] at h; exact skip_ins g false D hD h Y hY
  ·rename_i hc
   rw [if_neg hc] at h; by_cases h2 : c = 47 ∧ (g ++ D).head? = some 47
   ·rw [if_pos h2] at h
    cases g with
    | nil =>
     have:=skip_true_len D hD; rw [List.nil_append] at h; rw [h] at this; omega
    | cons d g =>
     rw [if_pos (by simpa using h2)]; exact skip_ins (d :: g) true D hD h Y hY
   ·rw [if_neg h2] at h
    have:=congrArg List.length h; simp at this; omega
theorem skip_first' {c : UInt8} {v R R' : List UInt8} (h : skipM false (c :: v ++ R) = c :: v ++ R) (hR : ∀ x,R'.head? = some x → R.head? = some x ∨ x = 32) : skipM false (c :: v ++ R') = c :: v ++ R':=by
 rw [List.cons_append,skF] at h ⊢; by_cases hw : isWs c = true
 ·rw [if_pos hw] at h
  have h1:=skip_len false (v ++ R); rw [h] at h1; simp at h1; omega
 ·rw [if_neg hw] at h ⊢
  by_cases h2 : c = 47 ∧ (v ++ R).head? = some 47
  ·rw [if_pos h2] at h
   have h1:=skip_len true (v ++ R); rw [h] at h1; simp at h1; omega
  ·rw [if_neg]
   rintro ⟨e1,e2⟩; apply h2; refine ⟨e1,?_⟩
   cases v with
   | nil =>
    rcases hR 47 e2 with h3 | h3
    ·exact h3
    ·cases h3
   | cons d v=>exact e2
def shiftT (n : Nat) (t : Tk) : Tk:={ t with pos:=t.pos + n }
/-- a longer source: all offsets are shifted -/
theorem scan_shift (N n : Nat) : ∀ (f : Nat) (r : List UInt8) (l : List Tk),r.length ≤ f → r.length ≤ N → scanE N r = .ok l → scanE (N + n) r = .ok (l.map (shiftT n))
 | 0,r,l,hf,hN,h=>by
  have : r = []:=List.length_eq_zero_iff.1 (by omega); subst this; rw [scanE_end _ _ rfl] at h ⊢; injection h with h; subst h; rfl
 | f + 1,r,l,hf,hN,h=>by
  by_cases he : skipM false r = []
  ·rw [scanE_end _ _ he] at h ⊢
   injection h with h; subst h; rfl
  ·cases ht : tokF (skipM false r) with
   | error x=>rw [scanE_err _ _ _ ht he] at h; cases h
   | ok q =>
    obtain ⟨t,r2⟩:=q; have h1:=tok_len ht; have h2:=skip_len false r; rw [scanE_ok _ _ _ _ ht] at h ⊢
    cases hs : scanE N r2 with
    | error x=>rw [hs] at h; cases h
    | ok l2 =>
     rw [hs] at h; injection h with h; subst h; rw [scan_shift N n f r2 l2 (by omega) (by omega) hs]; simp only [List.map_cons,Except.ok.injEq,List.cons.injEq,and_true]; unfold shiftT; simp only [Tk.mk.injEq,true_and]; omega
def gapZ : List UInt8:=[32,47,47,32,120,10]
theorem skip_gap (D : List UInt8) : skipM false (gapZ ++ D) = skipM false D:=by
 simp [gapZ,skipM,isWs]
/-- a comment ahead of token i: the same tokens, the offsets from there on shifted -/
theorem scan_ins (N : Nat) : ∀ (i : Nat) (r : List UInt8) (l : List Tk),r.length ≤ N → scanE N r = .ok l → i < l.length → ∃ u D t,r = u ++ D ∧ l[i]? = some t ∧ t.pos = ((N - D.length : Nat) : Int) ∧ D ≠ [] ∧ scanE (N + 6) (u ++ (gapZ ++ D)) = .ok (l.take i ++ (l.drop i).map (shiftT 6)) ∧ (∀ (j : Nat) (x : Tk),j < i → l[j]? = some x → x.pos < t.pos) ∧ (∀ (j : Nat) (x : Tk),i ≤ j → l[j]? = some x → t.pos ≤ x.pos)
 | i,r,l,hN,h,hi=>by
  by_cases he : skipM false r = []
  ·rw [scanE_end _ _ he] at h
   injection h with h; subst h; simp at hi
  ·cases ht : tokF (skipM false r) with
   | error x=>rw [scanE_err _ _ _ ht he] at h; cases h
   | ok q =>
    obtain ⟨t,r2⟩:=q; have h1:=tok_len ht; have h2:=skip_len false r; have h0:=h; rw [scanE_ok _ _ _ _ ht] at h
    cases hs : scanE N r2 with
    | error x=>rw [hs] at h; cases h
    | ok l2 =>
     rw [hs] at h; injection h with h; obtain ⟨ws,hws,-⟩:=skip_loc false r; obtain ⟨v,hv1,hv2,hv3⟩:=tok_next ht
     have hbnd : ∀ (j : Nat) (x : Tk),l2[j]? = some x → ((N - r2.length : Nat) : Int) ≤ x.pos:=by
      intro j x hx; obtain ⟨D2,t0,r3,g1,-,-,⟨u2,hu2⟩,-⟩:=scan_at N _ r2 l2 (Nat.le_refl _) hs j x hx
      have : D2.length ≤ r2.length:=by rw [hu2]; simp
      rw [g1]; omega
     generalize hD : skipM false r = D at *
     have hDD : skipM false D = D:=by
      cases hc : D with
      | nil=>exact absurd hc he
      | cons c q=>rw [hc] at hD; exact skip_idem hD
     match i,hi with
     | 0,_ =>
      refine ⟨ws,D,_,hws,by rw [← h]; rfl,rfl,he,?_,fun j x hj=>absurd hj (by omega),fun j x _ hx=>?_⟩
      ·have e1 : skipM false (ws ++ (gapZ ++ D)) = D:=by
        rw [skip_ins ws false D he (by rw [← hws]; exact hD) (gapZ ++ D) (fun c hc=>Or.inr (by simp [gapZ] at hc; exact hc.symm)),skip_gap,hDD]
       rw [scanE_ok (N + 6) (ws ++ (gapZ ++ D)) t r2 (by rw [e1]; exact ht),e1,scan_shift N 6 _ r2 l2 (Nat.le_refl _) (by omega) hs,← h]; simp only [List.take_zero,List.nil_append,List.drop_zero,List.map_cons,Except.ok.injEq,List.cons.injEq,and_true]; unfold shiftT; simp only [Tk.mk.injEq,true_and]; omega
      ·rw [← h] at hx
       cases j with
       | zero=>injection hx with hx; rw [← hx]; exact Int.le_refl _
       | succ j =>
        have:=hbnd j x hx; show ((N - D.length : Nat) : Int) ≤ _; omega
     | i + 1,hi =>
      rw [← h] at hi
      have hi2 : i < l2.length:=by simpa using hi
      obtain ⟨u2,D2,t2,g1,g2,g3,g4,g5,g6,g7⟩:=scan_ins N i r2 l2 (by omega) hs hi2
      have hlen2 : D2.length ≤ r2.length:=by rw [g1]; simp
      refine ⟨ws ++ (v ++ u2),D2,t2,by rw [hws,hv1,g1]; simp,by rw [← h]; exact g2,g3,g4,?_,fun j x hj hx=>?_,fun j x hj hx=>?_⟩
      ·have hhead : ∀ x,(u2 ++ (gapZ ++ D2)).head? = some x → r2.head? = some x ∨ x = 32:=by
        intro x hx
        cases u2 with
        | nil=>exact Or.inr (by simp [gapZ] at hx; exact hx.symm)
        | cons d u2=>rw [g1]; exact Or.inl (by simpa using hx)
       cases v with
       | nil=>exact absurd rfl hv2
       | cons c v =>
        have e0 : ws ++ (c :: v ++ u2) ++ (gapZ ++ D2) = ws ++ (c :: v ++ (u2 ++ (gapZ ++ D2))):=by simp
        have e1 : skipM false (ws ++ (c :: v ++ u2) ++ (gapZ ++ D2)) = c :: v ++ (u2 ++ (gapZ ++ D2)):=by
         rw [e0,skip_ins ws false D he (by rw [← hws]; exact hD) _ (fun x hx=>Or.inl (by rw [hv1]; simpa using hx))]; exact skip_first' (R:=r2) (by rw [← hv1]; exact hDD) hhead
        rw [scanE_ok (N + 6) _ t (u2 ++ (gapZ ++ D2)) (by rw [e1]; exact hv3 _ hhead),e1,g5,← h]
        have hlD : D.length = (c :: v ++ u2 ++ D2).length:=by rw [hv1,g1]; simp
        have hl6 : gapZ.length = 6:=rfl; simp only [List.take_succ_cons,List.drop_succ_cons,List.cons_append,Except.ok.injEq,List.cons.injEq,and_true,Tk.mk.injEq,true_and]; simp only [List.length_cons,List.length_append,List.cons_append,hl6] at hlD ⊢; omega
      ·rw [← h] at hx
       cases j with
       | zero =>
        injection hx with hx; rw [← hx,g3]; show ((N - D.length : Nat) : Int) < _; omega
       | succ j=>exact g6 j x (by omega) hx
      ·rw [← h] at hx
       cases j with
       | zero=>omega
       | succ j=>exact g7 j x (by omega) hx
end Go.Proofs.YtbkdakbhagjkhaaDoor
