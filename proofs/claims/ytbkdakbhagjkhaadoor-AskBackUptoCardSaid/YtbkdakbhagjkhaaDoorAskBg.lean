/- Tmp27: AskBa, AskBb, AskBc, AskBd, AskBe, AskBf, AskBg, in one text. -/
import Derived.Test.YtbkdakbhagjkhaaDoorAskZp
import Derived.Test.YtbkdakbhagjkhaaDoorLexI
import Derived.Test.YtbkdakbhagjkhaaDoorAskX
set_option linter.unusedVariables false
set_option linter.unusedSimpArgs false
namespace Go.Proofs.YtbkdakbhagjkhaaDoor
open Go.RowKit
open Go.Lib (hid byteCells itoa decDigits itoa_nonneg itoa_neg)
def NoWd (Y:List UInt8):Prop:=∀ c,Y.head? = some c→isWd c=false
/-- u is scanned as the tokens tk, wherever what follows allows it -/
def Wr (E:List UInt8→Prop) (u:List UInt8) (tk:List Tk):Prop:=∀ Y l2,E Y→Scans Y l2→Scans (u++Y) (tk++l2)
abbrev Any (_:List UInt8):Prop:=True
theorem Wr.app {E E':List UInt8→Prop} {u v:List UInt8} {a b:List Tk} (h:Wr E u a) (k:Wr E' v b) (hE:∀ Y,E' Y→E (v++Y)):Wr E' (u++v) (a++b):=by
 intro Y l2 hY hs; have:=h (v++Y) (b++l2) (hE Y hY) (k Y l2 hY hs); simpa [List.append_assoc] using this
theorem Wr.nil {E:List UInt8→Prop}:Wr E [] []:=fun _ _ _ h=>h
theorem Wr.weak {E E':List UInt8→Prop} {u:List UInt8} {a:List Tk} (h:Wr E u a) (hE:∀ Y,E' Y→E Y):Wr E' u a:=fun Y l2 hY hs=>h Y l2 (hE Y hY) hs
def tkN (s:List UInt8):Tk:=⟨1,s,0,0⟩
def tkI (n:Int):Tk:=⟨2,[],n,0⟩
def tkT (s:List UInt8):Tk:=⟨3,s,0,0⟩
def tkM (s:List UInt8):Tk:=⟨4,s,0,0⟩
theorem wr_name {s:List UInt8} (h:isNm s=true):Wr NoWd s [tkN s]:=by
 intro Y l2 hY hs; obtain ⟨c,u,rfl,h3,h4⟩:=nm_parts h; obtain ⟨a1,a2⟩:=tw_stop (D:=(c::u)++Y) rfl h4 hY; have hn:=let_ne h3; have hsk:skipM false ((c::u)++Y)=(c::u)++Y:=skip_first hn.1 (Or.inl hn.2); refine Scans.cons (t:=tkN (c::u)) (r2:=Y) ?_ rfl hs; rw [hsk]; show tokF (c::(u++Y))=_; simp only [tokF]; rw [if_pos h3]; unfold nameF; rw [List.cons_append] at a1 a2; rw [a1,a2]; rfl
theorem wr_int {n:Int} (h0:0≤n) (h1:n≤9007199254740992):Wr NoWd (itoa n) [tkI n]:=by
 intro Y l2 hY hs; obtain ⟨b1,b2,b3⟩:=int_ok n h0 h1
 have hwd:(itoa n).all isWd=true:=by
  rw [List.all_eq_true] at b2 ⊢
  exact fun c hc=>isWd_dg (b2 c hc)
 obtain ⟨a1,a2⟩:=tw_stop (D:=itoa n++Y) rfl hwd hY; obtain ⟨c,u,hcu⟩:=all_pos b3; rw [hcu] at a1 a2 b1 b2 ⊢
 have hc:isDg c=true:=by simp only [List.all_cons,Bool.and_eq_true] at b2; exact b2.1
 have hn:=dg_ne hc; have hsk:skipM false ((c::u)++Y)=(c::u)++Y:=skip_first hn.1 (Or.inl hn.2.1); refine Scans.cons (t:=tkI n) (r2:=Y) ?_ rfl hs; rw [hsk]; show tokF (c::(u++Y))=_; simp only [tokF]; rw [if_neg (by rw [hn.2.2]; decide),if_pos hc]; unfold integerF; rw [List.cons_append] at a1 a2; rw [a1,a2,b1]; rfl
theorem wr_text {s:List UInt8} (h:s.length≤4096):Wr Any (quoteF s) [tkT s]:=by
 intro Y l2 _ hs
 have htk:quoteF s++Y=34::(escs s++34::Y):=by unfold quoteF; simp
 have hsk:skipM false (34::(escs s++34::Y))=34::(escs s++34::Y):=skip_first (by decide) (Or.inl (by decide)); refine Scans.cons (t:=tkT s) (r2:=Y) ?_ rfl hs; rw [htk,hsk]; simp only [tokF]; rw [if_neg (by decide),if_neg (by decide),if_pos trivial]; unfold textF; rw [List.tail_cons,lit_escs]; simp only [List.nil_append]; rw [if_neg (by omega)]; rfl
/-- marks of one byte with which no longer one begins -/
def soleMk (a:UInt8):Bool:=isMk [a] && !isWs a && !isLet a && !isDg a && !decide (a=34) && !decide (a=47) && marks.all fun m=>match m with
 | [x,_]=>!decide (x=a)
 | _=>true
theorem wr_mark {a:UInt8} (h:soleMk a=true):Wr Any [a] [tkM [a]]:=by
 intro Y l2 _ hs; unfold soleMk at h; simp only [Bool.and_eq_true,Bool.not_eq_true',decide_eq_false_iff_not] at h; obtain ⟨⟨⟨⟨⟨⟨h1,h2⟩,h3⟩,h4⟩,h5⟩,h6⟩,h7⟩:=h; rw [List.all_eq_true] at h7
 have hno:¬ (2≤(a::Y).length∧isMk ((a::Y).take 2)=true):=by
  rintro ⟨q1,q2⟩
  cases Y with
  | nil=>simp at q1
  | cons b Y =>
   have:=h7 [a,b] (mk_mem (by simpa using q2)); simp at this
 have hmk:mkF (a::Y)=some 1:=by
  unfold mkF; rw [if_neg hno,if_pos ⟨by simp,by simpa using h1⟩]
 refine Scans.cons (t:=tkM [a]) (r2:=Y) ?_ rfl hs; show tokF (skipM false (a::Y))=_; rw [skip_first h2 (Or.inl h6)]; simp only [tokF]; rw [if_neg (by rw [h3]; decide),if_neg (by rw [h4]; decide),if_neg h5]; unfold markF; rw [hmk]; rfl
theorem wr_sp {E:List UInt8→Prop} {u:List UInt8} {a:List Tk} (h:Wr E u a):Wr E (32::u) a:=by
 intro Y l2 hY hs; exact Scans.skip (z:=[32]) (h Y l2 hY hs) (by show skipM false (32::(u++Y))=skipM false (u++Y); rw [skipM,if_pos (by decide)])
theorem wr_ws {c:UInt8} (hc:isWs c=true):Wr Any [c] []:=by
 intro Y l2 _ hs; exact Scans.skip (z:=[c]) hs (by show skipM false (c::Y)=skipM false Y; rw [skipM,if_pos hc])
/-- a mark with a blank behind it -/
theorem wr_op {m:List UInt8} (h:isMk m=true):Wr Any (m++[32]) [tkM m]:=by
 intro Y l2 _ hs; have hs':Scans (32::Y) l2:=wr_ws (by decide) Y l2 trivial hs; obtain ⟨m1,m2⟩:=mk_tok h (r:=32::Y) (Or.inr ⟨32,Y,rfl,Or.inr (Or.inr (Or.inr rfl))⟩)
 have e:(m++[32])++Y=m++32::Y:=by simp
 rw [e]; exact Scans.cons (t:=⟨4,m,0,0⟩) (by rw [m2]; exact m1) rfl hs'
theorem wr_comma:Wr Any [44,32] [tkM [44]]:=(wr_mark (a:=44) (by decide)).app (wr_ws (c:=32) (by decide)) fun _ _=>trivial
theorem noWd_cons {c:UInt8} (h:isWd c=false) (Y:List UInt8):NoWd (c::Y):=fun d hd=>by simp at hd; subst hd; exact h
theorem wild_wild (n:Nat) (h:n < 9007199254740992):wildF ([95]++itoa ((n+1:Nat):Int))=true:=by
 show (95 == 95 && (parse (itoa ((n+1:Nat):Int)) 1 9007199254740992).isSome)=true; rw [parse_itoa _ 1 9007199254740992 (by omega) (by omega) (by omega) (by omega)]; rfl
theorem var_nm {s:List UInt8} (h:varF s=true):isNm s=true∧resB s=false:=by
 unfold varF at h; simpa using h
theorem rel_var {s:List UInt8} (h:relF s=true):varF s=true:=by
 unfold relF at h; rw [Bool.and_eq_true] at h; exact h.1
theorem var_wild {s:List UInt8} (h:varF s=true):wildF s=false:=by
 obtain ⟨c,r,rfl,h3,_⟩:=nm_parts (var_nm h).1; show (c == 95 && _)=false
 have:c≠95:=by rintro rfl; revert h3; decide
 simp [this]
theorem var_ne {s:List UInt8} (h:varF s=true):s≠[]∧s≠[95]:=by
 obtain ⟨c,r,rfl,h3,_⟩:=nm_parts (var_nm h).1; refine ⟨by simp,?_⟩
 intro e; injection e with e1 e2; subst e1; revert h3; decide
theorem var_res {s w:List UInt8} (h:varF s=true) (hw:w∈resL):s≠w:=by
 rintro rfl; have:=(var_nm h).2; unfold resB at this; rw [List.contains_eq_mem] at this; simp [hw] at this
theorem agg_res {s:List UInt8} (h:varF s=true):aggF s=0:=by
 unfold aggF; rw [if_neg (var_res h (by decide)),if_neg (var_res h (by decide)),if_neg (var_res h (by decide)),if_neg (var_res h (by decide))]
end Go.Proofs.YtbkdakbhagjkhaaDoor
set_option linter.unusedSimpArgs false
namespace Go.Proofs.YtbkdakbhagjkhaaDoor
open Go.RowKit
open Go.Lib (hid byteCells itoa decDigits itoa_nonneg itoa_neg)
def adv (st:PSt) (k:Nat):PSt:={ st with nx:=st.nx+k }
theorem adv_adv (st:PSt) (a b:Nat):adv (adv st a) b=adv st (a+b):=by unfold adv; simp [Nat.add_assoc]
theorem adv_zero (st:PSt):adv st 0=st:=rfl
theorem next_adv (st:PSt):nextP st=adv st 1:=rfl
theorem at_cons {ts:List Tw} {i:Nat} {a:Tw} {r:List Tw} (h:ts.drop i=a::r):tokP ts i=a∧ts.drop (i+1)=r:=by
 constructor
 ·unfold tokP
  rw [List.getD_eq_getElem?_getD]
  have:(ts.drop i)[0]? = some a:=by rw [h]; rfl
  rw [List.getElem?_drop] at this; rw [Nat.add_zero] at this; rw [this]; rfl
 ·rw [← List.drop_drop,h]; rfl
theorem at_adv {ts:List Tw} {st:PSt} {a b:List Tw} (h:ts.drop st.nx=a++b) {k:Nat} (hk:k=a.length):ts.drop (adv st k).nx=b:=by
 show ts.drop (st.nx+k)=b; rw [← List.drop_drop,h,hk,List.drop_left]
theorem at_len {ts:List Tw} {i:Nat} {a b:List Tw} (h:ts.drop i=a++b):a.length≤ts.length:=by
 have:=congrArg List.length h; rw [List.length_drop,List.length_append] at this; omega
theorem is_at {ts:List Tw} {st:PSt} {a:Tw} {r:List Tw} (h:ts.drop st.nx=a::r) (k:Int) (s:List UInt8):isP ts st k s=(a.kind == k && a.text == s):=by
 unfold isP; rw [(at_cons h).1]
theorem is_nil {ts:List Tw} {st:PSt} (h:ts.drop st.nx=[]) (k:Int) (hk:k≠0) (s:List UInt8):isP ts st k s=false:=by
 unfold isP tokP
 have:ts.length≤st.nx:=by
  have:=congrArg List.length h; rw [List.length_drop] at this; simp at this; omega
 rw [List.getD_eq_getElem?_getD,List.getElem?_eq_none this]; show (0 == k && _)=false
 have:(0 == k)=false:=by simpa using fun e=>hk e.symm
 rw [this]; rfl
/-- the tokens of a term -/
inductive TmTok:List Tk→Tm→Prop
 | int (n:Int):TmTok [tkI n] (tmInt n)
 | neg (n:Int):TmTok [tkM [45],tkI n] (tmInt (-n))
 | text (s:List UInt8):TmTok [tkT s] (tmText s)
 | var (s:List UInt8) (h:varF s=true):TmTok [tkN s] (tmVar s)
theorem TmTok.parse {tk:List Tk} {t:Tm} (h:TmTok tk t) {ts:List Tw} {st:PSt} {r:List Tw} (hd:ts.drop st.nx=tk.map tw++r):termP ts st=(some t,adv st tk.length):=by
 unfold termP
 cases h with
 | int n =>
  rw [(at_cons hd).1]; rfl
 | text s =>
  rw [(at_cons hd).1]; rfl
 | neg n =>
  have h1:=at_cons hd; have h2:=at_cons h1.2; rw [is_at hd,h1.1,h2.1]; rfl
 | var s hv =>
  have h1:=at_cons hd; rw [is_at hd]; unfold varP; rw [h1.1]; show (if (1:Int)=2 then _ else if (1:Int)=3 then _ else if ((1:Int) == 4 && _)=true then _ else if (1:Int)=1∧varF s=true then _ else _)=_; rw [if_neg (by decide),if_neg (by decide),if_neg (by simp),if_pos ⟨rfl,hv⟩]; rfl
theorem TmTok.var_ok {tk:List Tk} {t:Tm} (h:TmTok tk t):t.var≠[95]∧(t.var≠[]→varF t.var=true∧tk=[tkN t.var]∧t=tmVar t.var):=by
 cases h with
 | int n=>exact ⟨by simp [tmInt],fun h=>absurd rfl h⟩
 | neg n=>exact ⟨by simp [tmInt],fun h=>absurd rfl h⟩
 | text s=>exact ⟨by simp [tmText],fun h=>absurd rfl h⟩
 | var s hv=>exact ⟨(var_ne hv).2,fun _=>⟨hv,rfl,rfl⟩⟩
/-- the first token of a term -/
def TmHead (a:Tw):Prop:=a.kind=2∨a.kind=3∨(a.kind=4∧a.text=[45])∨(a.kind=1∧varF a.text=true)
theorem TmTok.head {tk:List Tk} {t:Tm} (h:TmTok tk t):∃ a r,tk=a::r∧TmHead (tw a):=by
 cases h with
 | int n=>exact ⟨_,_,rfl,Or.inl rfl⟩
 | neg n=>exact ⟨_,_,rfl,Or.inr (Or.inr (Or.inl ⟨rfl,rfl⟩))⟩
 | text s=>exact ⟨_,_,rfl,Or.inr (Or.inl rfl)⟩
 | var s hv=>exact ⟨_,_,rfl,Or.inr (Or.inr (Or.inr ⟨rfl,hv⟩))⟩
theorem TmHead.mark {a:Tw} (h:TmHead a) {s:List UInt8} (hs:s≠[45]):(a.kind == 4 && a.text == s)=false:=by
 rcases h with h | h | ⟨h,h2⟩ | ⟨h,h2⟩
 ·simp [h]
 ·simp [h]
 ·simp [h,h2]; exact fun e=>hs e.symm
 ·simp [h]
theorem TmHead.word {a:Tw} (h:TmHead a) {s:List UInt8} (hs:s∈resL):(a.kind == 1 && a.text == s)=false:=by
 rcases h with h | h | ⟨h,h2⟩ | ⟨h,h2⟩
 ·simp [h]
 ·simp [h]
 ·simp [h]
 ·simp [h]; exact var_res h2 hs
theorem TmHead.agg {a:Tw} (h:TmHead a):¬ (a.kind=1∧aggF a.text≠0):=by
 rcases h with h | h | ⟨h,h2⟩ | ⟨h,h2⟩
 ·simp [h]
 ·simp [h]
 ·simp [h]
 ·simp [h]; exact agg_res h2
theorem cntT_cons (t:Tm) (l:List Tm):cntT (t::l)=cntT [t]+cntT l:=by
 unfold cntT; rw [show t::l=[t]++l from rfl,List.filter_append,List.length_append]
theorem cnt_one (t:Tm) (h:t.var=[95]):cntT [t]=1:=by unfold cntT; simp [h]
theorem cnt_none (t:Tm) (h:t.var≠[95]):cntT [t]=0:=by unfold cntT; simp [h]
theorem numT_cons (n:Nat) (t:Tm) (l:List Tm):numT n (t::l)=numT n [t]++numT (n+cntT [t]) l:=by
 by_cases h:t.var=[95]
 ·rw [cnt_one t h]; simp [numT,h]
 ·rw [cnt_none t h]; simp [numT,h]
theorem itoa_neg_parts {n:Int} (h:n < 0):itoa n=[45]++itoa (-n):=by
 have e1:=itoa_neg n.natAbs (by omega); have e2:=itoa_nonneg n.natAbs; rw [show (-(n.natAbs:Int))=n by omega] at e1; rw [show ((n.natAbs:Int)) = -n by omega] at e2; rw [e1,e2]; rfl
theorem wr_itoa (n:Int) (h0:-9007199254740992≤n) (h1:n≤9007199254740992):∃ tk,Wr NoWd (itoa n) tk∧TmTok tk (tmInt n):=by
 by_cases h:n < 0
 ·rw [itoa_neg_parts h]
  refine ⟨[tkM [45],tkI (-n)],(wr_mark (a:=45) (by decide)).app (wr_int (by omega) (by omega)) fun _ _=>trivial,?_⟩; have:=TmTok.neg (-n)
  rwa [Int.neg_neg] at this
 ·exact ⟨[tkI n],wr_int (by omega) h1,TmTok.int n⟩
theorem quote_write {s:List UInt8} (h:s.length≤4096):writeF [⟨3,s,0,0⟩]=quoteF s:=by
 unfold writeF
 have:List.all [(⟨3,s,0,0⟩:Tk)] rightF=true:=by
  simp [rightF,h]
 rw [if_pos this]; show (if false then [32] else [])++tkW ⟨3,s,0,0⟩++[]=_; simp [tkW]
/-- a term written without a wildcard -/
theorem term_back {al:Bool} {t:Tg} {l:List UInt8} {n:Nat} {p:List UInt8 × Nat} (h:termF al t l n=some p) :
  (∃ u tk t',TmTok tk t'∧p=(l++u,n)∧Wr NoWd u tk∧t'.g=t)∨(al=true∧t=(⟨[95]++itoa ((n+1:Nat):Int),(tmVar [95]).val⟩:Tm).g∧p=(l++[95],n+1)):=by
 obtain ⟨var,kind,vt,nn,m,vs,ln⟩:=t; unfold termF at h; simp only at h; split at h
 ·rename_i hv
  left
  subst hv
  cases hc:constF ⟨[],kind,vt,nn,m,vs,ln⟩ with
  | none=>rw [hc] at h; cases h
  | some s =>
   rw [hc] at h; simp only [Option.map_some,Option.some.injEq] at h; subst h; unfold constF plainG at hc; simp only at hc; split at hc
   ·cases hc
   ·rename_i hp
    simp only [Bool.not_eq_false,Bool.and_eq_true,decide_eq_true_eq] at hp; obtain ⟨⟨rfl,rfl⟩,rfl⟩:=hp; split at hc
    ·rename_i hk
     obtain ⟨rfl,rfl,h3,h4⟩:=hk; injection hc with hc; subst hc; obtain ⟨tk,w1,w2⟩:=wr_itoa nn h3 h4; exact ⟨_,tk,_,w2,rfl,w1,rfl⟩
    ·split at hc
     ·rename_i hk
      obtain ⟨rfl,rfl,h3⟩:=hk; injection hc with hc; subst hc; rw [quote_write h3]; exact ⟨_,_,_,TmTok.text vs,rfl,(wr_text h3).weak fun _ _=>trivial,rfl⟩
     ·cases hc
 ·rename_i hv
  split at h
  ·cases h
  ·rename_i hz
   simp only [not_or,Decidable.not_not,Bool.not_eq_false] at hz; obtain ⟨rfl,rfl,hp,rfl⟩:=hz; unfold plainG at hp; simp only [Bool.and_eq_true,decide_eq_true_eq] at hp; obtain ⟨⟨rfl,rfl⟩,rfl⟩:=hp; split at h
   ·split at h
    ·rename_i hw ha
     injection h with h; subst h; obtain ⟨rfl,rfl⟩:=ha; exact Or.inr ⟨rfl,rfl,rfl⟩
    ·cases h
   ·split at h
    ·rename_i hw hvf
     injection h with h; subst h; exact Or.inl ⟨_,_,_,TmTok.var var hvf,rfl,wr_name (var_nm hvf).1,rfl⟩
    ·cases h
/-- an argument: a term, or a wildcard -/
inductive ArgTok:List Tk→Tm→Prop
 | term {tk:List Tk} {t:Tm} (h:TmTok tk t):ArgTok tk t
 | wild:ArgTok [tkM [95]] (tmVar [95])
theorem ArgTok.parse {tk:List Tk} {t:Tm} (h:ArgTok tk t) {ts:List Tw} {st:PSt} {r:List Tw} (hd:ts.drop st.nx=tk.map tw++r):argP ts st=(some t,adv st tk.length)∧isP ts st 4 [41]=false:=by
 cases h with
 | term h =>
  obtain ⟨a,q,rfl,ha⟩:=h.head; have h1:=is_at hd 4 [95]; rw [ha.mark (by decide)] at h1; refine ⟨?_,(is_at hd 4 [41]).trans (ha.mark (by decide))⟩; unfold argP; rw [h1,if_neg (by decide)]; exact h.parse hd
 | wild =>
  refine ⟨?_,is_at hd 4 [41]⟩; unfold argP; rw [is_at hd]; rfl
theorem arg_back {t:Tg} {l:List UInt8} {n:Nat} {p:List UInt8 × Nat} (h:termF true t l n=some p) :
  ∃ u tk t',ArgTok tk t'∧p=(l++u,n+cntT [t'])∧Wr NoWd u tk∧(numT n [t']).map Tm.g=[t]:=by
 rcases term_back h with ⟨u,tk,t',h1,h2,h3,h4⟩ | ⟨_,h2,h3⟩
 ·have hv:=h1.var_ok.1
  exact ⟨u,tk,t',.term h1,by rw [cnt_none t' hv]; exact h2,h3,by simp [numT,hv,h4]⟩
 ·refine ⟨[95],[tkM [95]],tmVar [95],.wild,by rw [cnt_one _ rfl]; exact h3,(wr_mark (a:=95) (by decide)).weak fun _ _=>trivial,?_⟩
  rw [h2]; rfl
/-- behind an argument -/
def contA (ts:List Tw) (f:Nat) (st:PSt) (acc:List Tm):Option (List Tm) × PSt:=if isP ts st 4 [44]=true then argsP ts f (nextP st) acc else (some acc,st)
theorem argsP_cont {ts:List Tw} {f:Nat} {st s:PSt} {acc:List Tm} {t:Tm} (h:argP ts st=(some t,s)):argsP ts (f+1) st acc=contA ts f s (acc++[t]):=by
 rw [argsP,h]; rfl
def NoTx (s:List UInt8) (r:List Tw):Prop:=∀ a,r.head? = some a→a.text≠s
theorem noTx_is {s:List UInt8} {r:List Tw} (h:NoTx s r) {ts:List Tw} {st:PSt} (hd:ts.drop st.nx=r) (k:Int) (hk:k≠0):isP ts st k s=false:=by
 cases r with
 | nil=>exact is_nil hd k hk s
 | cons a r =>
  rw [is_at hd]; have:=h a rfl; simp [this]
def Lead (u:List UInt8):Prop:=u=[]∨∃ v,u=44::v
theorem Lead.noWd {u:List UInt8} (h:Lead u) {Y:List UInt8} (hY:NoWd Y):NoWd (u++Y):=by
 rcases h with rfl | ⟨v,rfl⟩
 ·exact hY
 ·exact noWd_cons (by decide) _
theorem rest_back:∀ (args:List Tg) (l:List UInt8) (n:Nat) (p:List UInt8 × Nat),argsW true false args l n=some p →
  ∃ u tk az,p=(l++u,n+cntT az)∧(numT n az).map Tm.g=args∧Wr NoWd u tk∧Lead u ∧
   ∀ ts f st acc r,ts.drop st.nx=tk.map tw++r→NoTx [44] r→tk.length≤f→contA ts f st acc=(some (acc++az),adv st tk.length)
 | [],l,n,p,h=>by
  injection h with h; subst h; refine ⟨[],[],[],by simp [cntT],rfl,Wr.nil,Or.inl rfl,fun ts f st acc r hd hr _=>?_⟩; unfold contA; rw [noTx_is hr hd 4 (by decide)]; simp [adv_zero]
 | t::args,l,n,p,h=>by
  unfold argsW at h; simp only [Bool.false_eq_true,if_false] at h
  cases ht:termF true t (l++[44,32]) n with
  | none=>rw [ht] at h; cases h
  | some p1 =>
   rw [ht] at h; obtain ⟨u1,tk1,t1,a1,rfl,a3,a4⟩:=arg_back ht; obtain ⟨u2,tk2,az,rfl,b2,b3,b4,b5⟩:=rest_back args _ _ p h; refine ⟨[44,32]++(u1++u2),tkM [44]::(tk1++tk2),t1::az,?_,?_,?_,Or.inr ⟨_,rfl⟩,fun ts f st acc r hd hr hf=>?_⟩
   ·rw [cntT_cons t1 az]; simp [Nat.add_assoc]
   ·rw [numT_cons,List.map_append,a4,b2]; rfl
   ·exact wr_comma.app (a3.app b3 fun Y hY=>b4.noWd hY) fun _ _=>trivial
   ·simp only [List.length_cons,List.length_append] at hf
    obtain ⟨g,rfl⟩:∃ g,f=g+1:=⟨f - 1,by omega⟩
    have hd1:ts.drop (nextP st).nx=tk1.map tw++(tk2.map tw++r):=by
     have:ts.drop (nextP st).nx=(tk1++tk2).map tw++r:=(at_cons hd).2; rw [List.map_append,List.append_assoc] at this; exact this
    unfold contA; rw [is_at hd]; show (if true=true then argsP ts (g+1) (nextP st) acc else _)=_; rw [if_pos rfl,argsP_cont (a1.parse hd1).1,b5 ts g _ (acc++[t1]) r (at_adv hd1 (by simp)) hr (by omega)]; rw [next_adv,adv_adv,adv_adv]; simp [Nat.add_comm,Nat.add_left_comm]
theorem args_back {args:List Tg} {l:List UInt8} {n:Nat} {p:List UInt8 × Nat} (h:argsW true true args l n=some p) :
  ∃ u tk az,p=(l++u,n+cntT az)∧(numT n az).map Tm.g=args∧Wr NoWd u tk ∧
   ∀ ts st (rel:List UInt8) r,ts.drop st.nx=tk.map tw++tw (tkM [41])::r→(if isP ts st 4 [41]=true then ((some ⟨0,false,rel,[]⟩:Option Lt),nextP st) else match argsP ts (ts.length+1) st [] with
   | (none,s2)=>(none,s2)
   | (some al,s2)=>if isP ts s2 4 [41] then (some ⟨0,false,rel,al⟩,nextP s2) else (none,failP s2))=(some ⟨0,false,rel,az⟩,adv st (tk.length+1)):=by
 cases args with
 | nil =>
  injection h with h; subst h; refine ⟨[],[],[],by simp [cntT],rfl,Wr.nil,fun ts st rel r hd=>?_⟩; rw [is_at hd]; show (if true=true then _ else _)=_; rw [if_pos rfl]; rfl
 | cons t args =>
  unfold argsW at h; rw [if_pos rfl] at h
  cases ht:termF true t l n with
  | none=>rw [ht] at h; cases h
  | some p1 =>
   rw [ht] at h; obtain ⟨u1,tk1,t1,a1,rfl,a3,a4⟩:=arg_back ht; obtain ⟨u2,tk2,az,rfl,b2,b3,b4,b5⟩:=rest_back args _ _ p h; refine ⟨u1++u2,tk1++tk2,t1::az,?_,?_,?_,fun ts st rel r hd=>?_⟩
   ·rw [cntT_cons t1 az]; simp [Nat.add_assoc]
   ·rw [numT_cons,List.map_append,a4,b2]; rfl
   ·exact a3.app b3 fun Y hY=>b4.noWd hY
   ·have hl:=at_len (b:=tw (tkM [41])::r) hd
    rw [List.map_append,List.append_assoc] at hd; have hp:=a1.parse hd; rw [hp.2,if_neg (by decide),argsP_cont hp.1,b5 ts _ _ _ (tw (tkM [41])::r) (at_adv hd (by simp)) (by intro a ha; simp at ha; subst ha; decide) (by simp at hl; omega)]; simp only; rw [is_at (a:=tw (tkM [41])) (r:=r)]
    ·show (if true=true then _ else _)=_
     rw [if_pos rfl,next_adv,adv_adv,adv_adv]; simp [Nat.add_assoc]
    ·rw [adv_adv]
     exact at_adv (a:=tk1.map tw++tk2.map tw) (by rw [List.append_assoc]; exact hd) (by simp)
def notW:List UInt8:=[110,111,116,32]
theorem atom_back {x:Lg} {l:List UInt8} {n:Nat} {p:List UInt8 × Nat} (h:atomW x l n=some p) :
  ∃ u tk az,p=((if x.nt then l++notW else l)++u,n+cntT az)∧(numT n az).map Tm.g=x.args∧Wr Any u (tkN x.rel::tkM [40]::tk)∧relF x.rel=true ∧
   ∀ ts st r,ts.drop st.nx=(tkN x.rel::tkM [40]::tk).map tw++r→atomP ts st=(some ⟨0,false,x.rel,az⟩,adv st (tk.length+2)):=by
 unfold atomW at h; split at h
 ·cases h
 ·rename_i hr
  rw [Bool.not_eq_false] at hr
  cases ha:argsW true true x.args ((if x.nt=true then l++[110,111,116,32] else l)++(x.rel++[40])) n with
  | none=>rw [ha] at h; cases h
  | some p1 =>
   rw [ha] at h; simp only [Option.map_some,Option.some.injEq] at h; subst h; obtain ⟨u1,tk,az,rfl,a2,a3,a4⟩:=args_back ha; refine ⟨x.rel++([40]++(u1++[41])),tk++[tkM [41]],az,?_,a2,?_,hr,fun ts st r hd=>?_⟩
   ·unfold notW
    split <;> simp
   ·have w1:=wr_name (var_nm (rel_var hr)).1
    have w2:=wr_mark (a:=40) (by decide)
    have w3:=a3.app (wr_mark (a:=41) (by decide)) fun Y _=>noWd_cons (by decide) _
    exact w1.app (w2.app w3 fun _ _=>trivial) fun Y _=>noWd_cons (by decide) _
   ·have h1:=at_cons hd
    have h2:=at_cons (ts:=ts) (i:=st.nx+1) h1.2
    have hrel:relP ts st=((x.rel,true),adv st 2):=by
     unfold relP; rw [h1.1]; show (if (1:Int)=1∧relF x.rel=true then _ else _)=_; rw [if_pos ⟨rfl,hr⟩]; unfold needP
     have:isP ts (nextP st) 4 [40]=true:=by
      rw [is_at (st:=nextP st) h1.2]; rfl
     rw [this]; rfl
    unfold atomP; rw [hrel]; simp only [if_true]
    have hd2:ts.drop (adv st 2).nx=tk.map tw++tw (tkM [41])::r:=by
     have:ts.drop (adv st 2).nx=(tk++[tkM [41]]).map tw++r:=h2.2; rw [List.map_append,List.append_assoc] at this; exact this
    refine Eq.trans (a4 ts (adv st 2) x.rel r hd2) ?_; rw [adv_adv]; simp [Nat.add_comm,Nat.add_left_comm]
end Go.Proofs.YtbkdakbhagjkhaaDoor
set_option linter.unusedSimpArgs false
namespace Go.Proofs.YtbkdakbhagjkhaaDoor
open Go.RowKit
open Go.Lib (hid byteCells itoa decDigits itoa_nonneg itoa_neg)
/-- a term where no wildcard may stand -/
theorem plain_back {t:Tg} {l:List UInt8} {n:Nat} {p:List UInt8 × Nat} (h:termF false t l n=some p):∃ u tk t',TmTok tk t'∧p=(l++u,n)∧Wr NoWd u tk∧t'.g=t:=by
 rcases term_back h with h | ⟨h,_⟩
 ·exact h
 ·cases h
def mkT (op:Int):List UInt8:=if op=2 then [33,61] else if op=3 then [60] else if op=4 then [60,61] else [61]
theorem mk_wr (op:Int):∃ v,mkW op=32::v∧Wr Any (32::v) [tkM (mkT op)]∧isMk (mkT op)=true∧mkT op≠[40]:=by
 unfold mkW mkT; split
 ·exact ⟨[33,61,32],rfl,wr_sp (wr_op (m:=[33,61]) (by decide)),by decide,by decide⟩
 ·split
  ·exact ⟨[60,32],rfl,wr_sp (wr_op (m:=[60]) (by decide)),by decide,by decide⟩
  ·split
   ·exact ⟨[60,61,32],rfl,wr_sp (wr_op (m:=[60,61]) (by decide)),by decide,by decide⟩
   ·exact ⟨[61,32],rfl,wr_sp (wr_op (m:=[61]) (by decide)),by decide,by decide⟩
theorem numT_none:∀ (az:List Tm) (n:Nat),(∀ t∈az,t.var≠[95])→numT n az=az∧cntT az=0
 | [],n,_=>⟨rfl,rfl⟩
 | t::az,n,h=>by
  have ih:=numT_none az n fun x hx=>h x (by simp [hx])
  have ht:=h t (by simp); constructor
  ·rw [numT,if_neg ht,ih.1]
  ·rw [cntT_cons,cnt_none t ht,ih.2]
def NoOp (r:List Tw):Prop:=NoTx [43] r∧NoTx [45] r
/-- a comparison or an addition -/
theorem ops_back {x:Lg} {l:List UInt8} {n:Nat} {p:List UInt8 × Nat} (hop:1≤x.op∧x.op≤5) (hrel:x.rel=[]) (hnt:x.nt=false) (hlen:x.args.length=(if x.op=5 then 3 else 2)) (h:opsW (mkW x.op) 0 x.args l n=some p) :
  ∃ u tk x',p=(l++u,n+cntT x'.args)∧(⟨x'.op,x'.nt,x'.rel,numT n x'.args⟩:Lt).g=x∧Wr NoWd u tk∧(∃ a b r,tk=a::b::r∧TmHead (tw a)∧(tw b).text≠[40]) ∧
   ∀ ts st r,ts.drop st.nx=tk.map tw++r→NoOp r→comparisonP ts st=(some x',adv st tk.length):=by
 obtain ⟨op,nt,rel,args⟩:=x; simp only at hop hrel hnt hlen h; subst hrel; subst hnt; obtain ⟨v,hv1,hv2,hv3,hv4⟩:=mk_wr op
 match args,hlen,h with
 | [a,b],hlen,h =>
  have h5:op≠5:=fun e=>by rw [if_pos e] at hlen; simp at hlen
  simp only [opsW] at h; rw [if_neg (by decide),if_neg (by decide)] at h
  cases ha:termF false a l n with
  | none=>rw [ha] at h; cases h
  | some p1 =>
   rw [ha] at h; obtain ⟨u1,tk1,a',a1,rfl,a3,a4⟩:=plain_back ha; simp only [Option.bind_some] at h; rw [if_pos (by decide)] at h
   cases hb:termF false b (l++u1++mkW op) n with
   | none=>rw [hb] at h; cases h
   | some p2 =>
    rw [hb] at h; obtain ⟨u2,tk2,b',b1,rfl,b3,b4⟩:=plain_back hb; simp only [Option.bind_some,Option.some.injEq] at h; subst h; have hno:=numT_none [a',b'] n (by intro t ht; simp at ht; rcases ht with rfl | rfl; exact a1.var_ok.1; exact b1.var_ok.1); refine ⟨u1++(mkW op++u2),tk1++(tkM (mkT op)::tk2),⟨op,false,[],[a',b']⟩,?_,?_,?_,?_,fun ts st r hd hr=>?_⟩
    ·simp only; rw [hno.2]; simp
    ·simp only; rw [hno.1]; show (⟨op,false,[],[a'.g,b'.g]⟩:Lg)=_; rw [a4,b4]
    ·rw [hv1]
     exact a3.app (hv2.app b3 fun _ _=>trivial) fun Y _=>noWd_cons (by decide) _
    ·obtain ⟨f,q,rfl,hf⟩:=a1.head
     cases q with
     | nil=>exact ⟨f,_,_,rfl,hf,hv4⟩
     | cons g q =>
      refine ⟨f,g,_,rfl,hf,?_⟩; cases a1; show ([]:List UInt8)≠_; decide
    ·rw [List.map_append,List.append_assoc] at hd
     have hp:=a1.parse hd; have hd2:ts.drop (adv st tk1.length).nx=tw (tkM (mkT op))::(tk2.map tw++r):=at_adv hd (by simp); have hd3:ts.drop (nextP (adv st tk1.length)).nx=tk2.map tw++r:=(at_cons hd2).2; have hd4:ts.drop (adv (nextP (adv st tk1.length)) tk2.length).nx=r:=at_adv hd3 (by simp); unfold comparisonP; rw [hp]; simp only; rw [(at_cons hd2).1]; have hk:(tw (tkM (mkT op))).kind=4:=rfl; rw [if_pos hk]
     have ho:opsF (tw (tkM (mkT op))).text=some (op,false):=by
      show opsF (mkT op)=_; unfold mkT; split
      ·rename_i e; subst e; rfl
      ·split
       ·rename_i e; subst e; rfl
       ·split
        ·rename_i e; subst e; rfl
        ·rw [show op=1 by omega]; rfl
     rw [ho]; simp only; rw [b1.parse hd3]; unfold cmpE; simp only; rw [noTx_is hr.1 hd4 4 (by decide),noTx_is hr.2 hd4 4 (by decide)]; rw [if_neg (by simp),if_neg (by simp),next_adv,adv_adv,adv_adv]; simp [compareF,Nat.add_comm,Nat.add_left_comm]
 | [a,b,c],hlen,h =>
  have h5:op=5:=Classical.byContradiction fun e=>by rw [if_neg e] at hlen; simp at hlen
  subst h5; simp only [opsW] at h; rw [if_neg (by decide),if_neg (by decide)] at h
  cases ha:termF false a l n with
  | none=>rw [ha] at h; cases h
  | some p1 =>
   rw [ha] at h; obtain ⟨u1,tk1,a',a1,rfl,a3,a4⟩:=plain_back ha; simp only [Option.bind_some] at h; rw [if_pos (by decide)] at h
   cases hb:termF false b (l++u1++mkW 5) n with
   | none=>rw [hb] at h; cases h
   | some p2 =>
    rw [hb] at h; obtain ⟨u2,tk2,b',b1,rfl,b3,b4⟩:=plain_back hb; simp only [Option.bind_some] at h; rw [if_neg (by decide),if_pos (by decide)] at h
    cases hc:termF false c (l++u1++mkW 5++u2++[32,43,32]) n with
    | none=>rw [hc] at h; cases h
    | some p3 =>
     rw [hc] at h; obtain ⟨u3,tk3,c',c1,rfl,c3,c4⟩:=plain_back hc; simp only [Option.bind_some,Option.some.injEq] at h; subst h; have hno:=numT_none [a',b',c'] n (by intro t ht; simp at ht; rcases ht with rfl | rfl | rfl; exact a1.var_ok.1; exact b1.var_ok.1; exact c1.var_ok.1); refine ⟨u1++(mkW 5++(u2++(([32,43,32]:List UInt8)++u3))),tk1++(tkM (mkT 5)::(tk2++tkM [43]::tk3)),⟨5,false,[],[a',b',c']⟩,?_,?_,?_,?_,fun ts st r hd hr=>?_⟩
     ·simp only; rw [hno.2]; simp
     ·simp only; rw [hno.1]; show (⟨5,false,[],[a'.g,b'.g,c'.g]⟩:Lg)=_; rw [a4,b4,c4]
     ·rw [hv1]
      have hw:Wr NoWd ([32,43,32]++u3) (tkM [43]::tk3):=(wr_sp (wr_op (m:=[43]) (by decide))).app c3 fun _ _=>trivial
      exact a3.app (hv2.app (b3.app hw fun Y _=>noWd_cons (by decide) _) fun _ _=>trivial) fun Y _=>noWd_cons (by decide) _
     ·obtain ⟨f,q,rfl,hf⟩:=a1.head
      cases q with
      | nil=>exact ⟨f,_,_,rfl,hf,hv4⟩
      | cons g q =>
       refine ⟨f,g,_,rfl,hf,?_⟩; cases a1; show ([]:List UInt8)≠_; decide
     ·rw [List.map_append,List.append_assoc] at hd
      have hp:=a1.parse hd; have hd2:ts.drop (adv st tk1.length).nx=tw (tkM (mkT 5))::((tk2++tkM [43]::tk3).map tw++r):=at_adv hd (by simp)
      have hd3:ts.drop (nextP (adv st tk1.length)).nx=tk2.map tw++(tw (tkM [43])::(tk3.map tw++r)):=by
       have:=(at_cons hd2).2; rw [List.map_append,List.append_assoc] at this; exact this
      have hd4:ts.drop (adv (nextP (adv st tk1.length)) tk2.length).nx=tw (tkM [43])::(tk3.map tw++r):=at_adv hd3 (by simp); have hd5:ts.drop (nextP (adv (nextP (adv st tk1.length)) tk2.length)).nx=tk3.map tw++r:=(at_cons hd4).2; unfold comparisonP; rw [hp]; simp only; rw [(at_cons hd2).1]; have hk:(tw (tkM (mkT 5))).kind=4:=rfl; rw [if_pos hk]; have ho:opsF (tw (tkM (mkT 5))).text=some (1,false):=rfl; rw [ho]; simp only; rw [b1.parse hd3]; unfold cmpE; simp only; rw [is_at hd4]; rw [if_pos ⟨trivial,rfl⟩,c1.parse hd5]; unfold addE; simp only [next_adv,adv_adv]; simp [Nat.add_comm,Nat.add_left_comm]
 | [],hlen,_=>split at hlen <;> simp at hlen
 | [_],hlen,_=>split at hlen <;> simp at hlen
 | _::_::_::_::_,hlen,_=>split at hlen <;> simp at hlen
theorem wr_not:Wr Any notW [tkN [110,111,116]]:=(wr_name (s:=[110,111,116]) (by decide)).app (wr_ws (c:=32) (by decide)) fun Y _=>noWd_cons (by decide) _
/-- what may follow a literal: no sign -/
theorem lit_back {x:Lg} {l:List UInt8} {n:Nat} {p:List UInt8 × Nat} (h:litW x l n=some p) :
  ∃ u tk x',p=(l++u,n+cntT x'.args)∧(⟨x'.op,x'.nt,x'.rel,numT n x'.args⟩:Lt).g=x∧Wr NoWd u tk∧tk≠[] ∧
   ∀ ts st r,ts.drop st.nx=tk.map tw++r→NoOp r→literalP ts st=(some ([x'],[]),adv st tk.length):=by
 unfold litW at h; split at h
 ·rename_i hop
  obtain ⟨u,tk,az,rfl,a2,a3,a4,a5⟩:=atom_back h; obtain ⟨op,nt,rel,args⟩:=x; simp only at hop a2 a3 a4 a5 ⊢; subst hop; have hv:=rel_var a4
  cases nt with
  | true =>
   refine ⟨notW++u,tkN [110,111,116]::(tkN rel::tkM [40]::tk),⟨0,true,rel,az⟩,by simp,by show (⟨0,true,rel,(numT n az).map Tm.g⟩:Lg)=_; rw [a2],(wr_not.app a3 fun _ _=>trivial).weak fun _ _=>trivial,by simp,fun ts st r hd hr=>?_⟩; have h1:=at_cons hd; unfold literalP; rw [is_at hd]; rw [if_pos (by decide),a5 ts (nextP st) r h1.2]; unfold litE neg; simp [next_adv,adv_adv,Nat.add_comm,Nat.add_left_comm]
  | false =>
   refine ⟨u,tkN rel::tkM [40]::tk,⟨0,false,rel,az⟩,by simp,by show (⟨0,false,rel,(numT n az).map Tm.g⟩:Lg)=_; rw [a2],a3.weak fun _ _=>trivial,by simp,fun ts st r hd hr=>?_⟩; have h1:=at_cons hd; have h2:=at_cons (ts:=ts) (i:=st.nx+1) h1.2; have hH:TmHead (tw (tkN rel)):=Or.inr (Or.inr (Or.inr ⟨rfl,hv⟩)); unfold literalP; rw [is_at hd,is_at hd,is_at hd,is_at hd,hH.word (by decide),hH.word (by decide),hH.word (by decide),hH.word (by decide),h1.1,h2.1]; rw [if_neg (by decide),if_neg (by decide),if_neg (by decide),if_neg (by decide),if_pos ⟨rfl,a4,rfl,rfl⟩,a5 ts st r hd]; simp [litE]
 ·rename_i hop
  split at h
  ·cases h
  ·rename_i hz
   simp only [not_or,Decidable.not_not,Bool.not_eq_true] at hz; by_cases hl:x.args.length=(if x.op=5 then 3 else 2)
   rotate_left
   ·rw [if_pos hl] at h; cases h
   ·rw [if_neg (fun e=>e hl)] at h
    obtain ⟨u,tk,x',rfl,a2,a3,⟨a,b,q,rfl,hH,hb⟩,a5⟩:=ops_back (by omega) hz.2.2.1 hz.2.2.2 hl h; refine ⟨u,_,x',rfl,a2,a3,by simp,fun ts st r hd hr=>?_⟩; have h1:=at_cons hd; have h2:=at_cons (ts:=ts) (i:=st.nx+1) h1.2; unfold literalP; rw [is_at hd,is_at hd,is_at hd,is_at hd,hH.word (by decide),hH.word (by decide),hH.word (by decide),hH.word (by decide),h2.1]; rw [if_neg (by decide),if_neg (by decide),if_neg (by decide),if_neg (by decide),if_neg (fun e=>hb e.2.2.2),a5 ts st r hd hr]; simp [litE]
theorem numL_cons (n:Nat) (x:Lt) (l:List Lt):numL n (x::l)=⟨x.op,x.nt,x.rel,numT n x.args⟩::numL (n+cntT x.args) l:=rfl
def contL (ts:List Tw) (f:Nat) (st:PSt) (body:List Lt) (aux:List Ru):Option (List Lt × List Ru) × PSt:=if isP ts st 4 [44]=true then litsP ts f (nextP st) body aux else (some (body,aux),st)
theorem litsP_cont {ts:List Tw} {f:Nat} {st s:PSt} {body:List Lt} {aux:List Ru} {x:Lt} (h:literalP ts st=(some ([x],[]),s)):litsP ts (f+1) st body aux=contL ts f s (body++[x]) aux:=by
 rw [litsP,h]; simp [contL]
/-- what may follow a body: the rule's end -/
def Dot (r:List Tw):Prop:=∃ a q,r=a::q∧a.kind=4∧a.text=[46]
theorem Dot.noTx {r:List Tw} (h:Dot r) {s:List UInt8} (hs:s≠[46]):NoTx s r:=by
 obtain ⟨a,q,rfl,_,h2⟩:=h; intro b hb; simp at hb; subst hb
 rw [h2]; exact fun e=>hs e.symm
theorem lead_noOp {u:List UInt8} {tk:List Tk} {r:List Tw} (h:tk=[]∨∃ q,tk=tkM [44]::q) (hr:Dot r):NoOp (tk.map tw++r):=by
 rcases h with rfl | ⟨q,rfl⟩
 ·exact ⟨hr.noTx (by decide),hr.noTx (by decide)⟩
 ·constructor <;> (intro a ha; simp at ha; subst ha; decide)
theorem bodies_back:∀ (body:List Lg) (i:Nat) (l:List UInt8) (n:Nat) (p:List UInt8 × Nat),i≠0→bodyW i body l n=some p →
  ∃ u tk bs,p.1=l++u∧(numL n bs).map Lt.g=body∧Wr NoWd u tk∧Lead u∧(tk=[]∨∃ q,tk=tkM [44]::q) ∧
   ∀ ts f st acc aux r,ts.drop st.nx=tk.map tw++r→Dot r→tk.length≤f→contL ts f st acc aux=(some (acc++bs,aux),adv st tk.length)
 | [],i,l,n,p,hi,h=>by
  injection h with h; subst h; refine ⟨[],[],[],by simp,rfl,Wr.nil,Or.inl rfl,Or.inl rfl,fun ts f st acc aux r hd hr _=>?_⟩; unfold contL; rw [noTx_is (hr.noTx (by decide)) hd 4 (by decide)]; simp [adv_zero]
 | x::body,i,l,n,p,hi,h=>by
  unfold bodyW at h; have e:decide (i=0)=false:=decide_eq_false hi; rw [e] at h; simp only [Bool.false_eq_true,if_false] at h
  cases hx:litW x (l++[44,32]) n with
  | none=>rw [hx] at h; cases h
  | some p1 =>
   rw [hx] at h; simp only [Option.bind_some] at h; split at h
   ·cases h
   ·obtain ⟨u1,tk1,x',rfl,a2,a3,a4,a5⟩:=lit_back hx
    obtain ⟨u2,tk2,bs,b1,b2,b3,b4,b5,b6⟩:=bodies_back body (i+1) _ _ p (by omega) h; refine ⟨[44,32]++(u1++u2),tkM [44]::(tk1++tk2),x'::bs,?_,?_,?_,Or.inr ⟨_,rfl⟩,Or.inr ⟨_,rfl⟩,fun ts f st acc aux r hd hr hf=>?_⟩
    ·rw [b1]; simp
    ·rw [numL_cons,List.map_cons,a2,b2]
    ·exact wr_comma.app (a3.app b3 fun Y hY=>b4.noWd hY) fun _ _=>trivial
    ·simp only [List.length_cons,List.length_append] at hf
     obtain ⟨g,rfl⟩:∃ g,f=g+1:=⟨f - 1,by omega⟩
     have hd1:ts.drop (nextP st).nx=tk1.map tw++(tk2.map tw++r):=by
      have:ts.drop (nextP st).nx=(tk1++tk2).map tw++r:=(at_cons hd).2; rw [List.map_append,List.append_assoc] at this; exact this
     unfold contL; rw [is_at hd]; show (if true=true then litsP ts (g+1) (nextP st) acc aux else _)=_; rw [if_pos rfl,litsP_cont (a5 ts _ _ hd1 (lead_noOp (u:=u2) b5 hr)),b6 ts g _ _ aux r (at_adv hd1 (by simp)) hr (by omega)]; rw [next_adv,adv_adv,adv_adv]; simp [Nat.add_comm,Nat.add_left_comm]
/-- a body: nothing, or behind its mark -/
theorem body_back {body:List Lg} {l:List UInt8} {n:Nat} {p:List UInt8 × Nat} (h:bodyW 0 body l n=some p) :
  ∃ u tk bs,p.1=l++u∧(numL n bs).map Lt.g=body∧Wr NoWd u tk∧(u=[]∨∃ v,u=32::v) ∧
   ∀ ts st r,ts.drop st.nx=tk.map tw++r→Dot r→(if isP ts st 4 [58,45] then litsP ts (ts.length+1) (nextP st) [] [] else (some ([],[]),st))=(some (bs,[]),adv st tk.length):=by
 cases body with
 | nil =>
  injection h with h; subst h; refine ⟨[],[],[],by simp,rfl,Wr.nil,Or.inl rfl,fun ts st r hd hr=>?_⟩; rw [noTx_is (hr.noTx (by decide)) hd 4 (by decide)]; simp [adv_zero]
 | cons x body =>
  unfold bodyW at h; have e:decide ((0:Nat)=0)=true:=rfl; rw [e] at h; simp only [if_true] at h
  cases hx:litW x (l++[32,58,45,32]) n with
  | none=>rw [hx] at h; cases h
  | some p1 =>
   rw [hx] at h; simp only [Option.bind_some] at h; split at h
   ·cases h
   ·obtain ⟨u1,tk1,x',rfl,a2,a3,a4,a5⟩:=lit_back hx
    obtain ⟨u2,tk2,bs,b1,b2,b3,b4,b5,b6⟩:=bodies_back body 1 _ _ p (by omega) h; refine ⟨[32,58,45,32]++(u1++u2),tkM [58,45]::(tk1++tk2),x'::bs,?_,?_,?_,Or.inr ⟨_,rfl⟩,fun ts st r hd hr=>?_⟩
    ·rw [b1]; simp
    ·rw [numL_cons,List.map_cons,a2,b2]
    ·exact (wr_sp (wr_op (m:=[58,45]) (by decide))).app (a3.app b3 fun Y hY=>b4.noWd hY) fun _ _=>trivial
    ·have hl:=at_len hd
     simp only [List.length_map,List.length_cons,List.length_append] at hl
     have hd1:ts.drop (nextP st).nx=tk1.map tw++(tk2.map tw++r):=by
      have:ts.drop (nextP st).nx=(tk1++tk2).map tw++r:=(at_cons hd).2; rw [List.map_append,List.append_assoc] at this; exact this
     rw [is_at hd]; show (if true=true then litsP ts (ts.length+1) (nextP st) [] [] else _)=_; rw [if_pos rfl,litsP_cont (a5 ts _ _ hd1 (lead_noOp (u:=u2) b5 hr)),b6 ts _ _ _ [] r (at_adv hd1 (by simp)) hr (by omega)]; rw [next_adv,adv_adv,adv_adv]; simp [Nat.add_comm,Nat.add_left_comm]
end Go.Proofs.YtbkdakbhagjkhaaDoor
set_option linter.unusedSimpArgs false
namespace Go.Proofs.YtbkdakbhagjkhaaDoor
open Go.RowKit
open Go.Lib (hid byteCells itoa decDigits itoa_nonneg itoa_neg)
theorem nameW_agg {agg:Int} (h:1≤agg∧agg≤4):isNm (nameW agg)=true∧aggF (nameW agg)=agg:=by
 have:agg=1∨agg=2∨agg=3∨agg=4:=by omega
 rcases this with rfl | rfl | rfl | rfl <;> exact ⟨by decide,by decide⟩
/-- the aggregate and its place, behind i arguments -/
def hst (agg at_:Int) (i:Nat):Int × Nat:=if agg≠0∧at_ < i then (agg,at_.toNat) else (0,0)
/-- one argument of a head -/
theorem harg_back {agg at_:Int} (ha:agg=0∨1≤agg∧agg≤4) (h0:0≤at_) {i:Nat} {t:Tg} {l:List UInt8} {n:Nat} {p:List UInt8 × Nat} (hc:agg≠0→(i:Int)=at_→t.var≠[])
  (h:termF false t (if decide (agg≠0∧(i:Int)=at_)=true then l++(nameW agg++[40]) else l) n=some p) :
  ∃ u tk t',(if decide (agg≠0∧(i:Int)=at_)=true then p.1++[41] else p.1)=l++u∧p.2=n∧t'.g=t∧Wr NoWd u tk∧(∃ a q,tk=a::q∧(a.kind == 4 && a.text == [41])=false) ∧
   ∀ ts st r rel acc,acc.length=i→ts.drop st.nx=tk.map tw++r→headArgP ts st ⟨rel,acc,(hst agg at_ i).1,(hst agg at_ i).2⟩=(some ⟨rel,acc++[t'],(hst agg at_ (i+1)).1,(hst agg at_ (i+1)).2⟩,adv st tk.length):=by
 by_cases hg:agg≠0∧(i:Int)=at_
 ·have e:decide (agg≠0∧(i:Int)=at_)=true:=decide_eq_true hg
  rw [e] at h ⊢; simp only [if_true] at h ⊢; obtain ⟨u,tk,t',a1,rfl,a3,a4⟩:=plain_back h
  have hv:t'.var≠[]:=by
   have:=hc hg.1 hg.2; rw [← a4] at this; exact this
  obtain ⟨v1,rfl,v3⟩:=a1.var_ok.2 hv; obtain ⟨n1,n2⟩:=nameW_agg (agg:=agg) (by omega); have s1:hst agg at_ i=(0,0):=if_neg (by rintro ⟨_,h⟩; omega)
  have s2:hst agg at_ (i+1)=(agg,i):=by
   unfold hst; rw [if_pos ⟨hg.1,by omega⟩,← hg.2]; rfl
  refine ⟨nameW agg++([40]++(u++[41])),tkN (nameW agg)::tkM [40]::tkN t'.var::[tkM [41]],t',by simp,rfl,a4,?_,⟨_,_,rfl,rfl⟩,fun ts st r rel acc hi hd=>?_⟩
  ·exact (wr_name n1).app ((wr_mark (a:=40) (by decide)).app ((a3.app (wr_mark (a:=41) (by decide)) fun Y _=>noWd_cons (by decide) _).weak fun _ _=>trivial) fun _ _=>trivial) fun Y _=>noWd_cons (by decide) _
  ·rw [s1,s2]
   have h1:=at_cons hd; have h2:=at_cons (ts:=ts) (i:=st.nx+1) h1.2; have h3:=at_cons (ts:=ts) (i:=st.nx+1+1) h2.2
   have e1:needP ts (nextP st) [40]=(true,adv st 2):=by
    unfold needP; rw [is_at (st:=nextP st) h1.2]; rfl
   have e2:varP ts (adv st 2)=(some t',adv st 3):=by
    unfold varP; have:(tokP ts (adv st 2).nx)=tw (tkN t'.var):=h3.1.symm ▸ (at_cons (i:=(adv st 2).nx) (ts:=ts) (r:=tw (tkM [41])::r) h2.2).1; rw [this,if_pos ⟨rfl,v1⟩]; show (some (tmVar t'.var),_)=_; rw [← v3]; rfl
   have e3:needP ts (adv st 3) [41]=(true,adv st 4):=by
    unfold needP; rw [is_at (st:=adv st 3) h3.2]; rfl
   have e4:tokP ts st.nx=tw (tkN (nameW agg)):=h1.1; unfold headArgP; rw [e4,if_pos ⟨rfl,by show aggF (nameW agg)≠0; rw [n2]; exact hg.1,rfl⟩,e1]; simp only [if_true]; rw [e2]; simp only; rw [e3]; simp only [if_true]; show (some (⟨rel,acc++[t'],aggF (nameW agg),acc.length⟩:Hd),_)=_; rw [n2,hi]; rfl
 ·have e:decide (agg≠0∧(i:Int)=at_)=false:=decide_eq_false hg
  rw [e] at h ⊢; simp only [Bool.false_eq_true,if_false] at h ⊢; obtain ⟨u,tk,t',a1,rfl,a3,a4⟩:=plain_back h
  have s2:hst agg at_ (i+1)=hst agg at_ i:=by
   unfold hst; by_cases hz:agg≠0∧at_ < (i:Int)
   ·rw [if_pos hz,if_pos ⟨hz.1,by omega⟩]
   ·rw [if_neg hz,if_neg (by rintro ⟨q1,q2⟩; exact hz ⟨q1,by rcases Classical.em ((i:Int)=at_) with e | e; exact absurd ⟨q1,e⟩ hg; omega⟩)]
  obtain ⟨a,q,hq,hH⟩:=a1.head; refine ⟨u,tk,t',rfl,rfl,a4,a3,⟨a,q,hq,hH.mark (by decide)⟩,fun ts st r rel acc hi hd=>?_⟩; rw [s2]; unfold headArgP; have hp:=a1.parse hd
  have e4:tokP ts st.nx=tw a:=by
   rw [hq] at hd; exact (at_cons hd).1
  rw [e4,if_neg (fun e=>hH.agg ⟨e.1,e.2.1⟩),hp]
def contH (ts:List Tw) (f:Nat) (st:PSt) (x:Hd):Option Hd × PSt:=if isP ts st 4 [44]=true then headsP ts f (nextP st) x else (some x,st)
theorem headsP_cont {ts:List Tw} {f:Nat} {st s:PSt} {x y:Hd} (h:headArgP ts st x=(some y,s)):headsP ts (f+1) st x=contH ts f s y:=by
 rw [headsP,h]; rfl
theorem hargs_back {agg at_:Int} (ha:agg=0∨1≤agg∧agg≤4) (h0:0≤at_):∀ (args:List Tg) (i:Nat) (l:List UInt8) (n:Nat) (p:List UInt8 × Nat),i≠0→(∀ k t,args[k]? = some t→agg≠0→((i+k:Nat):Int)=at_→t.var≠[])→hargsW agg at_ i args l n=some p →
  ∃ u tk az,p=(l++u,n)∧az.map Tm.g=args∧Wr NoWd u tk∧Lead u ∧
   ∀ ts f st r rel acc,acc.length=i→ts.drop st.nx=tk.map tw++r→NoTx [44] r→tk.length≤f→contH ts f st ⟨rel,acc,(hst agg at_ i).1,(hst agg at_ i).2⟩=(some ⟨rel,acc++az,(hst agg at_ (i+args.length)).1,(hst agg at_ (i+args.length)).2⟩,adv st tk.length)
 | [],i,l,n,p,hi,_,h=>by
  injection h with h; subst h; refine ⟨[],[],[],by simp,rfl,Wr.nil,Or.inl rfl,fun ts f st r rel acc hi hd hr _=>?_⟩; unfold contH; rw [noTx_is hr hd 4 (by decide)]; simp [adv_zero]
 | t::args,i,l,n,p,hi,hc,h=>by
  unfold hargsW at h; have e:decide (i=0)=false:=decide_eq_false hi; rw [e] at h; simp only [Bool.false_eq_true,if_false] at h
  cases ht:termF false t (if decide (agg≠0∧(i:Int)=at_)=true then l++[44,32]++(nameW agg++[40]) else l++[44,32]) n with
  | none=>rw [ht] at h; cases h
  | some p1 =>
   rw [ht] at h; simp only [Option.bind_some] at h; obtain ⟨u1,tk1,t1,a1,a2,a3,a4,-,a5⟩:=harg_back (i:=i) ha h0 (fun q1 q2=>hc 0 t rfl q1 (by simpa using q2)) ht; rw [a1,a2] at h; obtain ⟨u2,tk2,az,rfl,b2,b3,b4,b5⟩:=hargs_back ha h0 args (i+1) _ _ p (by omega) (fun k y hk q1 q2=>hc (k+1) y hk q1 (by rw [← q2]; congr 1; omega)) h; refine ⟨[44,32]++(u1++u2),tkM [44]::(tk1++tk2),t1::az,by simp,by rw [List.map_cons,a3,b2],wr_comma.app (a4.app b3 fun Y hY=>b4.noWd hY) fun _ _=>trivial,Or.inr ⟨_,rfl⟩,fun ts f st r rel acc hl hd hr hf=>?_⟩; simp only [List.length_cons,List.length_append] at hf; obtain ⟨g,rfl⟩:∃ g,f=g+1:=⟨f - 1,by omega⟩
   have hd1:ts.drop (nextP st).nx=tk1.map tw++(tk2.map tw++r):=by
    have:ts.drop (nextP st).nx=(tk1++tk2).map tw++r:=(at_cons hd).2; rw [List.map_append,List.append_assoc] at this; exact this
   unfold contH; rw [is_at hd]; show (if true=true then headsP ts (g+1) (nextP st) _ else _)=_; rw [if_pos rfl,headsP_cont (a5 ts _ _ rel acc hl hd1),b5 ts g _ r rel (acc++[t1]) (by simp [hl]) (at_adv hd1 (by simp)) hr (by omega)]; rw [next_adv,adv_adv,adv_adv,show i+1+args.length=i+(t::args).length by simp; omega]; simp [Nat.add_comm,Nat.add_left_comm]
theorem head_back {x:Rg} {l:List UInt8} {n:Nat} {p:List UInt8 × Nat} (h:headW x l n=some p) :
  ∃ u tk az,p=(l++u,n)∧az.map Tm.g=x.head.args∧x.head.op=0∧x.head.nt=false∧0≤x.at_∧Wr Any u tk∧(∃ q,tk=tkN x.head.rel::q) ∧
   ∀ ts st r,ts.drop st.nx=tk.map tw++r→headP ts st=(some ⟨x.head.rel,az,x.agg,x.at_.toNat⟩,adv st tk.length):=by
 obtain ⟨⟨op,nt,rel,args⟩,agg,at_,body⟩:=x; unfold headW at h; simp only at h ⊢; split at h
 ·cases h
 ·rename_i h1
  split at h
  ·cases h
  ·rename_i h2
   split at h
   ·cases h
   ·rename_i h3
    simp only [not_or,not_and,Decidable.not_not,Bool.not_eq_true,Bool.not_eq_false] at h1 h2 h3; obtain ⟨rfl,rfl,hr⟩:=h3
    have ha:agg=0∨1≤agg∧agg≤4:=by omega
    have h0:0≤at_:=by
     rcases ha with rfl | ha
     ·have:=h1.2.2 rfl; omega
     ·have:=(h2 (by omega)).1; omega
    have hend:(hst agg at_ args.length).1=agg∧(hst agg at_ args.length).2=at_.toNat:=by
     rcases ha with rfl | ha
     ·have:=h1.2.2 rfl
      subst this; exact ⟨rfl,rfl⟩
     ·have:=(h2 (by omega)).2.1
      have e:hst agg at_ args.length=(agg,at_.toNat):=if_pos ⟨by omega,by omega⟩; rw [e]; exact ⟨rfl,rfl⟩
    have hc:∀ k t,args[k]? = some t→agg≠0→((k:Nat):Int)=at_→t.var≠[]:=by
     intro k t hk q1 q2 e; have:=(h2 q1).2.2; rw [← q2,Int.toNat_natCast,hk] at this; exact this (by rw [Option.map_some,e])
    cases hw:hargsW agg at_ 0 args (l++(rel++[40])) n with
    | none=>rw [hw] at h; cases h
    | some p1 =>
     rw [hw] at h; simp only [Option.map_some,Option.some.injEq] at h; subst h; have wn:=wr_name (var_nm (rel_var hr)).1; have wo:=wr_mark (a:=40) (by decide); have wc:=wr_mark (a:=41) (by decide)
     have hrel:∀ ts st r,ts.drop st.nx=tw (tkN rel)::tw (tkM [40])::r→relP ts st=((rel,true),adv st 2)∧ts.drop (adv st 2).nx=r:=by
      intro ts st r hd; have h1:=at_cons hd; have h2:=at_cons (ts:=ts) (i:=st.nx+1) h1.2; refine ⟨?_,h2.2⟩; unfold relP; rw [h1.1]; show (if (1:Int)=1∧relF rel=true then _ else _)=_; rw [if_pos ⟨rfl,hr⟩]; unfold needP
      have:isP ts (nextP st) 4 [40]=true:=by
       rw [is_at (st:=nextP st) h1.2]; rfl
      rw [this]; rfl
     cases args with
     | nil =>
      injection hw with hw; subst hw; refine ⟨rel++([40]++[41]),tkN rel::tkM [40]::[tkM [41]],[],by simp,rfl,rfl,rfl,h0,wn.app (wo.app wc fun _ _=>trivial) fun Y _=>noWd_cons (by decide) _,⟨_,rfl⟩,fun ts st r hd=>?_⟩; obtain ⟨e1,e2⟩:=hrel ts st _ hd; have hz:hst agg at_ 0=(0,0):=if_neg (by rintro ⟨_,h⟩; omega); rw [show ([]:List Tg).length=0 from rfl,hz] at hend; unfold headP; rw [e1]; simp only [if_true]; rw [is_at e2]; show (if true=true then _ else _)=_; rw [if_pos rfl,← hend.1,← hend.2,next_adv,adv_adv]; rfl
     | cons t args =>
      unfold hargsW at hw; have e0:decide ((0:Nat)=0)=true:=rfl; rw [e0] at hw; simp only [if_true] at hw
      cases ht:termF false t (if decide (agg≠0∧((0:Nat):Int)=at_)=true then l++(rel++[40])++(nameW agg++[40]) else l++(rel++[40])) n with
      | none=>rw [ht] at hw; cases hw
      | some p2 =>
       rw [ht] at hw; simp only [Option.bind_some] at hw; obtain ⟨u1,tk1,t1,a1,a2,a3,a4,⟨a,q,hq,hna⟩,a5⟩:=harg_back ha h0 (fun q1 q2=>hc 0 t rfl q1 q2) ht; rw [a1,a2] at hw; obtain ⟨u2,tk2,az,rfl,b2,b3,b4,b5⟩:=hargs_back ha h0 args 1 _ _ p1 (by omega) (fun k y hk q1 q2=>hc (k+1) y hk q1 (by rw [← q2]; congr 1; omega)) hw; refine ⟨rel++([40]++((u1++u2)++[41])),tkN rel::tkM [40]::((tk1++tk2)++[tkM [41]]),t1::az,by simp,by rw [List.map_cons,a3,b2],rfl,rfl,h0,?_,⟨_,rfl⟩,fun ts st r hd=>?_⟩
       ·exact wn.app (wo.app ((a4.app b3 fun Y hY=>b4.noWd hY).app wc fun Y _=>noWd_cons (by decide) _) fun _ _=>trivial) fun Y _=>noWd_cons (by decide) _
       ·have hl:=at_len hd
        obtain ⟨e1,e2⟩:=hrel ts st _ hd
        have e3:ts.drop (adv st 2).nx=tk1.map tw++(tk2.map tw++tw (tkM [41])::r):=by
         rw [e2]; simp
        have hz:hst agg at_ 0=(0,0):=if_neg (by rintro ⟨_,h⟩; omega); have hp:=a5 ts (adv st 2) _ rel [] rfl e3; rw [hz] at hp; unfold headP; rw [e1]; simp only [if_true]
        have hx:isP ts (adv st 2) 4 [41]=false:=by
         rw [hq] at e3; rw [is_at e3]; exact hna
        simp only [List.length_map,List.length_cons,List.length_append] at hl; rw [hx,if_neg (by decide),headsP_cont hp,b5 ts _ _ (tw (tkM [41])::r) rel ([]++[t1]) rfl (at_adv e3 (by simp)) (by intro b hb; simp at hb; subst hb; decide) (by omega)]; unfold headE; simp only; rw [is_at (a:=tw (tkM [41])) (r:=r)]
        ·rw [show 1+args.length=(t::args).length by simp; omega,hend.1,hend.2]
         show (if true=true then _ else _)=_; rw [if_pos rfl,next_adv,adv_adv,adv_adv,adv_adv]
         have e:2+(tk1.length+(tk2.length+1))=(tkN rel::tkM [40]::((tk1++tk2)++[tkM [41]])).length:=by simp; omega
         rw [e]; simp
        ·rw [adv_adv (adv st 2)]
         exact at_adv (a:=tk1.map tw++tk2.map tw) (by rw [List.append_assoc]; exact e3) (by simp)
theorem rule_back {x:Rg} {l:List UInt8} {p:List UInt8 × Nat} (h:ruleW x l=some p) :
  ∃ u tk r',p.1=l++u∧(numR r').g=x∧Wr Any u tk∧(∃ q,tk=tkN x.head.rel::q) ∧
   ∀ ts st r,ts.drop st.nx=tk.map tw++r→ruleP ts st=(some [numR r'],adv st tk.length):=by
 unfold ruleW at h
 cases hh:headW x l 0 with
 | none=>rw [hh] at h; cases h
 | some p1 =>
  rw [hh] at h; simp only [Option.bind_some] at h; obtain ⟨u1,tk1,az,rfl,a2,a3,a4,a5,a6,⟨q,rfl⟩,a8⟩:=head_back hh
  cases hb:bodyW 0 x.body (l++u1) 0 with
  | none=>rw [hb] at h; cases h
  | some p2 =>
   rw [hb] at h; simp only [Option.map_some,Option.some.injEq] at h; subst h; obtain ⟨u2,tk2,bs,b1,b2,b3,b4,b5⟩:=body_back hb; refine ⟨u1++(u2++([46]++[10])),(tkN x.head.rel::q)++(tk2++([tkM [46]]++[])),⟨⟨0,false,x.head.rel,az⟩,x.agg,x.at_.toNat,bs⟩,?_,?_,?_,⟨_,rfl⟩,fun ts st r hd=>?_⟩
   ·simp [b1]
   ·obtain ⟨⟨op,nt,rel,args⟩,agg,at_,body⟩:=x
    simp only at a2 a3 a4 a5 b2; subst a3; subst a4; show (⟨⟨0,false,rel,az.map Tm.g⟩,agg,((at_.toNat:Nat):Int),(numL 0 bs).map Lt.g⟩:Rg)=_; rw [a2,b2,Int.toNat_of_nonneg a5]
   ·refine a6.app (b3.app ((wr_mark (a:=46) (by decide)).app (wr_ws (c:=10) (by decide)) fun _ _=>trivial) fun Y _=>noWd_cons (by decide) _) fun _ _=>trivial
   ·rw [List.map_append,List.append_assoc] at hd
    have hp:=a8 ts st _ hd
    have hd1:ts.drop (adv st (tkN x.head.rel::q).length).nx=tk2.map tw++(tw (tkM [46])::r):=by
     have:=at_adv (k:=(tkN x.head.rel::q).length) hd (by simp); rw [this]; simp
    have hp2:=b5 ts _ _ hd1 ⟨_,_,rfl,rfl,rfl⟩; unfold ruleP; rw [hp]; simp only; rw [hp2]; unfold ruleE; simp only; rw [is_at (a:=tw (tkM [46])) (r:=r)]
    ·show (if true=true then _ else _)=_
     rw [if_pos rfl,next_adv,adv_adv,adv_adv]; simp [Nat.add_comm,Nat.add_left_comm]
    ·exact at_adv hd1 (by simp)
theorem rules_back:∀ (rs:List Rg) (l l':List UInt8),rulesW rs l=some l' →
  ∃ u tk rs',l'=l++u∧rs'.map Ru.g=rs∧rs.length≤tk.length∧Wr Any u tk ∧
   ∀ ts f st acc r,ts.drop st.nx=tk.map tw++r→acc.length+rs.length≤64→queryP ts (rs.length+f) st acc=queryP ts f (adv st tk.length) (acc++rs')
 | [],l,l',h=>by
  injection h with h; subst h; exact ⟨[],[],[],by simp,rfl,Nat.le_refl _,Wr.nil,fun ts f st acc r _ _=>by rw [List.append_nil]; simp [adv_zero]⟩
 | x::rs,l,l',h=>by
  unfold rulesW at h
  cases hx:ruleW x l with
  | none=>rw [hx] at h; cases h
  | some p =>
   rw [hx] at h; simp only [Option.bind_some] at h; obtain ⟨u1,tk1,r',a1,a2,a3,⟨q,rfl⟩,a5⟩:=rule_back hx; rw [a1] at h; obtain ⟨u2,tk2,rs',rfl,b2,b3,b4,b5⟩:=rules_back rs _ l' h; refine ⟨u1++u2,(tkN x.head.rel::q)++tk2,numR r'::rs',by simp,by rw [List.map_cons,a2,b2],by simp; omega,a3.app b4 fun _ _=>trivial,fun ts f st acc r hd hl=>?_⟩; rw [List.map_append,List.append_assoc] at hd; simp only [List.length_cons] at hl; have hp:=a5 ts st _ hd; have hd1:ts.drop (adv st (tkN x.head.rel::q).length).nx=tk2.map tw++r:=at_adv hd (by simp); rw [show (x::rs).length+f=(rs.length+f)+1 by simp; omega,queryP]
   have hq:isP ts st 4 [63]=false:=by rw [is_at hd]; rfl
   rw [hq,if_neg (by decide),hp]; simp only; rw [if_neg (by simp; omega),b5 ts f _ (acc++[numR r']) r hd1 (by simp; omega),adv_adv,List.length_append,List.append_assoc]; rfl
/-- what text writes, Parse reads back -/
theorem text_back {q:Qg} {t:List UInt8} (h:textW q=some t):∃ u,parseF t=.ok u∧u.g=q:=by
 obtain ⟨rules,op,nt,rel,args⟩:=q; unfold textW at h; split at h
 ·cases h
 ·rename_i hc
  simp only [not_or,Nat.not_lt,Decidable.not_not,Bool.not_eq_true] at hc; obtain ⟨hc1,rfl,rfl⟩:=hc; simp only at h
  cases hr:rulesW rules [] with
  | none=>rw [hr] at h; cases h
  | some l =>
   rw [hr] at h; simp only [Option.bind_some] at h; obtain ⟨u1,tk1,rs',hl,a2,a3,a4,a5⟩:=rules_back rules _ _ hr; rw [List.nil_append] at hl; rw [hl] at h
   cases hg:litW (⟨0,false,rel,args⟩:Lg) (u1++[63,32]) 0 with
   | none=>rw [hg] at h; cases h
   | some p =>
    rw [hg] at h; simp only [Option.bind_some] at h; split at h
    ·cases h
    ·rename_i hlen
     injection h with h; subst h; unfold litW at hg; rw [if_pos rfl] at hg; obtain ⟨u2,tk2,az,rfl,b2,b3,b4,b5⟩:=atom_back hg; simp only [Bool.false_eq_true,if_false] at *
     have hW:Wr Any (u1++([63,32]++u2)) (tk1++(tkM [63]::(tkN rel::tkM [40]::tk2))) :=
      a4.app (((wr_mark (a:=63) (by decide)).app (wr_ws (c:=32) (by decide)) fun _ _=>trivial).app b3 fun _ _=>trivial) fun _ _=>trivial
     have hS:=hW [] [] trivial (Scans.nil rfl); rw [List.append_nil,List.append_nil] at hS
     have htx:u1++[63,32]++u2=u1++([63,32]++u2):=by simp
     rw [htx] at hlen ⊢; obtain ⟨l',h1,h2⟩:=scanF_of (by omega) hS
     have htw:l'.map tw=(tk1++(tkM [63]::(tkN rel::tkM [40]::tk2))).map tw:=by
      have e:∀ x:Tk,tw x=⟨(tkey x).1,(tkey x).2.1,(tkey x).2.2⟩:=fun _=>rfl
      have e2:∀ m:List Tk,m.map tw=(m.map tkey).map fun k=>⟨k.1,k.2.1,k.2.2⟩:=fun m=>by rw [List.map_map]; rfl
      rw [e2,e2,h2]
     have hll:l'.length=tk1.length+(tk2.length+3):=by
      have:=congrArg List.length htw; simp at this; omega
     refine ⟨⟨rs',⟨0,false,rel,numT 0 az⟩⟩,?_,by show (⟨rs'.map Ru.g,⟨0,false,rel,(numT 0 az).map Tm.g⟩⟩:Qg)=_; rw [a2,b2]⟩; unfold parseF; rw [h1]; simp only; rw [htw]
     have hd0:((tk1++(tkM [63]::(tkN rel::tkM [40]::tk2))).map tw).drop st0.nx=tk1.map tw++((tkM [63]::(tkN rel::tkM [40]::tk2)).map tw):=by simp [st0]
     have hd1:((tk1++(tkM [63]::(tkN rel::tkM [40]::tk2))).map tw).drop (adv st0 tk1.length).nx=tw (tkM [63])::((tkN rel::tkM [40]::tk2).map tw):=at_adv hd0 (by simp); have hd2:=(at_cons hd1).2
     have hlt:(tk1++(tkM [63]::(tkN rel::tkM [40]::tk2))).length=tk1.length+(tk2.length+3):=by simp
     generalize htsd:(tk1++(tkM [63]::(tkN rel::tkM [40]::tk2))).map tw=ts at *
     have htl:ts.length=tk1.length+(tk2.length+3):=by rw [← htsd,List.length_map,hlt]
     rw [show l'.length+1=rules.length+((l'.length - rules.length)+1) by omega,a5 ts _ st0 [] _ hd0 (by simp; exact hc1),queryP,is_at hd1]; rw [if_pos (by decide),b5 ts (nextP (adv st0 tk1.length)) [] (by rw [List.append_nil]; exact hd2)]; unfold goalE; simp only; rw [if_neg (by rw [htl]; show ¬ 0+tk1.length+1+(tk2.length+2) < _; omega)]; simp
end Go.Proofs.YtbkdakbhagjkhaaDoor
set_option linter.unusedSimpArgs false
namespace Go.Proofs.YtbkdakbhagjkhaaDoor
open Go.RowKit
open Go.Lib (hid byteCells itoa decDigits itoa_nonneg itoa_neg)
/-- how long a term is, written -/
def wl (t:Tm):Nat:=if t.var=[] then ((constF t.g).getD []).length else t.var.length
def OkT (al:Bool) (t:Tm):Prop:=((t.var=[]∧(constF t.g).isSome=true)∨(varF t.var=true∧t=tmVar t.var)∨(al=true∧t=tmVar [95]))∧t.var.length≤40000
theorem OkT.up {al:Bool} {t:Tm} (h:OkT false t):OkT al t:=by
 refine ⟨?_,h.2⟩; rcases h.1 with h | h | h
 ·exact Or.inl h
 ·exact Or.inr (Or.inl h)
 ·cases h.1
theorem OkT.ne {t:Tm} (h:OkT false t):t.var≠[95]:=by
 rcases h.1 with h | h | h
 ·rw [h.1]; decide
 ·exact (var_ne h.1).2
 ·cases h.1
def wA (az:List Tm):Nat:=(az.map fun t=>wl t+2).sum
theorem wA_nil:wA []=0:=rfl
theorem wA_cons (t:Tm) (az:List Tm):wA (t::az)=wl t+2+wA az:=rfl
theorem wA_app (az bs:List Tm):wA (az++bs)=wA az+wA bs:=by unfold wA; rw [List.map_append,List.sum_append]
theorem cnt_le (az:List Tm):cntT az≤az.length:=List.length_filter_le _ _
theorem wA_len:∀ az:List Tm,2 * az.length≤wA az
 | []=>Nat.le_refl _
 | t::az=>by have:=wA_len az; rw [wA_cons,List.length_cons]; omega
def OkAt (x:Lt):Prop:=x.op=0∧relF x.rel=true∧x.rel.length≤40000∧x.args.length≤100000∧∀ t∈x.args,OkT true t
def OkCmp (x:Lt):Prop:=(1≤x.op∧x.op≤5)∧x.rel=[]∧x.nt=false∧x.args.length=(if x.op=5 then 3 else 2)∧∀ t∈x.args,OkT false t
def OkL (x:Lt):Prop:=OkAt x∨OkCmp x
def wL (x:Lt):Nat:=x.rel.length+6+wA x.args
def numLt (n:Nat) (x:Lt):Lt:=⟨x.op,x.nt,x.rel,numT n x.args⟩
theorem numT_none':∀ (az:List Tm) (n:Nat),(∀ t∈az,t.var≠[95])→numT n az=az
 | [],n,_=>rfl
 | t::az,n,h=>by rw [numT,if_neg (h t (by simp)),numT_none' az n fun x hx=>h x (by simp [hx])]
theorem numT_none'':∀ (az:List Tm),(∀ t∈az,t.var≠[95])→cntT az=0
 | [],_=>rfl
 | t::az,h=>by rw [cntT_cons,cnt_none t (h t (by simp)),numT_none'' az fun x hx=>h x (by simp [hx])]
theorem numL_cons' (n:Nat) (x:Lt) (l:List Lt):numL n (x::l)=numLt n x::numL (n+cntT x.args) l:=rfl
theorem numL_len:∀ (xs:List Lt) (n:Nat),(numL n xs).length=xs.length
 | [],n=>rfl
 | x::xs,n=>by rw [numL_cons',List.length_cons,numL_len,List.length_cons]
theorem zero_ok (s:List UInt8):¬ ((tmVar s).g.kind≠0∨(tmVar s).g.n≠0∨plainG (tmVar s).g=false∨(tmVar s).g.vs≠[]):=by
 rintro (h | h | h | h)
 ·exact h rfl
 ·exact h rfl
 ·exact absurd (show plainG (tmVar s).g=true from rfl) (by rw [h]; decide)
 ·exact h rfl
theorem termF_var (al:Bool) {s:List UInt8} (h:varF s=true) (l:List UInt8) (n:Nat):termF al (tmVar s).g l n=some (l++s,n):=by
 unfold termF; rw [if_neg (show ¬ (tmVar s).g.var=[] from (var_ne h).1),if_neg (zero_ok s),if_neg (by rw [show (tmVar s).g.var=s from rfl,var_wild h]; decide),if_pos (show varF (tmVar s).g.var=true from h)]; rfl
theorem termF_wild (l:List UInt8) (n:Nat) (hn:n < 9007199254740992):termF true (tmVar ([95]++itoa ((n+1:Nat):Int))).g l n=some (l++[95],n+1):=by
 unfold termF; rw [if_neg (show ¬ (tmVar ([95]++itoa ((n+1:Nat):Int))).g.var=[] from by simp [Tm.g,tmVar]),if_neg (zero_ok _),if_pos (show wildF (tmVar ([95]++itoa ((n+1:Nat):Int))).g.var=true from wild_wild n hn),if_pos ⟨rfl,rfl⟩]
/-- a good term is written -/
theorem termF_ok {al:Bool} {t:Tm} (h:OkT al t) (l:List UInt8) (n:Nat) (hn:n+cntT [t]≤9007199254740992):∃ u,termF al ((numT n [t]).headD t).g l n=some (l++u,n+cntT [t])∧u.length≤wl t:=by
 rcases h.1 with ⟨h1,h2⟩ | ⟨h1,h2⟩ | ⟨h1,h2⟩
 ·have hv:t.var≠[95]:=by rw [h1]; decide
  have e:(numT n [t]).headD t=t:=by simp [numT,hv]
  rw [e,cnt_none t hv]; obtain ⟨s,hs⟩:=Option.isSome_iff_exists.1 h2; refine ⟨s,?_,by unfold wl; rw [if_pos h1,hs]; exact Nat.le_refl _⟩; unfold termF; rw [if_pos (show t.g.var=[] from h1),hs]; rfl
 ·obtain ⟨hne,hv⟩:=var_ne h1
  have e:(numT n [t]).headD t=t:=by simp [numT,hv]
  rw [e,cnt_none t hv]; refine ⟨t.var,?_,by unfold wl; rw [if_neg hne]; exact Nat.le_refl _⟩; have:=termF_var al h1 l n; rw [← h2] at this; exact this
 ·subst h1
  subst h2; rw [cnt_one _ rfl] at hn ⊢
  have e:(numT n [tmVar [95]]).headD (tmVar [95])=⟨[95]++itoa ((n+1:Nat):Int),(tmVar [95]).val⟩:=by simp [numT,tmVar]
  rw [e]; refine ⟨[95],?_,by decide⟩; exact termF_wild l n (by omega)
theorem termF_ok' {t:Tm} (h:OkT false t) (l:List UInt8) (n:Nat):∃ u,termF false t.g l n=some (l++u,n)∧u.length≤wl t:=by
 rcases h.1 with ⟨h1,h2⟩ | ⟨h1,h2⟩ | ⟨h1,_⟩
 ·obtain ⟨s,hs⟩:=Option.isSome_iff_exists.1 h2
  refine ⟨s,?_,by unfold wl; rw [if_pos h1,hs]; exact Nat.le_refl _⟩; unfold termF; rw [if_pos (show t.g.var=[] from h1),hs]; rfl
 ·obtain ⟨hne,hv⟩:=var_ne h1
  refine ⟨t.var,?_,by unfold wl; rw [if_neg hne]; exact Nat.le_refl _⟩; have:=termF_var false h1 l n; rw [← h2] at this; exact this
 ·cases h1
theorem numT_head (n:Nat) (t:Tm):numT n [t]=[(numT n [t]).headD t]:=by
 by_cases h:t.var=[95] <;> simp [numT,h]
theorem args_ok (al:Bool):∀ (az:List Tm) (first:Bool) (l:List UInt8) (n:Nat),(∀ t∈az,OkT al t)→n+cntT az≤9007199254740992→∃ u,argsW al first ((numT n az).map Tm.g) l n=some (l++u,n+cntT az)∧u.length≤wA az
 | [],first,l,n,_,_=>⟨[],by simp [numT,argsW,cntT],Nat.zero_le _⟩
 | t::az,first,l,n,h,hn=>by
  rw [cntT_cons] at hn ⊢; obtain ⟨u1,h1,h2⟩:=termF_ok (h t (by simp)) (if first=true then l else l++[44,32]) n (by omega); obtain ⟨u2,h3,h4⟩:=args_ok al az false ((if first=true then l else l++[44,32])++u1) (n+cntT [t]) (fun x hx=>h x (by simp [hx])) (by omega); refine ⟨(if first=true then [] else [44,32])++(u1++u2),?_,?_⟩
  ·rw [numT_cons,numT_head,List.map_append]
   show argsW al first (((numT n [t]).headD t).g::(numT (n+cntT [t]) az).map Tm.g) l n=_; rw [argsW,h1]; simp only [Option.bind_some]; rw [h3]; cases first <;> simp [Nat.add_assoc]
  ·rw [wA_cons]
   cases first <;> (simp; omega)
theorem atom_ok {x:Lt} (h:OkAt x) (l:List UInt8) (n:Nat) (hn:n+cntT x.args≤9007199254740992):∃ u,atomW (numLt n x).g l n=some (l++u,n+cntT x.args)∧u.length≤wL x:=by
 obtain ⟨u,h1,h2⟩:=args_ok true x.args true ((if x.nt=true then l++[110,111,116,32] else l)++(x.rel++[40])) n h.2.2.2.2 hn; refine ⟨(if x.nt=true then [110,111,116,32] else [])++(x.rel++([40]++(u++[41]))),?_,?_⟩
 ·unfold atomW
  have e1:(numLt n x).g.rel=x.rel:=rfl; have e2:(numLt n x).g.nt=x.nt:=rfl; have e3:(numLt n x).g.args=(numT n x.args).map Tm.g:=rfl; rw [e1,e2,e3,if_neg (by rw [h.2.1]; decide),h1]; cases x.nt <;> simp
 ·unfold wL
  cases x.nt <;> (simp; omega)
theorem cmp_ok {x:Lt} (h:OkCmp x) (l:List UInt8) (n:Nat):∃ u,opsW (mkW x.op) 0 (numLt n x).g.args l n=some (l++u,n)∧u.length≤wL x:=by
 obtain ⟨op,nt,rel,args⟩:=x; obtain ⟨h1,h2,h3,h4,h5⟩:=h; simp only at h1 h2 h3 h4 h5; have hno:=(numT_none' args n fun t ht=>(h5 t ht).ne)
 have e3:(numLt n ⟨op,nt,rel,args⟩).g.args=args.map Tm.g:=by show (numT n args).map Tm.g=_; rw [hno]
 rw [e3]; have hm:=mkW_len op
 have hT:∀ t,t∈args→∀ l n,∃ u,termF false t.g l n=some (l++u,n)∧u.length≤wl t:=by
  intro t ht l n; obtain ⟨u,q1,q2⟩:=termF_ok' (h5 t ht) l n; exact ⟨u,q1,q2⟩
 match args,h4,hT with
 | [a,b],h4,hT =>
  obtain ⟨u1,a1,a2⟩:=hT a (by simp) l n; obtain ⟨u2,b1,b2⟩:=hT b (by simp) (l++u1++mkW op) n; refine ⟨u1++(mkW op++u2),?_,by unfold wL; simp [wA_cons,wA_nil]; omega⟩; simp only [List.map_cons,List.map_nil,opsW]; rw [if_neg (by decide),if_neg (by decide),a1]; simp only [Option.bind_some]; rw [if_pos (by decide),b1]; simp
 | [a,b,c],h4,hT =>
  obtain ⟨u1,a1,a2⟩:=hT a (by simp) l n; obtain ⟨u2,b1,b2⟩:=hT b (by simp) (l++u1++mkW op) n; obtain ⟨u3,c1,c2⟩:=hT c (by simp) (l++u1++mkW op++u2++[32,43,32]) n; refine ⟨u1++(mkW op++(u2++(([32,43,32]:List UInt8)++u3))),?_,by unfold wL; simp [wA_cons,wA_nil]; omega⟩; simp only [List.map_cons,List.map_nil,opsW]; rw [if_neg (by decide),if_neg (by decide),a1]; simp only [Option.bind_some]; rw [if_pos (by decide),b1]; simp only [Option.bind_some]; rw [if_neg (by decide),if_pos (by decide),c1]; simp
 | [],h4,_=>split at h4 <;> simp at h4
 | [_],h4,_=>split at h4 <;> simp at h4
 | _::_::_::_::_,h4,_=>split at h4 <;> simp at h4
theorem lit_ok {x:Lt} (h:OkL x) (l:List UInt8) (n:Nat) (hn:n+cntT x.args≤9007199254740992):∃ u,litW (numLt n x).g l n=some (l++u,n+cntT x.args)∧u.length≤wL x:=by
 unfold litW; have e0:(numLt n x).g.op=x.op:=rfl; rw [e0]; rcases h with h | h
 ·rw [if_pos h.1]; exact atom_ok h l n hn
 ·have hc:=(numT_none'' x.args fun t ht=>(h.2.2.2.2 t ht).ne)
  have e1:(numLt n x).g.rel=x.rel:=rfl; have e2:(numLt n x).g.nt=x.nt:=rfl
  have e3:(numLt n x).g.args.length=x.args.length:=by show ((numT n x.args).map Tm.g).length=_; rw [List.length_map,numT_none' _ _ fun t ht=>(h.2.2.2.2 t ht).ne]
  rw [e1,e2,e3,if_neg (by have:=h.1; omega),if_neg (by rw [h.2.1,h.2.2.1]; have:=h.1; simp; omega),if_neg (by rw [h.2.2.2.1]; simp),hc]; exact cmp_ok h l n
def wLs (xs:List Lt):Nat:=(xs.map fun x=>wL x+4).sum
theorem wLs_nil:wLs []=0:=rfl
theorem wLs_cons (x:Lt) (xs:List Lt):wLs (x::xs)=wL x+4+wLs xs:=rfl
theorem wLs_app (xs ys:List Lt):wLs (xs++ys)=wLs xs+wLs ys:=by unfold wLs; rw [List.map_append,List.sum_append]
theorem cnt_wL (x:Lt):cntT x.args≤wL x:=by
 have h1:=cnt_le x.args; have h2:=wA_len x.args; unfold wL; omega
theorem body_ok:∀ (xs:List Lt) (i:Nat) (l:List UInt8) (n:Nat),(∀ x∈xs,OkL x)→n+wLs xs≤9007199254740992→l.length+wLs xs≤32768→∃ u m,bodyW i ((numL n xs).map Lt.g) l n=some (l++u,m)∧u.length≤wLs xs
 | [],i,l,n,_,_,_=>⟨[],n,by simp [numL,bodyW],Nat.zero_le _⟩
 | x::xs,i,l,n,h,hn,hl=>by
  rw [wLs_cons] at hn hl ⊢; have hc:=cnt_wL x; obtain ⟨u1,h1,h2⟩:=lit_ok (h x (by simp)) (l++(if decide (i=0)=true then [32,58,45,32] else [44,32])) n (by omega)
  have hs:(if decide (i=0)=true then [32,58,45,32] else [44,32]:List UInt8).length≤4:=by split <;> simp
  obtain ⟨u2,m,h3,h4⟩:=body_ok xs (i+1) (l++(if decide (i=0)=true then [32,58,45,32] else [44,32])++u1) (n+cntT x.args) (fun y hy=>h y (by simp [hy])) (by omega) (by simp only [List.length_append]; omega); refine ⟨(if decide (i=0)=true then [32,58,45,32] else [44,32])++(u1++u2),m,?_,by simp only [List.length_append]; omega⟩; show bodyW i ((numLt n x).g::(numL (n+cntT x.args) xs).map Lt.g) l n=_; rw [bodyW,h1]; simp only [Option.bind_some]; rw [if_neg (by simp only [List.length_append]; omega),h3]; simp
/-- a rule that can be written: head and body -/
def OkR (r:Ru):Prop:=(r.head.op=0∧r.head.nt=false∧relF r.head.rel=true∧r.head.rel.length≤40000∧r.head.args.length≤100000∧∀ t∈r.head.args,OkT false t)
 ∧ ((r.agg=0∧r.at_=0)∨(1≤r.agg∧r.agg≤4∧0≤r.at_∧r.at_ < r.head.args.length∧r.head.args[r.at_.toNat]?.map Tm.var≠some []))∧(∀ x∈r.body,OkL x)∧r.body.length≤100000
def wR (r:Ru):Nat:=wL r.head+7+wLs r.body+2
theorem nameW_len (agg:Int):(nameW agg).length≤5:=by unfold nameW; split; simp; split; simp; split <;> simp
/-- the arguments of a head; extra: what the aggregate still may take -/
theorem hargs_ok (agg at_:Int):∀ (az:List Tm) (i:Nat) (l:List UInt8) (n:Nat),(∀ t∈az,OkT false t)→∃ u,hargsW agg at_ i (az.map Tm.g) l n=some (l++u,n)∧u.length≤wA az+(if (i:Int)≤at_ then 7 else 0)
 | [],i,l,n,_=>⟨[],by simp [hargsW],Nat.zero_le _⟩
 | t::az,i,l,n,h=>by
  obtain ⟨u1,h1,h2⟩:=termF_ok' (h t (by simp)) (if decide (agg≠0∧(i:Int)=at_)=true then (if decide (i=0)=true then l else l++[44,32])++(nameW agg++[40]) else (if decide (i=0)=true then l else l++[44,32])) n; obtain ⟨u2,h3,h4⟩:=hargs_ok agg at_ az (i+1) (if decide (agg≠0∧(i:Int)=at_)=true then (if decide (agg≠0∧(i:Int)=at_)=true then (if decide (i=0)=true then l else l++[44,32])++(nameW agg++[40]) else (if decide (i=0)=true then l else l++[44,32]))++u1++[41] else (if decide (agg≠0∧(i:Int)=at_)=true then (if decide (i=0)=true then l else l++[44,32])++(nameW agg++[40]) else (if decide (i=0)=true then l else l++[44,32]))++u1) n (fun x hx=>h x (by simp [hx])); have hnl:=nameW_len agg; by_cases hg:agg≠0∧(i:Int)=at_
  ·have e:decide (agg≠0∧(i:Int)=at_)=true:=decide_eq_true hg
   rw [e] at h1 h3; simp only [if_true] at h1 h3; refine ⟨(if decide (i=0)=true then [] else [44,32])++((nameW agg++[40])++(u1++([41]++u2))),?_,?_⟩
   ·show hargsW agg at_ i (t.g::az.map Tm.g) l n=_
    rw [hargsW,e]; simp only [if_true]; rw [h1]; simp only [Option.bind_some]; rw [h3]; split <;> simp
   ·rw [if_neg (by omega)] at h4
    have e7:(if (i:Int)≤at_ then 7 else 0)=7:=if_pos (by omega); rw [e7,wA_cons]; split <;> (simp only [List.length_append,List.length_cons,List.length_nil]; omega)
  ·have e:decide (agg≠0∧(i:Int)=at_)=false:=decide_eq_false hg
   rw [e] at h1 h3; simp only [Bool.false_eq_true,if_false] at h1 h3; refine ⟨(if decide (i=0)=true then [] else [44,32])++(u1++u2),?_,?_⟩
   ·show hargsW agg at_ i (t.g::az.map Tm.g) l n=_
    rw [hargsW,e]; simp only [Bool.false_eq_true,if_false]; rw [h1]; simp only [Option.bind_some]; rw [h3]; split <;> simp
   ·rw [wA_cons]
    have:(if ((i+1:Nat):Int)≤at_ then 7 else 0)≤(if (i:Int)≤at_ then 7 else 0):=by
     split
     ·rw [if_pos (by omega)]; exact Nat.le_refl _
     ·exact Nat.zero_le _
    split <;> (simp; omega)
theorem rule_ok {r:Ru} (h:OkR r) (l:List UInt8) (hl:l.length+wR r≤32768):∃ u m,ruleW (numR r).g l=some (l++u,m)∧u.length≤wR r:=by
 obtain ⟨⟨op,nt,rel,args⟩,agg,at_,body⟩:=r; obtain ⟨⟨h1,h2,h3,h4,h5,h6⟩,h7,h8,h9⟩:=h; simp only at h1 h2 h3 h4 h5 h6 h7 h8 h9; subst h1; subst h2; unfold wR wL at hl; simp only at hl; obtain ⟨u1,a1,a2⟩:=hargs_ok agg at_ args 0 (l++(rel++[40])) 0 h6
 have a2':u1.length≤wA args+7:=by split at a2 <;> omega
 have hw:headW (numR ⟨⟨0,false,rel,args⟩,agg,at_,body⟩).g l 0=some (l++(rel++([40]++(u1++[41]))),0):=by
  unfold headW
  show (if agg < 0∨5≤agg∨(agg=0∧at_≠0) then none
   else if agg≠0∧(at_ < 0∨((args.map Tm.g).length:Int)≤at_∨((args.map Tm.g)[at_.toNat]?.map Tg.var)=some []) then none
   else if (0:Int)≠0∨false=true∨relF rel=false then none
   else (hargsW agg at_ 0 (args.map Tm.g) (l++(rel++[40])) 0).map fun p=>(p.1++[41],p.2))=_
  rw [if_neg (by rintro (q | q | ⟨q,q2⟩) <;> rcases h7 with ⟨z1,z2⟩ | ⟨z1,z2,z3,z4,z5⟩ <;> omega),if_neg ?_,if_neg (by rw [h3]; simp),a1]
  ·simp
  ·rintro ⟨q,q2⟩
   rcases h7 with ⟨z1,z2⟩ | ⟨z1,z2,z3,z4,z5⟩
   ·exact q z1
   ·rw [List.length_map,List.getElem?_map,Option.map_map] at q2
    rcases q2 with q2 | q2 | q2
    ·omega
    ·omega
    ·exact z5 q2
 obtain ⟨u2,m,b1,b2⟩:=body_ok body 0 (l++(rel++([40]++(u1++[41])))) 0 h8 (by omega) (by simp only [List.length_append,List.length_cons,List.length_nil]; omega); refine ⟨rel++([40]++(u1++[41]))++(u2++[46,10]),m,?_,?_⟩
 ·unfold ruleW
  rw [hw]; simp only [Option.bind_some]; have e:(numR ⟨⟨0,false,rel,args⟩,agg,at_,body⟩).g.body=(numL 0 body).map Lt.g:=rfl; rw [e,b1]; simp
 ·unfold wR wL
  simp; omega
def wRs (rs:List Ru):Nat:=(rs.map wR).sum
theorem wRs_cons (r:Ru) (rs:List Ru):wRs (r::rs)=wR r+wRs rs:=rfl
theorem wRs_app (rs zs:List Ru):wRs (rs++zs)=wRs rs+wRs zs:=by unfold wRs; rw [List.map_append,List.sum_append]
theorem rules_ok:∀ (rs:List Ru) (l:List UInt8),(∀ r∈rs,OkR r)→l.length+wRs rs≤32768→∃ u,rulesW ((rs.map numR).map Ru.g) l=some (l++u)∧u.length≤wRs rs
 | [],l,_,_=>⟨[],by simp [rulesW],Nat.zero_le _⟩
 | r::rs,l,h,hl=>by
  rw [wRs_cons] at hl ⊢; obtain ⟨u1,m,a1,a2⟩:=rule_ok (h r (by simp)) l (by omega); obtain ⟨u2,b1,b2⟩:=rules_ok rs (l++u1) (fun x hx=>h x (by simp [hx])) (by simp only [List.length_append]; omega); refine ⟨u1++u2,?_,by simp; omega⟩; show rulesW ((numR r).g::(rs.map numR).map Ru.g) l=_; rw [rulesW,a1]; simp only [Option.bind_some]; rw [b1]; simp
theorem text_ok {rs:List Ru} {g:Lt} (h:∀ r∈rs,OkR r) (hg:OkAt g) (hnt:g.nt=false) (hn:rs.length≤64) (hw:wRs rs+2+wL g≤32768):(textW (⟨rs.map numR,numLt 0 g⟩:Qu).g).isSome=true:=by
 obtain ⟨u1,a1,a2⟩:=rules_ok rs [] h (by simp; omega); have hc:=cnt_wL g; obtain ⟨u2,b1,b2⟩:=lit_ok (Or.inl hg) ([]++u1++[63,32]) 0 (by omega); unfold textW; have e1:(⟨rs.map numR,numLt 0 g⟩:Qu).g.rules=(rs.map numR).map Ru.g:=rfl; have e2:(⟨rs.map numR,numLt 0 g⟩:Qu).g.goal=(numLt 0 g).g:=rfl; have e3:(numLt 0 g).g.op=g.op:=rfl; have e4:(numLt 0 g).g.nt=g.nt:=rfl; rw [e1,e2,e3,e4,if_neg (by rw [hg.1,hnt,List.length_map,List.length_map]; simp; omega),a1]; simp only [Option.bind_some]; rw [b1]; simp only [Option.bind_some]; rw [if_neg (by simp at b2 ⊢; omega)]; rfl
/-! the bounds that the writer asks for -/
theorem num_len:∀ (n:Nat) (az:List Tm),(numT n az).length=az.length
 | _,[]=>rfl
 | n,t::az=>by
  rw [numT]; split <;> simp [num_len]
theorem itoa_21 (n:Nat) (h:n≤9007199254740992):(itoa (n:Int)).length≤40:=by
 have:=itoaW_len (n:Int) (by omega) (by omega); omega
theorem num_var:∀ (az:List Tm) (n:Nat),(∀ t∈az,t.var.length≤40000)→n+az.length≤9007199254740992→∀ t∈numT n az,t.var.length≤40000
 | [],n,_,_=>fun t ht=>by cases ht
 | a::az,n,h,hn=>by
  simp only [List.length_cons] at hn; intro t ht; rw [numT] at ht; split at ht
  ·simp only [List.mem_cons] at ht
   rcases ht with rfl | ht
   ·have:=itoa_21 (n+1) (by omega)
    show ([95]++itoa ((n+1:Nat):Int)).length≤_; rw [List.length_append]; simp only [List.length_cons,List.length_nil]; omega
   ·exact num_var az (n+1) (fun x hx=>h x (by simp [hx])) (by omega) t ht
  ·simp only [List.mem_cons] at ht
   rcases ht with rfl | ht
   ·exact h t (by simp)
   ·exact num_var az n (fun x hx=>h x (by simp [hx])) (by omega) t ht
theorem lt_b {x:Lt} (h:OkL x) (n:Nat) (hn:n≤9007199254640992):LgB (numLt n x).g:=by
 have h1:x.rel.length≤40000∧x.args.length≤100000∧∀ t∈x.args,t.var.length≤40000:=by
  rcases h with h | h
  ·exact ⟨h.2.2.1,h.2.2.2.1,fun t ht=>(h.2.2.2.2 t ht).2⟩
  ·refine ⟨by rw [h.2.1]; exact Nat.zero_le _,by rw [h.2.2.2.1]; split <;> decide,fun t ht=>(h.2.2.2.2 t ht).2⟩
 refine ⟨h1.1,by show ((numT n x.args).map Tm.g).length≤_; rw [List.length_map,num_len]; exact h1.2.1,fun t ht=>?_⟩; obtain ⟨y,hy,rfl⟩:=List.mem_map.1 (show t∈(numT n x.args).map Tm.g from ht); exact num_var x.args n h1.2.2 (by omega) y hy
theorem lts_b:∀ (xs:List Lt) (n:Nat),(∀ x∈xs,OkL x)→n+100000 * xs.length≤9007199254640992→∀ x∈(numL n xs).map Lt.g,LgB x
 | [],n,_,_=>fun x hx=>by cases hx
 | a::xs,n,h,hn=>by
  simp only [List.length_cons] at hn; intro x hx; rw [numL_cons',List.map_cons,List.mem_cons] at hx; rcases hx with rfl | hx
  ·exact lt_b (h a (by simp)) n (by omega)
  ·have hc:cntT a.args≤100000:=by
    have:=cnt_le a.args; rcases h a (by simp) with h | h
    ·have:=h.2.2.2.1; omega
    ·have:=h.2.2.2.1; split at this <;> omega
   exact lts_b xs (n+cntT a.args) (fun x hx=>h x (by simp [hx])) (by omega) x hx
theorem ru_b {r:Ru} (h:OkR r):RgB (numR r).g:=by
 refine ⟨⟨h.1.2.2.2.1,by show (r.head.args.map Tm.g).length≤_; rw [List.length_map]; exact h.1.2.2.2.2.1,fun t ht=>?_⟩,?_,lts_b r.body 0 h.2.2.1 (by have:=h.2.2.2; omega)⟩
 ·obtain ⟨y,hy,rfl⟩:=List.mem_map.1 (show t∈r.head.args.map Tm.g from ht)
  exact (h.1.2.2.2.2.2 y hy).2
 ·show ((numL 0 r.body).map Lt.g).length≤_
  rw [List.length_map,numL_len]; exact h.2.2.2
theorem qu_b {rs:List Ru} {g:Lt} (h:∀ r∈rs,OkR r) (hg:OkAt g):QgB (⟨rs.map numR,numLt 0 g⟩:Qu).g:=by
 refine ⟨fun r hr=>?_,lt_b (Or.inl hg) 0 (by decide)⟩; obtain ⟨y,hy,rfl⟩:=List.mem_map.1 (show r∈(rs.map numR).map Ru.g from hr); obtain ⟨z,hz,rfl⟩:=List.mem_map.1 hy; exact ru_b (h z hz)
end Go.Proofs.YtbkdakbhagjkhaaDoor
set_option linter.unusedSimpArgs false
namespace Go.Proofs.YtbkdakbhagjkhaaDoor
open Go.RowKit
open Go.Lib (hid byteCells itoa decDigits itoa_nonneg itoa_neg)
/-- what a token may cost -/
def zw (t:Tw):Nat:=if t.kind=3 then 16 * (quoteF t.text).length else if t.kind=2 then 32 * (itoa t.n).length else 32 * t.text.length
theorem escs_app (a b:List UInt8):escs (a++b)=escs a++escs b:=by unfold escs; simp
theorem escs_one (c:UInt8):(escs [c]).length≤2:=by have:=escs_len [c]; simpa using this
theorem lit_cost:∀ (r acc t r':List UInt8),litF r acc=some (t,r')→(escs t).length+2 * r'.length+2≤(escs acc).length+2 * r.length
 | [],acc,t,r',h=>by simp [litF] at h
 | [c],acc,t,r',h=>by
  simp only [litF] at h; split at h
  ·simp only [Option.some.injEq,Prod.mk.injEq] at h; obtain ⟨rfl,rfl⟩:=h; simp
  ·cases h
 | c::e::r,acc,t,r',h=>by
  simp only [litF] at h; split at h
  ·cases h
  ·split at h
   ·simp only [Option.some.injEq,Prod.mk.injEq] at h; obtain ⟨rfl,rfl⟩:=h; simp; omega
   ·split at h
    ·split at h
     ·rename_i x hx
      have:=lit_cost r _ _ _ h; rw [escs_app,List.length_append] at this; have:=escs_one x; simp only [List.length_cons]; omega
     ·cases h
    ·have:=lit_cost (e::r) _ _ _ h
     rw [escs_app,List.length_append] at this; have:=escs_one c; simp only [List.length_cons] at *; omega
theorem tok_cost {D:List UInt8} {t:Tk} {r:List UInt8} (h:tokF D=.ok (t,r)):zw (tw t)+32 * r.length≤32 * D.length:=by
 cases D with
 | nil=>simp [tokF] at h
 | cons c q =>
  have hsum:((c::q).takeWhile isWd).length+((c::q).dropWhile isWd).length=(c::q).length:=by
   rw [← List.length_append,List.takeWhile_append_dropWhile]
  simp only [tokF] at h; split at h
  ·simp only [nameF,Except.ok.injEq,Prod.mk.injEq] at h
   obtain ⟨rfl,rfl⟩:=h; show 32 * ((c::q).takeWhile isWd).length+_≤_; omega
  ·split at h
   ·unfold integerF at h
    split at h
    ·rename_i n hn
     simp only [Except.ok.injEq,Prod.mk.injEq] at h; obtain ⟨rfl,rfl⟩:=h; unfold intF at hn; split at hn
     ·cases hn
     ·split at hn
      ·cases hn
      ·split at hn
       ·rename_i k hk
        simp only [Except.ok.injEq] at hn; subst hn; have:=(parse_some hk).1; show 32 * (itoa k).length+_≤_; rw [this]; omega
       ·cases hn
    ·cases h
   ·split at h
    ·unfold textF at h
     split at h
     ·rename_i t' r' hl
      split at h
      ·cases h
      ·simp only [Except.ok.injEq,Prod.mk.injEq] at h
       obtain ⟨rfl,rfl⟩:=h; have:=lit_cost _ _ _ _ hl; rw [List.tail_cons] at this; show 16 * (quoteF t').length+_≤_; unfold quoteF; simp only [List.length_cons,List.length_append,List.length_nil] at *; have e:(escs ([]:List UInt8)).length=0:=rfl; omega
     ·cases h
    ·unfold markF at h
     split at h
     ·rename_i k hk
      simp only [Except.ok.injEq,Prod.mk.injEq] at h; obtain ⟨rfl,rfl⟩:=h; have:=(mkF_le hk).2.2.1; show 32 * ((c::q).take k).length+32 * ((c::q).drop k).length≤_; rw [List.length_take,List.length_drop]; omega
     ·cases h
theorem zw_key {t t':Tk} (h:tkey t'=tkey t):zw (tw t')=zw (tw t):=by
 have e:tw t'=tw t:=by
  unfold tkey at h; simp only [Prod.mk.injEq] at h; unfold tw; rw [h.1,h.2.1,h.2.2]
 rw [e]
theorem Scans.cost {s:List UInt8} {l:List Tk} (h:Scans s l):((l.map tw).map zw).sum≤32 * s.length:=by
 induction h with
 | nil h=>exact Nat.zero_le _
 | cons h hk hs ih =>
  rename_i r r2 t t' l; have h1:=tok_cost h; have h2:=skip_len false r; rw [List.map_cons,List.map_cons,List.sum_cons,zw_key hk]; omega
/-! the cost of the first tokens -/
def Zs (ts:List Tw) (i:Nat):Nat:=((ts.take i).map zw).sum
theorem Zs_next {ts:List Tw} {i:Nat} (h:i < ts.length):Zs ts (i+1)=Zs ts i+zw (tokP ts i):=by
 unfold Zs tokP; rw [List.take_add_one,List.getElem?_eq_getElem h,List.map_append,List.sum_append,List.getD_eq_getElem?_getD,List.getElem?_eq_getElem h]; simp
theorem zs_tail (ts:List Tw) (i:Nat):Zs ts i+((ts.drop i).map zw).sum=(ts.map zw).sum:=by
 unfold Zs; rw [← List.sum_append,← List.map_append,List.take_append_drop]
theorem zw_one {ts:List Tw} {i:Nat} (h:i < ts.length):zw (tokP ts i)≤(ts.map zw).sum:=by
 have h1:=Zs_next h; have h2:=zs_tail ts (i+1); omega
/-- what scanned tokens are -/
structure Ts (ts:List Tw):Prop where
 int:∀ i,(tokP ts i).kind=2→0≤(tokP ts i).n∧(tokP ts i).n≤9007199254740992
 text:∀ i,(tokP ts i).kind=3→(tokP ts i).text.length≤4096
 sum:(ts.map zw).sum≤100000
 len:ts.length≤3000
section
variable {ts:List Tw}
theorem zs_mark {st:PSt} {k:Int} {s:List UInt8} (hk:k=1∨k=4) (h:isP ts st k s=true):Zs ts (nextP st).nx=Zs ts st.nx+32 * s.length:=by
 have hl:=is_lt (by omega) h; show Zs ts (st.nx+1)=_; rw [Zs_next hl]; unfold isP at h; rw [Bool.and_eq_true,beq_iff_eq,beq_iff_eq] at h; unfold zw; rw [if_neg (by omega),if_neg (by omega),h.2]
theorem zs_name {st:PSt} (h:(tokP ts st.nx).kind=1∨(tokP ts st.nx).kind=4):Zs ts (nextP st).nx=Zs ts st.nx+32 * (tokP ts st.nx).text.length:=by
 have hl:st.nx < ts.length:=tok_lt (by omega); show Zs ts (st.nx+1)=_; rw [Zs_next hl]; unfold zw; rw [if_neg (by omega),if_neg (by omega)]
theorem text_short (hT:Ts ts) {i:Nat} (h:(tokP ts i).kind=1):(tokP ts i).text.length≤3125:=by
 have hl:i < ts.length:=tok_lt (by omega); have h1:=zw_one hl; have h2:=hT.sum
 have h3:zw (tokP ts i)=32 * (tokP ts i).text.length:=by
  unfold zw; rw [if_neg (by omega),if_neg (by omega)]
 omega
theorem need_z {st:PSt} {s:List UInt8} (h:(needP ts st s).1=true):(needP ts st s).2=nextP st∧Zs ts (nextP st).nx=Zs ts st.nx+32 * s.length:=by
 unfold needP at h ⊢; split
 ·rename_i h1; exact ⟨rfl,zs_mark (Or.inr rfl) h1⟩
 ·rename_i h1; rw [if_neg h1] at h; cases h
theorem rel_z (hT:Ts ts) {st:PSt} (h:(relP ts st).1.2=true):relF (relP ts st).1.1=true∧(relP ts st).1.1.length≤40000∧Zs ts (relP ts st).2.nx=Zs ts st.nx+32 * (relP ts st).1.1.length+32:=by
 unfold relP at h ⊢; split
 ·rename_i hc
  rw [if_pos hc] at h; simp only at h ⊢; obtain ⟨h1,h2⟩:=need_z h; rw [h1,h2,zs_name (Or.inl hc.1)]; have:=text_short hT hc.1; exact ⟨hc.2,by omega,rfl⟩
 ·rename_i hc; rw [if_neg hc] at h; cases h
theorem var_z (hT:Ts ts) {st:PSt} {t:Tm} (h:(varP ts st).1=some t):OkT false t∧t.var≠[]∧16 * wl t+Zs ts st.nx≤Zs ts (varP ts st).2.nx:=by
 unfold varP at h ⊢; split
 ·rename_i hc
  rw [if_pos hc] at h; injection h with h; subst h; have:=text_short hT hc.1; have hne:=(var_ne hc.2).1; refine ⟨⟨Or.inr (Or.inl ⟨hc.2,rfl⟩),by show (tokP ts st.nx).text.length≤_; omega⟩,hne,?_⟩; simp only; rw [zs_name (Or.inl hc.1)]; unfold wl; rw [if_neg (show ¬ (tmVar (tokP ts st.nx).text).var=[] from hne)]; show 16 * (tokP ts st.nx).text.length+_≤_; omega
 ·rename_i hc; rw [if_neg hc] at h; cases h
theorem itoa_minus (n:Int) (h:0≤n):(itoa (-n)).length≤(itoa n).length+1:=by
 by_cases hz:n=0
 ·subst hz; simp
 ·have:=itoa_neg_parts (n:=-n) (by omega)
  rw [Int.neg_neg] at this; rw [this]; simp
theorem int_ok' {n:Int} (h0:-9007199254740992≤n) (h1:n≤9007199254740992):OkT false (tmInt n)∧wl (tmInt n)=(itoa n).length:=by
 have e:constF (tmInt n).g=some (itoa n):=by
  unfold constF; rw [if_neg (show ¬ plainG (tmInt n).g=false from by rw [show plainG (tmInt n).g=true from rfl]; decide),if_pos ⟨rfl,rfl,h0,h1⟩]; rfl
 refine ⟨⟨Or.inl ⟨rfl,by rw [e]; rfl⟩,Nat.zero_le _⟩,?_⟩; unfold wl; rw [if_pos (show (tmInt n).var=[] from rfl),e]; rfl
theorem text_ok' {s:List UInt8} (h:s.length≤4096):OkT false (tmText s)∧wl (tmText s)=(quoteF s).length:=by
 have e:constF (tmText s).g=some (quoteF s):=by
  unfold constF; rw [if_neg (show ¬ plainG (tmText s).g=false from by rw [show plainG (tmText s).g=true from rfl]; decide),if_neg (fun q=>absurd (show (4:Int)=3 from q.1) (by decide)),if_pos ⟨rfl,rfl,h⟩]; show some (writeF [⟨3,s,0,0⟩])=_; rw [quote_write h]
 refine ⟨⟨Or.inl ⟨rfl,by rw [e]; rfl⟩,Nat.zero_le _⟩,?_⟩; unfold wl; rw [if_pos (show (tmText s).var=[] from rfl),e]; rfl
theorem term_z (hT:Ts ts) {st:PSt} {t:Tm} (h:(termP ts st).1=some t):OkT false t∧16 * wl t+Zs ts st.nx≤Zs ts (termP ts st).2.nx:=by
 unfold termP at h ⊢; split
 ·rename_i hc
  rw [if_pos hc] at h; injection h with h; subst h; have hl:st.nx < ts.length:=tok_lt (by omega); obtain ⟨h1,h2⟩:=hT.int _ hc; obtain ⟨h3,h4⟩:=int_ok' (n:=(tokP ts st.nx).n) (by omega) h2; refine ⟨h3,?_⟩; rw [h4]; show _≤Zs ts (st.nx+1); rw [Zs_next hl]; unfold zw; rw [if_neg (by omega),if_pos hc]; omega
 ·rename_i hc
  rw [if_neg hc] at h; split
  ·rename_i hc
   rw [if_pos hc] at h; injection h with h; subst h; have hl:st.nx < ts.length:=tok_lt (by omega); obtain ⟨h3,h4⟩:=text_ok' (hT.text _ hc); refine ⟨h3,?_⟩; rw [h4]; show _≤Zs ts (st.nx+1); rw [Zs_next hl]; unfold zw; rw [if_pos hc]; omega
  ·rename_i hc
   rw [if_neg hc] at h; split
   ·rename_i hc
    rw [if_pos hc] at h; have hm:=zs_mark (Or.inr rfl) hc; split
    ·rename_i hk
     rw [if_pos hk] at h; injection h with h; subst h; have hl:st.nx+1 < ts.length:=tok_lt (by omega); obtain ⟨h1,h2⟩:=hT.int _ hk; obtain ⟨h3,h4⟩:=int_ok' (n:=-(tokP ts (st.nx+1)).n) (by omega) (by omega); refine ⟨h3,?_⟩; rw [h4]; have:=itoa_minus _ h1; show _≤Zs ts (st.nx+1+1); rw [Zs_next hl]; have hm':Zs ts (st.nx+1)=Zs ts st.nx+32:=hm; rw [hm']; unfold zw; rw [if_neg (by omega),if_pos hk]; omega
    ·rename_i hk; rw [if_neg hk] at h; cases h
   ·rename_i hc
    rw [if_neg hc] at h; have:=var_z hT h; exact ⟨this.1,this.2.2⟩
theorem arg_z (hT:Ts ts) {st:PSt} {t:Tm} (h:(argP ts st).1=some t):OkT true t∧16 * wl t+Zs ts st.nx≤Zs ts (argP ts st).2.nx:=by
 unfold argP at h ⊢; split
 ·rename_i hc
  rw [if_pos hc] at h; injection h with h; subst h; refine ⟨⟨Or.inr (Or.inr ⟨rfl,rfl⟩),by decide⟩,?_⟩; have hm:=zs_mark (Or.inr rfl) hc; simp only; rw [hm]
  have:wl (tmVar [95])=1:=by decide
  rw [this]; simp; omega
 ·rename_i hc
  rw [if_neg hc] at h; have:=term_z hT h; exact ⟨this.1.up,this.2⟩
theorem args_z (hT:Ts ts):∀ (f:Nat) (st:PSt) (acc al:List Tm),(argsP ts f st acc).1=some al→∃ az,al=acc++az∧(∀ t∈az,OkT true t)∧16 * wA az+Zs ts st.nx≤Zs ts (argsP ts f st acc).2.nx+32
 | 0,st,acc,al,h=>by cases h
 | f+1,st,acc,al,h=>by
  unfold argsP at h ⊢
  have hz:=fun t=>arg_z hT (st:=st) (t:=t)
  generalize argP ts st=r at *; obtain ⟨o,s⟩:=r
  cases o with
  | none=>cases h
  | some t =>
   obtain ⟨h1,h2⟩:=hz t rfl; simp only at h h2 ⊢; split
   ·rename_i hc
    rw [if_pos hc] at h; have hm:=zs_mark (Or.inr rfl) hc; obtain ⟨az,rfl,h3,h4⟩:=args_z hT f (nextP s) (acc++[t]) al h; refine ⟨t::az,by simp,fun x hx=>?_,?_⟩
    ·simp only [List.mem_cons] at hx
     rcases hx with rfl | hx
     ·exact h1
     ·exact h3 x hx
    ·rw [wA_cons]
     rw [hm] at h4; simp only [List.length_cons,List.length_nil] at h4; omega
   ·rename_i hc
    rw [if_neg hc] at h; injection h with h; subst h; refine ⟨[t],rfl,fun x hx=>by simp at hx; subst hx; exact h1,?_⟩; rw [wA_cons,wA_nil]; simp only; omega
theorem atom_z (hT:Ts ts) {st:PSt} {l:Lt} (hst:st.nx≤ts.length) (h:(atomP ts st).1=some l):OkAt l∧l.nt=false∧16 * wA l.args+32 * l.rel.length+32+Zs ts st.nx≤Zs ts (atomP ts st).2.nx:=by
 have hlen:=(atomP_g ts st hst).2 l h; have hL:=hT.len; unfold atomP at h ⊢; split
 ·rename_i hr
  rw [if_pos hr] at h; obtain ⟨r1,r2,r3⟩:=rel_z hT hr; split
  ·rename_i hc
   rw [if_pos hc] at h; injection h with h; subst h; have hm:=zs_mark (Or.inr rfl) hc; refine ⟨⟨rfl,r1,r2,Nat.zero_le _,fun t ht=>by cases ht⟩,rfl,?_⟩; simp only; rw [hm,r3,wA_nil]; simp only [List.length_cons,List.length_nil]; omega
  ·rename_i hc
   rw [if_neg hc] at h
   have hz:=fun al=>args_z hT (ts.length+1) (relP ts st).2 [] al
   generalize argsP ts (ts.length+1) (relP ts st).2 []=r at *; obtain ⟨o,s⟩:=r
   cases o with
   | none=>cases h
   | some al =>
    obtain ⟨az,rfl,h1,h2⟩:=hz al rfl; simp only at h h2 ⊢; split
    ·rename_i hc2
     rw [if_pos hc2] at h; injection h with h; subst h; have hm:=zs_mark (Or.inr rfl) hc2; refine ⟨⟨rfl,r1,r2,by simp only at hlen ⊢; omega,by simpa using h1⟩,rfl,?_⟩; simp only [List.nil_append]; rw [hm]; simp only [List.length_cons,List.length_nil]; omega
    ·rename_i hc2; rw [if_neg hc2] at h; cases h
 ·rename_i hr; rw [if_neg hr] at h; cases h
end
end Go.Proofs.YtbkdakbhagjkhaaDoor
set_option linter.unusedSimpArgs false
namespace Go.Proofs.YtbkdakbhagjkhaaDoor
open Go.RowKit
open Go.Lib (hid byteCells itoa decDigits itoa_nonneg itoa_neg)
section
variable {ts:List Tw}
theorem zs_le (ts:List Tw) (i:Nat):Zs ts i≤(ts.map zw).sum:=by have:=zs_tail ts i; omega
def HOk (x:Hd):Prop:=(x.agg=0∧x.at_=0)∨(1≤x.agg∧x.agg≤4∧x.at_ < x.args.length∧x.args[x.at_]?.map Tm.var≠some [])
theorem agg_14 {s:List UInt8} (h:aggF s≠0):1≤aggF s∧aggF s≤4:=by
 unfold aggF at h ⊢; split
 ·decide
 ·split
  ·decide
  ·split
   ·decide
   ·split
    ·decide
    ·rename_i h1 h2 h3 h4; rw [if_neg h1,if_neg h2,if_neg h3,if_neg h4] at h; exact absurd rfl h
theorem HOk.push {rel:List UInt8} {args:List Tm} {agg:Int} {at_:Nat} (h:HOk ⟨rel,args,agg,at_⟩) (t:Tm):HOk ⟨rel,args++[t],agg,at_⟩:=by
 rcases h with h | ⟨h1,h2,h3,h4⟩
 ·exact Or.inl h
 ·refine Or.inr ⟨h1,h2,by show at_ < (args++[t]).length; rw [List.length_append]; simp only at h3; omega,?_⟩
  show (args++[t])[at_]?.map Tm.var≠some []; rw [List.getElem?_append_left h3]; exact h4
theorem harg_z (hT:Ts ts) {st:PSt} {x y:Hd} (hx:HOk x) (h:(headArgP ts st x).1=some y):∃ t,y.rel=x.rel∧y.args=x.args++[t]∧OkT false t∧HOk y∧16 * wl t+Zs ts st.nx≤Zs ts (headArgP ts st x).2.nx:=by
 obtain ⟨rel,args,agg,at_⟩:=x; unfold headArgP at h ⊢; split
 ·rename_i hc
  rw [if_pos hc] at h; have h0:=zs_name (ts:=ts) (st:=st) (Or.inl hc.1); split
  ·rename_i h1
   rw [if_pos h1] at h; obtain ⟨n1,n2⟩:=need_z h1
   have hz:=fun t=>var_z hT (st:=(needP ts (nextP st) [40]).2) (t:=t)
   generalize varP ts (needP ts (nextP st) [40]).2=r at *; obtain ⟨o,s⟩:=r
   cases o with
   | none=>cases h
   | some t =>
    obtain ⟨h2,h3,h4⟩:=hz t rfl; simp only at h h4 ⊢; split
    ·rename_i h5
     rw [if_pos h5] at h; injection h with h; subst h; obtain ⟨n3,n4⟩:=need_z h5; refine ⟨t,rfl,rfl,h2,?_,?_⟩
     ·have ha:=agg_14 hc.2.1
      refine Or.inr ⟨ha.1,ha.2,by simp,?_⟩; simp [h3]
     ·rw [n1,n2,h0] at h4
      rw [n3,n4]; omega
    ·rename_i h5; rw [if_neg h5] at h; cases h
  ·rename_i h1; rw [if_neg h1] at h; cases h
 ·rename_i hc
  rw [if_neg hc] at h
  have hz:=fun t=>term_z hT (st:=st) (t:=t)
  generalize termP ts st=r at *; obtain ⟨o,s⟩:=r
  cases o with
  | none=>cases h
  | some t =>
   obtain ⟨h1,h2⟩:=hz t rfl; simp only at h h2 ⊢; injection h with h; subst h; exact ⟨t,rfl,rfl,h1,hx.push t,h2⟩
theorem heads_z (hT:Ts ts):∀ (f:Nat) (st:PSt) (x y:Hd),HOk x→(headsP ts f st x).1=some y→∃ az,y.rel=x.rel∧y.args=x.args++az∧(∀ t∈az,OkT false t)∧HOk y∧16 * wA az+Zs ts st.nx≤Zs ts (headsP ts f st x).2.nx+32
 | 0,st,x,y,_,h=>by cases h
 | f+1,st,x,y,hx,h=>by
  unfold headsP at h ⊢
  have hz:=fun y=>harg_z hT (st:=st) (x:=x) (y:=y) hx
  generalize headArgP ts st x=r at *; obtain ⟨o,s⟩:=r
  cases o with
  | none=>cases h
  | some z =>
   obtain ⟨t,h1,h2,h3,h4,h5⟩:=hz z rfl; simp only at h h5 ⊢; split
   ·rename_i hc
    rw [if_pos hc] at h; have hm:=zs_mark (Or.inr rfl) hc; obtain ⟨az,k1,k2,k3,k4,k5⟩:=heads_z hT f (nextP s) z y h4 h; refine ⟨t::az,k1.trans h1,by rw [k2,h2]; simp,fun u hu=>?_,k4,?_⟩
    ·simp only [List.mem_cons] at hu
     rcases hu with rfl | hu
     ·exact h3
     ·exact k3 u hu
    ·rw [wA_cons]
     rw [hm] at k5; simp only [List.length_cons,List.length_nil] at k5; omega
   ·rename_i hc
    rw [if_neg hc] at h; injection h with h; subst h; refine ⟨[t],h1,h2,fun u hu=>by simp at hu; subst hu; exact h3,h4,?_⟩; rw [wA_cons,wA_nil]; simp only; omega
theorem head_z (hT:Ts ts) {st:PSt} {x:Hd} (h:(headP ts st).1=some x):relF x.rel=true∧x.rel.length≤40000∧x.args.length≤100000∧(∀ t∈x.args,OkT false t)∧HOk x∧16 * wA x.args+32 * x.rel.length+32+Zs ts st.nx≤Zs ts (headP ts st).2.nx:=by
 have key:relF x.rel=true∧x.rel.length≤40000∧(∀ t∈x.args,OkT false t)∧HOk x∧16 * wA x.args+32 * x.rel.length+32+Zs ts st.nx≤Zs ts (headP ts st).2.nx:=by
  unfold headP at h ⊢; split
  ·rename_i hr
   rw [if_pos hr] at h; obtain ⟨r1,r2,r3⟩:=rel_z hT hr; split
   ·rename_i hc
    rw [if_pos hc] at h; injection h with h; subst h; have hm:=zs_mark (Or.inr rfl) hc; refine ⟨r1,r2,fun t ht=>(by cases ht),Or.inl ⟨rfl,rfl⟩,?_⟩; simp only; rw [hm,r3,wA_nil]; simp only [List.length_cons,List.length_nil]; omega
   ·rename_i hc
    rw [if_neg hc] at h
    have hz:=fun y=>heads_z hT (ts.length+1) (relP ts st).2 ⟨(relP ts st).1.1,[],0,0⟩ y (Or.inl ⟨rfl,rfl⟩)
    generalize headsP ts (ts.length+1) (relP ts st).2 ⟨(relP ts st).1.1,[],0,0⟩=r at *; obtain ⟨o,s⟩:=r
    cases o with
    | none=>cases h
    | some y =>
     obtain ⟨az,k1,k2,k3,k4,k5⟩:=hz y rfl; unfold headE at h ⊢; simp only at h k5 k1 k2 ⊢; split
     ·rename_i hc2
      rw [if_pos hc2] at h; injection h with h; subst h; have hm:=zs_mark (Or.inr rfl) hc2; rw [List.nil_append] at k2; rw [k1,k2]; refine ⟨r1,r2,k3,k4,?_⟩; simp only; rw [hm]; simp only [List.length_cons,List.length_nil]; omega
     ·rename_i hc2; rw [if_neg hc2] at h; cases h
  ·rename_i hr; rw [if_neg hr] at h; cases h
 refine ⟨key.1,key.2.1,?_,key.2.2.1,key.2.2.2.1,key.2.2.2.2⟩; have h1:=key.2.2.2.2; have h2:=zs_le ts (headP ts st).2.nx; have h3:=hT.sum; have h4:=wA_len x.args; omega
theorem ops_14 {s:List UInt8} {op:Int} {sw:Bool} (h:opsF s=some (op,sw)):1≤op∧op≤4∧1≤s.length:=by
 unfold opsF at h; split at h
 ·rename_i e; subst e; cases h; decide
 ·split at h
  ·rename_i e; subst e; cases h; decide
  ·split at h
   ·rename_i e; subst e; cases h; decide
   ·split at h
    ·rename_i e; subst e; cases h; decide
    ·split at h
     ·rename_i e; subst e; cases h; decide
     ·split at h
      ·rename_i e; subst e; cases h; decide
      ·cases h
theorem compare_ok {op:Int} (h:1≤op∧op≤4) {a b:Tm} (ha:OkT false a) (hb:OkT false b):OkCmp (compareF op a b)∧wL (compareF op a b)=wl a+wl b+10:=by
 refine ⟨⟨by show 1≤op∧op≤5; omega,rfl,rfl,?_,fun t ht=>?_⟩,?_⟩
 ·show ([a,b]:List Tm).length=if op=5 then 3 else 2
  rw [if_neg (by omega)]; rfl
 ·simp [compareF] at ht
  rcases ht with rfl | rfl
  ·exact ha
  ·exact hb
 ·show 0+6+wA [a,b]=_
  rw [wA_cons,wA_cons,wA_nil]; omega
theorem add_ok {a b c:Tm} (ha:OkT false a) (hb:OkT false b) (hc:OkT false c):OkCmp ⟨5,false,[],[a,b,c]⟩∧wL ⟨5,false,[],[a,b,c]⟩=wl a+wl b+wl c+12:=by
 refine ⟨⟨⟨(by decide:(1:Int)≤5),(by decide:(5:Int)≤5)⟩,rfl,rfl,rfl,fun t ht=>?_⟩,?_⟩
 ·simp at ht
  rcases ht with rfl | rfl | rfl
  ·exact ha
  ·exact hb
  ·exact hc
 ·show 0+6+wA [a,b,c]=_
  rw [wA_cons,wA_cons,wA_cons,wA_nil]; omega
theorem addE_z (hT:Ts ts) {m:Bool} {a b:Tm} (ha:OkT false a) (hb:OkT false b) {st:PSt} {l:Lt} (h:(addE m a b (termP ts st)).1=some l):OkCmp l∧wL l+Zs ts st.nx≤Zs ts (addE m a b (termP ts st)).2.nx+wl a+wl b+12:=by
 have hz:=fun t=>term_z hT (st:=st) (t:=t)
 generalize termP ts st=r at *; obtain ⟨o,s⟩:=r
 cases o with
 | none=>cases h
 | some c =>
  obtain ⟨h1,h2⟩:=hz c rfl; unfold addE at h ⊢; simp only at h h2 ⊢; injection h with h; subst h; cases m
  ·obtain ⟨k1,k2⟩:=add_ok ha hb h1
   exact ⟨k1,by show wL ⟨5,false,[],[a,b,c]⟩+_≤_; rw [k2]; omega⟩
  ·obtain ⟨k1,k2⟩:=add_ok hb ha h1
   exact ⟨k1,by show wL ⟨5,false,[],[b,a,c]⟩+_≤_; rw [k2]; omega⟩
theorem cmpE_z (hT:Ts ts) {op:Int} {sw:Bool} (ho:1≤op∧op≤4) {a:Tm} (ha:OkT false a) {st:PSt} {l:Lt} (h:(cmpE ts op sw a (termP ts st)).1=some l):OkCmp l∧wL l+Zs ts st.nx≤Zs ts (cmpE ts op sw a (termP ts st)).2.nx+wl a+12:=by
 have hz:=fun t=>term_z hT (st:=st) (t:=t)
 generalize termP ts st=r at *; obtain ⟨o,s⟩:=r
 cases o with
 | none=>cases h
 | some b =>
  obtain ⟨h1,h2⟩:=hz b rfl; unfold cmpE at h ⊢; simp only at h h2 ⊢; split
  ·rename_i hc
   rw [if_pos hc] at h; have hm:=zs_mark (Or.inr rfl) hc.2; have k:=addE_z hT ha h1 h; refine ⟨k.1,?_⟩; have:=k.2; rw [hm] at this; simp only [List.length_cons,List.length_nil] at this; omega
  ·rename_i hc
   rw [if_neg hc] at h; split
   ·rename_i hc
    rw [if_pos hc] at h; have hm:=zs_mark (Or.inr rfl) hc.2; have k:=addE_z hT ha h1 h; refine ⟨k.1,?_⟩; have:=k.2; rw [hm] at this; simp only [List.length_cons,List.length_nil] at this; omega
   ·rename_i hc
    rw [if_neg hc] at h; injection h with h; subst h; simp only; cases sw
    ·obtain ⟨k1,k2⟩:=compare_ok ho ha h1
     exact ⟨k1,by show wL (compareF op a b)+_≤_; rw [k2]; omega⟩
    ·obtain ⟨k1,k2⟩:=compare_ok ho h1 ha
     exact ⟨k1,by show wL (compareF op b a)+_≤_; rw [k2]; omega⟩
theorem cmp_z (hT:Ts ts) {st:PSt} {l:Lt} (h:(comparisonP ts st).1=some l):OkCmp l∧wL l+4+Zs ts st.nx≤Zs ts (comparisonP ts st).2.nx:=by
 unfold comparisonP at h ⊢
 have hz:=fun t=>term_z hT (st:=st) (t:=t)
 generalize termP ts st=r at *; obtain ⟨o,s⟩:=r
 cases o with
 | none=>cases h
 | some a =>
  obtain ⟨h1,h2⟩:=hz a rfl; simp only at h h2 ⊢; split
  ·rename_i hk
   rw [if_pos hk] at h; have hm:=zs_name (ts:=ts) (st:=s) (Or.inr hk); split
   ·rename_i ho; rw [ho] at h; cases h
   ·rename_i op sw ho
    rw [ho] at h; obtain ⟨o1,o2,o3⟩:=ops_14 ho; have k:=cmpE_z hT ⟨o1,o2⟩ h1 h; refine ⟨k.1,?_⟩; have:=k.2; rw [hm] at this; omega
  ·rename_i hk; rw [if_neg hk] at h; cases h
theorem side_z (hT:Ts ts) {st:PSt} {b:Bool} {a:Tm} (h:(sideP ts st).1=some (b,a)):OkT false a∧16 * wl a+160+Zs ts st.nx≤Zs ts (sideP ts st).2.nx:=by
 have hE:∀ (c:Bool) (st:PSt),(sideE c (termP ts st)).1=some (b,a)→OkT false a∧16 * wl a+Zs ts st.nx≤Zs ts (sideE c (termP ts st)).2.nx:=by
  intro c st h
  have hz:=fun t=>term_z hT (st:=st) (t:=t)
  generalize termP ts st=r at *; obtain ⟨o,s⟩:=r
  cases o with
  | none=>cases h
  | some t =>
   have:=hz t rfl; unfold sideE at h; simp only [Option.map_some,Option.some.injEq,Prod.mk.injEq] at h; obtain ⟨-,rfl⟩:=h; exact this
 unfold sideP at h ⊢; split
 ·rename_i hc
  rw [if_pos hc] at h; have hm:=zs_mark (Or.inl rfl) hc; have:=hE _ _ h; refine ⟨this.1,?_⟩; have h2:=this.2; rw [hm] at h2; simp only [List.length_cons,List.length_nil] at h2; omega
 ·rename_i hc
  rw [if_neg hc] at h; split
  ·rename_i hc
   rw [if_pos hc] at h; have hm:=zs_mark (Or.inl rfl) hc; have:=hE _ _ h; refine ⟨this.1,?_⟩; have h2:=this.2; rw [hm] at h2; simp only [List.length_cons,List.length_nil] at h2; omega
  ·rename_i hc; rw [if_neg hc] at h; cases h
/-! generated names -/
theorem dec_len:∀ (k n:Nat),1≤k→n < 10 ^ k→(decDigits n).length≤k
 | 0,n,h,_=>by omega
 | 1,n,_,h=>by
  rw [decDigits,dif_pos (by simpa using h)]; simp
 | k+2,n,_,h=>by
  rw [decDigits]; split
  ·simp
  ·have:=dec_len (k+1) (n / 10) (by omega) (by rw [Nat.pow_succ] at h; omega)
   rw [List.length_append]; simp only [List.length_cons,List.length_nil]; omega
theorem itoa_len10 {n:Nat} (h:n < 10000000000):(itoa (n:Int)).length≤10:=by
 rw [itoa_nonneg]; exact dec_len 10 n (by decide) h
theorem itoa_wd (n:Nat) (h:n≤9007199254740992):(itoa (n:Int)).all isWd=true:=by
 obtain ⟨_,b2,_⟩:=int_ok (n:Int) (by omega) (by omega); rw [List.all_eq_true] at b2 ⊢
 exact fun c hc=>isWd_dg (b2 c hc)
theorem resT (s:List UInt8):resB (84::s)=false:=by
 have:∀ w∈resL,w.head?≠some 84:=by decide
 unfold resB; rw [List.contains_eq_mem,decide_eq_false_iff_not]; intro h; exact this _ h rfl
theorem resX (s:List UInt8):resB (97::117::s)=false:=by
 have:∀ w∈resL,w.take 2≠[97,117]:=by decide
 unfold resB; rw [List.contains_eq_mem,decide_eq_false_iff_not]; intro h; exact this _ h rfl
theorem varT {n:Nat} (h:n≤9007199254740992):varF ([84]++itoa (n:Int))=true:=by
 unfold varF; rw [show [84]++itoa (n:Int)=84::itoa (n:Int) from rfl,resT]; show ((isLet 84 && (isWd 84 && (itoa (n:Int)).all isWd)) && !false)=true; rw [itoa_wd n h]; decide
theorem relX {n:Nat} (h:n≤9007199254740992):relF ([97,117,120]++itoa (n:Int))=true:=by
 unfold relF varF; rw [show [97,117,120]++itoa (n:Int)=97::117::120::itoa (n:Int) from rfl,resX]; show (((isLet 97 && (isWd 97 && (isWd 117 && (isWd 120 && (itoa (n:Int)).all isWd)))) && !false) && (decide (97≤(97:UInt8).toNat) && decide ((97:UInt8).toNat≤122)))=true; rw [itoa_wd n h]; decide
theorem newVar_z (hT:Ts ts) {st:PSt} (h:st.vars≤1000000000):OkT false (newVarP ts st).1∧wl (newVarP ts st).1≤11∧(newVarP ts st).1.var.length≤11:=by
 have h1:=(newVarP_vars ts st).1; have hL:=hT.len; have h2:(newVarP ts st).1=tmVar ([84]++itoa (((newVarP ts st).2.vars:Nat):Int)):=rfl; generalize (newVarP ts st).2.vars=n at *; rw [h2]; have hv:=varT (n:=n) (by omega); have hl:=itoa_len10 (n:=n) (by omega)
 have hlen:(tmVar ([84]++itoa (n:Int))).var.length≤11:=by
  show ([84]++itoa (n:Int)).length≤11; rw [List.length_append]; simp only [List.length_cons,List.length_nil]; omega
 refine ⟨⟨Or.inr (Or.inl ⟨hv,rfl⟩),by omega⟩,?_,hlen⟩; unfold wl; rw [if_neg (by simp [tmVar])]; exact hlen
theorem newRel_z (hT:Ts ts) {st:PSt} (h:st.rels≤1000000000):relF (newRelP ts st).1=true∧(newRelP ts st).1.length≤13:=by
 have h1:=(newRelP_rels ts st).1; have hL:=hT.len; have h2:(newRelP ts st).1=[97,117,120]++itoa (((newRelP ts st).2.rels:Nat):Int):=rfl; generalize (newRelP ts st).2.rels=n at *; rw [h2]; have hl:=itoa_len10 (n:=n) (by omega); refine ⟨relX (by omega),?_⟩; rw [List.length_append]; simp only [List.length_cons,List.length_nil]; omega
theorem dvars_mem:∀ (l:List Tm) (seen:List (List UInt8)),∀ t∈dvars seen l,t∈l∧t.var ∉ seen
 | [],seen=>fun t ht=>by cases ht
 | a::l,seen=>fun t ht=>by
  unfold dvars at ht; split at ht
  ·have:=dvars_mem l seen t ht
   exact ⟨by simp [this.1],this.2⟩
  ·rename_i hn
   simp only [List.mem_cons] at ht; rcases ht with rfl | ht
   ·exact ⟨by simp,hn⟩
   ·have:=dvars_mem l _ t ht
    refine ⟨by simp [this.1],fun h=>this.2 (by simp [h])⟩
theorem dvars_w:∀ (l:List Tm) (seen:List (List UInt8)),wA (dvars seen l)≤wA l
 | [],seen=>Nat.le_refl _
 | a::l,seen=>by
  unfold dvars; split
  ·have:=dvars_w l seen; rw [wA_cons]; omega
  ·have:=dvars_w l (a.var::seen); rw [wA_cons,wA_cons]; omega
theorem dvars_ok {l:List Tm} (h:∀ t∈l,OkT true t):∀ t∈dvars [[],[95]] l,OkT false t:=by
 intro t ht; obtain ⟨h1,h2⟩:=dvars_mem l _ t ht; have h3:=h t h1; refine ⟨?_,h3.2⟩; rcases h3.1 with h | h | h
 ·rw [h.1] at h2; exact absurd (by simp) h2
 ·exact Or.inr (Or.inl h)
 ·rw [h.2] at h2; exact absurd (by simp [tmVar]) h2
/-- an atom with terms ahead and the variables of another -/
theorem with_ok {rel:List UInt8} {l:Lt} {xs:List Tm} (hr:relF rel=true) (hrl:rel.length≤40000) (hl:OkAt l) (hla:l.args.length≤4000) (hx:∀ t∈xs,OkT false t) (hxl:xs.length≤5) :
  (∀ t∈(withF rel l xs).args,OkT false t)∧(withF rel l xs).args.length≤100000∧OkAt (withF rel l xs)∧OkAt (neg (withF rel l xs))∧wL (withF rel l xs)≤rel.length+6+wA xs+wA l.args:=by
 have h1:∀ t∈(withF rel l xs).args,OkT false t:=by
  intro t ht; rcases List.mem_append.1 (show t∈xs++dvars [[],[95]] l.args from ht) with ht | ht
  ·exact hx t ht
  ·exact dvars_ok hl.2.2.2.2 t ht
 have h2:(withF rel l xs).args.length≤100000:=by have:=with_len rel l xs; omega
 refine ⟨h1,h2,⟨rfl,hr,hrl,h2,fun t ht=>(h1 t ht).up⟩,⟨rfl,hr,hrl,h2,fun t ht=>(h1 t ht).up⟩,?_⟩; show rel.length+6+wA (xs++dvars [[],[95]] l.args)≤_; rw [wA_app]; have:=dvars_w l.args [[],[95]]; omega
theorem timed_ok {x:Tm} {l:Lt} (hx:OkT false x) (hl:OkAt l) (hla:l.args.length≤4000):OkAt (timedF x l)∧wL (timedF x l)=l.rel.length+8+wl x+wA l.args:=by
 refine ⟨⟨rfl,hl.2.1,hl.2.2.1,by show l.args.length+1≤_; omega,fun t ht=>?_⟩,?_⟩
 ·rcases List.mem_cons.1 (show t∈x::l.args from ht) with rfl | ht
  ·exact hx.up
  ·exact hl.2.2.2.2 t ht
 ·show l.rel.length+6+wA (x::l.args)=_
  rw [wA_cons]; omega
theorem happens_ok {x:Tm} (hx:OkT false x):OkAt (happensF x)∧wL (happensF x)=wl x+16:=by
 refine ⟨⟨rfl,(by decide:relF [101,118,101,110,116]=true),(by decide:[101,118,101,110,116].length≤40000),(by decide:2≤100000),fun t ht=>?_⟩,?_⟩
 ·simp [happensF] at ht
  rcases ht with rfl | rfl
  ·exact hx.up
  ·exact ⟨Or.inr (Or.inr ⟨rfl,rfl⟩),by decide⟩
 ·show 5+6+wA [x,tmVar [95]]=_
  rw [wA_cons,wA_cons,wA_nil]
  have:wl (tmVar [95])=1:=by decide
  omega
theorem beside_ok {b:Bool} {x a:Tm} (hx:OkT false x) (ha:OkT false a):OkCmp (besideF b x a)∧wL (besideF b x a)=wl x+wl a+10:=by
 cases b
 ·have:=compare_ok (op:=3) (by decide) ha hx
  exact ⟨this.1,by show wL (compareF 3 a x)=_; rw [this.2]; omega⟩
 ·exact compare_ok (op:=3) (by decide) hx ha
/-- what a literal makes: good, and w long -/
def LZ (q:List Lt × List Ru) (w:Nat):Prop:=(∀ x∈q.1,OkL x)∧(∀ r∈q.2,OkR r)∧wLs q.1+wRs q.2≤w
theorem once_z (hT:Ts ts) {st:PSt} {q:List Lt} (hst:st.nx≤ts.length) (hv:st.vars≤100000000) (h:(onceP ts st).1=some q):∃ w,LZ (q,[]) w∧w+Zs ts st.nx≤Zs ts (onceP ts st).2.nx:=by
 unfold onceP at h ⊢; have hL:=hT.len; have hg:=atomP_g ts st hst
 have hz:=fun l=>atom_z hT (st:=st) (l:=l) hst
 generalize atomP ts st=r at *; obtain ⟨o,s⟩:=r
 cases o with
 | none=>cases h
 | some l =>
  obtain ⟨h1,h2,h3⟩:=hz l rfl; have hla:=hg.2 l rfl; have hg1:=hg.1; simp only at h h3 hg1 ⊢; have hs:=sideP_g ts s
  have hz2:=fun b a=>side_z hT (st:=s) (b:=b) (a:=a)
  generalize sideP ts s=r at *; obtain ⟨o,s2⟩:=r
  cases o with
  | none=>cases h
  | some x =>
   obtain ⟨b,a⟩:=x; obtain ⟨k1,k2⟩:=hz2 b a rfl; have v1:=hg1.vars; have v2:=hs.vars; simp only at v2 k2; unfold onceE at h ⊢; simp only at h ⊢; injection h with h; subst h; obtain ⟨n1,n2,n3⟩:=newVar_z hT (st:=s2) (by omega); obtain ⟨t1,t2⟩:=timed_ok n1 h1 (by omega); obtain ⟨b1,b2⟩:=beside_ok (b:=b) n1 k1; refine ⟨_,⟨fun y hy=>?_,fun r hr=>(by cases hr),Nat.le_refl _⟩,?_⟩
   ·simp at hy
    rcases hy with rfl | rfl
    ·exact Or.inl t1
    ·exact Or.inr b1
   ·show wLs [timedF (newVarP ts s2).1 l,besideF b (newVarP ts s2).1 a]+0+_≤Zs ts s2.nx
    rw [wLs_cons,wLs_cons,wLs_nil,t2,b2]; omega
theorem aux_ok {rel:List UInt8} {l:Lt} {xs:List Tm} {body:List Lt} (hr:relF rel=true) (hrl:rel.length≤40000) (hl:OkAt l) (hla:l.args.length≤4000) (hx:∀ t∈xs,OkT false t) (hxl:xs.length≤5) (hb:∀ x∈body,OkL x) (hbl:body.length≤100000) :
  OkR ⟨withF rel l xs,0,0,body⟩:=by
 obtain ⟨w1,w2,w3,w4,w5⟩:=with_ok hr hrl hl hla hx hxl; exact ⟨⟨rfl,rfl,hr,hrl,w2,w1⟩,Or.inl ⟨rfl,rfl⟩,hb,hbl⟩
theorem never_z (hT:Ts ts) {st:PSt} {q:List Lt × List Ru} (hst:st.nx≤ts.length) (hv:st.vars≤100000000) (hr:st.rels≤100000000) (h:(neverP ts st).1=some q):∃ w,LZ q w∧w+Zs ts st.nx≤Zs ts (neverP ts st).2.nx:=by
 unfold neverP at h ⊢; have hL:=hT.len; have hg:=atomP_g ts st hst
 have hz:=fun l=>atom_z hT (st:=st) (l:=l) hst
 generalize atomP ts st=r at *; obtain ⟨o,s⟩:=r
 cases o with
 | none=>cases h
 | some l =>
  obtain ⟨h1,h2,h3⟩:=hz l rfl; have hla:=hg.2 l rfl; have hg1:=hg.1; simp only at h h3 hg1 ⊢; have hs:=sideP_g ts s
  have hz2:=fun b a=>side_z hT (st:=s) (b:=b) (a:=a)
  generalize sideP ts s=r at *; obtain ⟨o,s2⟩:=r
  cases o with
  | none=>cases h
  | some x =>
   obtain ⟨b,a⟩:=x; obtain ⟨k1,k2⟩:=hz2 b a rfl; have v1:=hg1.vars; have v2:=hs.vars; have u1:=hg1.rels; have u2:=hs.rels; simp only at v2 u2 k2; unfold neverE at h ⊢; simp only at h ⊢; injection h with h; subst h; have m1:=newVarP_vars ts s2; obtain ⟨n1,n2,n3⟩:=newVar_z hT (st:=s2) (by omega); obtain ⟨p1,p2,p3⟩:=newVar_z hT (st:=(newVarP ts s2).2) (by omega); have m2:=newVarP_vars ts (newVarP ts s2).2; obtain ⟨r1,r2⟩:=newRel_z hT (st:=(newVarP ts (newVarP ts s2).2).2) (by rw [m2.2.1,m1.2.1]; omega); have hnx:(newRelP ts (newVarP ts (newVarP ts s2).2).2).2.nx=s2.nx:=rfl; rw [hnx]; generalize (newVarP ts s2).1=y at *; generalize (newVarP ts (newVarP ts s2).2).1=x at *; generalize (newRelP ts (newVarP ts (newVarP ts s2).2).2).1=rel at *
   obtain ⟨w1,w2,w3,w4,w5⟩:=with_ok (xs:=[a]) r1 (by omega) h1 (by omega) (by intro t ht; simp at ht; subst ht; exact k1) (by simp); obtain ⟨z1,z2,z3,z4,z5⟩:=with_ok (xs:=[y]) r1 (by omega) h1 (by omega) (by intro t ht; simp at ht; subst ht; exact n1) (by simp); obtain ⟨t1,t2⟩:=timed_ok p1 h1 (by omega); obtain ⟨e1,e2⟩:=happens_ok n1; obtain ⟨b1,b2⟩:=beside_ok (b:=b) p1 n1; have hneg:wL (neg (withF rel l [a]))=wL (withF rel l [a]):=rfl; rw [wA_cons,wA_nil] at w5 z5; refine ⟨_,⟨fun q hq=>?_,fun r hr=>?_,Nat.le_refl _⟩,?_⟩
   ·simp [neverF] at hq; subst hq; exact Or.inl w4
   ·simp [neverF] at hr; subst hr
    refine aux_ok r1 (by omega) h1 (by omega) (by intro t ht; simp at ht; subst ht; exact n1) (by simp) (fun q hq=>?_) (by show 3≤_; decide); simp at hq; rcases hq with rfl | rfl | rfl
    ·exact Or.inl e1
    ·exact Or.inl t1
    ·exact Or.inr b1
   ·show wLs [neg (withF rel l [a])]+wRs [⟨withF rel l [y],0,0,[happensF y,timedF x l,besideF b x y]⟩]+_≤_
    rw [wRs_cons,wLs_cons,wLs_nil,hneg]; show _+(wL (withF rel l [y])+7+wLs [happensF y,timedF x l,besideF b x y]+2+0)+_≤_; rw [wLs_cons,wLs_cons,wLs_cons,wLs_nil,e2,t2,b2]; omega
theorem since_z (hT:Ts ts) {st:PSt} {q:List Lt × List Ru} (hst:st.nx≤ts.length) (hv:st.vars≤100000000) (hr:st.rels≤100000000) (h:(sinceP ts st).1=some q):∃ w,LZ q w∧w+Zs ts st.nx≤Zs ts (sinceP ts st).2.nx+160:=by
 unfold sinceP at h ⊢; have hL:=hT.len; have hg:=atomP_g ts st hst
 have hz:=fun l=>atom_z hT (st:=st) (l:=l) hst
 generalize atomP ts st=r at *; obtain ⟨o,s⟩:=r
 cases o with
 | none=>cases h
 | some l =>
  obtain ⟨h1,h2,h3⟩:=hz l rfl; have hla:=hg.2 l rfl; have hg1:=hg.1; simp only at h h3 hg1 ⊢; split
  ·rename_i hno
   rw [if_pos hno] at h; have hm:=zs_mark (Or.inl rfl) hno; have hlt:=is_lt (by decide) hno; have hst2:(nextP s).nx≤ts.length:=hlt; have hgm:=atomP_g ts (nextP s) hst2
   have hzm:=fun l=>atom_z hT (st:=nextP s) (l:=l) hst2
   generalize atomP ts (nextP s)=r at *; obtain ⟨o,s2⟩:=r
   cases o with
   | none=>cases h
   | some m =>
    obtain ⟨i1,i2,i3⟩:=hzm m rfl; have hma:=hgm.2 m rfl; have hg2:=hgm.1; unfold sinceM at h ⊢; simp only at h i3 hg2 ⊢; split
    ·rename_i hat
     rw [if_pos hat] at h; have hm2:=zs_mark (Or.inl rfl) hat; have ht:=termP_g ts (nextP s2)
     have hzt:=fun t=>term_z hT (st:=nextP s2) (t:=t)
     generalize termP ts (nextP s2)=r at *; obtain ⟨o,s3⟩:=r
     cases o with
     | none=>cases h
     | some a =>
      obtain ⟨k1,k2⟩:=hzt a rfl; have v1:=hg1.vars; have v2:s2.vars≤s.vars+0:=hg2.vars; have v3:s3.vars≤s2.vars+0:=ht.vars; have u1:=hg1.rels; have u2:s2.rels≤s.rels+0:=hg2.rels; have u3:s3.rels≤s2.rels+0:=ht.rels; simp only at k2; unfold sinceE at h ⊢; simp only at h ⊢; injection h with h; subst h; have m1:=newVarP_vars ts s3; have m2:=newVarP_vars ts (newVarP ts s3).2; have m3:=newVarP_vars ts (newVarP ts (newVarP ts s3).2).2; have m4:=newVarP_vars ts (newVarP ts (newVarP ts (newVarP ts s3).2).2).2; obtain ⟨n1,n2,n3⟩:=newVar_z hT (st:=s3) (by omega); obtain ⟨p1,p2,p3⟩:=newVar_z hT (st:=(newVarP ts s3).2) (by omega); obtain ⟨q1,q2,q3⟩:=newVar_z hT (st:=(newVarP ts (newVarP ts s3).2).2) (by omega)
      obtain ⟨o1,o2,o3⟩:=newVar_z hT (st:=(newVarP ts (newVarP ts (newVarP ts s3).2).2).2) (by omega); obtain ⟨r1,r2⟩:=newRel_z hT (st:=(newVarP ts (newVarP ts (newVarP ts (newVarP ts s3).2).2).2).2) (by rw [m4.2.1,m3.2.1,m2.2.1,m1.2.1]; omega); have hnx:(newRelP ts (newVarP ts (newVarP ts (newVarP ts (newVarP ts s3).2).2).2).2).2.nx=s3.nx:=rfl; rw [hnx]; clear m1 m2 m3 m4 hnx; generalize (newRelP ts (newVarP ts (newVarP ts (newVarP ts (newVarP ts s3).2).2).2).2).1=rel at *; generalize (newVarP ts (newVarP ts (newVarP ts (newVarP ts s3).2).2).2).1=w at *; generalize (newVarP ts (newVarP ts (newVarP ts s3).2).2).1=z at *; generalize (newVarP ts (newVarP ts s3).2).1=y at *; generalize (newVarP ts s3).1=x at *
      obtain ⟨w1,w2,w3,w4,w5⟩:=with_ok (xs:=[x,a]) r1 (by omega) i1 (by omega) (by intro t ht; simp at ht; rcases ht with rfl | rfl; exact n1; exact k1) (by simp); obtain ⟨z1,z2,z3,z4,z5⟩:=with_ok (xs:=[y,z]) r1 (by omega) i1 (by omega) (by intro t ht; simp at ht; rcases ht with rfl | rfl; exact p1; exact q1) (by simp); obtain ⟨t1,t2⟩:=timed_ok n1 h1 (by omega); obtain ⟨t3,t4⟩:=timed_ok o1 i1 (by omega); obtain ⟨e1,e2⟩:=happens_ok p1; obtain ⟨e3,e4⟩:=happens_ok q1; obtain ⟨c1,c2⟩:=compare_ok (op:=4) (by decide) n1 k1; obtain ⟨c3,c4⟩:=compare_ok (op:=3) (by decide) p1 o1; obtain ⟨c5,c6⟩:=compare_ok (op:=4) (by decide) o1 q1; have hneg:wL (neg (withF rel m [x,a]))=wL (withF rel m [x,a]):=rfl; rw [wA_cons,wA_cons,wA_nil] at w5 z5
      refine ⟨_,⟨fun q hq=>?_,fun r hr=>?_,Nat.le_refl _⟩,?_⟩
      ·simp [sinceF] at hq
       rcases hq with rfl | rfl | rfl
       ·exact Or.inl t1
       ·exact Or.inr c1
       ·exact Or.inl w4
      ·simp [sinceF] at hr; subst hr
       refine aux_ok r1 (by omega) i1 (by omega) (by intro t ht; simp at ht; rcases ht with rfl | rfl; exact p1; exact q1) (by simp) (fun q hq=>?_) (by show 5≤_; decide); simp at hq; rcases hq with rfl | rfl | rfl | rfl | rfl
       ·exact Or.inl t3
       ·exact Or.inl e1
       ·exact Or.inl e3
       ·exact Or.inr c3
       ·exact Or.inr c5
      ·show wLs [timedF x l,compareF 4 x a,neg (withF rel m [x,a])]+wRs [⟨withF rel m [y,z],0,0,[timedF w m,happensF y,happensF z,compareF 3 y w,compareF 4 w z]⟩]+_≤_
       rw [wRs_cons,wLs_cons,wLs_cons,wLs_cons,wLs_nil,hneg,t2,c2]; show _+(wL (withF rel m [y,z])+7+wLs [timedF w m,happensF y,happensF z,compareF 3 y w,compareF 4 w z]+2+0)+_≤_; rw [wLs_cons,wLs_cons,wLs_cons,wLs_cons,wLs_cons,wLs_nil,e2,e4,t4,c4,c6]; simp only [List.length_cons,List.length_nil] at hm hm2; have hm2':Zs ts (nextP s2).nx=Zs ts s2.nx+64:=hm2; have hm':Zs ts (nextP s).nx=Zs ts s.nx+64:=hm; omega
    ·rename_i hat; rw [if_neg hat] at h; cases h
  ·rename_i hno; rw [if_neg hno] at h; cases h
theorem litE_z {f:Lt→Lt} {r:Option Lt × PSt} {q:List Lt × List Ru} {n:Nat} (hf:∀ l,wL (f l)=wL l) (hr:∀ l,r.1=some l→OkL (f l)∧wL l+4+n≤Zs ts r.2.nx) (h:(litE f r).1=some q):∃ w,LZ q w∧w+n≤Zs ts (litE f r).2.nx:=by
 obtain ⟨o,s⟩:=r
 cases o with
 | none=>cases h
 | some l =>
  obtain ⟨h1,h2⟩:=hr l rfl; unfold litE at h ⊢; simp only [Option.map_some,Option.some.injEq] at h; subst h; refine ⟨_,⟨fun x hx=>by simp at hx; subst hx; exact h1,fun r hr=>(by cases hr),Nat.le_refl _⟩,?_⟩; show wLs [f l]+0+n≤_; rw [wLs_cons,wLs_nil,hf]; exact Nat.le_trans (by omega) h2
theorem literal_z (hT:Ts ts) {st:PSt} {q:List Lt × List Ru} (hst:st.nx≤ts.length) (hv:st.vars≤100000000) (hr:st.rels≤100000000) (h:(literalP ts st).1=some q):∃ w,LZ q w∧w+Zs ts st.nx≤Zs ts (literalP ts st).2.nx:=by
 have hn:∀ k s,k≠0→isP ts st k s=true→(nextP st).nx≤ts.length:=fun k s hk hz=>is_lt hk hz
 unfold literalP at h ⊢; split
 ·rename_i hc
  rw [if_pos hc] at h; have hm:=zs_mark (Or.inl rfl) hc; refine litE_z (fun _=>rfl) (fun l hl=>?_) h; obtain ⟨a1,a2,a3⟩:=atom_z hT (hn _ _ (by decide) hc) hl; refine ⟨Or.inl ⟨a1.1,a1.2.1,a1.2.2.1,a1.2.2.2.1,a1.2.2.2.2⟩,?_⟩; rw [hm] at a3; unfold wL; simp only [List.length_cons,List.length_nil] at a3; omega
 ·rename_i hc
  rw [if_neg hc] at h; split
  ·rename_i hc
   rw [if_pos hc] at h; have hm:=zs_mark (Or.inl rfl) hc
   have hz:=fun q=>once_z hT (st:=nextP st) (q:=q) (hn _ _ (by decide) hc) hv
   generalize onceP ts (nextP st)=r at *; obtain ⟨o,s⟩:=r
   cases o with
   | none=>cases h
   | some ls =>
    obtain ⟨w,w1,w2⟩:=hz ls rfl; unfold litsE at h ⊢; simp only [Option.map_some,Option.some.injEq] at h; subst h; refine ⟨w,w1,?_⟩; rw [hm] at w2; exact Nat.le_trans (by omega) w2
  ·rename_i hc
   rw [if_neg hc] at h; split
   ·rename_i hc
    rw [if_pos hc] at h; have hm:=zs_mark (Or.inl rfl) hc; obtain ⟨w,w1,w2⟩:=never_z hT (st:=nextP st) (hn _ _ (by decide) hc) hv hr h; rw [hm] at w2; exact ⟨w,w1,by omega⟩
   ·rename_i hc
    rw [if_neg hc] at h; split
    ·rename_i hc
     rw [if_pos hc] at h; have hm:=zs_mark (Or.inl rfl) hc; obtain ⟨w,w1,w2⟩:=since_z hT (st:=nextP st) (hn _ _ (by decide) hc) hv hr h; rw [hm] at w2; simp only [List.length_cons,List.length_nil] at w2; exact ⟨w,w1,by omega⟩
    ·rename_i hc
     rw [if_neg hc] at h; split
     ·rename_i hc
      rw [if_pos hc] at h; refine litE_z (fun _=>rfl) (fun l hl=>?_) h; obtain ⟨a1,a2,a3⟩:=atom_z hT hst hl; refine ⟨Or.inl a1,?_⟩; unfold wL; omega
     ·rename_i hc
      rw [if_neg hc] at h; refine litE_z (fun _=>rfl) (fun l hl=>?_) h; obtain ⟨a1,a2⟩:=cmp_z hT hl; exact ⟨Or.inr a1,a2⟩
/-- the generated names so far -/
def VOk (ts:List Tw) (st:PSt):Prop:=st.nx≤ts.length∧st.vars≤(4 * (ts.length+1)) * st.nx∧st.rels≤(4 * (ts.length+1)) * st.nx
theorem VOk.small (hT:Ts ts) {st:PSt} (h:VOk ts st):st.vars≤100000000∧st.rels≤100000000:=by
 have hL:=hT.len; have h1:(4 * (ts.length+1)) * st.nx≤12004 * 3000:=Nat.mul_le_mul (by omega) (by have:=h.1; omega); have h2:=h.2.1; have h3:=h.2.2; omega
theorem VOk.step {st s:PSt} {c:Nat} {b:Bool} (h:VOk ts st) (hg:Gr ts.length c st b s) (hc:c=0∨(c=4 * (ts.length+1)∧st.nx < s.nx)):VOk ts s:=by
 have h1:=hg.nx; have h2:=hg.vars; have h3:=hg.rels; have h4:=h.2.1; have h5:=h.2.2; refine ⟨hg.top h.1,?_⟩; rcases hc with rfl | ⟨rfl,hlt⟩
 ·have:=Nat.mul_le_mul_left (4 * (ts.length+1)) h1
  omega
 ·have:=Nat.mul_le_mul_left (4 * (ts.length+1)) hlt
  rw [Nat.mul_succ] at this; omega
theorem lits_z (hT:Ts ts):∀ (f:Nat) (st:PSt) (body:List Lt) (aux:List Ru) (q:List Lt × List Ru),VOk ts st→(litsP ts f st body aux).1=some q→∃ ls au w,q=(body++ls,aux++au)∧LZ (ls,au) w∧w+Zs ts st.nx≤Zs ts (litsP ts f st body aux).2.nx∧VOk ts (litsP ts f st body aux).2
 | 0,st,body,aux,q,_,h=>by cases h
 | f+1,st,body,aux,q,hV,h=>by
  rw [litsP_eq] at h ⊢; have hg:=(literalP_g ts st hV.1).1; have hlt:=literalP_lt ts st hV.1; obtain ⟨hv,hr⟩:=hV.small hT
  have hz:=fun q=>literal_z hT (q:=q) hV.1 hv hr
  generalize literalP ts st=r at *; obtain ⟨o,s⟩:=r
  cases o with
  | none=>cases h
  | some p =>
   obtain ⟨ls,au⟩:=p; obtain ⟨w,w1,w2⟩:=hz (ls,au) rfl; have hV2:VOk ts s:=hV.step hg (Or.inr ⟨rfl,hlt rfl⟩); unfold litsF at h ⊢; simp only at h w2 ⊢; split
   ·rename_i hc
    rw [if_pos hc] at h; have hm:=zs_mark (Or.inr rfl) hc; have hV3:VOk ts (nextP s):=hV2.step (Gr.next (is_lt (by decide) hc)) (Or.inl rfl); obtain ⟨ls2,au2,w',rfl,k2,k3,k4⟩:=lits_z hT f (nextP s) (body++ls) (aux++au) q hV3 h; refine ⟨ls++ls2,au++au2,w+w',by simp,⟨fun x hx=>?_,fun x hx=>?_,?_⟩,?_,k4⟩
    ·rcases List.mem_append.1 hx with hx | hx
     ·exact w1.1 x hx
     ·exact k2.1 x hx
    ·rcases List.mem_append.1 hx with hx | hx
     ·exact w1.2.1 x hx
     ·exact k2.2.1 x hx
    ·have a1:=w1.2.2
     have a2:=k2.2.2; simp only at a1 a2 ⊢; rw [wLs_app,wRs_app]; omega
    ·rw [hm] at k3
     omega
   ·rename_i hc
    rw [if_neg hc] at h; injection h with h; subst h; exact ⟨ls,au,w,rfl,w1,w2,hV2⟩
theorem wLs_len:∀ xs:List Lt,xs.length≤wLs xs
 | []=>Nat.le_refl _
 | x::xs=>by have:=wLs_len xs; rw [wLs_cons,List.length_cons]; omega
theorem rule_z (hT:Ts ts) {st:PSt} {rs:List Ru} (hV:VOk ts st) (h:(ruleP ts st).1=some rs):∃ rs0,rs=rs0.map numR∧(∀ r∈rs0,OkR r)∧wRs rs0+Zs ts st.nx≤Zs ts (ruleP ts st).2.nx∧VOk ts (ruleP ts st).2:=by
 rw [ruleP_eq] at h ⊢; have hg:=(headP_g ts st hV.1).1
 have hz:=fun x=>head_z hT (st:=st) (x:=x)
 generalize headP ts st=r at *; obtain ⟨o,s⟩:=r
 cases o with
 | none=>cases h
 | some x =>
  obtain ⟨h1,h2,h3,h4,h5,h6⟩:=hz x rfl; have hV1:VOk ts s:=hV.step hg (Or.inl rfl); unfold ruleH at h ⊢; simp only at h h6 ⊢
  have hb:∀ q,(if isP ts s 4 [58,45]=true then litsP ts (ts.length+1) (nextP s) [] [] else (some ([],[]),s)).1=some q→∃ w,LZ q w∧w+Zs ts s.nx≤Zs ts (if isP ts s 4 [58,45]=true then litsP ts (ts.length+1) (nextP s) [] [] else (some ([],[]),s)).2.nx∧VOk ts (if isP ts s 4 [58,45]=true then litsP ts (ts.length+1) (nextP s) [] [] else (some ([],[]),s)).2:=by
   intro q hq; split
   ·rename_i hc
    rw [if_pos hc] at hq; have hm:=zs_mark (Or.inr rfl) hc; have hV2:VOk ts (nextP s):=hV1.step (Gr.next (is_lt (by decide) hc)) (Or.inl rfl); obtain ⟨ls,au,w,rfl,k2,k3,k4⟩:=lits_z hT _ _ _ _ q hV2 hq; refine ⟨w,by simpa using k2,?_,k4⟩; rw [hm] at k3; omega
   ·rename_i hc
    rw [if_neg hc] at hq; injection hq with hq; subst hq; exact ⟨0,⟨fun x hx=>(by cases hx),fun x hx=>(by cases hx),Nat.le_refl _⟩,by simp,hV1⟩
  generalize (if isP ts s 4 [58,45]=true then litsP ts (ts.length+1) (nextP s) [] [] else (some ([],[]),s))=r at *; obtain ⟨o,s2⟩:=r
  cases o with
  | none=>cases h
  | some q =>
   obtain ⟨body,aux⟩:=q; obtain ⟨w,w1,w2,w3⟩:=hb (body,aux) rfl; rw [ruleE_eq] at h ⊢; split
   ·rename_i hc
    rw [if_pos hc] at h; injection h with h; subst h; have hm:=zs_mark (Or.inr rfl) hc; have hw:=w1.2.2; simp only at hw w2 w3; refine ⟨⟨⟨0,false,x.rel,x.args⟩,x.agg,x.at_,body⟩::aux,rfl,fun r hr=>?_,?_,w3.step (Gr.next (is_lt (by decide) hc)) (Or.inl rfl)⟩
    ·rcases List.mem_cons.1 hr with rfl | hr
     ·refine ⟨⟨rfl,rfl,h1,h2,h3,h4⟩,?_,w1.1,?_⟩
      ·rcases h5 with ⟨a,b⟩ | ⟨a,b,c,d⟩
       ·exact Or.inl ⟨a,by show (x.at_:Int)=0; rw [b]; rfl⟩
       ·exact Or.inr ⟨a,b,by simp,by simpa using c,by simpa using d⟩
      ·have b1:=wLs_len body
       have b2:=zs_le ts s2.nx; have b3:=hT.sum; show body.length≤_; omega
     ·exact w1.2.1 r hr
    ·rw [wRs_cons]
     unfold wR wL; simp only; rw [hm]; simp only [List.length_cons,List.length_nil]; omega
   ·rename_i hc; rw [if_neg hc] at h; cases h
theorem query_z (hT:Ts ts):∀ (f:Nat) (st:PSt) (rs0:List Ru) (q:Qu),VOk ts st→(∀ r∈rs0,OkR r)→rs0.length≤64→wRs rs0≤Zs ts st.nx→(queryP ts f st (rs0.map numR)).1=some q →
  ∃ rs g,q=⟨rs.map numR,numLt 0 g⟩∧(∀ r∈rs,OkR r)∧OkAt g∧g.nt=false∧rs.length≤64∧wRs rs+2+wL g≤(ts.map zw).sum
 | 0,st,rs0,q,_,_,_,_,h=>by cases h
 | f+1,st,rs0,q,hV,hR,hN,hW,h=>by
  rw [queryP_eq] at h; split at h
  ·rename_i hc
   have hm:=zs_mark (Or.inr rfl) hc
   have hz:=fun l=>atom_z hT (st:=nextP st) (l:=l) (is_lt (by decide) hc)
   generalize atomP ts (nextP st)=r at *; obtain ⟨o,s⟩:=r
   cases o with
   | none=>cases h
   | some l =>
    obtain ⟨a1,a2,a3⟩:=hz l rfl; unfold goalE at h; simp only at h a3; split at h
    ·cases h
    ·injection h with h
     subst h; refine ⟨rs0,l,rfl,hR,a1,a2,hN,?_⟩; have b1:=zs_le ts s.nx; rw [hm] at a3; unfold wL; simp only [List.length_cons,List.length_nil] at a3; omega
  ·have hz:=fun rs=>rule_z hT (st:=st) (rs:=rs) hV
   generalize ruleP ts st=r at *; obtain ⟨o,s⟩:=r
   cases o with
   | none=>cases h
   | some rs =>
    obtain ⟨rs1,rfl,k1,k2,k3⟩:=hz rs rfl; unfold queryE at h; simp only at h k2; split at h
    ·cases h
    ·rename_i hl
     rw [← List.map_append] at h hl; rw [List.length_map] at hl; refine query_z hT f s (rs0++rs1) q k3 (fun r hr=>?_) (by omega) (by rw [wRs_app]; omega) h; rcases List.mem_append.1 hr with hr | hr
     ·exact hR r hr
     ·exact k1 r hr
end
theorem ts_scan {s:List UInt8} {l:List Tk} (h:scanF s=.ok l) (hs:s.length≤3000):Ts (l.map tw)∧((l.map tw).map zw).sum≤32 * s.length:=by
 obtain ⟨h1,h2,h3⟩:=scanF_ok h; obtain ⟨-,-,h4⟩:=scanF_scans h; have hr:=h4.right; rw [List.all_eq_true] at hr; have hc:=h4.cost
 have hat:∀ i,tokP (l.map tw) i=⟨0,[],0⟩∨∃ t∈l,tokP (l.map tw) i=tw t:=by
  intro i; unfold tokP; rw [List.getD_eq_getElem?_getD,List.getElem?_map]
  cases hi:l[i]? with
  | none=>exact Or.inl rfl
  | some t=>exact Or.inr ⟨t,List.mem_of_getElem? hi,rfl⟩
 refine ⟨⟨fun i hk=>?_,fun i hk=>?_,by omega,by rw [List.length_map]; omega⟩,hc⟩
 ·rcases hat i with e | ⟨t,ht,e⟩
  ·rw [e] at hk; cases hk
  ·rw [e]; exact ⟨(h3 t ht).1,(h3 t ht).2.1⟩
 ·rcases hat i with e | ⟨t,ht,e⟩
  ·rw [e] at hk; cases hk
  ·rw [e] at hk ⊢
   have:=hr t ht; unfold rightF at this; have hk':t.kind=3:=hk; rw [if_neg (by omega),if_neg (by omega),if_pos hk'] at this; simp only [Bool.and_eq_true,decide_eq_true_eq] at this; exact this.1
/-- a parsed query: within the writer's bounds, and valid if its source is short -/
theorem parse_sz {s:List UInt8} {u:Qu} (h:parseF s=.ok u) (hs:s.length≤3000):QgB u.g∧(s.length≤1000→(textW u.g).isSome=true):=by
 unfold parseF at h
 cases hl:scanF s with
 | error x=>rw [hl] at h; cases h
 | ok l =>
  rw [hl] at h; simp only at h; obtain ⟨hT,hc⟩:=ts_scan hl hs
  have hz:=fun q=>query_z hT (l.length+1) st0 [] q ⟨Nat.zero_le _,Nat.zero_le _,Nat.zero_le _⟩ (fun r hr=>by cases hr) (by decide) (Nat.zero_le _)
  simp only [List.map_nil] at hz; generalize queryP (l.map tw) (l.length+1) st0 []=r at *; obtain ⟨o,st⟩:=r
  cases o with
  | none =>
   simp only at h; split at h <;> cases h
  | some q =>
   injection h with h; subst h; obtain ⟨rs,g,rfl,k1,k2,k3,k4,k5⟩:=hz q rfl; exact ⟨qu_b k1 k2,fun hs=>text_ok k1 k2 k3 k4 (by omega)⟩
end Go.Proofs.YtbkdakbhagjkhaaDoor
