/- Tmp27: AskBa, AskBb, AskBc, AskBd, AskTp, AskTq, in one text. -/
import Derived.Test.YtbkdakbhagjkhaaGreatDoorAskZp
import Derived.Test.YtbkdakbhagjkhaaGreatDoorLexI
set_option linter.unusedVariables false
set_option linter.unusedSimpArgs false
namespace Go.Proofs.YtbkdakbhagjkhaaGreatDoor
open Go.RowKit
open Go.Lib (hid byteCells itoa decDigits itoa_nonneg itoa_neg)
def NoWd (Y:List UInt8):Prop:=∀ c,Y.head? = some c→isWd c=false
/-- u is scanned as the tokens tk, wherever what follows allows it -/
def Wr (E:List UInt8→Prop) (u:List UInt8) (tk:List Tk):Prop:=∀ Y l2,E Y→Scans Y l2→Scans (u++Y) (tk++l2)
abbrev Any (_:List UInt8):Prop:=True
theorem Wr.app {E E':List UInt8→Prop} {u v:List UInt8} {a b:List Tk} (h:Wr E u a) (k:Wr E' v b) (hE:∀ Y,E' Y→E (v++Y)):Wr E' (u++v) (a++b):=by
 intro Y l2 hY hs; have:=h (v++Y) (b++l2) (hE Y hY) (k Y l2 hY hs); simpa [List.append_assoc] using this
theorem Wr.nil {E:List UInt8→Prop}:Wr E [] []:=fun _ _ _ h=>h
theorem Wr.weak {E E':List UInt8→Prop} {u:List UInt8} {a:List Tk} (h:Wr E u a) (hE:∀ Y,E' Y→E Y):Wr E' u a:=fun Y l2 hY hs=>h Y l2 (hE Y hY) hs
def tkN (s:List UInt8):Tk:=⟨1,s,0,0⟩
def tkI (n:Int):Tk:=⟨2,[],n,0⟩
def tkT (s:List UInt8):Tk:=⟨3,s,0,0⟩
def tkM (s:List UInt8):Tk:=⟨4,s,0,0⟩
theorem wr_name {s:List UInt8} (h:isNm s=true):Wr NoWd s [tkN s]:=by
 intro Y l2 hY hs; obtain ⟨c,u,rfl,h3,h4⟩:=nm_parts h; obtain ⟨a1,a2⟩:=tw_stop (D:=(c::u)++Y) rfl h4 hY; have hn:=let_ne h3; have hsk:skipM false ((c::u)++Y)=(c::u)++Y:=skip_first hn.1 (Or.inl hn.2); refine Scans.cons (t:=tkN (c::u)) (r2:=Y) ?_ rfl hs; rw [hsk]; show tokF (c::(u++Y))=_; simp only [tokF]; rw [if_pos h3]; unfold nameF; rw [List.cons_append] at a1 a2; rw [a1,a2]; rfl
theorem wr_int {n:Int} (h0:0≤n) (h1:n≤9007199254740992):Wr NoWd (itoa n) [tkI n]:=by
 intro Y l2 hY hs; obtain ⟨b1,b2,b3⟩:=int_ok n h0 h1
 have hwd:(itoa n).all isWd=true:=by
  rw [List.all_eq_true] at b2 ⊢
  exact fun c hc=>isWd_dg (b2 c hc)
 obtain ⟨a1,a2⟩:=tw_stop (D:=itoa n++Y) rfl hwd hY; obtain ⟨c,u,hcu⟩:=all_pos b3; rw [hcu] at a1 a2 b1 b2 ⊢
 have hc:isDg c=true:=by simp only [List.all_cons,Bool.and_eq_true] at b2; exact b2.1
 have hn:=dg_ne hc; have hsk:skipM false ((c::u)++Y)=(c::u)++Y:=skip_first hn.1 (Or.inl hn.2.1); refine Scans.cons (t:=tkI n) (r2:=Y) ?_ rfl hs; rw [hsk]; show tokF (c::(u++Y))=_; simp only [tokF]; rw [if_neg (by rw [hn.2.2]; decide),if_pos hc]; unfold integerF; rw [List.cons_append] at a1 a2; rw [a1,a2,b1]; rfl
/-- marks of one byte with which no longer one begins -/
def soleMk (a:UInt8):Bool:=isMk [a] && !isWs a && !isLet a && !isDg a && !decide (a=34) && !decide (a=47) && marks.all fun m=>match m with
 | [x,_]=>!decide (x=a)
 | _=>true
theorem wr_mark {a:UInt8} (h:soleMk a=true):Wr Any [a] [tkM [a]]:=by
 intro Y l2 _ hs; unfold soleMk at h; simp only [Bool.and_eq_true,Bool.not_eq_true',decide_eq_false_iff_not] at h; obtain ⟨⟨⟨⟨⟨⟨h1,h2⟩,h3⟩,h4⟩,h5⟩,h6⟩,h7⟩:=h; rw [List.all_eq_true] at h7
 have hno:¬ (2≤(a::Y).length∧isMk ((a::Y).take 2)=true):=by
  rintro ⟨q1,q2⟩
  cases Y with
  | nil=>simp at q1
  | cons b Y =>
   have:=h7 [a,b] (mk_mem (by simpa using q2)); simp at this
 have hmk:mkF (a::Y)=some 1:=by
  unfold mkF; rw [if_neg hno,if_pos ⟨by simp,by simpa using h1⟩]
 refine Scans.cons (t:=tkM [a]) (r2:=Y) ?_ rfl hs; show tokF (skipM false (a::Y))=_; rw [skip_first h2 (Or.inl h6)]; simp only [tokF]; rw [if_neg (by rw [h3]; decide),if_neg (by rw [h4]; decide),if_neg h5]; unfold markF; rw [hmk]; rfl
theorem wr_ws {c:UInt8} (hc:isWs c=true):Wr Any [c] []:=by
 intro Y l2 _ hs; exact Scans.skip (z:=[c]) hs (by show skipM false (c::Y)=skipM false Y; rw [skipM,if_pos hc])
theorem wr_comma:Wr Any [44,32] [tkM [44]]:=(wr_mark (a:=44) (by decide)).app (wr_ws (c:=32) (by decide)) fun _ _=>trivial
theorem noWd_cons {c:UInt8} (h:isWd c=false) (Y:List UInt8):NoWd (c::Y):=fun d hd=>by simp at hd; subst hd; exact h
theorem var_nm {s:List UInt8} (h:varF s=true):isNm s=true∧resB s=false:=by
 unfold varF at h; simpa using h
theorem rel_var {s:List UInt8} (h:relF s=true):varF s=true:=by
 unfold relF at h; rw [Bool.and_eq_true] at h; exact h.1
theorem var_ne {s:List UInt8} (h:varF s=true):s≠[]∧s≠[95]:=by
 obtain ⟨c,r,rfl,h3,_⟩:=nm_parts (var_nm h).1; refine ⟨by simp,?_⟩
 intro e; injection e with e1 e2; subst e1; revert h3; decide
theorem var_res {s w:List UInt8} (h:varF s=true) (hw:w∈resL):s≠w:=by
 rintro rfl; have:=(var_nm h).2; unfold resB at this; rw [List.contains_eq_mem] at this; simp [hw] at this
theorem agg_res {s:List UInt8} (h:varF s=true):aggF s=0:=by
 unfold aggF; rw [if_neg (var_res h (by decide)),if_neg (var_res h (by decide)),if_neg (var_res h (by decide)),if_neg (var_res h (by decide))]
end Go.Proofs.YtbkdakbhagjkhaaGreatDoor
set_option linter.unusedSimpArgs false
namespace Go.Proofs.YtbkdakbhagjkhaaGreatDoor
open Go.RowKit
open Go.Lib (hid byteCells itoa decDigits itoa_nonneg itoa_neg)
def adv (st:PSt) (k:Nat):PSt:={ st with nx:=st.nx+k }
theorem adv_adv (st:PSt) (a b:Nat):adv (adv st a) b=adv st (a+b):=by unfold adv; simp [Nat.add_assoc]
theorem adv_zero (st:PSt):adv st 0=st:=rfl
theorem next_adv (st:PSt):nextP st=adv st 1:=rfl
theorem at_cons {ts:List Tw} {i:Nat} {a:Tw} {r:List Tw} (h:ts.drop i=a::r):tokP ts i=a∧ts.drop (i+1)=r:=by
 constructor
 ·unfold tokP
  rw [List.getD_eq_getElem?_getD]
  have:(ts.drop i)[0]? = some a:=by rw [h]; rfl
  rw [List.getElem?_drop] at this; rw [Nat.add_zero] at this; rw [this]; rfl
 ·rw [← List.drop_drop,h]; rfl
theorem at_adv {ts:List Tw} {st:PSt} {a b:List Tw} (h:ts.drop st.nx=a++b) {k:Nat} (hk:k=a.length):ts.drop (adv st k).nx=b:=by
 show ts.drop (st.nx+k)=b; rw [← List.drop_drop,h,hk,List.drop_left]
theorem at_len {ts:List Tw} {i:Nat} {a b:List Tw} (h:ts.drop i=a++b):a.length≤ts.length:=by
 have:=congrArg List.length h; rw [List.length_drop,List.length_append] at this; omega
theorem is_at {ts:List Tw} {st:PSt} {a:Tw} {r:List Tw} (h:ts.drop st.nx=a::r) (k:Int) (s:List UInt8):isP ts st k s=(a.kind == k && a.text == s):=by
 unfold isP; rw [(at_cons h).1]
theorem is_nil {ts:List Tw} {st:PSt} (h:ts.drop st.nx=[]) (k:Int) (hk:k≠0) (s:List UInt8):isP ts st k s=false:=by
 unfold isP tokP
 have:ts.length≤st.nx:=by
  have:=congrArg List.length h; rw [List.length_drop] at this; simp at this; omega
 rw [List.getD_eq_getElem?_getD,List.getElem?_eq_none this]; show (0 == k && _)=false
 have:(0 == k)=false:=by simpa using fun e=>hk e.symm
 rw [this]; rfl
/-- the tokens of a term -/
inductive TmTok:List Tk→Tm→Prop
 | int (n:Int):TmTok [tkI n] (tmInt n)
 | neg (n:Int):TmTok [tkM [45],tkI n] (tmInt (-n))
 | text (s:List UInt8):TmTok [tkT s] (tmText s)
 | var (s:List UInt8) (h:varF s=true):TmTok [tkN s] (tmVar s)
theorem TmTok.parse {tk:List Tk} {t:Tm} (h:TmTok tk t) {ts:List Tw} {st:PSt} {r:List Tw} (hd:ts.drop st.nx=tk.map tw++r):termP ts st=(some t,adv st tk.length):=by
 unfold termP
 cases h with
 | int n =>
  rw [(at_cons hd).1]; rfl
 | text s =>
  rw [(at_cons hd).1]; rfl
 | neg n =>
  have h1:=at_cons hd; have h2:=at_cons h1.2; rw [is_at hd,h1.1,h2.1]; rfl
 | var s hv =>
  have h1:=at_cons hd; rw [is_at hd]; unfold varP; rw [h1.1]; show (if (1:Int)=2 then _ else if (1:Int)=3 then _ else if ((1:Int) == 4 && _)=true then _ else if (1:Int)=1∧varF s=true then _ else _)=_; rw [if_neg (by decide),if_neg (by decide),if_neg (by simp),if_pos ⟨rfl,hv⟩]; rfl
/-- the first token of a term -/
def TmHead (a:Tw):Prop:=a.kind=2∨a.kind=3∨(a.kind=4∧a.text=[45])∨(a.kind=1∧varF a.text=true)
theorem TmTok.head {tk:List Tk} {t:Tm} (h:TmTok tk t):∃ a r,tk=a::r∧TmHead (tw a):=by
 cases h with
 | int n=>exact ⟨_,_,rfl,Or.inl rfl⟩
 | neg n=>exact ⟨_,_,rfl,Or.inr (Or.inr (Or.inl ⟨rfl,rfl⟩))⟩
 | text s=>exact ⟨_,_,rfl,Or.inr (Or.inl rfl)⟩
 | var s hv=>exact ⟨_,_,rfl,Or.inr (Or.inr (Or.inr ⟨rfl,hv⟩))⟩
theorem TmHead.mark {a:Tw} (h:TmHead a) {s:List UInt8} (hs:s≠[45]):(a.kind == 4 && a.text == s)=false:=by
 rcases h with h | h | ⟨h,h2⟩ | ⟨h,h2⟩
 ·simp [h]
 ·simp [h]
 ·simp [h,h2]; exact fun e=>hs e.symm
 ·simp [h]
theorem TmHead.word {a:Tw} (h:TmHead a) {s:List UInt8} (hs:s∈resL):(a.kind == 1 && a.text == s)=false:=by
 rcases h with h | h | ⟨h,h2⟩ | ⟨h,h2⟩
 ·simp [h]
 ·simp [h]
 ·simp [h]
 ·simp [h]; exact var_res h2 hs
theorem TmHead.agg {a:Tw} (h:TmHead a):¬ (a.kind=1∧aggF a.text≠0):=by
 rcases h with h | h | ⟨h,h2⟩ | ⟨h,h2⟩
 ·simp [h]
 ·simp [h]
 ·simp [h]
 ·simp [h]; exact agg_res h2
theorem itoa_neg_parts {n:Int} (h:n < 0):itoa n=[45]++itoa (-n):=by
 have e1:=itoa_neg n.natAbs (by omega); have e2:=itoa_nonneg n.natAbs; rw [show (-(n.natAbs:Int))=n by omega] at e1; rw [show ((n.natAbs:Int)) = -n by omega] at e2; rw [e1,e2]; rfl
theorem wr_itoa (n:Int) (h0:-9007199254740992≤n) (h1:n≤9007199254740992):∃ tk,Wr NoWd (itoa n) tk∧TmTok tk (tmInt n):=by
 by_cases h:n < 0
 ·rw [itoa_neg_parts h]
  refine ⟨[tkM [45],tkI (-n)],(wr_mark (a:=45) (by decide)).app (wr_int (by omega) (by omega)) fun _ _=>trivial,?_⟩; have:=TmTok.neg (-n)
  rwa [Int.neg_neg] at this
 ·exact ⟨[tkI n],wr_int (by omega) h1,TmTok.int n⟩
/-- an argument: a term, or a wildcard -/
inductive ArgTok:List Tk→Tm→Prop
 | term {tk:List Tk} {t:Tm} (h:TmTok tk t):ArgTok tk t
 | wild:ArgTok [tkM [95]] (tmVar [95])
theorem ArgTok.parse {tk:List Tk} {t:Tm} (h:ArgTok tk t) {ts:List Tw} {st:PSt} {r:List Tw} (hd:ts.drop st.nx=tk.map tw++r):argP ts st=(some t,adv st tk.length)∧isP ts st 4 [41]=false:=by
 cases h with
 | term h =>
  obtain ⟨a,q,rfl,ha⟩:=h.head; have h1:=is_at hd 4 [95]; rw [ha.mark (by decide)] at h1; refine ⟨?_,(is_at hd 4 [41]).trans (ha.mark (by decide))⟩; unfold argP; rw [h1,if_neg (by decide)]; exact h.parse hd
 | wild =>
  refine ⟨?_,is_at hd 4 [41]⟩; unfold argP; rw [is_at hd]; rfl
/-- behind an argument -/
def contA (ts:List Tw) (f:Nat) (st:PSt) (acc:List Tm):Option (List Tm) × PSt:=if isP ts st 4 [44]=true then argsP ts f (nextP st) acc else (some acc,st)
theorem argsP_cont {ts:List Tw} {f:Nat} {st s:PSt} {acc:List Tm} {t:Tm} (h:argP ts st=(some t,s)):argsP ts (f+1) st acc=contA ts f s (acc++[t]):=by
 rw [argsP,h]; rfl
def NoTx (s:List UInt8) (r:List Tw):Prop:=∀ a,r.head? = some a→a.text≠s
theorem noTx_is {s:List UInt8} {r:List Tw} (h:NoTx s r) {ts:List Tw} {st:PSt} (hd:ts.drop st.nx=r) (k:Int) (hk:k≠0):isP ts st k s=false:=by
 cases r with
 | nil=>exact is_nil hd k hk s
 | cons a r =>
  rw [is_at hd]; have:=h a rfl; simp [this]
def Lead (u:List UInt8):Prop:=u=[]∨∃ v,u=44::v
theorem Lead.noWd {u:List UInt8} (h:Lead u) {Y:List UInt8} (hY:NoWd Y):NoWd (u++Y):=by
 rcases h with rfl | ⟨v,rfl⟩
 ·exact hY
 ·exact noWd_cons (by decide) _
end Go.Proofs.YtbkdakbhagjkhaaGreatDoor
set_option linter.unusedSimpArgs false
namespace Go.Proofs.YtbkdakbhagjkhaaGreatDoor
open Go.RowKit
open Go.Lib (hid byteCells itoa decDigits itoa_nonneg itoa_neg)
def contL (ts:List Tw) (f:Nat) (st:PSt) (body:List Lt) (aux:List Ru):Option (List Lt × List Ru) × PSt:=if isP ts st 4 [44]=true then litsP ts f (nextP st) body aux else (some (body,aux),st)
theorem litsP_cont {ts:List Tw} {f:Nat} {st s:PSt} {body:List Lt} {aux:List Ru} {x:Lt} (h:literalP ts st=(some ([x],[]),s)):litsP ts (f+1) st body aux=contL ts f s (body++[x]) aux:=by
 rw [litsP,h]; simp [contL]
/-- what may follow a body: the rule's end -/
def Dot (r:List Tw):Prop:=∃ a q,r=a::q∧a.kind=4∧a.text=[46]
theorem Dot.noTx {r:List Tw} (h:Dot r) {s:List UInt8} (hs:s≠[46]):NoTx s r:=by
 obtain ⟨a,q,rfl,_,h2⟩:=h; intro b hb; simp at hb; subst hb
 rw [h2]; exact fun e=>hs e.symm
end Go.Proofs.YtbkdakbhagjkhaaGreatDoor
set_option linter.unusedSimpArgs false
namespace Go.Proofs.YtbkdakbhagjkhaaGreatDoor
open Go.RowKit
open Go.Lib (hid byteCells itoa decDigits itoa_nonneg itoa_neg)
/-- the aggregate and its place, behind i arguments -/
def hst (agg at_:Int) (i:Nat):Int × Nat:=if agg≠0∧at_ < i then (agg,at_.toNat) else (0,0)
def contH (ts:List Tw) (f:Nat) (st:PSt) (x:Hd):Option Hd × PSt:=if isP ts st 4 [44]=true then headsP ts f (nextP st) x else (some x,st)
theorem headsP_cont {ts:List Tw} {f:Nat} {st s:PSt} {x y:Hd} (h:headArgP ts st x=(some y,s)):headsP ts (f+1) st x=contH ts f s y:=by
 rw [headsP,h]; rfl
end Go.Proofs.YtbkdakbhagjkhaaGreatDoor
set_option linter.unusedSimpArgs false
namespace Go.Proofs.YtbkdakbhagjkhaaGreatDoor
open Go.RowKit
open Go.Lib (hid byteCells itoa decDigits itoa_nonneg itoa_neg)
/-- arguments with commas ahead -/
def moreT:List (List Tk × Tm)→List Tk
 | []=>[]
 | x::l=>tkM [44]::(x.1++moreT l)
def argsT:List (List Tk × Tm)→List Tk
 | []=>[]
 | x::l=>x.1++moreT l
theorem more_toks:∀ (L:List (List Tk × Tm)),(∀ x∈L,ArgTok x.1 x.2)→∀ ts f st acc r,ts.drop st.nx=(moreT L).map tw++r→NoTx [44] r→(moreT L).length≤f→contA ts f st acc=(some (acc++L.map (·.2)),adv st (moreT L).length)
 | [],_,ts,f,st,acc,r,hd,hr,_=>by
  unfold contA; rw [noTx_is hr hd 4 (by decide)]; simp [moreT,adv_zero]
 | x::L,h,ts,f,st,acc,r,hd,hr,hf=>by
  have hx:=h x (by simp); simp only [moreT,List.length_cons,List.length_append] at hf; obtain ⟨g,rfl⟩:∃ g,f=g+1:=⟨f - 1,by omega⟩
  have hd1:ts.drop (nextP st).nx=x.1.map tw++((moreT L).map tw++r):=by
   have:ts.drop (nextP st).nx=(x.1++moreT L).map tw++r:=(at_cons hd).2; rw [List.map_append,List.append_assoc] at this; exact this
  unfold contA; rw [is_at (a:=tw (tkM [44])) (r:=(x.1++moreT L).map tw++r) hd]; show (if true=true then argsP ts (g+1) (nextP st) acc else _)=_; rw [if_pos rfl,argsP_cont (hx.parse hd1).1,more_toks L (fun y hy=>h y (by simp [hy])) ts g _ (acc++[x.2]) r (at_adv hd1 (by simp)) hr (by omega)]; rw [next_adv,adv_adv,adv_adv]; simp [moreT,Nat.add_comm,Nat.add_left_comm]
def atomT (rel:List UInt8) (L:List (List Tk × Tm)):List Tk:=tkN rel::tkM [40]::(argsT L++[tkM [41]])
theorem rel_toks {rel:List UInt8} (hr:relF rel=true) {ts:List Tw} {st:PSt} {r:List Tw} (hd:ts.drop st.nx=tw (tkN rel)::tw (tkM [40])::r):relP ts st=((rel,true),adv st 2)∧ts.drop (adv st 2).nx=r:=by
 have h1:=at_cons hd; have h2:=at_cons (ts:=ts) (i:=st.nx+1) h1.2; refine ⟨?_,h2.2⟩; unfold relP; rw [h1.1]; show (if (1:Int)=1∧relF rel=true then _ else _)=_; rw [if_pos ⟨rfl,hr⟩]; unfold needP
 have:isP ts (nextP st) 4 [40]=true:=by
  rw [is_at (st:=nextP st) h1.2]; rfl
 rw [this]; rfl
theorem atom_toks {rel:List UInt8} (hr:relF rel=true) {L:List (List Tk × Tm)} (h:∀ x∈L,ArgTok x.1 x.2) {ts:List Tw} {st:PSt} {r:List Tw} (hd:ts.drop st.nx=(atomT rel L).map tw++r):atomP ts st=(some ⟨0,false,rel,L.map (·.2)⟩,adv st (atomT rel L).length):=by
 obtain ⟨e1,e2⟩:=rel_toks hr (r:=(argsT L++[tkM [41]]).map tw++r) hd; have hl:=at_len hd; unfold atomP; rw [e1]; simp only [if_true]; rw [List.map_append,List.append_assoc] at e2
 cases L with
 | nil =>
  rw [is_at (a:=tw (tkM [41])) (r:=r) e2]; show (if true=true then _ else _)=_; rw [if_pos rfl,next_adv,adv_adv]; rfl
 | cons x L =>
  have hx:=h x (by simp)
  have e3:ts.drop (adv st 2).nx=x.1.map tw++((moreT L).map tw++tw (tkM [41])::r):=by
   have:ts.drop (adv st 2).nx=(x.1++moreT L).map tw++([tkM [41]].map tw++r):=e2; rw [List.map_append,List.append_assoc] at this; exact this
  have hp:=hx.parse e3; simp only [atomT,argsT,List.length_map,List.length_cons,List.length_append] at hl; rw [hp.2,if_neg (by decide),argsP_cont hp.1,more_toks L (fun y hy=>h y (by simp [hy])) ts _ _ _ (tw (tkM [41])::r) (at_adv e3 (by simp)) (by intro b hb; simp at hb; subst hb; decide) (by omega)]; simp only; rw [is_at (a:=tw (tkM [41])) (r:=r)]
  ·show (if true=true then _ else _)=_
   rw [if_pos rfl]; simp only [next_adv,adv_adv]
   have e:2+x.1.length+(moreT L).length+1=(atomT rel (x::L)).length:=by simp [atomT,argsT]; omega
   rw [e]; simp
  ·rw [adv_adv (adv st 2)]
   exact at_adv (a:=x.1.map tw++(moreT L).map tw) (by rw [List.append_assoc]; exact e3) (by simp)
/-- literals without a moment -/
inductive LitTok:List Tk→Lt→Prop
 | atom {rel:List UInt8} {L:List (List Tk × Tm)} (hr:relF rel=true) (h:∀ x∈L,ArgTok x.1 x.2):LitTok (atomT rel L) ⟨0,false,rel,L.map (·.2)⟩
 | nt {rel:List UInt8} {L:List (List Tk × Tm)} (hr:relF rel=true) (h:∀ x∈L,ArgTok x.1 x.2):LitTok (tkN [110,111,116]::atomT rel L) ⟨0,true,rel,L.map (·.2)⟩
 | lt {a b:List Tk} {x y:Tm} (ha:TmTok a x) (hb:TmTok b y):LitTok (a++tkM [60]::b) (compareF 3 x y)
 | le {a b:List Tk} {x y:Tm} (ha:TmTok a x) (hb:TmTok b y):LitTok (a++tkM [60,61]::b) (compareF 4 x y)
theorem cmp_toks {a b:List Tk} {x y:Tm} (ha:TmTok a x) (hb:TmTok b y) {mk:List UInt8} {op:Int} (hop:op≠1) (ho:opsF mk=some (op,false)) {ts:List Tw} {st:PSt} {r:List Tw} (hd:ts.drop st.nx=(a++tkM mk::b).map tw++r) (hmk:mk≠[40]) :
  literalP ts st=(some ([compareF op x y],[]),adv st (a++tkM mk::b).length):=by
 obtain ⟨f,q,rfl,hf⟩:=ha.head
 have hb2:(tokP ts (st.nx+1)).text≠[40]:=by
  have h1:=at_cons hd
  cases q with
  | nil=>rw [(at_cons (ts:=ts) (i:=st.nx+1) h1.2).1]; exact hmk
  | cons g q =>
   rw [(at_cons (ts:=ts) (i:=st.nx+1) h1.2).1]; cases ha; show ([]:List UInt8)≠_; decide
 have hp0:ts.drop st.nx=(f::q).map tw++(tw (tkM mk)::(b.map tw++r)):=by
  rw [hd,List.map_append,List.append_assoc]; rfl
 have hp:=ha.parse hp0; have hd2:ts.drop (adv st (f::q).length).nx=tw (tkM mk)::(b.map tw++r):=at_adv hp0 (by simp); have hd3:ts.drop (nextP (adv st (f::q).length)).nx=b.map tw++r:=(at_cons hd2).2
 have hc:comparisonP ts st=(some (compareF op x y),adv st ((f::q)++tkM mk::b).length):=by
  unfold comparisonP; rw [hp]; simp only; rw [(at_cons hd2).1]; have hk:(tw (tkM mk)).kind=4:=rfl; rw [if_pos hk]; have ho':opsF (tw (tkM mk)).text=some (op,false):=ho; rw [ho']; simp only; rw [hb.parse hd3]; unfold cmpE; simp only; rw [if_neg (fun e=>hop e.1),if_neg (fun e=>hop e.1),next_adv,adv_adv,adv_adv]; simp [Nat.add_comm,Nat.add_left_comm]
 have hi:ts.drop st.nx=tw f::(q.map tw++(tw (tkM mk)::(b.map tw++r))):=hp0; unfold literalP; rw [is_at hi,is_at hi,is_at hi,is_at hi,hf.word (by decide),hf.word (by decide),hf.word (by decide),hf.word (by decide)]; rw [if_neg (by decide),if_neg (by decide),if_neg (by decide),if_neg (by decide),if_neg (fun e=>hb2 e.2.2.2),hc]; simp [litE]
theorem LitTok.parse {tk:List Tk} {x:Lt} (h:LitTok tk x) {ts:List Tw} {st:PSt} {r:List Tw} (hd:ts.drop st.nx=tk.map tw++r):literalP ts st=(some ([x],[]),adv st tk.length):=by
 cases h with
 | @atom rel L hr h =>
  have h1:=at_cons hd; have h2:=at_cons (ts:=ts) (i:=st.nx+1) h1.2; have hH:TmHead (tw (tkN rel)):=Or.inr (Or.inr (Or.inr ⟨rfl,rel_var hr⟩)); have ha:=atom_toks hr h hd; unfold literalP; rw [is_at (a:=tw (tkN rel)) hd,is_at (a:=tw (tkN rel)) hd,is_at (a:=tw (tkN rel)) hd,is_at (a:=tw (tkN rel)) hd,hH.word (by decide),hH.word (by decide),hH.word (by decide),hH.word (by decide),h1.1,h2.1]; rw [if_neg (by decide),if_neg (by decide),if_neg (by decide),if_neg (by decide),if_pos ⟨rfl,hr,rfl,rfl⟩,ha]; simp [litE]
 | @nt rel L hr h =>
  have h1:=at_cons hd; have ha:=atom_toks hr h (ts:=ts) (st:=nextP st) h1.2; unfold literalP; rw [is_at (a:=tw (tkN [110,111,116])) hd]; rw [if_pos (by decide),ha]; unfold litE neg; simp [next_adv,adv_adv,Nat.add_comm,Nat.add_left_comm]
 | lt ha hb=>exact cmp_toks ha hb (by decide) rfl hd (by decide)
 | le ha hb=>exact cmp_toks ha hb (by decide) rfl hd (by decide)
/-- more literals, with commas ahead -/
def moreL:List (List Tk × Lt)→List Tk
 | []=>[]
 | x::l=>tkM [44]::(x.1++moreL l)
theorem lits_toks:∀ (L:List (List Tk × Lt)),(∀ x∈L,LitTok x.1 x.2)→∀ ts f st body aux r,ts.drop st.nx=(moreL L).map tw++r→Dot r→(moreL L).length≤f→contL ts f st body aux=(some (body++L.map (·.2),aux),adv st (moreL L).length)
 | [],_,ts,f,st,body,aux,r,hd,hr,_=>by
  unfold contL; rw [noTx_is (hr.noTx (by decide)) hd 4 (by decide)]; simp [moreL,adv_zero]
 | x::L,h,ts,f,st,body,aux,r,hd,hr,hf=>by
  have hx:=h x (by simp); simp only [moreL,List.length_cons,List.length_append] at hf; obtain ⟨g,rfl⟩:∃ g,f=g+1:=⟨f - 1,by omega⟩
  have hd1:ts.drop (nextP st).nx=x.1.map tw++((moreL L).map tw++r):=by
   have:ts.drop (nextP st).nx=(x.1++moreL L).map tw++r:=(at_cons hd).2; rw [List.map_append,List.append_assoc] at this; exact this
  unfold contL; rw [is_at (a:=tw (tkM [44])) (r:=(x.1++moreL L).map tw++r) hd]; show (if true=true then litsP ts (g+1) (nextP st) body aux else _)=_; rw [if_pos rfl,litsP_cont (hx.parse hd1),lits_toks L (fun y hy=>h y (by simp [hy])) ts g _ (body++[x.2]) aux r (at_adv hd1 (by simp)) hr (by omega)]; rw [next_adv,adv_adv,adv_adv]; simp [moreL,Nat.add_comm,Nat.add_left_comm]
/-- a head of plain terms -/
theorem headArg_toks {tk:List Tk} {t:Tm} (h:TmTok tk t) {ts:List Tw} {st:PSt} {r:List Tw} (hd:ts.drop st.nx=tk.map tw++r) (rel:List UInt8) (acc:List Tm):headArgP ts st ⟨rel,acc,0,0⟩=(some ⟨rel,acc++[t],0,0⟩,adv st tk.length):=by
 obtain ⟨a,q,hq,hH⟩:=h.head; unfold headArgP; have hp:=h.parse hd
 have e4:tokP ts st.nx=tw a:=by
  rw [hq] at hd; exact (at_cons hd).1
 rw [e4,if_neg (fun e=>hH.agg ⟨e.1,e.2.1⟩),hp]
theorem moreH_toks:∀ (L:List (List Tk × Tm)),(∀ x∈L,TmTok x.1 x.2)→∀ ts f st rel acc r,ts.drop st.nx=(moreT L).map tw++r→NoTx [44] r→(moreT L).length≤f→contH ts f st ⟨rel,acc,0,0⟩=(some ⟨rel,acc++L.map (·.2),0,0⟩,adv st (moreT L).length)
 | [],_,ts,f,st,rel,acc,r,hd,hr,_=>by
  unfold contH; rw [noTx_is hr hd 4 (by decide)]; simp [moreT,adv_zero]
 | x::L,h,ts,f,st,rel,acc,r,hd,hr,hf=>by
  have hx:=h x (by simp); simp only [moreT,List.length_cons,List.length_append] at hf; obtain ⟨g,rfl⟩:∃ g,f=g+1:=⟨f - 1,by omega⟩
  have hd1:ts.drop (nextP st).nx=x.1.map tw++((moreT L).map tw++r):=by
   have:ts.drop (nextP st).nx=(x.1++moreT L).map tw++r:=(at_cons hd).2; rw [List.map_append,List.append_assoc] at this; exact this
  unfold contH; rw [is_at (a:=tw (tkM [44])) (r:=(x.1++moreT L).map tw++r) hd]; show (if true=true then headsP ts (g+1) (nextP st) _ else _)=_; rw [if_pos rfl,headsP_cont (headArg_toks hx hd1 rel acc),moreH_toks L (fun y hy=>h y (by simp [hy])) ts g _ rel (acc++[x.2]) r (at_adv hd1 (by simp)) hr (by omega)]; rw [next_adv,adv_adv,adv_adv]; simp [moreT,Nat.add_comm,Nat.add_left_comm]
theorem head_toks {rel:List UInt8} (hr:relF rel=true) {L:List (List Tk × Tm)} (h:∀ x∈L,TmTok x.1 x.2) {ts:List Tw} {st:PSt} {r:List Tw} (hd:ts.drop st.nx=(atomT rel L).map tw++r):headP ts st=(some ⟨rel,L.map (·.2),0,0⟩,adv st (atomT rel L).length):=by
 obtain ⟨e1,e2⟩:=rel_toks hr (r:=(argsT L++[tkM [41]]).map tw++r) hd; have hl:=at_len hd; unfold headP; rw [e1]; simp only [if_true]; rw [List.map_append,List.append_assoc] at e2
 cases L with
 | nil =>
  rw [is_at (a:=tw (tkM [41])) (r:=r) e2]; show (if true=true then _ else _)=_; rw [if_pos rfl,next_adv,adv_adv]; rfl
 | cons x L =>
  have hx:=h x (by simp)
  have e3:ts.drop (adv st 2).nx=x.1.map tw++((moreT L).map tw++tw (tkM [41])::r):=by
   have:ts.drop (adv st 2).nx=(x.1++moreT L).map tw++([tkM [41]].map tw++r):=e2; rw [List.map_append,List.append_assoc] at this; exact this
  have hp:=ArgTok.parse (.term hx) e3; simp only [atomT,argsT,List.length_map,List.length_cons,List.length_append] at hl; rw [hp.2,if_neg (by decide),headsP_cont (headArg_toks hx e3 rel []),moreH_toks L (fun y hy=>h y (by simp [hy])) ts _ _ rel _ (tw (tkM [41])::r) (at_adv e3 (by simp)) (by intro b hb; simp at hb; subst hb; decide) (by omega)]; unfold headE; simp only; rw [is_at (a:=tw (tkM [41])) (r:=r)]
  ·show (if true=true then _ else _)=_
   rw [if_pos rfl]; simp only [next_adv,adv_adv]
   have e:2+x.1.length+(moreT L).length+1=(atomT rel (x::L)).length:=by simp [atomT,argsT]; omega
   rw [e]; simp
  ·rw [adv_adv (adv st 2)]
   exact at_adv (a:=x.1.map tw++(moreT L).map tw) (by rw [List.append_assoc]; exact e3) (by simp)
/-- what a first literal makes: literals, rules, and the state behind it -/
def LitIs (ts:List Tw) (st:PSt) (tk:List Tk) (ls:List Lt) (au:List Ru) (s:PSt):Prop:=literalP ts st=(some (ls,au),s)∧s.nx=st.nx+tk.length∧s.err=st.err
/-- a rule: its head, a first literal, more literals -/
theorem rule_toks {rel:List UInt8} (hr:relF rel=true) {L:List (List Tk × Tm)} (h:∀ x∈L,TmTok x.1 x.2) {tk:List Tk} {M:List (List Tk × Lt)} (hM:∀ x∈M,LitTok x.1 x.2) {ls:List Lt} {au:List Ru} {ts:List Tw} {st s:PSt} {r:List Tw}
  (hd:ts.drop st.nx=(atomT rel L++(tkM [58,45]::(tk++moreL M))++[tkM [46]]).map tw++r) (hlit:LitIs ts (adv st ((atomT rel L).length+1)) tk ls au s) :
  ruleP ts st=(some ((⟨⟨0,false,rel,L.map (·.2)⟩,0,0,ls++M.map (·.2)⟩::au).map numR),adv s ((moreL M).length+1)):=by
 have e1:ts.drop st.nx=(atomT rel L).map tw++(tw (tkM [58,45])::(tk.map tw++((moreL M).map tw++tw (tkM [46])::r))):=by
  rw [hd]; simp
 have hh:=head_toks hr h e1; have e2:ts.drop (adv st (atomT rel L).length).nx=tw (tkM [58,45])::(tk.map tw++((moreL M).map tw++tw (tkM [46])::r)):=at_adv e1 (by simp); have e3:ts.drop (nextP (adv st (atomT rel L).length)).nx=tk.map tw++((moreL M).map tw++tw (tkM [46])::r):=(at_cons e2).2; obtain ⟨l1,l2,l3⟩:=hlit
 have e4:ts.drop s.nx=(moreL M).map tw++tw (tkM [46])::r:=by
  have:=at_adv (k:=tk.length) e3 (by simp); rw [next_adv,adv_adv,adv_adv] at this; rw [l2]; rw [← this]; show ts.drop (st.nx+((atomT rel L).length+1)+tk.length)=ts.drop (st.nx+((atomT rel L).length+(1+tk.length)))
  congr 1; omega
 have hl:=at_len e4; have l1':literalP ts (nextP (adv st (atomT rel L).length))=(some (ls,au),s):=l1
 have hb:litsP ts (ts.length+1) (nextP (adv st (atomT rel L).length)) [] []=(some (ls++M.map (·.2),au),adv s (moreL M).length):=by
  rw [litsP,l1']; simp only [List.nil_append]; exact lits_toks M hM ts ts.length s ls au (tw (tkM [46])::r) e4 ⟨_,_,rfl,rfl,rfl⟩ (by simpa using hl)
 have e5:ts.drop (adv s (moreL M).length).nx=tw (tkM [46])::r:=at_adv e4 (by simp); unfold ruleP; rw [hh]; simp only; rw [is_at e2]; show ruleE ts _ (if true=true then _ else _)=_; rw [if_pos rfl,hb]; unfold ruleE; simp only; rw [is_at e5]; show (if true=true then _ else _)=_; rw [if_pos rfl,next_adv,adv_adv]; rfl
theorem LitTok.is {tk:List Tk} {x:Lt} (h:LitTok tk x) {ts:List Tw} {st:PSt} {r:List Tw} (hd:ts.drop st.nx=tk.map tw++r):LitIs ts st tk [x] [] (adv st tk.length):=⟨h.parse hd,rfl,rfl⟩
end Go.Proofs.YtbkdakbhagjkhaaGreatDoor
set_option linter.unusedSimpArgs false
namespace Go.Proofs.YtbkdakbhagjkhaaGreatDoor
open Go.RowKit
open Go.Lib (hid byteCells itoa decDigits itoa_nonneg itoa_neg)
/-- r() :- once p( -/
def pc0:List UInt8:=[114,40,41,32,58,45,32,111,110,99,101,32,112,40]
def pt0:List Tk:=[tkN [114],tkM [40],tkM [41],tkM [58,45],tkN [111,110,99,101],tkN [112],tkM [40]]
theorem pw0:Wr Any pc0 pt0:=by
 intro Y l2 hY hs; refine Scans.cons (t:=tkN [114]) (r2:=[40,41,32,58,45,32,111,110,99,101,32,112,40]++Y) (by rfl) rfl ?_; refine Scans.cons (t:=tkM [40]) (r2:=[41,32,58,45,32,111,110,99,101,32,112,40]++Y) (by rfl) rfl ?_; refine Scans.cons (t:=tkM [41]) (r2:=[32,58,45,32,111,110,99,101,32,112,40]++Y) (by rfl) rfl ?_; refine Scans.cons (t:=tkM [58,45]) (r2:=[32,111,110,99,101,32,112,40]++Y) (by rfl) rfl ?_; refine Scans.cons (t:=tkN [111,110,99,101]) (r2:=[32,112,40]++Y) (by rfl) rfl ?_; refine Scans.cons (t:=tkN [112]) (r2:=[40]++Y) (by rfl) rfl ?_; have h0:Wr Any ([]++[40]) ([]++[tkM [40]]):=Wr.app (E:=Any) (by first | exact (Wr.nil) | exact wr_ws (by decide)) (wr_mark (by decide)) (fun _ _=>trivial); exact h0 Y l2 trivial hs
/-- , _,  -/
def pc1:List UInt8:=[44,32,95,44,32]
def pt1:List Tk:=[tkM [44],tkM [95],tkM [44]]
theorem pw1:Wr Any pc1 pt1:=by
 intro Y l2 hY hs; refine Scans.cons (t:=tkM [44]) (r2:=[32,95,44,32]++Y) (by rfl) rfl ?_; refine Scans.cons (t:=tkM [95]) (r2:=[44,32]++Y) (by rfl) rfl ?_; refine Scans.cons (t:=tkM [44]) (r2:=[32]++Y) (by rfl) rfl ?_; exact Scans.skip (z:=[32]) hs (by rfl)
/-- ) before  -/
def pc2:List UInt8:=[41,32,98,101,102,111,114,101,32]
def pt2:List Tk:=[tkM [41],tkN [98,101,102,111,114,101]]
theorem pw2:Wr Any pc2 pt2:=by
 intro Y l2 hY hs; refine Scans.cons (t:=tkM [41]) (r2:=[32,98,101,102,111,114,101,32]++Y) (by rfl) rfl ?_; refine Scans.cons (t:=tkN [98,101,102,111,114,101]) (r2:=[32]++Y) (by rfl) rfl ?_; exact Scans.skip (z:=[32]) hs (by rfl)
/-- . ? r() -/
def pc3:List UInt8:=[46,32,63,32,114,40,41]
def pt3:List Tk:=[tkM [46],tkM [63],tkN [114],tkM [40],tkM [41]]
theorem pw3:Wr Any pc3 pt3:=by
 intro Y l2 hY hs; refine Scans.cons (t:=tkM [46]) (r2:=[32,63,32,114,40,41]++Y) (by rfl) rfl ?_; refine Scans.cons (t:=tkM [63]) (r2:=[32,114,40,41]++Y) (by rfl) rfl ?_; refine Scans.cons (t:=tkN [114]) (r2:=[40,41]++Y) (by rfl) rfl ?_; refine Scans.cons (t:=tkM [40]) (r2:=[41]++Y) (by rfl) rfl ?_; have h0:Wr Any ([]++[41]) ([]++[tkM [41]]):=Wr.app (E:=Any) (by first | exact (Wr.nil) | exact wr_ws (by decide)) (wr_mark (by decide)) (fun _ _=>trivial); exact h0 Y l2 trivial hs
/-- r() :- p(T1,  -/
def pc4:List UInt8:=[114,40,41,32,58,45,32,112,40,84,49,44,32]
def pt4:List Tk:=[tkN [114],tkM [40],tkM [41],tkM [58,45],tkN [112],tkM [40],tkN [84,49],tkM [44]]
theorem pw4:Wr Any pc4 pt4:=by
 intro Y l2 hY hs; refine Scans.cons (t:=tkN [114]) (r2:=[40,41,32,58,45,32,112,40,84,49,44,32]++Y) (by rfl) rfl ?_; refine Scans.cons (t:=tkM [40]) (r2:=[41,32,58,45,32,112,40,84,49,44,32]++Y) (by rfl) rfl ?_; refine Scans.cons (t:=tkM [41]) (r2:=[32,58,45,32,112,40,84,49,44,32]++Y) (by rfl) rfl ?_; refine Scans.cons (t:=tkM [58,45]) (r2:=[32,112,40,84,49,44,32]++Y) (by rfl) rfl ?_; refine Scans.cons (t:=tkN [112]) (r2:=[40,84,49,44,32]++Y) (by rfl) rfl ?_; refine Scans.cons (t:=tkM [40]) (r2:=[84,49,44,32]++Y) (by rfl) rfl ?_; refine Scans.cons (t:=tkN [84,49]) (r2:=[44,32]++Y) (by rfl) rfl ?_; refine Scans.cons (t:=tkM [44]) (r2:=[32]++Y) (by rfl) rfl ?_; exact Scans.skip (z:=[32]) hs (by rfl)
/-- ), T1 <  -/
def pc5:List UInt8:=[41,44,32,84,49,32,60,32]
def pt5:List Tk:=[tkM [41],tkM [44],tkN [84,49],tkM [60]]
theorem pw5:Wr Any pc5 pt5:=by
 intro Y l2 hY hs; refine Scans.cons (t:=tkM [41]) (r2:=[44,32,84,49,32,60,32]++Y) (by rfl) rfl ?_; refine Scans.cons (t:=tkM [44]) (r2:=[32,84,49,32,60,32]++Y) (by rfl) rfl ?_; refine Scans.cons (t:=tkN [84,49]) (r2:=[32,60,32]++Y) (by rfl) rfl ?_; refine Scans.cons (t:=tkM [60]) (r2:=[32]++Y) (by rfl) rfl ?_; exact Scans.skip (z:=[32]) hs (by rfl)
/-- ) after  -/
def pc6:List UInt8:=[41,32,97,102,116,101,114,32]
def pt6:List Tk:=[tkM [41],tkN [97,102,116,101,114]]
theorem pw6:Wr Any pc6 pt6:=by
 intro Y l2 hY hs; refine Scans.cons (t:=tkM [41]) (r2:=[32,97,102,116,101,114,32]++Y) (by rfl) rfl ?_; refine Scans.cons (t:=tkN [97,102,116,101,114]) (r2:=[32]++Y) (by rfl) rfl ?_; exact Scans.skip (z:=[32]) hs (by rfl)
/-- ),  -/
def pc7:List UInt8:=[41,44,32]
def pt7:List Tk:=[tkM [41],tkM [44]]
theorem pw7:Wr Any pc7 pt7:=by
 intro Y l2 hY hs; refine Scans.cons (t:=tkM [41]) (r2:=[44,32]++Y) (by rfl) rfl ?_; refine Scans.cons (t:=tkM [44]) (r2:=[32]++Y) (by rfl) rfl ?_; exact Scans.skip (z:=[32]) hs (by rfl)
/--  < T1. ? r() -/
def pc8:List UInt8:=[32,60,32,84,49,46,32,63,32,114,40,41]
def pt8:List Tk:=[tkM [60],tkN [84,49],tkM [46],tkM [63],tkN [114],tkM [40],tkM [41]]
theorem pw8:Wr Any pc8 pt8:=by
 intro Y l2 hY hs; refine Scans.cons (t:=tkM [60]) (r2:=[32,84,49,46,32,63,32,114,40,41]++Y) (by rfl) rfl ?_; refine Scans.cons (t:=tkN [84,49]) (r2:=[46,32,63,32,114,40,41]++Y) (by rfl) rfl ?_; refine Scans.cons (t:=tkM [46]) (r2:=[32,63,32,114,40,41]++Y) (by rfl) rfl ?_; refine Scans.cons (t:=tkM [63]) (r2:=[32,114,40,41]++Y) (by rfl) rfl ?_; refine Scans.cons (t:=tkN [114]) (r2:=[40,41]++Y) (by rfl) rfl ?_; refine Scans.cons (t:=tkM [40]) (r2:=[41]++Y) (by rfl) rfl ?_; have h0:Wr Any ([]++[41]) ([]++[tkM [41]]):=Wr.app (E:=Any) (by first | exact (Wr.nil) | exact wr_ws (by decide)) (wr_mark (by decide)) (fun _ _=>trivial); exact h0 Y l2 trivial hs
/-- r() :- never p( -/
def pc9:List UInt8:=[114,40,41,32,58,45,32,110,101,118,101,114,32,112,40]
def pt9:List Tk:=[tkN [114],tkM [40],tkM [41],tkM [58,45],tkN [110,101,118,101,114],tkN [112],tkM [40]]
theorem pw9:Wr Any pc9 pt9:=by
 intro Y l2 hY hs; refine Scans.cons (t:=tkN [114]) (r2:=[40,41,32,58,45,32,110,101,118,101,114,32,112,40]++Y) (by rfl) rfl ?_; refine Scans.cons (t:=tkM [40]) (r2:=[41,32,58,45,32,110,101,118,101,114,32,112,40]++Y) (by rfl) rfl ?_; refine Scans.cons (t:=tkM [41]) (r2:=[32,58,45,32,110,101,118,101,114,32,112,40]++Y) (by rfl) rfl ?_; refine Scans.cons (t:=tkM [58,45]) (r2:=[32,110,101,118,101,114,32,112,40]++Y) (by rfl) rfl ?_; refine Scans.cons (t:=tkN [110,101,118,101,114]) (r2:=[32,112,40]++Y) (by rfl) rfl ?_; refine Scans.cons (t:=tkN [112]) (r2:=[40]++Y) (by rfl) rfl ?_; have h0:Wr Any ([]++[40]) ([]++[tkM [40]]):=Wr.app (E:=Any) (by first | exact (Wr.nil) | exact wr_ws (by decide)) (wr_mark (by decide)) (fun _ _=>trivial); exact h0 Y l2 trivial hs
/-- r() :- not aux1( -/
def pc10:List UInt8:=[114,40,41,32,58,45,32,110,111,116,32,97,117,120,49,40]
def pt10:List Tk:=[tkN [114],tkM [40],tkM [41],tkM [58,45],tkN [110,111,116],tkN [97,117,120,49],tkM [40]]
theorem pw10:Wr Any pc10 pt10:=by
 intro Y l2 hY hs; refine Scans.cons (t:=tkN [114]) (r2:=[40,41,32,58,45,32,110,111,116,32,97,117,120,49,40]++Y) (by rfl) rfl ?_; refine Scans.cons (t:=tkM [40]) (r2:=[41,32,58,45,32,110,111,116,32,97,117,120,49,40]++Y) (by rfl) rfl ?_; refine Scans.cons (t:=tkM [41]) (r2:=[32,58,45,32,110,111,116,32,97,117,120,49,40]++Y) (by rfl) rfl ?_; refine Scans.cons (t:=tkM [58,45]) (r2:=[32,110,111,116,32,97,117,120,49,40]++Y) (by rfl) rfl ?_; refine Scans.cons (t:=tkN [110,111,116]) (r2:=[32,97,117,120,49,40]++Y) (by rfl) rfl ?_; refine Scans.cons (t:=tkN [97,117,120,49]) (r2:=[40]++Y) (by rfl) rfl ?_; have h0:Wr Any ([]++[40]) ([]++[tkM [40]]):=Wr.app (E:=Any) (by first | exact (Wr.nil) | exact wr_ws (by decide)) (wr_mark (by decide)) (fun _ _=>trivial); exact h0 Y l2 trivial hs
/-- ). aux1(T1 -/
def pc11:List UInt8:=[41,46,32,97,117,120,49,40,84,49]
def pt11:List Tk:=[tkM [41],tkM [46],tkN [97,117,120,49],tkM [40],tkN [84,49]]
theorem pw11:Wr NoWd pc11 pt11:=by
 intro Y l2 hY hs; refine Scans.cons (t:=tkM [41]) (r2:=[46,32,97,117,120,49,40,84,49]++Y) (by rfl) rfl ?_; refine Scans.cons (t:=tkM [46]) (r2:=[32,97,117,120,49,40,84,49]++Y) (by rfl) rfl ?_; refine Scans.cons (t:=tkN [97,117,120,49]) (r2:=[40,84,49]++Y) (by rfl) rfl ?_; refine Scans.cons (t:=tkM [40]) (r2:=[84,49]++Y) (by rfl) rfl ?_; show Scans ([84,49]++Y) (tkN [84,49]::l2); have h0:Wr NoWd ([]++[84,49]) ([]++[tkN [84,49]]):=Wr.app (E:=Any) (by first | exact (Wr.nil) | exact wr_ws (by decide)) (wr_name (by decide)) (fun _ _=>trivial); exact h0 Y l2 hY hs
/-- ) :- event(T1, _), p(T2,  -/
def pc12:List UInt8:=[41,32,58,45,32,101,118,101,110,116,40,84,49,44,32,95,41,44,32,112,40,84,50,44,32]
def pt12:List Tk:=[tkM [41],tkM [58,45],tkN [101,118,101,110,116],tkM [40],tkN [84,49],tkM [44],tkM [95],tkM [41],tkM [44],tkN [112],tkM [40],tkN [84,50],tkM [44]]
theorem pw12:Wr Any pc12 pt12:=by
 intro Y l2 hY hs; refine Scans.cons (t:=tkM [41]) (r2:=[32,58,45,32,101,118,101,110,116,40,84,49,44,32,95,41,44,32,112,40,84,50,44,32]++Y) (by rfl) rfl ?_; refine Scans.cons (t:=tkM [58,45]) (r2:=[32,101,118,101,110,116,40,84,49,44,32,95,41,44,32,112,40,84,50,44,32]++Y) (by rfl) rfl ?_; refine Scans.cons (t:=tkN [101,118,101,110,116]) (r2:=[40,84,49,44,32,95,41,44,32,112,40,84,50,44,32]++Y) (by rfl) rfl ?_; refine Scans.cons (t:=tkM [40]) (r2:=[84,49,44,32,95,41,44,32,112,40,84,50,44,32]++Y) (by rfl) rfl ?_; refine Scans.cons (t:=tkN [84,49]) (r2:=[44,32,95,41,44,32,112,40,84,50,44,32]++Y) (by rfl) rfl ?_; refine Scans.cons (t:=tkM [44]) (r2:=[32,95,41,44,32,112,40,84,50,44,32]++Y) (by rfl) rfl ?_
 refine Scans.cons (t:=tkM [95]) (r2:=[41,44,32,112,40,84,50,44,32]++Y) (by rfl) rfl ?_; refine Scans.cons (t:=tkM [41]) (r2:=[44,32,112,40,84,50,44,32]++Y) (by rfl) rfl ?_; refine Scans.cons (t:=tkM [44]) (r2:=[32,112,40,84,50,44,32]++Y) (by rfl) rfl ?_; refine Scans.cons (t:=tkN [112]) (r2:=[40,84,50,44,32]++Y) (by rfl) rfl ?_; refine Scans.cons (t:=tkM [40]) (r2:=[84,50,44,32]++Y) (by rfl) rfl ?_; refine Scans.cons (t:=tkN [84,50]) (r2:=[44,32]++Y) (by rfl) rfl ?_; refine Scans.cons (t:=tkM [44]) (r2:=[32]++Y) (by rfl) rfl ?_; exact Scans.skip (z:=[32]) hs (by rfl)
/-- ), T2 < T1. ? r() -/
def pc13:List UInt8:=[41,44,32,84,50,32,60,32,84,49,46,32,63,32,114,40,41]
def pt13:List Tk:=[tkM [41],tkM [44],tkN [84,50],tkM [60],tkN [84,49],tkM [46],tkM [63],tkN [114],tkM [40],tkM [41]]
theorem pw13:Wr Any pc13 pt13:=by
 intro Y l2 hY hs; refine Scans.cons (t:=tkM [41]) (r2:=[44,32,84,50,32,60,32,84,49,46,32,63,32,114,40,41]++Y) (by rfl) rfl ?_; refine Scans.cons (t:=tkM [44]) (r2:=[32,84,50,32,60,32,84,49,46,32,63,32,114,40,41]++Y) (by rfl) rfl ?_; refine Scans.cons (t:=tkN [84,50]) (r2:=[32,60,32,84,49,46,32,63,32,114,40,41]++Y) (by rfl) rfl ?_; refine Scans.cons (t:=tkM [60]) (r2:=[32,84,49,46,32,63,32,114,40,41]++Y) (by rfl) rfl ?_; refine Scans.cons (t:=tkN [84,49]) (r2:=[46,32,63,32,114,40,41]++Y) (by rfl) rfl ?_; refine Scans.cons (t:=tkM [46]) (r2:=[32,63,32,114,40,41]++Y) (by rfl) rfl ?_; refine Scans.cons (t:=tkM [63]) (r2:=[32,114,40,41]++Y) (by rfl) rfl ?_; refine Scans.cons (t:=tkN [114]) (r2:=[40,41]++Y) (by rfl) rfl ?_
 refine Scans.cons (t:=tkM [40]) (r2:=[41]++Y) (by rfl) rfl ?_; have h0:Wr Any ([]++[41]) ([]++[tkM [41]]):=Wr.app (E:=Any) (by first | exact (Wr.nil) | exact wr_ws (by decide)) (wr_mark (by decide)) (fun _ _=>trivial); exact h0 Y l2 trivial hs
/-- ), T1 < T2. ? r() -/
def pc14:List UInt8:=[41,44,32,84,49,32,60,32,84,50,46,32,63,32,114,40,41]
def pt14:List Tk:=[tkM [41],tkM [44],tkN [84,49],tkM [60],tkN [84,50],tkM [46],tkM [63],tkN [114],tkM [40],tkM [41]]
theorem pw14:Wr Any pc14 pt14:=by
 intro Y l2 hY hs; refine Scans.cons (t:=tkM [41]) (r2:=[44,32,84,49,32,60,32,84,50,46,32,63,32,114,40,41]++Y) (by rfl) rfl ?_; refine Scans.cons (t:=tkM [44]) (r2:=[32,84,49,32,60,32,84,50,46,32,63,32,114,40,41]++Y) (by rfl) rfl ?_; refine Scans.cons (t:=tkN [84,49]) (r2:=[32,60,32,84,50,46,32,63,32,114,40,41]++Y) (by rfl) rfl ?_; refine Scans.cons (t:=tkM [60]) (r2:=[32,84,50,46,32,63,32,114,40,41]++Y) (by rfl) rfl ?_; refine Scans.cons (t:=tkN [84,50]) (r2:=[46,32,63,32,114,40,41]++Y) (by rfl) rfl ?_; refine Scans.cons (t:=tkM [46]) (r2:=[32,63,32,114,40,41]++Y) (by rfl) rfl ?_; refine Scans.cons (t:=tkM [63]) (r2:=[32,114,40,41]++Y) (by rfl) rfl ?_; refine Scans.cons (t:=tkN [114]) (r2:=[40,41]++Y) (by rfl) rfl ?_
 refine Scans.cons (t:=tkM [40]) (r2:=[41]++Y) (by rfl) rfl ?_; have h0:Wr Any ([]++[41]) ([]++[tkM [41]]):=Wr.app (E:=Any) (by first | exact (Wr.nil) | exact wr_ws (by decide)) (wr_mark (by decide)) (fun _ _=>trivial); exact h0 Y l2 trivial hs
/-- r() :- since q( -/
def pc15:List UInt8:=[114,40,41,32,58,45,32,115,105,110,99,101,32,113,40]
def pt15:List Tk:=[tkN [114],tkM [40],tkM [41],tkM [58,45],tkN [115,105,110,99,101],tkN [113],tkM [40]]
theorem pw15:Wr Any pc15 pt15:=by
 intro Y l2 hY hs; refine Scans.cons (t:=tkN [114]) (r2:=[40,41,32,58,45,32,115,105,110,99,101,32,113,40]++Y) (by rfl) rfl ?_; refine Scans.cons (t:=tkM [40]) (r2:=[41,32,58,45,32,115,105,110,99,101,32,113,40]++Y) (by rfl) rfl ?_; refine Scans.cons (t:=tkM [41]) (r2:=[32,58,45,32,115,105,110,99,101,32,113,40]++Y) (by rfl) rfl ?_; refine Scans.cons (t:=tkM [58,45]) (r2:=[32,115,105,110,99,101,32,113,40]++Y) (by rfl) rfl ?_; refine Scans.cons (t:=tkN [115,105,110,99,101]) (r2:=[32,113,40]++Y) (by rfl) rfl ?_; refine Scans.cons (t:=tkN [113]) (r2:=[40]++Y) (by rfl) rfl ?_; have h0:Wr Any ([]++[40]) ([]++[tkM [40]]):=Wr.app (E:=Any) (by first | exact (Wr.nil) | exact wr_ws (by decide)) (wr_mark (by decide)) (fun _ _=>trivial); exact h0 Y l2 trivial hs
/-- ) no p( -/
def pc16:List UInt8:=[41,32,110,111,32,112,40]
def pt16:List Tk:=[tkM [41],tkN [110,111],tkN [112],tkM [40]]
theorem pw16:Wr Any pc16 pt16:=by
 intro Y l2 hY hs; refine Scans.cons (t:=tkM [41]) (r2:=[32,110,111,32,112,40]++Y) (by rfl) rfl ?_; refine Scans.cons (t:=tkN [110,111]) (r2:=[32,112,40]++Y) (by rfl) rfl ?_; refine Scans.cons (t:=tkN [112]) (r2:=[40]++Y) (by rfl) rfl ?_; have h0:Wr Any ([]++[40]) ([]++[tkM [40]]):=Wr.app (E:=Any) (by first | exact (Wr.nil) | exact wr_ws (by decide)) (wr_mark (by decide)) (fun _ _=>trivial); exact h0 Y l2 trivial hs
/-- ,  -/
def pc17:List UInt8:=[44,32]
def pt17:List Tk:=[tkM [44]]
theorem pw17:Wr Any pc17 pt17:=by
 intro Y l2 hY hs; refine Scans.cons (t:=tkM [44]) (r2:=[32]++Y) (by rfl) rfl ?_; exact Scans.skip (z:=[32]) hs (by rfl)
/-- ) at  -/
def pc18:List UInt8:=[41,32,97,116,32]
def pt18:List Tk:=[tkM [41],tkN [97,116]]
theorem pw18:Wr Any pc18 pt18:=by
 intro Y l2 hY hs; refine Scans.cons (t:=tkM [41]) (r2:=[32,97,116,32]++Y) (by rfl) rfl ?_; refine Scans.cons (t:=tkN [97,116]) (r2:=[32]++Y) (by rfl) rfl ?_; exact Scans.skip (z:=[32]) hs (by rfl)
/-- r() :- q(T1,  -/
def pc19:List UInt8:=[114,40,41,32,58,45,32,113,40,84,49,44,32]
def pt19:List Tk:=[tkN [114],tkM [40],tkM [41],tkM [58,45],tkN [113],tkM [40],tkN [84,49],tkM [44]]
theorem pw19:Wr Any pc19 pt19:=by
 intro Y l2 hY hs; refine Scans.cons (t:=tkN [114]) (r2:=[40,41,32,58,45,32,113,40,84,49,44,32]++Y) (by rfl) rfl ?_; refine Scans.cons (t:=tkM [40]) (r2:=[41,32,58,45,32,113,40,84,49,44,32]++Y) (by rfl) rfl ?_; refine Scans.cons (t:=tkM [41]) (r2:=[32,58,45,32,113,40,84,49,44,32]++Y) (by rfl) rfl ?_; refine Scans.cons (t:=tkM [58,45]) (r2:=[32,113,40,84,49,44,32]++Y) (by rfl) rfl ?_; refine Scans.cons (t:=tkN [113]) (r2:=[40,84,49,44,32]++Y) (by rfl) rfl ?_; refine Scans.cons (t:=tkM [40]) (r2:=[84,49,44,32]++Y) (by rfl) rfl ?_; refine Scans.cons (t:=tkN [84,49]) (r2:=[44,32]++Y) (by rfl) rfl ?_; refine Scans.cons (t:=tkM [44]) (r2:=[32]++Y) (by rfl) rfl ?_; exact Scans.skip (z:=[32]) hs (by rfl)
/-- ), T1 <=  -/
def pc20:List UInt8:=[41,44,32,84,49,32,60,61,32]
def pt20:List Tk:=[tkM [41],tkM [44],tkN [84,49],tkM [60,61]]
theorem pw20:Wr Any pc20 pt20:=by
 intro Y l2 hY hs; refine Scans.cons (t:=tkM [41]) (r2:=[44,32,84,49,32,60,61,32]++Y) (by rfl) rfl ?_; refine Scans.cons (t:=tkM [44]) (r2:=[32,84,49,32,60,61,32]++Y) (by rfl) rfl ?_; refine Scans.cons (t:=tkN [84,49]) (r2:=[32,60,61,32]++Y) (by rfl) rfl ?_; refine Scans.cons (t:=tkM [60,61]) (r2:=[32]++Y) (by rfl) rfl ?_; exact Scans.skip (z:=[32]) hs (by rfl)
/-- , not aux1(T1,  -/
def pc21:List UInt8:=[44,32,110,111,116,32,97,117,120,49,40,84,49,44,32]
def pt21:List Tk:=[tkM [44],tkN [110,111,116],tkN [97,117,120,49],tkM [40],tkN [84,49],tkM [44]]
theorem pw21:Wr Any pc21 pt21:=by
 intro Y l2 hY hs; refine Scans.cons (t:=tkM [44]) (r2:=[32,110,111,116,32,97,117,120,49,40,84,49,44,32]++Y) (by rfl) rfl ?_; refine Scans.cons (t:=tkN [110,111,116]) (r2:=[32,97,117,120,49,40,84,49,44,32]++Y) (by rfl) rfl ?_; refine Scans.cons (t:=tkN [97,117,120,49]) (r2:=[40,84,49,44,32]++Y) (by rfl) rfl ?_; refine Scans.cons (t:=tkM [40]) (r2:=[84,49,44,32]++Y) (by rfl) rfl ?_; refine Scans.cons (t:=tkN [84,49]) (r2:=[44,32]++Y) (by rfl) rfl ?_; refine Scans.cons (t:=tkM [44]) (r2:=[32]++Y) (by rfl) rfl ?_; exact Scans.skip (z:=[32]) hs (by rfl)
/-- ). aux1(T2, T3 -/
def pc22:List UInt8:=[41,46,32,97,117,120,49,40,84,50,44,32,84,51]
def pt22:List Tk:=[tkM [41],tkM [46],tkN [97,117,120,49],tkM [40],tkN [84,50],tkM [44],tkN [84,51]]
theorem pw22:Wr NoWd pc22 pt22:=by
 intro Y l2 hY hs; refine Scans.cons (t:=tkM [41]) (r2:=[46,32,97,117,120,49,40,84,50,44,32,84,51]++Y) (by rfl) rfl ?_; refine Scans.cons (t:=tkM [46]) (r2:=[32,97,117,120,49,40,84,50,44,32,84,51]++Y) (by rfl) rfl ?_; refine Scans.cons (t:=tkN [97,117,120,49]) (r2:=[40,84,50,44,32,84,51]++Y) (by rfl) rfl ?_; refine Scans.cons (t:=tkM [40]) (r2:=[84,50,44,32,84,51]++Y) (by rfl) rfl ?_; refine Scans.cons (t:=tkN [84,50]) (r2:=[44,32,84,51]++Y) (by rfl) rfl ?_; refine Scans.cons (t:=tkM [44]) (r2:=[32,84,51]++Y) (by rfl) rfl ?_; show Scans ([32,84,51]++Y) (tkN [84,51]::l2); have h0:Wr NoWd ([32]++[84,51]) ([]++[tkN [84,51]]):=Wr.app (E:=Any) (by first | exact (Wr.nil) | exact wr_ws (by decide)) (wr_name (by decide)) (fun _ _=>trivial); exact h0 Y l2 hY hs
/-- ) :- p(T4,  -/
def pc23:List UInt8:=[41,32,58,45,32,112,40,84,52,44,32]
def pt23:List Tk:=[tkM [41],tkM [58,45],tkN [112],tkM [40],tkN [84,52],tkM [44]]
theorem pw23:Wr Any pc23 pt23:=by
 intro Y l2 hY hs; refine Scans.cons (t:=tkM [41]) (r2:=[32,58,45,32,112,40,84,52,44,32]++Y) (by rfl) rfl ?_; refine Scans.cons (t:=tkM [58,45]) (r2:=[32,112,40,84,52,44,32]++Y) (by rfl) rfl ?_; refine Scans.cons (t:=tkN [112]) (r2:=[40,84,52,44,32]++Y) (by rfl) rfl ?_; refine Scans.cons (t:=tkM [40]) (r2:=[84,52,44,32]++Y) (by rfl) rfl ?_; refine Scans.cons (t:=tkN [84,52]) (r2:=[44,32]++Y) (by rfl) rfl ?_; refine Scans.cons (t:=tkM [44]) (r2:=[32]++Y) (by rfl) rfl ?_; exact Scans.skip (z:=[32]) hs (by rfl)
/-- ), event(T2, _), event(T3, _), T2 < T4, T4 <= T3. ? r() -/
def pc24:List UInt8:=[41,44,32,101,118,101,110,116,40,84,50,44,32,95,41,44,32,101,118,101,110,116,40,84,51,44,32,95,41,44,32,84,50,32,60,32,84,52,44,32,84,52,32,60,61,32,84,51,46,32,63,32,114,40,41]
def pt24:List Tk:=[tkM [41],tkM [44],tkN [101,118,101,110,116],tkM [40],tkN [84,50],tkM [44],tkM [95],tkM [41],tkM [44],tkN [101,118,101,110,116],tkM [40],tkN [84,51],tkM [44],tkM [95],tkM [41],tkM [44],tkN [84,50],tkM [60],tkN [84,52],tkM [44],tkN [84,52],tkM [60,61],tkN [84,51],tkM [46],tkM [63],tkN [114],tkM [40],tkM [41]]
theorem pw24:Wr Any pc24 pt24:=by
 intro Y l2 hY hs; refine Scans.cons (t:=tkM [41]) (r2:=[44,32,101,118,101,110,116,40,84,50,44,32,95,41,44,32,101,118,101,110,116,40,84,51,44,32,95,41,44,32,84,50,32,60,32,84,52,44,32,84,52,32,60,61,32,84,51,46,32,63,32,114,40,41]++Y) (by rfl) rfl ?_; refine Scans.cons (t:=tkM [44]) (r2:=[32,101,118,101,110,116,40,84,50,44,32,95,41,44,32,101,118,101,110,116,40,84,51,44,32,95,41,44,32,84,50,32,60,32,84,52,44,32,84,52,32,60,61,32,84,51,46,32,63,32,114,40,41]++Y) (by rfl) rfl ?_; refine Scans.cons (t:=tkN [101,118,101,110,116]) (r2:=[40,84,50,44,32,95,41,44,32,101,118,101,110,116,40,84,51,44,32,95,41,44,32,84,50,32,60,32,84,52,44,32,84,52,32,60,61,32,84,51,46,32,63,32,114,40,41]++Y) (by rfl) rfl ?_
 refine Scans.cons (t:=tkM [40]) (r2:=[84,50,44,32,95,41,44,32,101,118,101,110,116,40,84,51,44,32,95,41,44,32,84,50,32,60,32,84,52,44,32,84,52,32,60,61,32,84,51,46,32,63,32,114,40,41]++Y) (by rfl) rfl ?_; refine Scans.cons (t:=tkN [84,50]) (r2:=[44,32,95,41,44,32,101,118,101,110,116,40,84,51,44,32,95,41,44,32,84,50,32,60,32,84,52,44,32,84,52,32,60,61,32,84,51,46,32,63,32,114,40,41]++Y) (by rfl) rfl ?_; refine Scans.cons (t:=tkM [44]) (r2:=[32,95,41,44,32,101,118,101,110,116,40,84,51,44,32,95,41,44,32,84,50,32,60,32,84,52,44,32,84,52,32,60,61,32,84,51,46,32,63,32,114,40,41]++Y) (by rfl) rfl ?_
 refine Scans.cons (t:=tkM [95]) (r2:=[41,44,32,101,118,101,110,116,40,84,51,44,32,95,41,44,32,84,50,32,60,32,84,52,44,32,84,52,32,60,61,32,84,51,46,32,63,32,114,40,41]++Y) (by rfl) rfl ?_; refine Scans.cons (t:=tkM [41]) (r2:=[44,32,101,118,101,110,116,40,84,51,44,32,95,41,44,32,84,50,32,60,32,84,52,44,32,84,52,32,60,61,32,84,51,46,32,63,32,114,40,41]++Y) (by rfl) rfl ?_; refine Scans.cons (t:=tkM [44]) (r2:=[32,101,118,101,110,116,40,84,51,44,32,95,41,44,32,84,50,32,60,32,84,52,44,32,84,52,32,60,61,32,84,51,46,32,63,32,114,40,41]++Y) (by rfl) rfl ?_
 refine Scans.cons (t:=tkN [101,118,101,110,116]) (r2:=[40,84,51,44,32,95,41,44,32,84,50,32,60,32,84,52,44,32,84,52,32,60,61,32,84,51,46,32,63,32,114,40,41]++Y) (by rfl) rfl ?_; refine Scans.cons (t:=tkM [40]) (r2:=[84,51,44,32,95,41,44,32,84,50,32,60,32,84,52,44,32,84,52,32,60,61,32,84,51,46,32,63,32,114,40,41]++Y) (by rfl) rfl ?_; refine Scans.cons (t:=tkN [84,51]) (r2:=[44,32,95,41,44,32,84,50,32,60,32,84,52,44,32,84,52,32,60,61,32,84,51,46,32,63,32,114,40,41]++Y) (by rfl) rfl ?_; refine Scans.cons (t:=tkM [44]) (r2:=[32,95,41,44,32,84,50,32,60,32,84,52,44,32,84,52,32,60,61,32,84,51,46,32,63,32,114,40,41]++Y) (by rfl) rfl ?_
 refine Scans.cons (t:=tkM [95]) (r2:=[41,44,32,84,50,32,60,32,84,52,44,32,84,52,32,60,61,32,84,51,46,32,63,32,114,40,41]++Y) (by rfl) rfl ?_; refine Scans.cons (t:=tkM [41]) (r2:=[44,32,84,50,32,60,32,84,52,44,32,84,52,32,60,61,32,84,51,46,32,63,32,114,40,41]++Y) (by rfl) rfl ?_; refine Scans.cons (t:=tkM [44]) (r2:=[32,84,50,32,60,32,84,52,44,32,84,52,32,60,61,32,84,51,46,32,63,32,114,40,41]++Y) (by rfl) rfl ?_; refine Scans.cons (t:=tkN [84,50]) (r2:=[32,60,32,84,52,44,32,84,52,32,60,61,32,84,51,46,32,63,32,114,40,41]++Y) (by rfl) rfl ?_; refine Scans.cons (t:=tkM [60]) (r2:=[32,84,52,44,32,84,52,32,60,61,32,84,51,46,32,63,32,114,40,41]++Y) (by rfl) rfl ?_
 refine Scans.cons (t:=tkN [84,52]) (r2:=[44,32,84,52,32,60,61,32,84,51,46,32,63,32,114,40,41]++Y) (by rfl) rfl ?_; refine Scans.cons (t:=tkM [44]) (r2:=[32,84,52,32,60,61,32,84,51,46,32,63,32,114,40,41]++Y) (by rfl) rfl ?_; refine Scans.cons (t:=tkN [84,52]) (r2:=[32,60,61,32,84,51,46,32,63,32,114,40,41]++Y) (by rfl) rfl ?_; refine Scans.cons (t:=tkM [60,61]) (r2:=[32,84,51,46,32,63,32,114,40,41]++Y) (by rfl) rfl ?_; refine Scans.cons (t:=tkN [84,51]) (r2:=[46,32,63,32,114,40,41]++Y) (by rfl) rfl ?_; refine Scans.cons (t:=tkM [46]) (r2:=[32,63,32,114,40,41]++Y) (by rfl) rfl ?_; refine Scans.cons (t:=tkM [63]) (r2:=[32,114,40,41]++Y) (by rfl) rfl ?_; refine Scans.cons (t:=tkN [114]) (r2:=[40,41]++Y) (by rfl) rfl ?_
 refine Scans.cons (t:=tkM [40]) (r2:=[41]++Y) (by rfl) rfl ?_; have h0:Wr Any ([]++[41]) ([]++[tkM [41]]):=Wr.app (E:=Any) (by first | exact (Wr.nil) | exact wr_ws (by decide)) (wr_mark (by decide)) (fun _ _=>trivial); exact h0 Y l2 trivial hs
def NmOk (n:List UInt8):Prop:=n.head?≠some 84∧¬ (3 < n.length∧n.take 3=[97,117,120])
/-- a term of AskTimes: its text, its tokens, what it is -/
structure TI (s:List UInt8) (tk:List Tk) (t:Tm):Prop where
 tok:TmTok tk t
 wr:Wr NoWd s tk
 nm:∀ x∈tk,x.kind=1→NmOk x.text
 var:t.var≠[]→t.var=s∧varF s=true
 int:t.var=[]→varF s=false
def vsS (a b:List UInt8) (va vb:Bool):List UInt8:=(if va=true then [44,32]++a else [])++(if vb=true∧b≠a then [44,32]++b else [])
def vsL (a b:List UInt8) (va vb:Bool) (A B:List Tk × Tm):List (List Tk × Tm):=(if va=true then [A] else [])++(if vb=true∧b≠a then [B] else [])
theorem vs_wr {a b:List UInt8} {A B:List Tk × Tm} (ha:TI a A.1 A.2) (hb:TI b B.1 B.2) (va vb:Bool):Wr NoWd (vsS a b va vb) (moreT (vsL a b va vb A B)):=by
 have h1:Wr NoWd ([44,32]++a) (tkM [44]::A.1):=wr_comma.app ha.wr fun _ _=>trivial
 have h2:Wr NoWd ([44,32]++b) (tkM [44]::B.1):=wr_comma.app hb.wr fun _ _=>trivial
 unfold vsS vsL; by_cases q1:va=true
 ·by_cases q2:vb=true∧b≠a
  ·rw [if_pos q1,if_pos q2,if_pos q1,if_pos q2]
   have:=h1.app h2 fun Y _=>noWd_cons (by decide) _
   simpa [moreT] using this
  ·rw [if_pos q1,if_neg q2,if_pos q1,if_neg q2]
   simpa [moreT] using h1
 ·by_cases q2:vb=true∧b≠a
  ·rw [if_neg q1,if_pos q2,if_neg q1,if_pos q2]
   simpa [moreT] using h2
  ·rw [if_neg q1,if_neg q2,if_neg q1,if_neg q2]
   exact Wr.nil
theorem vs_tok {a b:List UInt8} {A B:List Tk × Tm} (ha:TI a A.1 A.2) (hb:TI b B.1 B.2) (va vb:Bool):∀ x∈vsL a b va vb A B,TmTok x.1 x.2:=by
 intro x hx; unfold vsL at hx; rcases List.mem_append.1 hx with hx | hx
 ·split at hx
  ·simp at hx; subst hx; exact ha.tok
  ·cases hx
 ·split at hx
  ·simp at hx; subst hx; exact hb.tok
  ·cases hx
def isV (t:Tm):Bool:=!decide (t.var=[])
theorem dv_int (seen:List (List UInt8)) (t:Tm) (l:List Tm) (h:t.var∈seen):dvars seen (t::l)=dvars seen l:=by rw [dvars,if_pos h]
theorem dv_var (seen:List (List UInt8)) (t:Tm) (l:List Tm) (h:t.var ∉ seen):dvars seen (t::l)=t::dvars (t.var::seen) l:=by rw [dvars,if_neg h]
theorem vs_dv {a b:List UInt8} {A B:List Tk × Tm} (ha:TI a A.1 A.2) (hb:TI b B.1 B.2) (w:List Tm) (hw:w=[]∨w=[tmVar [95]]) :
  dvars [[],[95]] (A.2::(w++[B.2]))=(vsL a b (isV A.2) (isV B.2) A B).map (·.2):=by
 have hskip:∀ seen:List (List UInt8),[95]∈seen→∀ l,dvars seen (w++l)=dvars seen l:=by
  intro seen hs l; rcases hw with rfl | rfl
  ·rfl
  ·exact dv_int seen (tmVar [95]) l hs
 unfold vsL isV; by_cases q1:A.2.var=[]
 ·rw [dv_int _ _ _ (by rw [q1]; simp),hskip _ (by simp)]
  by_cases q2:B.2.var=[]
  ·rw [dv_int _ _ _ (by rw [q2]; simp)]
   simp [q1,q2,dvars]
  ·obtain ⟨e1,e2⟩:=hb.var q2
   have hne:b≠a:=by
    intro e; have:=ha.int q1; rw [← e,e2] at this; cases this
   rw [dv_var _ _ _ (by have h9:=(var_ne e2).2; rw [← e1] at h9; simp [q2,h9])]; simp [q1,q2,dvars,hne]
 ·obtain ⟨f1,f2⟩:=ha.var q1
  rw [dv_var _ _ _ (by have h9:=(var_ne f2).2; rw [← f1] at h9; simp [q1,h9]),hskip _ (by simp)]; by_cases q2:B.2.var=[]
  ·rw [dv_int _ _ _ (by rw [q2]; simp)]
   simp [q1,q2,dvars]
  ·obtain ⟨e1,e2⟩:=hb.var q2
   by_cases hne:b=a
   ·rw [dv_int _ _ _ (by rw [e1,f1,hne]; simp)]
    simp [q1,q2,dvars,hne]
   ·rw [dv_var _ _ _ (by have h9:=(var_ne e2).2; rw [← e1] at h9; simp [q2,h9]; rw [e1,f1]; exact hne)]
    simp [q1,q2,dvars,hne]
/-! fresh names -/
def NmsOk (tk:List Tk):Prop:=∀ x∈tk,x.kind=1→NmOk x.text
theorem nms_mem {tk:List Tk} (h:NmsOk tk) {n:List UInt8} (hn:n∈namesP (tk.map tw)):NmOk n:=by
 unfold namesP at hn; obtain ⟨t,ht,hk⟩:=List.mem_filterMap.1 hn; obtain ⟨x,hx,rfl⟩:=List.mem_map.1 ht; by_cases hx1:(tw x).kind=1
 ·rw [if_pos hx1] at hk
  injection hk with hk; subst hk; exact h x hx hx1
 ·rw [if_neg hx1] at hk; cases hk
theorem nms_app {a b:List Tk} (ha:NmsOk a) (hb:NmsOk b):NmsOk (a++b):=fun x hx=>by
 rcases List.mem_append.1 hx with hx | hx
 ·exact ha x hx
 ·exact hb x hx
theorem newVar_f {tk:List Tk} (h:NmsOk tk) (st:PSt):newVarP (tk.map tw) st=(tmVar ([84]++itoa ((st.vars+1:Nat):Int)),{ st with vars:=st.vars+1 }):=by
 have:freshP (namesP (tk.map tw)) [84] ((tk.map tw).length+1) st.vars=st.vars+1:=by
  rw [freshP,if_neg]; intro hn; exact (nms_mem h hn).1 rfl
 unfold newVarP; rw [this]
theorem dec_pos (n:Nat):0 < (decDigits n).length:=by
 rw [decDigits]; split <;> simp
theorem newRel_f {tk:List Tk} (h:NmsOk tk) (st:PSt):newRelP (tk.map tw) st=([97,117,120]++itoa ((st.rels+1:Nat):Int),{ st with rels:=st.rels+1 }):=by
 have:freshP (namesP (tk.map tw)) [97,117,120] ((tk.map tw).length+1) st.rels=st.rels+1:=by
  rw [freshP,if_neg]; intro hn; refine (nms_mem h hn).2 ⟨?_,rfl⟩; rw [itoa_nonneg,List.length_append]; have:=dec_pos (st.rels+1); simp only [List.length_cons,List.length_nil]; omega
 unfold newRelP; rw [this]
/-! whole texts -/
theorem parse_of {s:List UInt8} {tk:List Tk} {Q:Qu} {st:PSt} (hs:s.length≤32768) (h:Scans s tk) (hq:queryP (tk.map tw) (tk.length+1) st0 []=(some Q,st)):parseF s=.ok Q:=by
 obtain ⟨l',h1,h2⟩:=scanF_of hs h
 have htw:l'.map tw=tk.map tw:=by
  have e2:∀ m:List Tk,m.map tw=(m.map tkey).map fun k=>⟨k.1,k.2.1,k.2.2⟩:=fun m=>by rw [List.map_map]; rfl
  rw [e2,e2,h2]
 have hl:l'.length=tk.length:=by
  have:=congrArg List.length htw; simpa using this
 unfold parseF; rw [h1]; simp only; rw [htw,hl,hq]
def goalT:List Tk:=tkM [63]::atomT [114] []
theorem goal_toks {ts:List Tw} {st:PSt} (hd:ts.drop st.nx=goalT.map tw) (f:Nat) (rules:List Ru):queryP ts (f+1) st rules=(some ⟨rules,⟨0,false,[114],[]⟩⟩,adv st 4):=by
 have h1:ts.drop (nextP st).nx=(atomT [114] []).map tw++[]:=by
  rw [List.append_nil]; exact (at_cons hd).2
 have ha:=atom_toks (rel:=[114]) (by decide) (L:=[]) (fun x hx=>by cases hx) h1
 have hl:ts.length=st.nx+4:=by
  have:=congrArg List.length hd; rw [List.length_drop,List.length_map] at this; have e:goalT.length=4:=rfl; rw [e] at this; omega
 rw [queryP,is_at (a:=tw (tkM [63])) (r:=(atomT [114] []).map tw) hd,if_pos (by decide),ha]; unfold goalE; simp only; rw [if_neg (by rw [hl]; show ¬ st.nx+1+3 < st.nx+4; omega)]; rfl
/-- a rule's tokens, and what it makes -/
def RuIs (ts:List Tw) (st:PSt) (tk:List Tk) (rs:List Ru) (s:PSt):Prop:=ruleP ts st=(some rs,s)∧s.nx=st.nx+tk.length∧∃ n q,tk=tkN n::q
theorem query_rule {ts:List Tw} {st s:PSt} {tk:List Tk} {rs:List Ru} {r:List Tw} (h:RuIs ts st tk rs s) (hd:ts.drop st.nx=tk.map tw++r) (f:Nat) (rules:List Ru) (hl:(rules++rs).length≤64):queryP ts (f+1) st rules=queryP ts f s (rules++rs)∧ts.drop s.nx=r:=by
 obtain ⟨h1,h2,n,q,rfl⟩:=h; constructor
 ·have hq:isP ts st 4 [63]=false:=by rw [is_at (a:=tw (tkN n)) (r:=q.map tw++r) hd]; rfl
  rw [queryP,hq,if_neg (by decide),h1]; simp only; rw [if_neg (by omega)]
 ·rw [h2]
  exact at_adv (st:=st) (k:=(tkN n::q).length) hd (by simp)
theorem side_toks {b:Bool} {tk:List Tk} {t:Tm} (h:TmTok tk t) {ts:List Tw} {st:PSt} {r:List Tw} (hd:ts.drop st.nx=(tkN (if b=true then [98,101,102,111,114,101] else [97,102,116,101,114])::tk).map tw++r):sideP ts st=(some (b,t),adv st (tk.length+1)):=by
 have h1:=at_cons hd; have hp:=h.parse (st:=nextP st) h1.2
 cases b with
 | true =>
  unfold sideP; rw [is_at (a:=tw (tkN [98,101,102,111,114,101])) hd,if_pos (by decide),hp]; simp [sideE,next_adv,adv_adv,Nat.add_comm]
 | false =>
  unfold sideP; rw [is_at (a:=tw (tkN [97,102,116,101,114])) hd,is_at (a:=tw (tkN [97,102,116,101,114])) hd,if_neg (by decide),if_pos (by decide),hp]; simp [sideE,next_adv,adv_adv,Nat.add_comm]
def T_ (n:Nat):Tm:=tmVar ([84]++itoa (n:Int))
def X_ (n:Nat):List UInt8:=[97,117,120]++itoa (n:Int)
def sideW (b:Bool):List UInt8:=if b=true then [98,101,102,111,114,101] else [97,102,116,101,114]
def onceT (rel:List UInt8) (L:List (List Tk × Tm)) (b:Bool) (c:List Tk):List Tk:=tkN [111,110,99,101]::(atomT rel L++tkN (sideW b)::c)
theorem once_toks {rel:List UInt8} (hr:relF rel=true) {L:List (List Tk × Tm)} (hL:∀ x∈L,ArgTok x.1 x.2) {b:Bool} {c:List Tk} {t:Tm} (hc:TmTok c t) {tk:List Tk} (hn:NmsOk tk) {st:PSt} {r:List Tw} (hd:(tk.map tw).drop st.nx=(onceT rel L b c).map tw++r) :
  LitIs (tk.map tw) st (onceT rel L b c) [timedF (T_ (st.vars+1)) ⟨0,false,rel,L.map (·.2)⟩,besideF b (T_ (st.vars+1)) t] [] { adv st (onceT rel L b c).length with vars:=st.vars+1 }:=by
 have h1:(tk.map tw).drop (nextP st).nx=(atomT rel L).map tw++((tkN (sideW b)::c).map tw++r):=by
  have:(tk.map tw).drop (nextP st).nx=(atomT rel L++tkN (sideW b)::c).map tw++r:=(at_cons (a:=tw (tkN [111,110,99,101])) hd).2; rw [List.map_append,List.append_assoc] at this; exact this
 have ha:=atom_toks hr hL h1; have h2:(tk.map tw).drop (adv (nextP st) (atomT rel L).length).nx=(tkN (sideW b)::c).map tw++r:=at_adv h1 (by simp); have hs:=side_toks hc h2; refine ⟨?_,rfl,rfl⟩; unfold literalP; rw [is_at (a:=tw (tkN [111,110,99,101])) (r:=(atomT rel L++tkN (sideW b)::c).map tw++r) hd,is_at (a:=tw (tkN [111,110,99,101])) (r:=(atomT rel L++tkN (sideW b)::c).map tw++r) hd,if_neg (by decide),if_pos (by decide)]; unfold onceP; rw [ha]; simp only; rw [hs]; unfold onceE; simp only; rw [newVar_f hn]; unfold litsE; simp only [Option.map_some]
 have e:adv (adv (nextP st) (atomT rel L).length) (c.length+1)=adv st (onceT rel L b c).length:=by
  rw [next_adv,adv_adv,adv_adv]; simp [onceT,Nat.add_comm,Nat.add_left_comm]
 rw [e]; rfl
def neverT (rel:List UInt8) (L:List (List Tk × Tm)) (b:Bool) (c:List Tk):List Tk:=tkN [110,101,118,101,114]::(atomT rel L++tkN (sideW b)::c)
theorem never_toks {rel:List UInt8} (hr:relF rel=true) {L:List (List Tk × Tm)} (hL:∀ x∈L,ArgTok x.1 x.2) {b:Bool} {c:List Tk} {t:Tm} (hc:TmTok c t) {tk:List Tk} (hn:NmsOk tk) {st:PSt} {r:List Tw} (hd:(tk.map tw).drop st.nx=(neverT rel L b c).map tw++r) :
  LitIs (tk.map tw) st (neverT rel L b c) (neverF (T_ (st.vars+1)) (T_ (st.vars+2)) (X_ (st.rels+1)) ⟨0,false,rel,L.map (·.2)⟩ b t).1 (neverF (T_ (st.vars+1)) (T_ (st.vars+2)) (X_ (st.rels+1)) ⟨0,false,rel,L.map (·.2)⟩ b t).2 { adv st (neverT rel L b c).length with vars:=st.vars+2,rels:=st.rels+1 }:=by
 have h1:(tk.map tw).drop (nextP st).nx=(atomT rel L).map tw++((tkN (sideW b)::c).map tw++r):=by
  have:(tk.map tw).drop (nextP st).nx=(atomT rel L++tkN (sideW b)::c).map tw++r:=(at_cons (a:=tw (tkN [110,101,118,101,114])) hd).2; rw [List.map_append,List.append_assoc] at this; exact this
 have ha:=atom_toks hr hL h1; have h2:(tk.map tw).drop (adv (nextP st) (atomT rel L).length).nx=(tkN (sideW b)::c).map tw++r:=at_adv h1 (by simp); have hs:=side_toks hc h2; refine ⟨?_,rfl,rfl⟩; unfold literalP; rw [is_at (a:=tw (tkN [110,101,118,101,114])) (r:=(atomT rel L++tkN (sideW b)::c).map tw++r) hd,is_at (a:=tw (tkN [110,101,118,101,114])) (r:=(atomT rel L++tkN (sideW b)::c).map tw++r) hd,is_at (a:=tw (tkN [110,101,118,101,114])) (r:=(atomT rel L++tkN (sideW b)::c).map tw++r) hd,if_neg (by decide),if_neg (by decide),if_pos (by decide)]; unfold neverP; rw [ha]; simp only; rw [hs]; unfold neverE; simp only; rw [newVar_f hn,newVar_f hn,newRel_f hn]
 have e:adv (adv (nextP st) (atomT rel L).length) (c.length+1)=adv st (neverT rel L b c).length:=by
  rw [next_adv,adv_adv,adv_adv]; simp [neverT,Nat.add_comm,Nat.add_left_comm]
 rw [e]; rfl
def sinceT (rel rel2:List UInt8) (L M:List (List Tk × Tm)) (c:List Tk):List Tk:=tkN [115,105,110,99,101]::(atomT rel L++tkN [110,111]::(atomT rel2 M++tkN [97,116]::c))
theorem since_toks {rel rel2:List UInt8} (hr:relF rel=true) (hr2:relF rel2=true) {L M:List (List Tk × Tm)} (hL:∀ x∈L,ArgTok x.1 x.2) (hM:∀ x∈M,ArgTok x.1 x.2) {c:List Tk} {t:Tm} (hc:TmTok c t) {tk:List Tk} (hn:NmsOk tk) {st:PSt} {r:List Tw} (hd:(tk.map tw).drop st.nx=(sinceT rel rel2 L M c).map tw++r) :
  LitIs (tk.map tw) st (sinceT rel rel2 L M c) (sinceF (T_ (st.vars+1)) (T_ (st.vars+2)) (T_ (st.vars+3)) (T_ (st.vars+4)) (X_ (st.rels+1)) ⟨0,false,rel,L.map (·.2)⟩ ⟨0,false,rel2,M.map (·.2)⟩ t).1 (sinceF (T_ (st.vars+1)) (T_ (st.vars+2)) (T_ (st.vars+3)) (T_ (st.vars+4)) (X_ (st.rels+1)) ⟨0,false,rel,L.map (·.2)⟩ ⟨0,false,rel2,M.map (·.2)⟩ t).2 { adv st (sinceT rel rel2 L M c).length with vars:=st.vars+4,rels:=st.rels+1 }:=by
 have h1:(tk.map tw).drop (nextP st).nx=(atomT rel L).map tw++(tw (tkN [110,111])::((atomT rel2 M).map tw++(tw (tkN [97,116])::(c.map tw++r)))):=by
  have:(tk.map tw).drop (nextP st).nx=(atomT rel L++tkN [110,111]::(atomT rel2 M++tkN [97,116]::c)).map tw++r:=(at_cons (a:=tw (tkN [115,105,110,99,101])) hd).2; rw [this]; simp
 have ha:=atom_toks hr hL h1; have h2:(tk.map tw).drop (adv (nextP st) (atomT rel L).length).nx=tw (tkN [110,111])::((atomT rel2 M).map tw++(tw (tkN [97,116])::(c.map tw++r))):=at_adv h1 (by simp); have h3:(tk.map tw).drop (nextP (adv (nextP st) (atomT rel L).length)).nx=(atomT rel2 M).map tw++(tw (tkN [97,116])::(c.map tw++r)):=(at_cons h2).2; have hm:=atom_toks hr2 hM h3; have h4:(tk.map tw).drop (adv (nextP (adv (nextP st) (atomT rel L).length)) (atomT rel2 M).length).nx=tw (tkN [97,116])::(c.map tw++r):=at_adv h3 (by simp); have h5:=(at_cons h4).2; have ht:=hc.parse (st:=nextP (adv (nextP (adv (nextP st) (atomT rel L).length)) (atomT rel2 M).length)) h5; refine ⟨?_,rfl,rfl⟩
 have hi:(tk.map tw).drop st.nx=tw (tkN [115,105,110,99,101])::((atomT rel L++tkN [110,111]::(atomT rel2 M++tkN [97,116]::c)).map tw++r):=hd; unfold literalP; rw [is_at hi,is_at hi,is_at hi,is_at hi,if_neg (by decide),if_neg (by decide),if_neg (by decide),if_pos (by decide)]; unfold sinceP; rw [ha]; simp only; rw [is_at h2,if_pos (by decide),hm]; unfold sinceM; simp only; rw [is_at h4,if_pos (by decide),ht]; unfold sinceE; simp only; rw [newVar_f hn,newVar_f hn,newVar_f hn,newVar_f hn,newRel_f hn]
 have e:adv (nextP (adv (nextP (adv (nextP st) (atomT rel L).length)) (atomT rel2 M).length)) c.length=adv st (sinceT rel rel2 L M c).length:=by
  simp only [next_adv,adv_adv]; congr 1; simp [sinceT]; omega
 rw [e]; rfl
theorem it_one {n:Nat} (h:n < 10):itoa (n:Int)=[UInt8.ofNat (48+n)]:=by
 rw [itoa_nonneg,decDigits,dif_pos h]
theorem T_1:T_ 1=tmVar [84,49]:=by unfold T_; rw [it_one (by decide)]; rfl
theorem T_2:T_ 2=tmVar [84,50]:=by unfold T_; rw [it_one (by decide)]; rfl
theorem T_3:T_ 3=tmVar [84,51]:=by unfold T_; rw [it_one (by decide)]; rfl
theorem T_4:T_ 4=tmVar [84,52]:=by unfold T_; rw [it_one (by decide)]; rfl
theorem X_1:X_ 1=[97,117,120,49]:=by unfold X_; rw [it_one (by decide)]; rfl
def nmB (l:List Tk):Bool:=l.all fun x=>!decide (x.kind=1) || (!decide (x.text.head? = some 84) && !(decide (3 < x.text.length) && decide (x.text.take 3=[97,117,120])))
theorem nmB_ok {l:List Tk} (h:nmB l=true):NmsOk l:=by
 intro x hx hk; unfold nmB at h; rw [List.all_eq_true] at h; have:=h x hx; simp [hk] at this; exact ⟨this.1,fun e=>by rcases this.2 with h | h; omega; exact h e.2⟩
theorem vs_lead (a b:List UInt8) (va vb:Bool):Lead (vsS a b va vb):=by
 unfold vsS; split
 ·exact Or.inr ⟨_,rfl⟩
 ·split
  ·exact Or.inr ⟨_,rfl⟩
  ·exact Or.inl rfl
theorem rule_is {rel:List UInt8} (hr:relF rel=true) {L:List (List Tk × Tm)} (h:∀ x∈L,TmTok x.1 x.2) {tk:List Tk} {M:List (List Tk × Lt)} (hM:∀ x∈M,LitTok x.1 x.2) {ls:List Lt} {au:List Ru} {ts:List Tw} {st s:PSt} {r:List Tw}
  (hd:ts.drop st.nx=(atomT rel L++(tkM [58,45]::(tk++moreL M))++[tkM [46]]).map tw++r) (hlit:LitIs ts (adv st ((atomT rel L).length+1)) tk ls au s) :
  RuIs ts st (atomT rel L++(tkM [58,45]::(tk++moreL M))++[tkM [46]]) ((⟨⟨0,false,rel,L.map (·.2)⟩,0,0,ls++M.map (·.2)⟩::au).map numR) (adv s ((moreL M).length+1)):=by
 refine ⟨rule_toks hr h hM hd hlit,?_,_,_,rfl⟩; show s.nx+_=_; rw [hlit.2.1]; show st.nx+((atomT rel L).length+1)+tk.length+((moreL M).length+1)=_; simp only [List.length_append,List.length_cons,List.length_nil]; omega
theorem query_1 {R:List Tk} {rs:List Ru} {s:PSt} (h:RuIs ((R++goalT).map tw) st0 R rs s) (hl:rs.length≤64):queryP ((R++goalT).map tw) ((R++goalT).length+1) st0 []=(some ⟨rs,⟨0,false,[114],[]⟩⟩,adv s 4):=by
 have hd:((R++goalT).map tw).drop st0.nx=R.map tw++goalT.map tw:=by simp [st0]
 obtain ⟨e1,e2⟩:=query_rule h hd (R++goalT).length [] (by simpa using hl); rw [e1]
 have:(R++goalT).length=(R.length+3)+1:=by rw [List.length_append]; rfl
 rw [this]; exact goal_toks e2 _ _
theorem query_2 {R R2:List Tk} {rs rs2:List Ru} {s s2:PSt} (h:RuIs ((R++(R2++goalT)).map tw) st0 R rs s) (h2:RuIs ((R++(R2++goalT)).map tw) s R2 rs2 s2) (hl:(rs++rs2).length≤64):queryP ((R++(R2++goalT)).map tw) ((R++(R2++goalT)).length+1) st0 []=(some ⟨rs++rs2,⟨0,false,[114],[]⟩⟩,adv s2 4):=by
 have hd:((R++(R2++goalT)).map tw).drop st0.nx=R.map tw++(R2++goalT).map tw:=by simp [st0]
 obtain ⟨e1,e2⟩:=query_rule h hd (R++(R2++goalT)).length [] (by rw [List.length_append] at hl; simp; omega); rw [e1]
 have:(R++(R2++goalT)).length=(R.length+R2.length+3)+1:=by rw [List.length_append,List.length_append]; show R.length+(R2.length+4)=_; omega
 rw [this]; have e2':((R++(R2++goalT)).map tw).drop s.nx=R2.map tw++goalT.map tw:=e2.trans List.map_append; obtain ⟨e3,e4⟩:=query_rule h2 e2' (R.length+R2.length+3) ([]++rs) (by simpa using hl); rw [e3]; have:R.length+R2.length+3=(R.length+R2.length+2)+1:=rfl; rw [this]; exact goal_toks e4 _ _
theorem wd_tok {n:List UInt8} (h:varF n=true):ArgTok [tkN n] (tmVar n):=.term (.var n h)
abbrev wI:List Tk × Tm:=([tkM [95]],tmVar [95])
abbrev vI (n:List UInt8):List Tk × Tm:=([tkN n],tmVar n)
section
variable {a b c:List UInt8} {A B C:List Tk × Tm}

def txo0 (a b c:List UInt8):List UInt8:=pc0++a++pc1++b++pc2++c++pc3
def txt0 (a b c:List UInt8):List UInt8:=pc4++a++pc1++b++pc5++c++pc3
theorem txo0_scan (ha:TI a A.1 A.2) (hb:TI b B.1 B.2) (hc:TI c C.1 C.2):Scans (txo0 a b c) (pt0++(A.1++(pt1++(B.1++(pt2++(C.1++(pt3))))))):=by
 have hW:Wr Any (pc0++(a++(pc1++(b++(pc2++(c++(pc3))))))) (pt0++(A.1++(pt1++(B.1++(pt2++(C.1++(pt3))))))):=(pw0).app ((ha.wr).app ((pw1).app ((hb.wr).app ((pw2).app ((hc.wr).app (pw3) (fun Y _=>noWd_cons (by decide) _)) (fun _ _=>trivial)) (fun Y _=>noWd_cons (by decide) _)) (fun _ _=>trivial)) (fun Y _=>noWd_cons (by decide) _)) (fun _ _=>trivial); have h:=hW [] [] trivial (Scans.nil rfl); rw [List.append_nil,List.append_nil] at h
 have e:txo0 a b c=pc0++(a++(pc1++(b++(pc2++(c++(pc3)))))):=by unfold txo0; simp only [List.append_assoc]
 rw [e]; exact h
theorem txt0_scan (ha:TI a A.1 A.2) (hb:TI b B.1 B.2) (hc:TI c C.1 C.2):Scans (txt0 a b c) (pt4++(A.1++(pt1++(B.1++(pt5++(C.1++(pt3))))))):=by
 have hW:Wr Any (pc4++(a++(pc1++(b++(pc5++(c++(pc3))))))) (pt4++(A.1++(pt1++(B.1++(pt5++(C.1++(pt3))))))):=(pw4).app ((ha.wr).app ((pw1).app ((hb.wr).app ((pw5).app ((hc.wr).app (pw3) (fun Y _=>noWd_cons (by decide) _)) (fun _ _=>trivial)) (fun Y _=>noWd_cons (by decide) _)) (fun _ _=>trivial)) (fun Y _=>noWd_cons (by decide) _)) (fun _ _=>trivial); have h:=hW [] [] trivial (Scans.nil rfl); rw [List.append_nil,List.append_nil] at h
 have e:txt0 a b c=pc4++(a++(pc1++(b++(pc5++(c++(pc3)))))):=by unfold txt0; simp only [List.append_assoc]
 rw [e]; exact h
def txo1 (a b c:List UInt8):List UInt8:=pc0++a++pc1++b++pc6++c++pc3
def txt1 (a b c:List UInt8):List UInt8:=pc4++a++pc1++b++pc7++c++pc8
theorem txo1_scan (ha:TI a A.1 A.2) (hb:TI b B.1 B.2) (hc:TI c C.1 C.2):Scans (txo1 a b c) (pt0++(A.1++(pt1++(B.1++(pt6++(C.1++(pt3))))))):=by
 have hW:Wr Any (pc0++(a++(pc1++(b++(pc6++(c++(pc3))))))) (pt0++(A.1++(pt1++(B.1++(pt6++(C.1++(pt3))))))):=(pw0).app ((ha.wr).app ((pw1).app ((hb.wr).app ((pw6).app ((hc.wr).app (pw3) (fun Y _=>noWd_cons (by decide) _)) (fun _ _=>trivial)) (fun Y _=>noWd_cons (by decide) _)) (fun _ _=>trivial)) (fun Y _=>noWd_cons (by decide) _)) (fun _ _=>trivial); have h:=hW [] [] trivial (Scans.nil rfl); rw [List.append_nil,List.append_nil] at h
 have e:txo1 a b c=pc0++(a++(pc1++(b++(pc6++(c++(pc3)))))):=by unfold txo1; simp only [List.append_assoc]
 rw [e]; exact h
theorem txt1_scan (ha:TI a A.1 A.2) (hb:TI b B.1 B.2) (hc:TI c C.1 C.2):Scans (txt1 a b c) (pt4++(A.1++(pt1++(B.1++(pt7++(C.1++(pt8))))))):=by
 have hW:Wr Any (pc4++(a++(pc1++(b++(pc7++(c++(pc8))))))) (pt4++(A.1++(pt1++(B.1++(pt7++(C.1++(pt8))))))):=(pw4).app ((ha.wr).app ((pw1).app ((hb.wr).app ((pw7).app ((hc.wr).app (pw8) (fun Y _=>noWd_cons (by decide) _)) (fun _ _=>trivial)) (fun Y _=>noWd_cons (by decide) _)) (fun _ _=>trivial)) (fun Y _=>noWd_cons (by decide) _)) (fun _ _=>trivial); have h:=hW [] [] trivial (Scans.nil rfl); rw [List.append_nil,List.append_nil] at h
 have e:txt1 a b c=pc4++(a++(pc1++(b++(pc7++(c++(pc8)))))):=by unfold txt1; simp only [List.append_assoc]
 rw [e]; exact h
def txo2 (a b c:List UInt8):List UInt8:=pc9++a++pc1++b++pc2++c++pc3
def txt2 (a b c v:List UInt8):List UInt8:=pc10++c++v++pc11++v++pc12++a++pc1++b++pc13
theorem txo2_scan (ha:TI a A.1 A.2) (hb:TI b B.1 B.2) (hc:TI c C.1 C.2):Scans (txo2 a b c) (pt9++(A.1++(pt1++(B.1++(pt2++(C.1++(pt3))))))):=by
 have hW:Wr Any (pc9++(a++(pc1++(b++(pc2++(c++(pc3))))))) (pt9++(A.1++(pt1++(B.1++(pt2++(C.1++(pt3))))))):=(pw9).app ((ha.wr).app ((pw1).app ((hb.wr).app ((pw2).app ((hc.wr).app (pw3) (fun Y _=>noWd_cons (by decide) _)) (fun _ _=>trivial)) (fun Y _=>noWd_cons (by decide) _)) (fun _ _=>trivial)) (fun Y _=>noWd_cons (by decide) _)) (fun _ _=>trivial); have h:=hW [] [] trivial (Scans.nil rfl); rw [List.append_nil,List.append_nil] at h
 have e:txo2 a b c=pc9++(a++(pc1++(b++(pc2++(c++(pc3)))))):=by unfold txo2; simp only [List.append_assoc]
 rw [e]; exact h
theorem txt2_scan (ha:TI a A.1 A.2) (hb:TI b B.1 B.2) (hc:TI c C.1 C.2):Scans (txt2 a b c (vsS a b (isV A.2) (isV B.2))) (pt10++(C.1++(moreT (vsL a b (isV A.2) (isV B.2) A B)++(pt11++(moreT (vsL a b (isV A.2) (isV B.2) A B)++(pt12++(A.1++(pt1++(B.1++(pt13)))))))))):=by
 have hW:Wr Any (pc10++(c++(vsS a b (isV A.2) (isV B.2)++(pc11++(vsS a b (isV A.2) (isV B.2)++(pc12++(a++(pc1++(b++(pc13)))))))))) (pt10++(C.1++(moreT (vsL a b (isV A.2) (isV B.2) A B)++(pt11++(moreT (vsL a b (isV A.2) (isV B.2) A B)++(pt12++(A.1++(pt1++(B.1++(pt13)))))))))):=(pw10).app ((hc.wr).app (((vs_wr ha hb _ _)).app ((pw11).app (((vs_wr ha hb _ _)).app ((pw12).app ((ha.wr).app ((pw1).app ((hb.wr).app (pw13) (fun Y _=>noWd_cons (by decide) _)) (fun _ _=>trivial)) (fun Y _=>noWd_cons (by decide) _)) (fun _ _=>trivial)) (fun Y _=>noWd_cons (by decide) _)) (fun Y _=>by rw [List.append_assoc]; exact (vs_lead _ _ _ _).noWd (noWd_cons (by decide) _))) (fun Y _=>noWd_cons (by decide) _)) (fun Y _=>by rw [List.append_assoc]; exact (vs_lead _ _ _ _).noWd (noWd_cons (by decide) _))) (fun _ _=>trivial)
 have h:=hW [] [] trivial (Scans.nil rfl); rw [List.append_nil,List.append_nil] at h
 have e:txt2 a b c (vsS a b (isV A.2) (isV B.2))=pc10++(c++(vsS a b (isV A.2) (isV B.2)++(pc11++(vsS a b (isV A.2) (isV B.2)++(pc12++(a++(pc1++(b++(pc13))))))))):=by unfold txt2; simp only [List.append_assoc]
 rw [e]; exact h
def txo3 (a b c:List UInt8):List UInt8:=pc9++a++pc1++b++pc6++c++pc3
def txt3 (a b c v:List UInt8):List UInt8:=pc10++c++v++pc11++v++pc12++a++pc1++b++pc14
theorem txo3_scan (ha:TI a A.1 A.2) (hb:TI b B.1 B.2) (hc:TI c C.1 C.2):Scans (txo3 a b c) (pt9++(A.1++(pt1++(B.1++(pt6++(C.1++(pt3))))))):=by
 have hW:Wr Any (pc9++(a++(pc1++(b++(pc6++(c++(pc3))))))) (pt9++(A.1++(pt1++(B.1++(pt6++(C.1++(pt3))))))):=(pw9).app ((ha.wr).app ((pw1).app ((hb.wr).app ((pw6).app ((hc.wr).app (pw3) (fun Y _=>noWd_cons (by decide) _)) (fun _ _=>trivial)) (fun Y _=>noWd_cons (by decide) _)) (fun _ _=>trivial)) (fun Y _=>noWd_cons (by decide) _)) (fun _ _=>trivial); have h:=hW [] [] trivial (Scans.nil rfl); rw [List.append_nil,List.append_nil] at h
 have e:txo3 a b c=pc9++(a++(pc1++(b++(pc6++(c++(pc3)))))):=by unfold txo3; simp only [List.append_assoc]
 rw [e]; exact h
theorem txt3_scan (ha:TI a A.1 A.2) (hb:TI b B.1 B.2) (hc:TI c C.1 C.2):Scans (txt3 a b c (vsS a b (isV A.2) (isV B.2))) (pt10++(C.1++(moreT (vsL a b (isV A.2) (isV B.2) A B)++(pt11++(moreT (vsL a b (isV A.2) (isV B.2) A B)++(pt12++(A.1++(pt1++(B.1++(pt14)))))))))):=by
 have hW:Wr Any (pc10++(c++(vsS a b (isV A.2) (isV B.2)++(pc11++(vsS a b (isV A.2) (isV B.2)++(pc12++(a++(pc1++(b++(pc14)))))))))) (pt10++(C.1++(moreT (vsL a b (isV A.2) (isV B.2) A B)++(pt11++(moreT (vsL a b (isV A.2) (isV B.2) A B)++(pt12++(A.1++(pt1++(B.1++(pt14)))))))))):=(pw10).app ((hc.wr).app (((vs_wr ha hb _ _)).app ((pw11).app (((vs_wr ha hb _ _)).app ((pw12).app ((ha.wr).app ((pw1).app ((hb.wr).app (pw14) (fun Y _=>noWd_cons (by decide) _)) (fun _ _=>trivial)) (fun Y _=>noWd_cons (by decide) _)) (fun _ _=>trivial)) (fun Y _=>noWd_cons (by decide) _)) (fun Y _=>by rw [List.append_assoc]; exact (vs_lead _ _ _ _).noWd (noWd_cons (by decide) _))) (fun Y _=>noWd_cons (by decide) _)) (fun Y _=>by rw [List.append_assoc]; exact (vs_lead _ _ _ _).noWd (noWd_cons (by decide) _))) (fun _ _=>trivial)
 have h:=hW [] [] trivial (Scans.nil rfl); rw [List.append_nil,List.append_nil] at h
 have e:txt3 a b c (vsS a b (isV A.2) (isV B.2))=pc10++(c++(vsS a b (isV A.2) (isV B.2)++(pc11++(vsS a b (isV A.2) (isV B.2)++(pc12++(a++(pc1++(b++(pc14))))))))):=by unfold txt3; simp only [List.append_assoc]
 rw [e]; exact h
def txo4 (a b c:List UInt8):List UInt8:=pc15++c++pc16++a++pc17++b++pc18++c++pc3
def txt4 (a b c v:List UInt8):List UInt8:=pc19++c++pc20++c++pc21++c++v++pc22++v++pc23++a++pc17++b++pc24
theorem txo4_scan (ha:TI a A.1 A.2) (hb:TI b B.1 B.2) (hc:TI c C.1 C.2):Scans (txo4 a b c) (pt15++(C.1++(pt16++(A.1++(pt17++(B.1++(pt18++(C.1++(pt3))))))))):=by
 have hW:Wr Any (pc15++(c++(pc16++(a++(pc17++(b++(pc18++(c++(pc3))))))))) (pt15++(C.1++(pt16++(A.1++(pt17++(B.1++(pt18++(C.1++(pt3))))))))):=(pw15).app ((hc.wr).app ((pw16).app ((ha.wr).app ((pw17).app ((hb.wr).app ((pw18).app ((hc.wr).app (pw3) (fun Y _=>noWd_cons (by decide) _)) (fun _ _=>trivial)) (fun Y _=>noWd_cons (by decide) _)) (fun _ _=>trivial)) (fun Y _=>noWd_cons (by decide) _)) (fun _ _=>trivial)) (fun Y _=>noWd_cons (by decide) _)) (fun _ _=>trivial); have h:=hW [] [] trivial (Scans.nil rfl); rw [List.append_nil,List.append_nil] at h
 have e:txo4 a b c=pc15++(c++(pc16++(a++(pc17++(b++(pc18++(c++(pc3)))))))):=by unfold txo4; simp only [List.append_assoc]
 rw [e]; exact h
theorem txt4_scan (ha:TI a A.1 A.2) (hb:TI b B.1 B.2) (hc:TI c C.1 C.2):Scans (txt4 a b c (vsS a b (isV A.2) (isV B.2))) (pt19++(C.1++(pt20++(C.1++(pt21++(C.1++(moreT (vsL a b (isV A.2) (isV B.2) A B)++(pt22++(moreT (vsL a b (isV A.2) (isV B.2) A B)++(pt23++(A.1++(pt17++(B.1++(pt24)))))))))))))):=by
 have hW:Wr Any (pc19++(c++(pc20++(c++(pc21++(c++(vsS a b (isV A.2) (isV B.2)++(pc22++(vsS a b (isV A.2) (isV B.2)++(pc23++(a++(pc17++(b++(pc24)))))))))))))) (pt19++(C.1++(pt20++(C.1++(pt21++(C.1++(moreT (vsL a b (isV A.2) (isV B.2) A B)++(pt22++(moreT (vsL a b (isV A.2) (isV B.2) A B)++(pt23++(A.1++(pt17++(B.1++(pt24)))))))))))))):=(pw19).app ((hc.wr).app ((pw20).app ((hc.wr).app ((pw21).app ((hc.wr).app (((vs_wr ha hb _ _)).app ((pw22).app (((vs_wr ha hb _ _)).app ((pw23).app ((ha.wr).app ((pw17).app ((hb.wr).app (pw24) (fun Y _=>noWd_cons (by decide) _)) (fun _ _=>trivial)) (fun Y _=>noWd_cons (by decide) _)) (fun _ _=>trivial)) (fun Y _=>noWd_cons (by decide) _)) (fun Y _=>by rw [List.append_assoc]; exact (vs_lead _ _ _ _).noWd (noWd_cons (by decide) _))) (fun Y _=>noWd_cons (by decide) _)) (fun Y _=>by rw [List.append_assoc]; exact (vs_lead _ _ _ _).noWd (noWd_cons (by decide) _))) (fun _ _=>trivial)) (fun Y _=>noWd_cons (by decide) _)) (fun _ _=>trivial)) (fun Y _=>noWd_cons (by decide) _)) (fun _ _=>trivial)
 have h:=hW [] [] trivial (Scans.nil rfl); rw [List.append_nil,List.append_nil] at h
 have e:txt4 a b c (vsS a b (isV A.2) (isV B.2))=pc19++(c++(pc20++(c++(pc21++(c++(vsS a b (isV A.2) (isV B.2)++(pc22++(vsS a b (isV A.2) (isV B.2)++(pc23++(a++(pc17++(b++(pc24))))))))))))):=by unfold txt4; simp only [List.append_assoc]
 rw [e]; exact h
set_option maxHeartbeats 2000000 in
theorem times0 (ha:TI a A.1 A.2) (hb:TI b B.1 B.2) (hc:TI c C.1 C.2) (hl:(txo0 a b c).length≤32768) (hl2:(txt0 a b c).length≤32768):∃ Q,parseF (txo0 a b c)=.ok Q∧parseF (txt0 a b c)=.ok Q:=by
 have hn:NmsOk (pt0++(A.1++(pt1++(B.1++(pt2++(C.1++(pt3))))))):=nms_app (nmB_ok (by decide)) (nms_app ha.nm (nms_app (nmB_ok (by decide)) (nms_app hb.nm (nms_app (nmB_ok (by decide)) (nms_app hc.nm ((nmB_ok (by decide)))))))); have hS:=txo0_scan ha hb hc; have hS2:=txt0_scan ha hb hc
 have e1:pt0++(A.1++(pt1++(B.1++(pt2++(C.1++(pt3))))))=(atomT [114] []++(tkM [58,45]::((onceT [112] [A,wI,B] true C.1)++moreL []))++[tkM [46]])++goalT:=by
  simp [atomT,argsT,moreT,moreL,goalT,onceT,neverT,sinceT,sideW,wI,pt0,pt1,pt2,pt3,pt4,pt5,pt6,pt7,pt8,pt9,pt10,pt11,pt12,pt13,pt14,pt15,pt16,pt17,pt18,pt19,pt20,pt21,pt22,pt23,pt24]
 rw [e1] at hn hS
 have hd:(((atomT [114] []++(tkM [58,45]::((onceT [112] [A,wI,B] true C.1)++moreL []))++[tkM [46]])++goalT).map tw).drop st0.nx=(atomT [114] []++(tkM [58,45]::((onceT [112] [A,wI,B] true C.1)++moreL []))++[tkM [46]]).map tw++goalT.map tw:=by
  rw [List.map_append]; rfl
 have hd2:(((atomT [114] []++(tkM [58,45]::((onceT [112] [A,wI,B] true C.1)++moreL []))++[tkM [46]])++goalT).map tw).drop (adv st0 ((atomT [114] []).length+1)).nx=(onceT [112] [A,wI,B] true C.1).map tw++(tw (tkM [46])::goalT.map tw):=by
  show List.drop 4 _=_; rw [show (4:Nat)=3+1 from rfl]; simp [atomT,argsT,moreL,goalT]
 have hlit:=once_toks (rel:=[112]) (by decide) (L:=[A,wI,B]) (by intro x hx; simp only [List.mem_cons,List.not_mem_nil,or_false] at hx; rcases hx with rfl | rfl | rfl <;> first | exact .wild | exact wd_tok (by decide) | exact .term ha.tok | exact .term hb.tok | exact .term hc.tok) (b:=true) hc.tok hn hd2; have hr:=rule_is (rel:=[114]) (by decide) (L:=[]) (fun x hx=>by cases hx) (M:=[]) (fun x hx=>by cases hx) hd hlit; have hq:=query_1 hr (by simp [neverF,sinceF]); refine ⟨_,parse_of hl hS hq,?_⟩; have f0:=LitTok.atom (rel:=[112]) (L:=[vI [84,49],A,wI,B]) (by decide) (by intro x hx; simp only [List.mem_cons,List.not_mem_nil,or_false] at hx; rcases hx with rfl | rfl | rfl | rfl <;> first | exact .wild | exact wd_tok (by decide) | exact .term ha.tok | exact .term hb.tok | exact .term hc.tok)
 have m00:=LitTok.lt (TmTok.var [84,49] (by decide)) hc.tok; obtain ⟨F0,G0,hF0,hG0,f0⟩:∃ F G,F=_∧G=_∧LitTok F G:=⟨_,_,rfl,rfl,f0⟩; obtain ⟨M00,N00,hM00,hN00,m00⟩:∃ F G,F=_∧G=_∧LitTok F G:=⟨_,_,rfl,rfl,m00⟩
 have e2:pt4++(A.1++(pt1++(B.1++(pt5++(C.1++(pt3))))))=(atomT [114] ([])++(tkM [58,45]::(F0++moreL [(M00,N00)]))++[tkM [46]])++goalT:=by
  rw [hF0,hM00]; simp [atomT,argsT,moreT,moreL,goalT,wI,vI,pt0,pt1,pt2,pt3,pt4,pt5,pt6,pt7,pt8,pt9,pt10,pt11,pt12,pt13,pt14,pt15,pt16,pt17,pt18,pt19,pt20,pt21,pt22,pt23,pt24]
 rw [e2] at hS2
 have hd3:(((atomT [114] ([])++(tkM [58,45]::(F0++moreL [(M00,N00)]))++[tkM [46]])++goalT).map tw).drop st0.nx=(atomT [114] ([])++(tkM [58,45]::(F0++moreL [(M00,N00)]))++[tkM [46]]).map tw++goalT.map tw:=by
  rw [List.map_append]; rfl
 have hd4:(((atomT [114] ([])++(tkM [58,45]::(F0++moreL [(M00,N00)]))++[tkM [46]])++goalT).map tw).drop (adv st0 ((atomT [114] ([])).length+1)).nx=F0.map tw++((moreL [(M00,N00)]).map tw++(tw (tkM [46])::goalT.map tw)):=by
  show List.drop 4 _=_; rw [show (4:Nat)=3+1 from rfl]; simp [atomT,argsT]
 have hr2:=rule_is (rel:=[114]) (by decide) (L:=[]) (fun x hx=>by cases hx) (M:=[(M00,N00)]) (by intro x hx; simp only [List.mem_cons,List.not_mem_nil,or_false] at hx; subst hx; exact m00) hd3 (f0.is hd4); have hq2:=query_1 hr2 (by simp); have hQ:=parse_of hl2 hS2 hq2; rw [hQ]; have t1:=T_1; have t2:=T_2; have t3:=T_3; have t4:=T_4; have x1:=X_1; rw [hG0,hN00]; simp only [adv,st0,Nat.zero_add,t1,t2,t3,t4,x1]; simp [timedF,happensF,besideF,compareF,neverF,sinceF,withF,neg,wI,vI,sideW]
set_option maxHeartbeats 2000000 in
theorem times1 (ha:TI a A.1 A.2) (hb:TI b B.1 B.2) (hc:TI c C.1 C.2) (hl:(txo1 a b c).length≤32768) (hl2:(txt1 a b c).length≤32768):∃ Q,parseF (txo1 a b c)=.ok Q∧parseF (txt1 a b c)=.ok Q:=by
 have hn:NmsOk (pt0++(A.1++(pt1++(B.1++(pt6++(C.1++(pt3))))))):=nms_app (nmB_ok (by decide)) (nms_app ha.nm (nms_app (nmB_ok (by decide)) (nms_app hb.nm (nms_app (nmB_ok (by decide)) (nms_app hc.nm ((nmB_ok (by decide)))))))); have hS:=txo1_scan ha hb hc; have hS2:=txt1_scan ha hb hc
 have e1:pt0++(A.1++(pt1++(B.1++(pt6++(C.1++(pt3))))))=(atomT [114] []++(tkM [58,45]::((onceT [112] [A,wI,B] false C.1)++moreL []))++[tkM [46]])++goalT:=by
  simp [atomT,argsT,moreT,moreL,goalT,onceT,neverT,sinceT,sideW,wI,pt0,pt1,pt2,pt3,pt4,pt5,pt6,pt7,pt8,pt9,pt10,pt11,pt12,pt13,pt14,pt15,pt16,pt17,pt18,pt19,pt20,pt21,pt22,pt23,pt24]
 rw [e1] at hn hS
 have hd:(((atomT [114] []++(tkM [58,45]::((onceT [112] [A,wI,B] false C.1)++moreL []))++[tkM [46]])++goalT).map tw).drop st0.nx=(atomT [114] []++(tkM [58,45]::((onceT [112] [A,wI,B] false C.1)++moreL []))++[tkM [46]]).map tw++goalT.map tw:=by
  rw [List.map_append]; rfl
 have hd2:(((atomT [114] []++(tkM [58,45]::((onceT [112] [A,wI,B] false C.1)++moreL []))++[tkM [46]])++goalT).map tw).drop (adv st0 ((atomT [114] []).length+1)).nx=(onceT [112] [A,wI,B] false C.1).map tw++(tw (tkM [46])::goalT.map tw):=by
  show List.drop 4 _=_; rw [show (4:Nat)=3+1 from rfl]; simp [atomT,argsT,moreL,goalT]
 have hlit:=once_toks (rel:=[112]) (by decide) (L:=[A,wI,B]) (by intro x hx; simp only [List.mem_cons,List.not_mem_nil,or_false] at hx; rcases hx with rfl | rfl | rfl <;> first | exact .wild | exact wd_tok (by decide) | exact .term ha.tok | exact .term hb.tok | exact .term hc.tok) (b:=false) hc.tok hn hd2; have hr:=rule_is (rel:=[114]) (by decide) (L:=[]) (fun x hx=>by cases hx) (M:=[]) (fun x hx=>by cases hx) hd hlit; have hq:=query_1 hr (by simp [neverF,sinceF]); refine ⟨_,parse_of hl hS hq,?_⟩; have f0:=LitTok.atom (rel:=[112]) (L:=[vI [84,49],A,wI,B]) (by decide) (by intro x hx; simp only [List.mem_cons,List.not_mem_nil,or_false] at hx; rcases hx with rfl | rfl | rfl | rfl <;> first | exact .wild | exact wd_tok (by decide) | exact .term ha.tok | exact .term hb.tok | exact .term hc.tok)
 have m00:=LitTok.lt hc.tok (TmTok.var [84,49] (by decide)); obtain ⟨F0,G0,hF0,hG0,f0⟩:∃ F G,F=_∧G=_∧LitTok F G:=⟨_,_,rfl,rfl,f0⟩; obtain ⟨M00,N00,hM00,hN00,m00⟩:∃ F G,F=_∧G=_∧LitTok F G:=⟨_,_,rfl,rfl,m00⟩
 have e2:pt4++(A.1++(pt1++(B.1++(pt7++(C.1++(pt8))))))=(atomT [114] ([])++(tkM [58,45]::(F0++moreL [(M00,N00)]))++[tkM [46]])++goalT:=by
  rw [hF0,hM00]; simp [atomT,argsT,moreT,moreL,goalT,wI,vI,pt0,pt1,pt2,pt3,pt4,pt5,pt6,pt7,pt8,pt9,pt10,pt11,pt12,pt13,pt14,pt15,pt16,pt17,pt18,pt19,pt20,pt21,pt22,pt23,pt24]
 rw [e2] at hS2
 have hd3:(((atomT [114] ([])++(tkM [58,45]::(F0++moreL [(M00,N00)]))++[tkM [46]])++goalT).map tw).drop st0.nx=(atomT [114] ([])++(tkM [58,45]::(F0++moreL [(M00,N00)]))++[tkM [46]]).map tw++goalT.map tw:=by
  rw [List.map_append]; rfl
 have hd4:(((atomT [114] ([])++(tkM [58,45]::(F0++moreL [(M00,N00)]))++[tkM [46]])++goalT).map tw).drop (adv st0 ((atomT [114] ([])).length+1)).nx=F0.map tw++((moreL [(M00,N00)]).map tw++(tw (tkM [46])::goalT.map tw)):=by
  show List.drop 4 _=_; rw [show (4:Nat)=3+1 from rfl]; simp [atomT,argsT]
 have hr2:=rule_is (rel:=[114]) (by decide) (L:=[]) (fun x hx=>by cases hx) (M:=[(M00,N00)]) (by intro x hx; simp only [List.mem_cons,List.not_mem_nil,or_false] at hx; subst hx; exact m00) hd3 (f0.is hd4); have hq2:=query_1 hr2 (by simp); have hQ:=parse_of hl2 hS2 hq2; rw [hQ]; have t1:=T_1; have t2:=T_2; have t3:=T_3; have t4:=T_4; have x1:=X_1; rw [hG0,hN00]; simp only [adv,st0,Nat.zero_add,t1,t2,t3,t4,x1]; simp [timedF,happensF,besideF,compareF,neverF,sinceF,withF,neg,wI,vI,sideW]
set_option maxHeartbeats 2000000 in
theorem times2 (ha:TI a A.1 A.2) (hb:TI b B.1 B.2) (hc:TI c C.1 C.2) (hl:(txo2 a b c).length≤32768) (hl2:(txt2 a b c (vsS a b (isV A.2) (isV B.2))).length≤32768):∃ Q,parseF (txo2 a b c)=.ok Q∧parseF (txt2 a b c (vsS a b (isV A.2) (isV B.2)))=.ok Q:=by
 have hn:NmsOk (pt9++(A.1++(pt1++(B.1++(pt2++(C.1++(pt3))))))):=nms_app (nmB_ok (by decide)) (nms_app ha.nm (nms_app (nmB_ok (by decide)) (nms_app hb.nm (nms_app (nmB_ok (by decide)) (nms_app hc.nm ((nmB_ok (by decide)))))))); have hS:=txo2_scan ha hb hc; have hS2:=txt2_scan ha hb hc
 have e1:pt9++(A.1++(pt1++(B.1++(pt2++(C.1++(pt3))))))=(atomT [114] []++(tkM [58,45]::((neverT [112] [A,wI,B] true C.1)++moreL []))++[tkM [46]])++goalT:=by
  simp [atomT,argsT,moreT,moreL,goalT,onceT,neverT,sinceT,sideW,wI,pt0,pt1,pt2,pt3,pt4,pt5,pt6,pt7,pt8,pt9,pt10,pt11,pt12,pt13,pt14,pt15,pt16,pt17,pt18,pt19,pt20,pt21,pt22,pt23,pt24]
 rw [e1] at hn hS
 have hd:(((atomT [114] []++(tkM [58,45]::((neverT [112] [A,wI,B] true C.1)++moreL []))++[tkM [46]])++goalT).map tw).drop st0.nx=(atomT [114] []++(tkM [58,45]::((neverT [112] [A,wI,B] true C.1)++moreL []))++[tkM [46]]).map tw++goalT.map tw:=by
  rw [List.map_append]; rfl
 have hd2:(((atomT [114] []++(tkM [58,45]::((neverT [112] [A,wI,B] true C.1)++moreL []))++[tkM [46]])++goalT).map tw).drop (adv st0 ((atomT [114] []).length+1)).nx=(neverT [112] [A,wI,B] true C.1).map tw++(tw (tkM [46])::goalT.map tw):=by
  show List.drop 4 _=_; rw [show (4:Nat)=3+1 from rfl]; simp [atomT,argsT,moreL,goalT]
 have hlit:=never_toks (rel:=[112]) (by decide) (L:=[A,wI,B]) (by intro x hx; simp only [List.mem_cons,List.not_mem_nil,or_false] at hx; rcases hx with rfl | rfl | rfl <;> first | exact .wild | exact wd_tok (by decide) | exact .term ha.tok | exact .term hb.tok | exact .term hc.tok) (b:=true) hc.tok hn hd2; have hr:=rule_is (rel:=[114]) (by decide) (L:=[]) (fun x hx=>by cases hx) (M:=[]) (fun x hx=>by cases hx) hd hlit; have hq:=query_1 hr (by simp [neverF,sinceF]); refine ⟨_,parse_of hl hS hq,?_⟩; have f0:=LitTok.nt (rel:=[97,117,120,49]) (L:=C::(vsL a b (isV A.2) (isV B.2) A B)) (by decide) (fun x hx=>by simp only [List.mem_cons] at hx; rcases hx with rfl | hx; exact .term hc.tok; exact .term (vs_tok ha hb _ _ x hx))
 have f1:=LitTok.atom (rel:=[101,118,101,110,116]) (L:=[vI [84,49],wI]) (by decide) (by intro x hx; simp only [List.mem_cons,List.not_mem_nil,or_false] at hx; rcases hx with rfl | rfl <;> first | exact .wild | exact wd_tok (by decide) | exact .term ha.tok | exact .term hb.tok | exact .term hc.tok); have m10:=LitTok.atom (rel:=[112]) (L:=[vI [84,50],A,wI,B]) (by decide) (by intro x hx; simp only [List.mem_cons,List.not_mem_nil,or_false] at hx; rcases hx with rfl | rfl | rfl | rfl <;> first | exact .wild | exact wd_tok (by decide) | exact .term ha.tok | exact .term hb.tok | exact .term hc.tok); have m11:=LitTok.lt (TmTok.var [84,50] (by decide)) (TmTok.var [84,49] (by decide)); obtain ⟨F0,G0,hF0,hG0,f0⟩:∃ F G,F=_∧G=_∧LitTok F G:=⟨_,_,rfl,rfl,f0⟩
 obtain ⟨F1,G1,hF1,hG1,f1⟩:∃ F G,F=_∧G=_∧LitTok F G:=⟨_,_,rfl,rfl,f1⟩; obtain ⟨M10,N10,hM10,hN10,m10⟩:∃ F G,F=_∧G=_∧LitTok F G:=⟨_,_,rfl,rfl,m10⟩; obtain ⟨M11,N11,hM11,hN11,m11⟩:∃ F G,F=_∧G=_∧LitTok F G:=⟨_,_,rfl,rfl,m11⟩
 have e2:pt10++(C.1++(moreT (vsL a b (isV A.2) (isV B.2) A B)++(pt11++(moreT (vsL a b (isV A.2) (isV B.2) A B)++(pt12++(A.1++(pt1++(B.1++(pt13)))))))))=(atomT [114] ([])++(tkM [58,45]::(F0++moreL []))++[tkM [46]])++((atomT [97,117,120,49] (vI [84,49]::(vsL a b (isV A.2) (isV B.2) A B))++(tkM [58,45]::(F1++moreL [(M10,N10),(M11,N11)]))++[tkM [46]])++goalT):=by
  rw [hF0,hF1,hM10,hM11]; simp [atomT,argsT,moreT,moreL,goalT,wI,vI,pt0,pt1,pt2,pt3,pt4,pt5,pt6,pt7,pt8,pt9,pt10,pt11,pt12,pt13,pt14,pt15,pt16,pt17,pt18,pt19,pt20,pt21,pt22,pt23,pt24]
 rw [e2] at hS2
 have hd3:(((atomT [114] ([])++(tkM [58,45]::(F0++moreL []))++[tkM [46]])++((atomT [97,117,120,49] (vI [84,49]::(vsL a b (isV A.2) (isV B.2) A B))++(tkM [58,45]::(F1++moreL [(M10,N10),(M11,N11)]))++[tkM [46]])++goalT)).map tw).drop st0.nx=(atomT [114] ([])++(tkM [58,45]::(F0++moreL []))++[tkM [46]]).map tw++((atomT [97,117,120,49] (vI [84,49]::(vsL a b (isV A.2) (isV B.2) A B))++(tkM [58,45]::(F1++moreL [(M10,N10),(M11,N11)]))++[tkM [46]])++goalT).map tw:=by
  rw [List.map_append]; rfl
 have hd4:(((atomT [114] ([])++(tkM [58,45]::(F0++moreL []))++[tkM [46]])++((atomT [97,117,120,49] (vI [84,49]::(vsL a b (isV A.2) (isV B.2) A B))++(tkM [58,45]::(F1++moreL [(M10,N10),(M11,N11)]))++[tkM [46]])++goalT)).map tw).drop (adv st0 ((atomT [114] ([])).length+1)).nx=F0.map tw++((moreL []).map tw++(tw (tkM [46])::((atomT [97,117,120,49] (vI [84,49]::(vsL a b (isV A.2) (isV B.2) A B))++(tkM [58,45]::(F1++moreL [(M10,N10),(M11,N11)]))++[tkM [46]])++goalT).map tw)):=by
  show List.drop 4 _=_; rw [show (4:Nat)=3+1 from rfl]; simp [atomT,argsT]
 have hr2:=rule_is (rel:=[114]) (by decide) (L:=[]) (fun x hx=>by cases hx) (M:=[]) (fun x hx=>by cases hx) hd3 (f0.is hd4); obtain ⟨s1,hs1⟩:∃ s,s=adv (adv (adv st0 ((atomT [114] ([])).length+1)) F0.length) ((moreL []).length+1):=⟨_,rfl⟩; rw [← hs1] at hr2
 have hd5:(((atomT [114] ([])++(tkM [58,45]::(F0++moreL []))++[tkM [46]])++((atomT [97,117,120,49] (vI [84,49]::(vsL a b (isV A.2) (isV B.2) A B))++(tkM [58,45]::(F1++moreL [(M10,N10),(M11,N11)]))++[tkM [46]])++goalT)).map tw).drop s1.nx=(atomT [97,117,120,49] (vI [84,49]::(vsL a b (isV A.2) (isV B.2) A B))++(tkM [58,45]::(F1++moreL [(M10,N10),(M11,N11)]))++[tkM [46]]).map tw++goalT.map tw:=by
  have:=hr2.2.1; rw [this,← List.map_append]; show List.drop (st0.nx+_) _=_; rw [← List.drop_drop,hd3]; exact List.drop_left' (by simp)
 have hd6:(((atomT [114] ([])++(tkM [58,45]::(F0++moreL []))++[tkM [46]])++((atomT [97,117,120,49] (vI [84,49]::(vsL a b (isV A.2) (isV B.2) A B))++(tkM [58,45]::(F1++moreL [(M10,N10),(M11,N11)]))++[tkM [46]])++goalT)).map tw).drop (adv s1 ((atomT [97,117,120,49] (vI [84,49]::(vsL a b (isV A.2) (isV B.2) A B))).length+1)).nx=F1.map tw++((moreL [(M10,N10),(M11,N11)]).map tw++(tw (tkM [46])::goalT.map tw)):=by
  show List.drop (s1.nx+_) _=_; rw [← List.drop_drop,hd5]
  have e3:(atomT [97,117,120,49] (vI [84,49]::(vsL a b (isV A.2) (isV B.2) A B))++(tkM [58,45]::(F1++moreL [(M10,N10),(M11,N11)]))++[tkM [46]]).map tw++goalT.map tw=((atomT [97,117,120,49] (vI [84,49]::(vsL a b (isV A.2) (isV B.2) A B))++[tkM [58,45]]).map tw)++(F1.map tw++((moreL [(M10,N10),(M11,N11)]).map tw++(tw (tkM [46])::goalT.map tw))):=by simp
  rw [e3]; exact List.drop_left' (by simp)
 have hr3:=rule_is (rel:=[97,117,120,49]) (by decide) (L:=vI [84,49]::(vsL a b (isV A.2) (isV B.2) A B)) (fun x hx=>by simp only [List.mem_cons] at hx; rcases hx with rfl | hx; exact (TmTok.var [84,49] (by decide)); exact vs_tok ha hb _ _ x hx) (M:=[(M10,N10),(M11,N11)]) (by intro x hx; simp only [List.mem_cons,List.not_mem_nil,or_false] at hx; rcases hx with rfl | rfl; exact m10; exact m11) hd5 (f1.is hd6); have hq2:=query_2 hr2 hr3 (by simp); have hQ:=parse_of hl2 hS2 hq2; rw [hQ]; have t1:=T_1; have t2:=T_2; have t3:=T_3; have t4:=T_4; have x1:=X_1; have dv:=vs_dv ha hb [tmVar [95]] (Or.inr rfl); rw [hG0,hG1,hN10,hN11]; simp only [adv,st0,Nat.zero_add,t1,t2,t3,t4,x1]; simp only [List.map_cons,List.map_nil,List.nil_append,List.singleton_append,List.cons_append] at dv ⊢
 simp [timedF,happensF,besideF,compareF,neverF,sinceF,withF,neg,wI,vI,sideW,dv]
set_option maxHeartbeats 2000000 in
theorem times3 (ha:TI a A.1 A.2) (hb:TI b B.1 B.2) (hc:TI c C.1 C.2) (hl:(txo3 a b c).length≤32768) (hl2:(txt3 a b c (vsS a b (isV A.2) (isV B.2))).length≤32768):∃ Q,parseF (txo3 a b c)=.ok Q∧parseF (txt3 a b c (vsS a b (isV A.2) (isV B.2)))=.ok Q:=by
 have hn:NmsOk (pt9++(A.1++(pt1++(B.1++(pt6++(C.1++(pt3))))))):=nms_app (nmB_ok (by decide)) (nms_app ha.nm (nms_app (nmB_ok (by decide)) (nms_app hb.nm (nms_app (nmB_ok (by decide)) (nms_app hc.nm ((nmB_ok (by decide)))))))); have hS:=txo3_scan ha hb hc; have hS2:=txt3_scan ha hb hc
 have e1:pt9++(A.1++(pt1++(B.1++(pt6++(C.1++(pt3))))))=(atomT [114] []++(tkM [58,45]::((neverT [112] [A,wI,B] false C.1)++moreL []))++[tkM [46]])++goalT:=by
  simp [atomT,argsT,moreT,moreL,goalT,onceT,neverT,sinceT,sideW,wI,pt0,pt1,pt2,pt3,pt4,pt5,pt6,pt7,pt8,pt9,pt10,pt11,pt12,pt13,pt14,pt15,pt16,pt17,pt18,pt19,pt20,pt21,pt22,pt23,pt24]
 rw [e1] at hn hS
 have hd:(((atomT [114] []++(tkM [58,45]::((neverT [112] [A,wI,B] false C.1)++moreL []))++[tkM [46]])++goalT).map tw).drop st0.nx=(atomT [114] []++(tkM [58,45]::((neverT [112] [A,wI,B] false C.1)++moreL []))++[tkM [46]]).map tw++goalT.map tw:=by
  rw [List.map_append]; rfl
 have hd2:(((atomT [114] []++(tkM [58,45]::((neverT [112] [A,wI,B] false C.1)++moreL []))++[tkM [46]])++goalT).map tw).drop (adv st0 ((atomT [114] []).length+1)).nx=(neverT [112] [A,wI,B] false C.1).map tw++(tw (tkM [46])::goalT.map tw):=by
  show List.drop 4 _=_; rw [show (4:Nat)=3+1 from rfl]; simp [atomT,argsT,moreL,goalT]
 have hlit:=never_toks (rel:=[112]) (by decide) (L:=[A,wI,B]) (by intro x hx; simp only [List.mem_cons,List.not_mem_nil,or_false] at hx; rcases hx with rfl | rfl | rfl <;> first | exact .wild | exact wd_tok (by decide) | exact .term ha.tok | exact .term hb.tok | exact .term hc.tok) (b:=false) hc.tok hn hd2; have hr:=rule_is (rel:=[114]) (by decide) (L:=[]) (fun x hx=>by cases hx) (M:=[]) (fun x hx=>by cases hx) hd hlit; have hq:=query_1 hr (by simp [neverF,sinceF]); refine ⟨_,parse_of hl hS hq,?_⟩; have f0:=LitTok.nt (rel:=[97,117,120,49]) (L:=C::(vsL a b (isV A.2) (isV B.2) A B)) (by decide) (fun x hx=>by simp only [List.mem_cons] at hx; rcases hx with rfl | hx; exact .term hc.tok; exact .term (vs_tok ha hb _ _ x hx))
 have f1:=LitTok.atom (rel:=[101,118,101,110,116]) (L:=[vI [84,49],wI]) (by decide) (by intro x hx; simp only [List.mem_cons,List.not_mem_nil,or_false] at hx; rcases hx with rfl | rfl <;> first | exact .wild | exact wd_tok (by decide) | exact .term ha.tok | exact .term hb.tok | exact .term hc.tok); have m10:=LitTok.atom (rel:=[112]) (L:=[vI [84,50],A,wI,B]) (by decide) (by intro x hx; simp only [List.mem_cons,List.not_mem_nil,or_false] at hx; rcases hx with rfl | rfl | rfl | rfl <;> first | exact .wild | exact wd_tok (by decide) | exact .term ha.tok | exact .term hb.tok | exact .term hc.tok); have m11:=LitTok.lt (TmTok.var [84,49] (by decide)) (TmTok.var [84,50] (by decide)); obtain ⟨F0,G0,hF0,hG0,f0⟩:∃ F G,F=_∧G=_∧LitTok F G:=⟨_,_,rfl,rfl,f0⟩
 obtain ⟨F1,G1,hF1,hG1,f1⟩:∃ F G,F=_∧G=_∧LitTok F G:=⟨_,_,rfl,rfl,f1⟩; obtain ⟨M10,N10,hM10,hN10,m10⟩:∃ F G,F=_∧G=_∧LitTok F G:=⟨_,_,rfl,rfl,m10⟩; obtain ⟨M11,N11,hM11,hN11,m11⟩:∃ F G,F=_∧G=_∧LitTok F G:=⟨_,_,rfl,rfl,m11⟩
 have e2:pt10++(C.1++(moreT (vsL a b (isV A.2) (isV B.2) A B)++(pt11++(moreT (vsL a b (isV A.2) (isV B.2) A B)++(pt12++(A.1++(pt1++(B.1++(pt14)))))))))=(atomT [114] ([])++(tkM [58,45]::(F0++moreL []))++[tkM [46]])++((atomT [97,117,120,49] (vI [84,49]::(vsL a b (isV A.2) (isV B.2) A B))++(tkM [58,45]::(F1++moreL [(M10,N10),(M11,N11)]))++[tkM [46]])++goalT):=by
  rw [hF0,hF1,hM10,hM11]; simp [atomT,argsT,moreT,moreL,goalT,wI,vI,pt0,pt1,pt2,pt3,pt4,pt5,pt6,pt7,pt8,pt9,pt10,pt11,pt12,pt13,pt14,pt15,pt16,pt17,pt18,pt19,pt20,pt21,pt22,pt23,pt24]
 rw [e2] at hS2
 have hd3:(((atomT [114] ([])++(tkM [58,45]::(F0++moreL []))++[tkM [46]])++((atomT [97,117,120,49] (vI [84,49]::(vsL a b (isV A.2) (isV B.2) A B))++(tkM [58,45]::(F1++moreL [(M10,N10),(M11,N11)]))++[tkM [46]])++goalT)).map tw).drop st0.nx=(atomT [114] ([])++(tkM [58,45]::(F0++moreL []))++[tkM [46]]).map tw++((atomT [97,117,120,49] (vI [84,49]::(vsL a b (isV A.2) (isV B.2) A B))++(tkM [58,45]::(F1++moreL [(M10,N10),(M11,N11)]))++[tkM [46]])++goalT).map tw:=by
  rw [List.map_append]; rfl
 have hd4:(((atomT [114] ([])++(tkM [58,45]::(F0++moreL []))++[tkM [46]])++((atomT [97,117,120,49] (vI [84,49]::(vsL a b (isV A.2) (isV B.2) A B))++(tkM [58,45]::(F1++moreL [(M10,N10),(M11,N11)]))++[tkM [46]])++goalT)).map tw).drop (adv st0 ((atomT [114] ([])).length+1)).nx=F0.map tw++((moreL []).map tw++(tw (tkM [46])::((atomT [97,117,120,49] (vI [84,49]::(vsL a b (isV A.2) (isV B.2) A B))++(tkM [58,45]::(F1++moreL [(M10,N10),(M11,N11)]))++[tkM [46]])++goalT).map tw)):=by
  show List.drop 4 _=_; rw [show (4:Nat)=3+1 from rfl]; simp [atomT,argsT]
 have hr2:=rule_is (rel:=[114]) (by decide) (L:=[]) (fun x hx=>by cases hx) (M:=[]) (fun x hx=>by cases hx) hd3 (f0.is hd4); obtain ⟨s1,hs1⟩:∃ s,s=adv (adv (adv st0 ((atomT [114] ([])).length+1)) F0.length) ((moreL []).length+1):=⟨_,rfl⟩; rw [← hs1] at hr2
 have hd5:(((atomT [114] ([])++(tkM [58,45]::(F0++moreL []))++[tkM [46]])++((atomT [97,117,120,49] (vI [84,49]::(vsL a b (isV A.2) (isV B.2) A B))++(tkM [58,45]::(F1++moreL [(M10,N10),(M11,N11)]))++[tkM [46]])++goalT)).map tw).drop s1.nx=(atomT [97,117,120,49] (vI [84,49]::(vsL a b (isV A.2) (isV B.2) A B))++(tkM [58,45]::(F1++moreL [(M10,N10),(M11,N11)]))++[tkM [46]]).map tw++goalT.map tw:=by
  have:=hr2.2.1; rw [this,← List.map_append]; show List.drop (st0.nx+_) _=_; rw [← List.drop_drop,hd3]; exact List.drop_left' (by simp)
 have hd6:(((atomT [114] ([])++(tkM [58,45]::(F0++moreL []))++[tkM [46]])++((atomT [97,117,120,49] (vI [84,49]::(vsL a b (isV A.2) (isV B.2) A B))++(tkM [58,45]::(F1++moreL [(M10,N10),(M11,N11)]))++[tkM [46]])++goalT)).map tw).drop (adv s1 ((atomT [97,117,120,49] (vI [84,49]::(vsL a b (isV A.2) (isV B.2) A B))).length+1)).nx=F1.map tw++((moreL [(M10,N10),(M11,N11)]).map tw++(tw (tkM [46])::goalT.map tw)):=by
  show List.drop (s1.nx+_) _=_; rw [← List.drop_drop,hd5]
  have e3:(atomT [97,117,120,49] (vI [84,49]::(vsL a b (isV A.2) (isV B.2) A B))++(tkM [58,45]::(F1++moreL [(M10,N10),(M11,N11)]))++[tkM [46]]).map tw++goalT.map tw=((atomT [97,117,120,49] (vI [84,49]::(vsL a b (isV A.2) (isV B.2) A B))++[tkM [58,45]]).map tw)++(F1.map tw++((moreL [(M10,N10),(M11,N11)]).map tw++(tw (tkM [46])::goalT.map tw))):=by simp
  rw [e3]; exact List.drop_left' (by simp)
 have hr3:=rule_is (rel:=[97,117,120,49]) (by decide) (L:=vI [84,49]::(vsL a b (isV A.2) (isV B.2) A B)) (fun x hx=>by simp only [List.mem_cons] at hx; rcases hx with rfl | hx; exact (TmTok.var [84,49] (by decide)); exact vs_tok ha hb _ _ x hx) (M:=[(M10,N10),(M11,N11)]) (by intro x hx; simp only [List.mem_cons,List.not_mem_nil,or_false] at hx; rcases hx with rfl | rfl; exact m10; exact m11) hd5 (f1.is hd6); have hq2:=query_2 hr2 hr3 (by simp); have hQ:=parse_of hl2 hS2 hq2; rw [hQ]; have t1:=T_1; have t2:=T_2; have t3:=T_3; have t4:=T_4; have x1:=X_1; have dv:=vs_dv ha hb [tmVar [95]] (Or.inr rfl); rw [hG0,hG1,hN10,hN11]; simp only [adv,st0,Nat.zero_add,t1,t2,t3,t4,x1]; simp only [List.map_cons,List.map_nil,List.nil_append,List.singleton_append,List.cons_append] at dv ⊢
 simp [timedF,happensF,besideF,compareF,neverF,sinceF,withF,neg,wI,vI,sideW,dv]
set_option maxHeartbeats 2000000 in
theorem times4 (ha:TI a A.1 A.2) (hb:TI b B.1 B.2) (hc:TI c C.1 C.2) (hl:(txo4 a b c).length≤32768) (hl2:(txt4 a b c (vsS a b (isV A.2) (isV B.2))).length≤32768):∃ Q,parseF (txo4 a b c)=.ok Q∧parseF (txt4 a b c (vsS a b (isV A.2) (isV B.2)))=.ok Q:=by
 have hn:NmsOk (pt15++(C.1++(pt16++(A.1++(pt17++(B.1++(pt18++(C.1++(pt3))))))))):=nms_app (nmB_ok (by decide)) (nms_app hc.nm (nms_app (nmB_ok (by decide)) (nms_app ha.nm (nms_app (nmB_ok (by decide)) (nms_app hb.nm (nms_app (nmB_ok (by decide)) (nms_app hc.nm ((nmB_ok (by decide)))))))))); have hS:=txo4_scan ha hb hc; have hS2:=txt4_scan ha hb hc
 have e1:pt15++(C.1++(pt16++(A.1++(pt17++(B.1++(pt18++(C.1++(pt3))))))))=(atomT [114] []++(tkM [58,45]::((sinceT [113] [112] [C] [A,B] C.1)++moreL []))++[tkM [46]])++goalT:=by
  simp [atomT,argsT,moreT,moreL,goalT,onceT,neverT,sinceT,sideW,wI,pt0,pt1,pt2,pt3,pt4,pt5,pt6,pt7,pt8,pt9,pt10,pt11,pt12,pt13,pt14,pt15,pt16,pt17,pt18,pt19,pt20,pt21,pt22,pt23,pt24]
 rw [e1] at hn hS
 have hd:(((atomT [114] []++(tkM [58,45]::((sinceT [113] [112] [C] [A,B] C.1)++moreL []))++[tkM [46]])++goalT).map tw).drop st0.nx=(atomT [114] []++(tkM [58,45]::((sinceT [113] [112] [C] [A,B] C.1)++moreL []))++[tkM [46]]).map tw++goalT.map tw:=by
  rw [List.map_append]; rfl
 have hd2:(((atomT [114] []++(tkM [58,45]::((sinceT [113] [112] [C] [A,B] C.1)++moreL []))++[tkM [46]])++goalT).map tw).drop (adv st0 ((atomT [114] []).length+1)).nx=(sinceT [113] [112] [C] [A,B] C.1).map tw++(tw (tkM [46])::goalT.map tw):=by
  show List.drop 4 _=_; rw [show (4:Nat)=3+1 from rfl]; simp [atomT,argsT,moreL,goalT]
 have hlit:=since_toks (rel:=[113]) (rel2:=[112]) (by decide) (by decide) (L:=[C]) (M:=[A,B]) (by intro x hx; simp only [List.mem_cons,List.not_mem_nil,or_false] at hx; subst hx; first | exact .wild | exact wd_tok (by decide) | exact .term ha.tok | exact .term hb.tok | exact .term hc.tok) (by intro x hx; simp only [List.mem_cons,List.not_mem_nil,or_false] at hx; rcases hx with rfl | rfl <;> first | exact .wild | exact wd_tok (by decide) | exact .term ha.tok | exact .term hb.tok | exact .term hc.tok) hc.tok hn hd2; have hr:=rule_is (rel:=[114]) (by decide) (L:=[]) (fun x hx=>by cases hx) (M:=[]) (fun x hx=>by cases hx) hd hlit; have hq:=query_1 hr (by simp [neverF,sinceF]); refine ⟨_,parse_of hl hS hq,?_⟩
 have f0:=LitTok.atom (rel:=[113]) (L:=[vI [84,49],C]) (by decide) (by intro x hx; simp only [List.mem_cons,List.not_mem_nil,or_false] at hx; rcases hx with rfl | rfl <;> first | exact .wild | exact wd_tok (by decide) | exact .term ha.tok | exact .term hb.tok | exact .term hc.tok); have m00:=LitTok.le (TmTok.var [84,49] (by decide)) hc.tok; have m01:=LitTok.nt (rel:=[97,117,120,49]) (L:=vI [84,49]::C::(vsL a b (isV A.2) (isV B.2) A B)) (by decide) (fun x hx=>by simp only [List.mem_cons] at hx; rcases hx with rfl | rfl | hx; exact .term (TmTok.var [84,49] (by decide)); exact .term hc.tok; exact .term (vs_tok ha hb _ _ x hx))
 have f1:=LitTok.atom (rel:=[112]) (L:=[vI [84,52],A,B]) (by decide) (by intro x hx; simp only [List.mem_cons,List.not_mem_nil,or_false] at hx; rcases hx with rfl | rfl | rfl <;> first | exact .wild | exact wd_tok (by decide) | exact .term ha.tok | exact .term hb.tok | exact .term hc.tok); have m10:=LitTok.atom (rel:=[101,118,101,110,116]) (L:=[vI [84,50],wI]) (by decide) (by intro x hx; simp only [List.mem_cons,List.not_mem_nil,or_false] at hx; rcases hx with rfl | rfl <;> first | exact .wild | exact wd_tok (by decide) | exact .term ha.tok | exact .term hb.tok | exact .term hc.tok)
 have m11:=LitTok.atom (rel:=[101,118,101,110,116]) (L:=[vI [84,51],wI]) (by decide) (by intro x hx; simp only [List.mem_cons,List.not_mem_nil,or_false] at hx; rcases hx with rfl | rfl <;> first | exact .wild | exact wd_tok (by decide) | exact .term ha.tok | exact .term hb.tok | exact .term hc.tok); have m12:=LitTok.lt (TmTok.var [84,50] (by decide)) (TmTok.var [84,52] (by decide)); have m13:=LitTok.le (TmTok.var [84,52] (by decide)) (TmTok.var [84,51] (by decide)); obtain ⟨F0,G0,hF0,hG0,f0⟩:∃ F G,F=_∧G=_∧LitTok F G:=⟨_,_,rfl,rfl,f0⟩; obtain ⟨M00,N00,hM00,hN00,m00⟩:∃ F G,F=_∧G=_∧LitTok F G:=⟨_,_,rfl,rfl,m00⟩; obtain ⟨M01,N01,hM01,hN01,m01⟩:∃ F G,F=_∧G=_∧LitTok F G:=⟨_,_,rfl,rfl,m01⟩
 obtain ⟨F1,G1,hF1,hG1,f1⟩:∃ F G,F=_∧G=_∧LitTok F G:=⟨_,_,rfl,rfl,f1⟩; obtain ⟨M10,N10,hM10,hN10,m10⟩:∃ F G,F=_∧G=_∧LitTok F G:=⟨_,_,rfl,rfl,m10⟩; obtain ⟨M11,N11,hM11,hN11,m11⟩:∃ F G,F=_∧G=_∧LitTok F G:=⟨_,_,rfl,rfl,m11⟩; obtain ⟨M12,N12,hM12,hN12,m12⟩:∃ F G,F=_∧G=_∧LitTok F G:=⟨_,_,rfl,rfl,m12⟩; obtain ⟨M13,N13,hM13,hN13,m13⟩:∃ F G,F=_∧G=_∧LitTok F G:=⟨_,_,rfl,rfl,m13⟩
 have e2:pt19++(C.1++(pt20++(C.1++(pt21++(C.1++(moreT (vsL a b (isV A.2) (isV B.2) A B)++(pt22++(moreT (vsL a b (isV A.2) (isV B.2) A B)++(pt23++(A.1++(pt17++(B.1++(pt24)))))))))))))=(atomT [114] ([])++(tkM [58,45]::(F0++moreL [(M00,N00),(M01,N01)]))++[tkM [46]])++((atomT [97,117,120,49] (vI [84,50]::vI [84,51]::(vsL a b (isV A.2) (isV B.2) A B))++(tkM [58,45]::(F1++moreL [(M10,N10),(M11,N11),(M12,N12),(M13,N13)]))++[tkM [46]])++goalT):=by
  rw [hF0,hF1,hM00,hM01,hM10,hM11,hM12,hM13]; simp [atomT,argsT,moreT,moreL,goalT,wI,vI,pt0,pt1,pt2,pt3,pt4,pt5,pt6,pt7,pt8,pt9,pt10,pt11,pt12,pt13,pt14,pt15,pt16,pt17,pt18,pt19,pt20,pt21,pt22,pt23,pt24]
 rw [e2] at hS2
 have hd3:(((atomT [114] ([])++(tkM [58,45]::(F0++moreL [(M00,N00),(M01,N01)]))++[tkM [46]])++((atomT [97,117,120,49] (vI [84,50]::vI [84,51]::(vsL a b (isV A.2) (isV B.2) A B))++(tkM [58,45]::(F1++moreL [(M10,N10),(M11,N11),(M12,N12),(M13,N13)]))++[tkM [46]])++goalT)).map tw).drop st0.nx=(atomT [114] ([])++(tkM [58,45]::(F0++moreL [(M00,N00),(M01,N01)]))++[tkM [46]]).map tw++((atomT [97,117,120,49] (vI [84,50]::vI [84,51]::(vsL a b (isV A.2) (isV B.2) A B))++(tkM [58,45]::(F1++moreL [(M10,N10),(M11,N11),(M12,N12),(M13,N13)]))++[tkM [46]])++goalT).map tw:=by
  rw [List.map_append]; rfl
 have hd4:(((atomT [114] ([])++(tkM [58,45]::(F0++moreL [(M00,N00),(M01,N01)]))++[tkM [46]])++((atomT [97,117,120,49] (vI [84,50]::vI [84,51]::(vsL a b (isV A.2) (isV B.2) A B))++(tkM [58,45]::(F1++moreL [(M10,N10),(M11,N11),(M12,N12),(M13,N13)]))++[tkM [46]])++goalT)).map tw).drop (adv st0 ((atomT [114] ([])).length+1)).nx=F0.map tw++((moreL [(M00,N00),(M01,N01)]).map tw++(tw (tkM [46])::((atomT [97,117,120,49] (vI [84,50]::vI [84,51]::(vsL a b (isV A.2) (isV B.2) A B))++(tkM [58,45]::(F1++moreL [(M10,N10),(M11,N11),(M12,N12),(M13,N13)]))++[tkM [46]])++goalT).map tw)):=by
  show List.drop 4 _=_; rw [show (4:Nat)=3+1 from rfl]; simp [atomT,argsT]
 have hr2:=rule_is (rel:=[114]) (by decide) (L:=[]) (fun x hx=>by cases hx) (M:=[(M00,N00),(M01,N01)]) (by intro x hx; simp only [List.mem_cons,List.not_mem_nil,or_false] at hx; rcases hx with rfl | rfl; exact m00; exact m01) hd3 (f0.is hd4); obtain ⟨s1,hs1⟩:∃ s,s=adv (adv (adv st0 ((atomT [114] ([])).length+1)) F0.length) ((moreL [(M00,N00),(M01,N01)]).length+1):=⟨_,rfl⟩; rw [← hs1] at hr2
 have hd5:(((atomT [114] ([])++(tkM [58,45]::(F0++moreL [(M00,N00),(M01,N01)]))++[tkM [46]])++((atomT [97,117,120,49] (vI [84,50]::vI [84,51]::(vsL a b (isV A.2) (isV B.2) A B))++(tkM [58,45]::(F1++moreL [(M10,N10),(M11,N11),(M12,N12),(M13,N13)]))++[tkM [46]])++goalT)).map tw).drop s1.nx=(atomT [97,117,120,49] (vI [84,50]::vI [84,51]::(vsL a b (isV A.2) (isV B.2) A B))++(tkM [58,45]::(F1++moreL [(M10,N10),(M11,N11),(M12,N12),(M13,N13)]))++[tkM [46]]).map tw++goalT.map tw:=by
  have:=hr2.2.1; rw [this,← List.map_append]; show List.drop (st0.nx+_) _=_; rw [← List.drop_drop,hd3]; exact List.drop_left' (by simp)
 have hd6:(((atomT [114] ([])++(tkM [58,45]::(F0++moreL [(M00,N00),(M01,N01)]))++[tkM [46]])++((atomT [97,117,120,49] (vI [84,50]::vI [84,51]::(vsL a b (isV A.2) (isV B.2) A B))++(tkM [58,45]::(F1++moreL [(M10,N10),(M11,N11),(M12,N12),(M13,N13)]))++[tkM [46]])++goalT)).map tw).drop (adv s1 ((atomT [97,117,120,49] (vI [84,50]::vI [84,51]::(vsL a b (isV A.2) (isV B.2) A B))).length+1)).nx=F1.map tw++((moreL [(M10,N10),(M11,N11),(M12,N12),(M13,N13)]).map tw++(tw (tkM [46])::goalT.map tw)):=by
  show List.drop (s1.nx+_) _=_; rw [← List.drop_drop,hd5]
  have e3:(atomT [97,117,120,49] (vI [84,50]::vI [84,51]::(vsL a b (isV A.2) (isV B.2) A B))++(tkM [58,45]::(F1++moreL [(M10,N10),(M11,N11),(M12,N12),(M13,N13)]))++[tkM [46]]).map tw++goalT.map tw=((atomT [97,117,120,49] (vI [84,50]::vI [84,51]::(vsL a b (isV A.2) (isV B.2) A B))++[tkM [58,45]]).map tw)++(F1.map tw++((moreL [(M10,N10),(M11,N11),(M12,N12),(M13,N13)]).map tw++(tw (tkM [46])::goalT.map tw))):=by simp
  rw [e3]; exact List.drop_left' (by simp)
 have hr3:=rule_is (rel:=[97,117,120,49]) (by decide) (L:=vI [84,50]::vI [84,51]::(vsL a b (isV A.2) (isV B.2) A B)) (fun x hx=>by simp only [List.mem_cons] at hx; rcases hx with rfl | rfl | hx; exact (TmTok.var [84,50] (by decide)); exact (TmTok.var [84,51] (by decide)); exact vs_tok ha hb _ _ x hx) (M:=[(M10,N10),(M11,N11),(M12,N12),(M13,N13)]) (by intro x hx; simp only [List.mem_cons,List.not_mem_nil,or_false] at hx; rcases hx with rfl | rfl | rfl | rfl; exact m10; exact m11; exact m12; exact m13) hd5 (f1.is hd6); have hq2:=query_2 hr2 hr3 (by simp); have hQ:=parse_of hl2 hS2 hq2; rw [hQ]; have t1:=T_1; have t2:=T_2; have t3:=T_3; have t4:=T_4; have x1:=X_1; have dv:=vs_dv ha hb [] (Or.inl rfl); rw [hG0,hG1,hN00,hN01,hN10,hN11,hN12,hN13]; simp only [adv,st0,Nat.zero_add,t1,t2,t3,t4,x1]
 simp only [List.map_cons,List.map_nil,List.nil_append,List.singleton_append,List.cons_append] at dv ⊢; simp [timedF,happensF,besideF,compareF,neverF,sinceF,withF,neg,wI,vI,sideW,dv]
end
end Go.Proofs.YtbkdakbhagjkhaaGreatDoor
