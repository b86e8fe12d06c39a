/- Tmp27: AskM, AppN, AskH, AskI, in one text. -/
import Derived.Test.YtbkdakbhagjkhaaGreatDoorAskG
import Derived.Test.YtbkdakbhagjkhaaGreatDoorLexT
import Derived.Test.YtbkdakbhagjkhaaGreatDoorDel
set_option linter.unusedVariables false
namespace Go.Proofs.YtbkdakbhagjkhaaGreatDoor
open Go.RowKit
open Go.Lib (hid itoa)
structure Ru where
 head : Lt
 agg : Int
 at_ : Int
 body : List Lt
structure Qu where
 rules : List Ru
 goal : Lt
def namesP (ts : List Tw) : List (List UInt8):=ts.filterMap fun t=>if t.kind = 1 then some t.text else none
theorem namesP_len (ts : List Tw) : (namesP ts).length ≤ ts.length:=List.length_filterMap_le _ _
/-- the next number whose name does not occur -/
def freshP (ns : List (List UInt8)) (pre : List UInt8) : Nat → Nat → Nat
 | 0,n=>n
 | f + 1,n=>if pre ++ itoa ((n + 1 : Nat) : Int) ∈ ns then freshP ns pre f (n + 1) else n + 1
theorem freshP_le (ns : List (List UInt8)) (pre : List UInt8) : ∀ f n,freshP ns pre f n ≤ n + f ∧ n ≤ freshP ns pre f n
 | 0,n=>⟨Nat.le_refl _,Nat.le_refl _⟩
 | f + 1,n=>by
  unfold freshP; split
  ·have:=freshP_le ns pre f (n + 1); omega
  ·omega
theorem itoa_nat_inj {a b : Nat} (ha : a < 9223372036854775808) (hb : b < 9223372036854775808) (h : itoa (a : Int) = itoa (b : Int)) : a = b:=by
 have h1:=parse_itoa (a : Int) (-9223372036854775808) 9223372036854775807 (by omega) (by omega) (by omega) (by omega); have h2:=parse_itoa (b : Int) (-9223372036854775808) 9223372036854775807 (by omega) (by omega) (by omega) (by omega); rw [h,h2] at h1; injection h1 with h1; omega
theorem nodup_sub {α : Type} [DecidableEq α] : ∀ {l m : List α},l.Nodup → (∀ x ∈ l,x ∈ m) → l.length ≤ m.length
 | [],m,_,_=>Nat.zero_le _
 | a :: l,m,hn,hs=>by
  have ha:=hs a (by simp); have hn':=List.nodup_cons.1 hn
  have:=nodup_sub (l:=l) (m:=m.erase a) hn'.2 fun x hx=>by
   have hne : x ≠ a:=fun e=>hn'.1 (e ▸ hx)
   exact (List.mem_erase_of_ne hne).2 (hs x (by simp [hx]))
  rw [List.length_erase_of_mem ha] at this; have:=List.length_pos_of_mem ha; simp only [List.length_cons]; omega
/-- some name among as many as there are, and one more, is free -/
theorem fresh_some (ns : List (List UInt8)) (pre : List UInt8) (n f : Nat) (hf : ns.length < f) (hb : n + f < 9223372036854775808) : ∃ j,1 ≤ j ∧ j ≤ f ∧ pre ++ itoa ((n + j : Nat) : Int) ∉ ns:=by
 apply Classical.byContradiction; intro hno
 have hall : ∀ j,1 ≤ j → j ≤ f → pre ++ itoa ((n + j : Nat) : Int) ∈ ns:=fun j h1 h2=>Classical.byContradiction fun h=>hno ⟨j,h1,h2,h⟩
 have hd : ((List.range f).map fun j=>pre ++ itoa ((n + (j + 1) : Nat) : Int)).Nodup:=by
  unfold List.Nodup; rw [List.pairwise_map]; refine List.nodup_range.imp_of_mem ?_; intro a b ha hb2 hne e; rw [List.mem_range] at ha hb2; have e2:=itoa_nat_inj (by omega) (by omega) (List.append_cancel_left e); omega
 have:=nodup_sub hd (m:=ns) fun x hx=>by
  obtain ⟨j,hj,rfl⟩:=List.mem_map.1 hx; rw [List.mem_range] at hj; exact hall (j + 1) (by omega) (by omega)
 simp at this; omega
def newVarP (ts : List Tw) (st : PSt) : Tm × PSt:=(tmVar ([84] ++ itoa ((freshP (namesP ts) [84] (ts.length + 1) st.vars : Nat) : Int)),{ st with vars:=freshP (namesP ts) [84] (ts.length + 1) st.vars })
def newRelP (ts : List Tw) (st : PSt) : List UInt8 × PSt:=([97,117,120] ++ itoa ((freshP (namesP ts) [97,117,120] (ts.length + 1) st.rels : Nat) : Int),{ st with rels:=freshP (namesP ts) [97,117,120] (ts.length + 1) st.rels })
def sideE (b : Bool) (r : Option Tm × PSt) : Option (Bool × Tm) × PSt:=(r.1.map fun t=>(b,t),r.2)
def sideP (ts : List Tw) (st : PSt) : Option (Bool × Tm) × PSt :=
 if isP ts st 1 [98,101,102,111,114,101] then sideE true (termP ts (nextP st))
 else if isP ts st 1 [97,102,116,101,114] then sideE false (termP ts (nextP st))
 else (none,failP st)
def compareF (op : Int) (a b : Tm) : Lt:=⟨op,false,[],[a,b]⟩
def timedF (x : Tm) (l : Lt) : Lt:=⟨0,false,l.rel,x :: l.args⟩
def happensF (x : Tm) : Lt:=⟨0,false,[101,118,101,110,116],[x,tmVar [95]]⟩
def besideF (b : Bool) (x a : Tm) : Lt:=if b then compareF 3 x a else compareF 3 a x
/-- the terms of distinct variables that are not in seen -/
def dvars (seen : List (List UInt8)) : List Tm → List Tm
 | []=>[]
 | t :: l=>if t.var ∈ seen then dvars seen l else t :: dvars (t.var :: seen) l
def withF (rel : List UInt8) (l : Lt) (terms : List Tm) : Lt:=⟨0,false,rel,terms ++ dvars [[],[95]] l.args⟩
def opsF (s : List UInt8) : Option (Int × Bool) :=
 if s = [61] then some (1,false) else if s = [33,61] then some (2,false) else if s = [60] then some (3,false)
 else if s = [60,61] then some (4,false) else if s = [62] then some (3,true) else if s = [62,61] then some (4,true) else none
def addE (minus : Bool) (a b : Tm) : Option Tm × PSt → Option Lt × PSt
 | (none,s)=>(none,s)
 | (some c,s)=>(some ⟨5,false,[],if minus then [b,a,c] else [a,b,c]⟩,s)
def cmpE (ts : List Tw) (op : Int) (sw : Bool) (a : Tm) : Option Tm × PSt → Option Lt × PSt
 | (none,s)=>(none,s)
 | (some b,s2) =>
  if op = 1 ∧ isP ts s2 4 [43] = true then addE false a b (termP ts (nextP s2))
  else if op = 1 ∧ isP ts s2 4 [45] = true then addE true a b (termP ts (nextP s2))
  else (some (if sw then compareF op b a else compareF op a b),s2)
def comparisonP (ts : List Tw) (st : PSt) : Option Lt × PSt:=match termP ts st with
 | (none,s)=>(none,s)
 | (some a,s1)=>if (tokP ts s1.nx).kind = 4 then
   match opsF (tokP ts s1.nx).text with
   | none=>(none,failP s1)
   | some (op,sw)=>cmpE ts op sw a (termP ts (nextP s1))
  else (none,failP s1)
def onceE (ts : List Tw) (l : Lt) : Option (Bool × Tm) × PSt → Option (List Lt) × PSt
 | (none,s)=>(none,s)
 | (some (b,a),s)=>(some [timedF (newVarP ts s).1 l,besideF b (newVarP ts s).1 a],(newVarP ts s).2)
def onceP (ts : List Tw) (st : PSt) : Option (List Lt) × PSt:=match atomP ts st with
 | (none,s)=>(none,s)
 | (some l,s)=>onceE ts l (sideP ts s)
def neg (l : Lt) : Lt:=⟨l.op,true,l.rel,l.args⟩
/-- never, behind its side: y, x, the relation -/
def neverF (y x : Tm) (rel : List UInt8) (l : Lt) (b : Bool) (a : Tm) : List Lt × List Ru :=
 ([neg (withF rel l [a])],[⟨withF rel l [y],0,0,[happensF y,timedF x l,besideF b x y]⟩])
def neverE (ts : List Tw) (l : Lt) : Option (Bool × Tm) × PSt → Option (List Lt × List Ru) × PSt
 | (none,s)=>(none,s)
 | (some (b,a),s) =>
  let v1:=newVarP ts s
  let v2:=newVarP ts v1.2
  let r:=newRelP ts v2.2
  (some (neverF v1.1 v2.1 r.1 l b a),r.2)
def neverP (ts : List Tw) (st : PSt) : Option (List Lt × List Ru) × PSt:=match atomP ts st with
 | (none,s)=>(none,s)
 | (some l,s)=>neverE ts l (sideP ts s)
def sinceF (x y z w : Tm) (rel : List UInt8) (l m : Lt) (a : Tm) : List Lt × List Ru :=
 ([timedF x l,compareF 4 x a,neg (withF rel m [x,a])],[⟨withF rel m [y,z],0,0,[timedF w m,happensF y,happensF z,compareF 3 y w,compareF 4 w z]⟩])
def sinceE (ts : List Tw) (l m : Lt) : Option Tm × PSt → Option (List Lt × List Ru) × PSt
 | (none,s)=>(none,s)
 | (some a,s) =>
  let v1:=newVarP ts s
  let v2:=newVarP ts v1.2
  let v3:=newVarP ts v2.2
  let v4:=newVarP ts v3.2
  let r:=newRelP ts v4.2
  (some (sinceF v1.1 v2.1 v3.1 v4.1 r.1 l m a),r.2)
def sinceM (ts : List Tw) (l : Lt) : Option Lt × PSt → Option (List Lt × List Ru) × PSt
 | (none,s)=>(none,s)
 | (some m,s)=>if isP ts s 1 [97,116] then sinceE ts l m (termP ts (nextP s)) else (none,failP s)
def sinceP (ts : List Tw) (st : PSt) : Option (List Lt × List Ru) × PSt:=match atomP ts st with
 | (none,s)=>(none,s)
 | (some l,s)=>if isP ts s 1 [110,111] then sinceM ts l (atomP ts (nextP s)) else (none,failP s)
def litE (f : Lt → Lt) (r : Option Lt × PSt) : Option (List Lt × List Ru) × PSt:=(r.1.map fun l=>([f l],[]),r.2)
def litsE (r : Option (List Lt) × PSt) : Option (List Lt × List Ru) × PSt:=(r.1.map fun l=>(l,[]),r.2)
def literalP (ts : List Tw) (st : PSt) : Option (List Lt × List Ru) × PSt :=
 if isP ts st 1 [110,111,116] then litE neg (atomP ts (nextP st))
 else if isP ts st 1 [111,110,99,101] then litsE (onceP ts (nextP st))
 else if isP ts st 1 [110,101,118,101,114] then neverP ts (nextP st)
 else if isP ts st 1 [115,105,110,99,101] then sinceP ts (nextP st)
 else if (tokP ts st.nx).kind = 1 ∧ relF (tokP ts st.nx).text = true ∧ (tokP ts (st.nx + 1)).kind = 4 ∧ (tokP ts (st.nx + 1)).text = [40] then litE id (atomP ts st)
 else litE id (comparisonP ts st)
def litsP (ts : List Tw) : Nat → PSt → List Lt → List Ru → Option (List Lt × List Ru) × PSt
 | 0,st,_,_=>(none,st)
 | f + 1,st,body,aux=>match literalP ts st with
  | (none,s)=>(none,s)
  | (some (ls,au),s1)=>if isP ts s1 4 [44] then litsP ts f (nextP s1) (body ++ ls) (aux ++ au) else (some (body ++ ls,aux ++ au),s1)
/-- wildcards numbered -/
def numT : Nat → List Tm → List Tm
 | _,[]=>[]
 | n,t :: l=>if t.var = [95] then ⟨[95] ++ itoa ((n + 1 : Nat) : Int),t.val⟩ :: numT (n + 1) l else t :: numT n l
def cntT (l : List Tm) : Nat:=(l.filter fun t=>t.var == [95]).length
def numL : Nat → List Lt → List Lt
 | _,[]=>[]
 | n,x :: l=>⟨x.op,x.nt,x.rel,numT n x.args⟩ :: numL (n + cntT x.args) l
def numR (r : Ru) : Ru:=⟨r.head,r.agg,r.at_,numL 0 r.body⟩
def ruleE (ts : List Tw) (h : Hd) : Option (List Lt × List Ru) × PSt → Option (List Ru) × PSt
 | (none,s)=>(none,s)
 | (some (body,aux),s)=>if isP ts s 4 [46] then (some ((⟨⟨0,false,h.rel,h.args⟩,h.agg,h.at_,body⟩ :: aux).map numR),nextP s) else (none,failP s)
def ruleP (ts : List Tw) (st : PSt) : Option (List Ru) × PSt:=match headP ts st with
 | (none,s)=>(none,s)
 | (some h,s1)=>ruleE ts h (if isP ts s1 4 [58,45] then litsP ts (ts.length + 1) (nextP s1) [] [] else (some ([],[]),s1))
def goalE (ts : List Tw) (rules : List Ru) : Option Lt × PSt → Option Qu × PSt
 | (none,s)=>(none,s)
 | (some l,s)=>if s.nx < ts.length then (none,failP s) else (some ⟨rules,⟨l.op,l.nt,l.rel,numT 0 l.args⟩⟩,s)
def queryP (ts : List Tw) : Nat → PSt → List Ru → Option Qu × PSt
 | 0,st,_=>(none,st)
 | f + 1,st,rules=>if isP ts st 4 [63] then goalE ts rules (atomP ts (nextP st))
  else match ruleP ts st with
   | (none,s)=>(none,s)
   | (some rs,s)=>if 64 < (rules ++ rs).length then (none,{ s with err:=some (3,st.nx) }) else queryP ts f s (rules ++ rs)
def st0 : PSt:=⟨0,0,0,none⟩
def posF (toks : List Tk) (size : Nat) (i : Nat) : Int:=match toks[i]? with
 | some t=>t.pos
 | none=>size
/-- Parse -/
def parseF (s : List UInt8) : Except (Int × Int) Qu:=match scanF s with
 | .error x=>.error x
 | .ok l=>match queryP (l.map tw) (l.length + 1) st0 [] with
  | (some q,_)=>.ok q
  | (none,st)=>match st.err with
   | some (e,i)=>.error (e,posF l s.length i)
   | none=>.error (0,0)
end Go.Proofs.YtbkdakbhagjkhaaGreatDoor
namespace Go.Proofs.YtbkdakbhagjkhaaGreatDoor
open Go.RowKit
/-- several elements behind an owned row: out = append(out, xs...) -/
theorem OwnR.appendN {α : Type} {P : Program} {E t ty : TypeId} {sz bytes : Nat} {R : Rel α} {i : TypeInfo} {z : Value} (hR : Good sz R) (ht : P.underlying t = some (.slice E)) (hi : P.info? E = some i) (hz : i.zero = some z) (hsize : i.size = sz) (hby : i.bytes = bytes) (hzs : z.cells.size = sz) (hsz : 0 < sz)
  {S : Foot} {w : World} {l m : List α} {v : Value} (h : OwnR E sz R S w l v) {B : Nat} {vs : Value} {news : List Value} (hr : Row B w sz vs m.length news) (hone : ∀ u ∈ news,u.oneCell' = true)
  (hx : ∀ n y,m[n]? = some y → ∃ cs,(∀ j u,cs[j]? = some u → news[n * sz + j]? = some u) ∧ R (fun k=>S k ∧ v.ownBlock ≠ some k) w y cs) (h63 : l.length + m.length ≤ maxLen) (hbytes : (l.length + m.length) * bytes ≤ 140737488355328) (hS : ∀ k,w.heap.size ≤ k → S k) :
  ∃ v' w',AppRun P t t ty v vs v' w w' ∧ OwnR E sz R S w' (l ++ m) v' ∧ Fr S w w':=by
 obtain ⟨xs,h1,h2,h3⟩:=h; obtain ⟨v',w',hrun,hown,hg,hv⟩:=append_row w 0 t ty E i z sz bytes ht hi hz hsize hby hzs hsz v l.length xs h1 B vs m.length news hr hone h63 hbytes (Nat.zero_le _)
 have hkeep : ∀ {y : α} {ds : List Value},R (fun k=>S k ∧ v.ownBlock ≠ some k) w y ds → R (fun k=>S k ∧ v'.ownBlock ≠ some k) w' y ds:=by
  intro y ds hy
  refine hR.move hy fun k hk hu=>⟨⟨hu.1,?_⟩,hg.block k hk (fun e=>hu.2 e.symm)⟩
  rcases hv with hv | hv
  ·rw [hv]; exact hu.2
  ·rw [hv]; intro e; injection e with e; omega
 refine ⟨v',w',⟨hrun⟩,⟨xs ++ news,by rw [List.length_append]; exact hown,fun k hk=>?_,fun i y hy=>?_⟩,⟨hg.os,hg.tape,hg.output,hg.size,fun k hk hs=>hg.block k hk (fun e=>hs (h2 k e.symm))⟩⟩
 ·rcases hv with hv | hv
  ·exact h2 k (hv ▸ hk)
  ·rw [hv] at hk; injection hk with hk; subst hk; exact hS _ (Nat.le_refl _)
 ·by_cases hil : i < l.length
  ·rw [List.getElem?_append_left hil] at hy
   obtain ⟨ds,h4,h5⟩:=h3 i y hy; refine ⟨ds,fun j u hu=>?_,hkeep h5⟩; have:=h4 j u hu; rw [List.getElem?_append_left (List.getElem?_eq_some_iff.1 this).1]; exact this
  ·rw [List.getElem?_append_right (by omega)] at hy
   obtain ⟨ds,h4,h5⟩:=hx _ y hy; refine ⟨ds,fun j u hu=>?_,hkeep h5⟩; have hxl:=h1.1
   have hm : i * sz = l.length * sz + (i - l.length) * sz:=by rw [← Nat.add_mul]; congr 1; omega
   rw [List.getElem?_append_right (by omega),show i * sz + j - xs.length = (i - l.length) * sz + j by omega]; exact h4 j u hu
end Go.Proofs.YtbkdakbhagjkhaaGreatDoor
namespace Go.Proofs.YtbkdakbhagjkhaaGreatDoor
open Go.RowKit
open Go.Lib (hid)
abbrev tmRow (l : List Tm) : List Value:=l.flatMap fun t=>(fcells t).toList
theorem tmRow_len (l : List Tm) : (tmRow l).length = l.length * 7:=by
 induction l with
 | nil=>rfl
 | cons t l ih=>show (List.flatMap _ (t :: l)).length = _; rw [List.flatMap_cons,List.length_append,List.length_cons]; show 7 + (tmRow l).length = (l.length + 1) * 7; rw [ih]; omega
theorem tmRow_at (l : List Tm) (i : Nat) (t : Tm) (h : l[i]? = some t) (j : Nat) (u : Value) (hu : (fcells t).toList[j]? = some u) : (tmRow l)[i * 7 + j]? = some u:=by
 induction l generalizing i with
 | nil=>simp at h
 | cons s l ih =>
  have hj : j < 7:=(List.getElem?_eq_some_iff.1 hu).1; show (List.flatMap _ (s :: l))[i * 7 + j]? = _; rw [List.flatMap_cons]
  cases i with
  | zero=>simp at h; subst h; rw [List.getElem?_append_left (by show _ < 7; omega)]; simpa using hu
  | succ i =>
   rw [List.getElem?_append_right (by show 7 ≤ _; omega)]; show (tmRow l)[(i + 1) * 7 + j - 7]? = _; rw [show (i + 1) * 7 + j - 7 = i * 7 + j by omega]; exact ih i (by simpa using h)
theorem own_tms {w : World} {b : Nat} {l : List Tm} {S : Foot} (h : w.heap[b]? = some (.cells (tmRow l).toArray 44 (0,0))) (hl : l.length ≤ maxLen) (hS : S b) : OwnR 44 7 FlR S w l (.slice (some ⟨b,0,none⟩) l.length l.length) :=
 ⟨tmRow l,⟨tmRow_len l,Or.inr ⟨b,l.length,_,rfl,Nat.zero_le _,h,Nat.le_refl _,hl,by have:=tmRow_len l; simp only [List.size_toArray]; omega,by have:=tmRow_len l; rw [List.take_of_length_le (by rw [this]; exact Nat.le_refl _)]⟩⟩,fun k hk=>by simp [Value.ownBlock] at hk; exact hk ▸ hS,fun i x hx=>⟨(fcells x).toList,fun j u hu=>tmRow_at l i x hx j u hu,rfl⟩⟩
theorem tmRow_back (l : List Tm) (k : Nat) (u : Value) (h : (tmRow l)[k]? = some u) : ∃ i t,k / 7 = i ∧ l[i]? = some t ∧ (fcells t).toList[k % 7]? = some u:=by
 have hk:=(List.getElem?_eq_some_iff.1 h).1; rw [tmRow_len] at hk
 have hi : k / 7 < l.length:=by omega
 refine ⟨k / 7,l[k / 7],rfl,List.getElem?_eq_getElem hi,?_⟩
 have hm : k % 7 < (fcells l[k / 7]).toList.length:=by show k % 7 < 7; omega
 have:=tmRow_at l (k / 7) l[k / 7] (List.getElem?_eq_getElem hi) (k % 7) _ (List.getElem?_eq_getElem hm); rw [show k / 7 * 7 + k % 7 = k by omega,h] at this; rw [List.getElem?_eq_getElem hm]; exact this.symm
theorem row_tms {S : Foot} {w : World} {l : List Tm} {v : Value} (h : SlR 7 FlR S w l v) : Row w.heap.size w 7 v l.length (tmRow l):=by
 obtain ⟨a,cap,b,off,cs,rfl,hc,hn,hcell,hR⟩:=h; refine ⟨a,cap,b,off,rfl,tmRow_len l,fun h0=>⟨(hn h0).1,(hn h0).2.2⟩,fun j hj=>?_⟩; obtain ⟨i,t,hi,ht,hu⟩:=tmRow_back l j _ (List.getElem?_eq_getElem hj); have hf : cs i = (fcells t).toList:=hR i t ht; have:=hcell i (List.getElem?_eq_some_iff.1 ht).1 (j % 7) _ (by rw [hf]; exact hu); rw [show off + j = off + i * 7 + j % 7 by omega]; exact this
/-- several terms behind an owned row -/
theorem tmsPush {S S2 : Foot} {w : World} {l m : List Tm} {v vs : Value} (h : OwnR 44 7 FlR S w l v) (hm : SlR 7 FlR S2 w m vs) (hS : ∀ q,w.heap.size ≤ q → S q) (hl : l.length + m.length ≤ 1048576) :
  ∃ a c w',AppRun Tryz.prog 26 26 26 v vs (.slice a (l.length + m.length) c) w w' ∧ OwnR 44 7 FlR S w' (l ++ m) (.slice a (l.length + m.length) c) ∧ Fr S w w':=by
 obtain ⟨i0,hi,hz0,hz1,hz2⟩:=info_parts infoTm
 have hone : ∀ u ∈ tmRow m,u.oneCell' = true:=fun u hu=>by
  obtain ⟨t,ht,hu⟩:=List.mem_flatMap.1 hu; exact goodFl.one (S:=S) (w:=w) (x:=t) rfl u hu
 obtain ⟨v',w',h1,h2,h3⟩:=OwnR.appendN (t:=26) (ty:=26) goodFl (by kernel_rfl) hi hz0 hz1 hz2 rfl (by decide) h (row_tms hm) hone (fun n y hy=>⟨(fcells y).toList,fun j u hu=>tmRow_at m n y hy j u hu,rfl⟩) (by unfold maxLen; omega) (by omega) hS; obtain ⟨a,c,rfl,-,-⟩:=h2.slice; rw [List.length_append] at h1 h2; exact ⟨a,c,w',h1,h2,h3⟩
/-- a literal made anew -/
def PL1 (w : World) (l : Lt) (e : Ending) (w' : World) : Prop :=
 ∃ v,e = .returned (.agg (lcells l.op l.nt l.rel v)) ∧ OwnR 44 7 FlR (from_ w.heap.size) w' l.args v ∧ Below w.heap.size w w'
set_option maxHeartbeats 1000000 in
set_option maxRecDepth 100000 in
theorem happens_any (t : Tm) (w : World) : Calls Tryz.prog 80 #[.agg (fcells t)] w (PL1 w ⟨0,false,[101,118,101,110,116],[t,tmVar [95]]⟩):=by
 go_enter Tryz.func80,Tryz.ntmps80
 go_wp2_with fail
 have hE : ∀ (o1 o2 o3 : Obj),(((w.alloc o1).alloc o2).alloc o3).heap[w.heap.size + 1]? = some o2 ∧ (((w.alloc o1).alloc o2).alloc o3).heap[w.heap.size + 1 + 1]? = some o3 ∧ Below w.heap.size w (((w.alloc o1).alloc o2).alloc o3):=fun o1 o2 o3=>by
  have z1 : (w.alloc o1).heap.size = w.heap.size + 1:=by simp
  have z2 : ((w.alloc o1).alloc o2).heap.size = w.heap.size + 1 + 1:=by simp
  refine ⟨?_,?_,(((Below.refl _ w).alloc (Nat.le_refl _) o1).alloc (by rw [z1]; omega) o2).alloc (by rw [z2]; omega) o3⟩
  ·rw [Below.heap_alloc _ _ _ (by rw [z2]; omega),← z1]; exact heap_alloc_new' _ _
  ·rw [← z2]; exact heap_alloc_new' _ _
 obtain ⟨h1,h2,h3⟩:=hE (.cells (fcells t) 44) (.cells (lcells 0 false [101,118,101,110,116] (.slice (some ⟨w.heap.size + 1 + 1,0,none⟩) 2 2)) 28) (.cells (tmRow [t,tmVar [95]]).toArray 44); refine bodyPost_ret (v:=.agg (lcells 0 false [101,118,101,110,116] (.slice (some ⟨w.heap.size + 1 + 1,0,none⟩) 2 2))) (results_cell_row (by rfl) _ _ (w.heap.size + 1) 28 _ (0,0) _ (by rfl) h1 Tryz.underlying28 rfl (by kernel_rfl)) rfl ⟨_,rfl,own_tms h2 (by show 2 ≤ maxLen; decide) (by unfold from_; omega),h3⟩
set_option maxHeartbeats 1000000 in
set_option maxRecDepth 100000 in
theorem compare_any (op : Int) (a b : Tm) (w : World) : Calls Tryz.prog 81 #[iv op,.agg (fcells a),.agg (fcells b)] w (PL1 w ⟨op,false,[],[a,b]⟩):=by
 go_enter Tryz.func81,Tryz.ntmps81
 go_wp2_with fail
 have hE : ∀ (o0 o1 o2 o3 : Obj),((((w.alloc o0).alloc o1).alloc o2).alloc o3).heap[w.heap.size + 1 + 1]? = some o2 ∧ ((((w.alloc o0).alloc o1).alloc o2).alloc o3).heap[w.heap.size + 1 + 1 + 1]? = some o3 ∧ Below w.heap.size w ((((w.alloc o0).alloc o1).alloc o2).alloc o3):=fun o0 o1 o2 o3=>by
  have z1 : (w.alloc o0).heap.size = w.heap.size + 1:=by simp
  have z2 : ((w.alloc o0).alloc o1).heap.size = w.heap.size + 1 + 1:=by simp
  have z3 : (((w.alloc o0).alloc o1).alloc o2).heap.size = w.heap.size + 1 + 1 + 1:=by simp
  refine ⟨?_,?_,((((Below.refl _ w).alloc (Nat.le_refl _) o0).alloc (by rw [z1]; omega) o1).alloc (by rw [z2]; omega) o2).alloc (by rw [z3]; omega) o3⟩
  ·rw [Below.heap_alloc _ _ _ (by rw [z3]; omega),← z2]; exact heap_alloc_new' _ _
  ·rw [← z3]; exact heap_alloc_new' _ _
 obtain ⟨h1,h2,h3⟩:=hE (.cells (fcells a) 44) (.cells (fcells b) 44) (.cells (lcells op false [] (.slice (some ⟨w.heap.size + 1 + 1 + 1,0,none⟩) 2 2)) 28) (.cells (tmRow [a,b]).toArray 44); refine bodyPost_ret (v:=.agg (lcells op false [] (.slice (some ⟨w.heap.size + 1 + 1 + 1,0,none⟩) 2 2))) (results_cell_row (by rfl) _ _ (w.heap.size + 1 + 1) 28 _ (0,0) _ (by rfl) h1 Tryz.underlying28 rfl (by kernel_rfl)) rfl ⟨_,rfl,own_tms h2 (by show 2 ≤ maxLen; decide) (by unfold from_; omega),h3⟩
end Go.Proofs.YtbkdakbhagjkhaaGreatDoor
namespace Go.Proofs.YtbkdakbhagjkhaaGreatDoor
open Go.RowKit
open Go.Lib (hid itoa)
theorem alloc3 (w : World) (o1 o2 o3 : Obj) : (((w.alloc o1).alloc o2).alloc o3).heap[w.heap.size]? = some o1 ∧ (((w.alloc o1).alloc o2).alloc o3).heap[w.heap.size + 1]? = some o2 ∧ (((w.alloc o1).alloc o2).alloc o3).heap[w.heap.size + 1 + 1]? = some o3 ∧ (((w.alloc o1).alloc o2).alloc o3).heap.size = w.heap.size + 1 + 1 + 1 ∧ Below w.heap.size w (((w.alloc o1).alloc o2).alloc o3):=by
 have z1 : (w.alloc o1).heap.size = w.heap.size + 1:=by simp
 have z2 : ((w.alloc o1).alloc o2).heap.size = w.heap.size + 1 + 1:=by simp
 have z3 : (((w.alloc o1).alloc o2).alloc o3).heap.size = w.heap.size + 1 + 1 + 1:=by simp
 refine ⟨?_,?_,?_,z3,(((Below.refl _ w).alloc (Nat.le_refl _) o1).alloc (by rw [z1]; omega) o2).alloc (by rw [z2]; omega) o3⟩
 ·rw [Below.heap_alloc _ _ _ (by rw [z2]; omega),Below.heap_alloc _ _ _ (by rw [z1]; omega)]; exact heap_alloc_new' _ _
 ·rw [Below.heap_alloc _ _ _ (by rw [z2]; omega),← z1]; exact heap_alloc_new' _ _
 ·rw [← z2]; exact heap_alloc_new' _ _
set_option maxHeartbeats 1000000 in
set_option maxRecDepth 100000 in
theorem timed_any (t : Tm) (l : Lt) (S : Foot) (v : Value) (w : World) (hv : SlR 7 FlR S w l.args v) (hl : l.args.length ≤ 1048575) :
  Calls Tryz.prog 76 #[.agg (fcells t),.agg (lcells l.op l.nt l.rel v)] w (PL1 w (timedF t l)):=by
 obtain ⟨a0,c0,rfl⟩ : ∃ a c,v = .slice a l.args.length c:=by obtain ⟨a,c,e,_⟩:=hv.slice; exact ⟨a,c,e⟩
 obtain ⟨op,nt,rel,args⟩:=l; show Calls _ _ _ w (PL1 w ⟨0,false,rel,t :: args⟩); replace hv:=hid hv
 go_enter Tryz.func76,Tryz.ntmps76
 go_wp2_with fail
 obtain ⟨h1,h2,h3,hz,hb⟩:=alloc3 w (.cells (fcells t) 44) (.cells (lcells op nt rel (.slice a0 args.length c0)) 28) (.cells (lcells 0 false [] (.slice none 0 0)) 28); generalize hW : ((w.alloc (.cells (fcells t) 44)).alloc (.cells (lcells op nt rel (.slice a0 args.length c0)) 28)).alloc (.cells (lcells 0 false [] (.slice none 0 0)) 28) = W at *; have hVd:=hid (show SlR 7 FlR S (W.drew.alloc (.cells (fcells t) 44)) args (.slice a0 args.length c0) from (hv.out.below goodFl hb).below goodFl (((Below.refl _ W).drew).alloc (Nat.le_refl _) _)); have hown:=own_tms (l:=[t]) (S:=fun q=>W.heap.size ≤ q) (show (W.drew.alloc (.cells (fcells t) 44)).heap[W.heap.size]? = some (.cells (tmRow [t]).toArray 44 (0,0)) from heap_alloc_new' _ _) (by show 1 ≤ maxLen; decide) (Nat.le_refl _)
 have hsz : (W.drew.alloc (.cells (fcells t) 44)).heap.size = W.heap.size + 1:=by simp
 obtain ⟨ar,cr,W5,hap,hO,hF⟩:=tmsPush hown hVd.out (fun q hq=>by rw [hsz] at hq; omega) (by simp; omega); replace hap : AppRun Tryz.prog 26 26 26 (.slice (some ⟨W.heap.size,0,none⟩) 1 1) (.slice a0 args.length c0) (.slice ar (1 + args.length) cr) (W.drew.alloc (.cells (fcells t) 44)) W5:=hap; obtain ⟨m0,m1,m2,m3,m4,m5,m6,-⟩:=tm_cells (show W.drew.heap[w.heap.size]? = _ from h1); obtain ⟨l0,l1,l2,l3,-⟩:=lt_cells h2; obtain ⟨e0,e1,e2,e3,-⟩:=lt_cells (show (W.drew.alloc (.cells (fcells t) 44)).heap[w.heap.size + 1]? = _ from (Below.heap_alloc _ _ _ (show _ < W.heap.size by omega)).trans h2); obtain ⟨i0,i1,i2,i3,-⟩:=lt_cells (show (W.alloc (.cells (fcells t) 44)).heap[w.heap.size + 1]? = _ from (Below.heap_alloc _ _ _ (show _ < W.heap.size by omega)).trans h2)
 have hr5:=(hF.block (w.heap.size + 1 + 1) (by rw [hsz]; omega) (by omega)).trans ((Below.heap_alloc W.drew (.cells (fcells t) 44) _ (show _ < W.heap.size by omega)).trans h3); obtain ⟨q0,q1,q2,q3,fz⟩:=lt_cells hr5; have fz0:=fz 0; have fz1:=fz 1; have fz2:=fz 2; have fz3:=fz 3; have hbw:=hid ((hb.trans ((((Below.refl _ W).drew).alloc (Nat.le_refl _) (.cells (fcells t) 44)).mono hb.size)).trans ((hF.to_below (B:=w.heap.size) (by rw [hsz]; omega) (fun k hk e=>by omega)))); obtain ⟨g0,g1,g2,g3,-⟩:=lt_cells ((hF.block (w.heap.size + 1) (by rw [hsz]; omega) (by omega)).trans ((Below.heap_alloc W.drew (.cells (fcells t) 44) _ (show _ < W.heap.size by omega)).trans h2)); replace hr5:=hid hr5; replace hO:=hid hO; replace hz:=hid hz; clear fz hF hown hVd hW
 go_region_law (refine step_append_shut (by rfl) (.tmp 8) (.tmp 10) (by rfl) (by rfl) (by rfl) hap ?_)
 all_goals go_wp2_with fail
 all_goals refine bodyPost_ret (v:=.agg (lcells 0 false rel (.slice ar (1 + args.length) cr))) (results_cell_row (by rfl) _ _ (w.heap.size + 1 + 1) 28 _ (0,0) _ (by rfl) (lt_set hr5.out 0 false rel (.slice ar (1 + args.length) cr)) Tryz.underlying28 rfl (by kernel_rfl)) rfl ⟨_,rfl,?_,?_⟩
 all_goals have hz':=hz.out
 all_goals first
  | exact ((Fr.of_below hbw.out none').setLt (by omega) 0 false rel _).to_below (Nat.le_refl _) (fun _ _ h=>h)
  | exact hO.out.move goodFl fun k hk hk2=>⟨by unfold from_; omega,lt_other (by omega)⟩
theorem PL1.open {w w' : World} {l : Lt} {e : Ending} (h : PL1 w l e w') : ∃ a c,e = .returned (.agg (lcells l.op l.nt l.rel (.slice a l.args.length c))) ∧ OwnR 44 7 FlR (from_ w.heap.size) w' l.args (.slice a l.args.length c) ∧ Below w.heap.size w w':=by
 obtain ⟨v,rfl,ho,hb⟩:=h; obtain ⟨a,c,rfl,-⟩:=ho.slice; exact ⟨a,c,rfl,ho,hb⟩
set_option maxHeartbeats 1000000 in
set_option maxRecDepth 100000 in
theorem beside_true (x a : Tm) (w : World) : Calls Tryz.prog 77 #[.bool true,.agg (fcells x),.agg (fcells a)] w (PL1 w (compareF 3 x a)):=by
 go_enter Tryz.func77,Tryz.ntmps77
 go_wp2_with fail
 obtain ⟨h1,h2,h3,hz,hb⟩:=alloc3 w (.cells (fcells x) 44) (.cells (fcells a) 44) (.cells #[.int .i64 0,.bool false,.string ⟨#[]⟩,.slice none 0 0] 28)
 with_reducible refine (compare_any _ _ _ _).mono ?_
 intro e W hP; obtain ⟨a',c',rfl,hO,hb2⟩:=PL1.open hP; clear hP; have hr : Hid (W.heap[w.heap.size + 1 + 1]? = some (.cells (lcells 0 false [] (.slice none 0 0)) 28 (0,0))):=hid (below_keep hb2 h3 (by omega)); obtain ⟨q0,q1,q2,q3,fz⟩:=lt_cells hr.out; have fz0:=fz 0; have fz1:=fz 1; have fz2:=fz 2; have fz3:=fz 3; have hbw:=hid (hb.trans (hb2.mono (by omega))); replace hO:=hid hO; replace hz:=hid hz; clear fz hb hb2 h1 h2 h3
 go_wp2_with fail
 refine bodyPost_ret (v:=.agg (lcells 3 false [] (.slice a' 2 c'))) (results_cell_row (by rfl) _ _ (w.heap.size + 1 + 1) 28 _ (0,0) _ (by rfl) (lt_set hr.out 3 false [] (.slice a' 2 c')) Tryz.underlying28 rfl (by kernel_rfl)) rfl ⟨_,rfl,?_,?_⟩
 all_goals have hz':=hz.out
 ·exact hO.out.move goodFl fun k hk hk2=>⟨by unfold from_ at *; omega,lt_other (by unfold from_ at hk2; omega)⟩
 ·exact ((Fr.of_below hbw.out none').setLt (by omega) 3 false [] _).to_below (Nat.le_refl _) (fun _ _ h=>h)
set_option maxHeartbeats 1000000 in
set_option maxRecDepth 100000 in
theorem beside_false (x a : Tm) (w : World) : Calls Tryz.prog 77 #[.bool false,.agg (fcells x),.agg (fcells a)] w (PL1 w (compareF 3 a x)):=by
 go_enter Tryz.func77,Tryz.ntmps77
 go_wp2_with fail
 obtain ⟨h1,h2,h3,hz,hb⟩:=alloc3 w (.cells (fcells x) 44) (.cells (fcells a) 44) (.cells #[.int .i64 0,.bool false,.string ⟨#[]⟩,.slice none 0 0] 28)
 with_reducible refine (compare_any _ _ _ _).mono ?_
 intro e W hP; obtain ⟨a',c',rfl,hO,hb2⟩:=PL1.open hP; clear hP; have hr : Hid (W.heap[w.heap.size + 1 + 1]? = some (.cells (lcells 0 false [] (.slice none 0 0)) 28 (0,0))):=hid (below_keep hb2 h3 (by omega)); obtain ⟨q0,q1,q2,q3,fz⟩:=lt_cells hr.out; have fz0:=fz 0; have fz1:=fz 1; have fz2:=fz 2; have fz3:=fz 3; have hbw:=hid (hb.trans (hb2.mono (by omega))); replace hO:=hid hO; replace hz:=hid hz; clear fz hb hb2 h1 h2 h3
 go_wp2_with fail
 refine bodyPost_ret (v:=.agg (lcells 3 false [] (.slice a' 2 c'))) (results_cell_row (by rfl) _ _ (w.heap.size + 1 + 1) 28 _ (0,0) _ (by rfl) (lt_set hr.out 3 false [] (.slice a' 2 c')) Tryz.underlying28 rfl (by kernel_rfl)) rfl ⟨_,rfl,?_,?_⟩
 all_goals have hz':=hz.out
 ·exact hO.out.move goodFl fun k hk hk2=>⟨by unfold from_ at *; omega,lt_other (by unfold from_ at hk2; omega)⟩
 ·exact ((Fr.of_below hbw.out none').setLt (by omega) 3 false [] _).to_below (Nat.le_refl _) (fun _ _ h=>h)
theorem beside_any (b : Bool) (x a : Tm) (w : World) : Calls Tryz.prog 77 #[.bool b,.agg (fcells x),.agg (fcells a)] w (PL1 w (besideF b x a)):=by
 cases b with
 | true=>exact beside_true x a w
 | false=>exact beside_false x a w
end Go.Proofs.YtbkdakbhagjkhaaGreatDoor
