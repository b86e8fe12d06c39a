/- AskI: AskM, AppN, AskH, AskI, in one text. -/
import Derived.Test.YtffdpoifdahadaaGreatDoorAskG
import Derived.Test.YtffdpoifdahadaaGreatDoorLexW8
import Derived.Test.YtffdpoifdahadaaGreatDoorLexW6
set_option linter.unusedVariables false
namespace Go.Proofs.YtffdpoifdahadaaGreatDoor
open Go.RowKit
open Go.Lib (hid itoa)
structure Ru where
 head:Lt
 agg:Int
 at_:Int
 body:List Lt
structure Qu where
 rules:List Ru
 goal:Lt
def namesP (ts:List Tw):List (List UInt8):=ts.filterMap fun t=>if t.kind=1 then some t.text else none
/-- the next number whose name does not occur -/
def freshP (ns:List (List UInt8)) (pre:List UInt8):Nat→Nat→Nat
 | 0,n=>n
 | f+1,n=>if pre++itoa ((n+1:Nat):Int)∈ns then freshP ns pre f (n+1) else n+1
theorem freshP_le (ns:List (List UInt8)) (pre:List UInt8):∀ f n,freshP ns pre f n≤n+f∧n≤freshP ns pre f n
 | 0,n=>⟨Nat.le_refl _,Nat.le_refl _⟩
 | f+1,n=>by
  unfold freshP; split
  ·have:=freshP_le ns pre f (n+1); omega
  ·omega
theorem nodup_sub {α:Type} [DecidableEq α]:∀ {l m:List α},l.Nodup→(∀ x∈l,x∈m)→l.length≤m.length
 | [],m,_,_=>Nat.zero_le _
 | a::l,m,hn,hs=>by
  have ha:=hs a (by simp); have hn':=List.nodup_cons.1 hn
  have:=nodup_sub (l:=l) (m:=m.erase a) hn'.2 fun x hx=>by
   have hne:x≠a:=fun e=>hn'.1 (e ▸ hx)
   exact (List.mem_erase_of_ne hne).2 (hs x (by simp [hx]))
  rw [List.length_erase_of_mem ha] at this; have:=List.length_pos_of_mem ha; simp only [List.length_cons]; omega
def newVarP (ts:List Tw) (st:PSt):Tm × PSt:=(tmVar ([84]++itoa ((freshP (namesP ts) [84] (ts.length+1) st.vars:Nat):Int)),{ st with vars:=freshP (namesP ts) [84] (ts.length+1) st.vars })
def newRelP (ts:List Tw) (st:PSt):List UInt8 × PSt:=([97,117,120]++itoa ((freshP (namesP ts) [97,117,120] (ts.length+1) st.rels:Nat):Int),{ st with rels:=freshP (namesP ts) [97,117,120] (ts.length+1) st.rels })
def sideE (b:Bool) (r:Option Tm × PSt):Option (Bool × Tm) × PSt:=(r.1.map fun t=>(b,t),r.2)
def sideP (ts:List Tw) (st:PSt):Option (Bool × Tm) × PSt :=
 if isP ts st 1 [98,101,102,111,114,101] then sideE true (termP ts (nextP st))
 else if isP ts st 1 [97,102,116,101,114] then sideE false (termP ts (nextP st))
 else (none,failP st)
def compareF (op:Int) (a b:Tm):Lt:=⟨op,false,[],[a,b]⟩
def timedF (x:Tm) (l:Lt):Lt:=⟨0,false,l.rel,x::l.args⟩
def happensF (x:Tm):Lt:=⟨0,false,[101,118,101,110,116],[x,tmVar [95]]⟩
def besideF (b:Bool) (x a:Tm):Lt:=if b then compareF 3 x a else compareF 3 a x
/-- the terms of distinct variables that are not in seen -/
def dvars (seen:List (List UInt8)):List Tm→List Tm
 | []=>[]
 | t::l=>if t.var∈seen then dvars seen l else t::dvars (t.var::seen) l
def withF (rel:List UInt8) (l:Lt) (terms:List Tm):Lt:=⟨0,false,rel,terms++dvars [[],[95]] l.args⟩
def opsF (s:List UInt8):Option (Int × Bool) :=
 if s=[61] then some (1,false) else if s=[33,61] then some (2,false) else if s=[60] then some (3,false)
 else if s=[60,61] then some (4,false) else if s=[62] then some (3,true) else if s=[62,61] then some (4,true) else none
def addE (minus:Bool) (a b:Tm):Option Tm × PSt→Option Lt × PSt
 | (none,s)=>(none,s)
 | (some c,s)=>(some ⟨5,false,[],if minus then [b,a,c] else [a,b,c]⟩,s)
def cmpE (ts:List Tw) (op:Int) (sw:Bool) (a:Tm):Option Tm × PSt→Option Lt × PSt
 | (none,s)=>(none,s)
 | (some b,s2) =>
  if op=1∧isP ts s2 4 [43]=true then addE false a b (termP ts (nextP s2))
  else if op=1∧isP ts s2 4 [45]=true then addE true a b (termP ts (nextP s2))
  else (some (if sw then compareF op b a else compareF op a b),s2)
def comparisonP (ts:List Tw) (st:PSt):Option Lt × PSt:=match termP ts st with
 | (none,s)=>(none,s)
 | (some a,s1)=>if (tokP ts s1.nx).kind=4 then
   match opsF (tokP ts s1.nx).text with
   | none=>(none,failP s1)
   | some (op,sw)=>cmpE ts op sw a (termP ts (nextP s1))
  else (none,failP s1)
def onceE (ts:List Tw) (l:Lt):Option (Bool × Tm) × PSt→Option (List Lt) × PSt
 | (none,s)=>(none,s)
 | (some (b,a),s)=>(some [timedF (newVarP ts s).1 l,besideF b (newVarP ts s).1 a],(newVarP ts s).2)
def onceP (ts:List Tw) (st:PSt):Option (List Lt) × PSt:=match atomP ts st with
 | (none,s)=>(none,s)
 | (some l,s)=>onceE ts l (sideP ts s)
def neg (l:Lt):Lt:=⟨l.op,true,l.rel,l.args⟩
/-- never, behind its side: y, x, the relation -/
def neverF (y x:Tm) (rel:List UInt8) (l:Lt) (b:Bool) (a:Tm):List Lt × List Ru :=
 ([neg (withF rel l [a])],[⟨withF rel l [y],0,0,[happensF y,timedF x l,besideF b x y]⟩])
def neverE (ts:List Tw) (l:Lt):Option (Bool × Tm) × PSt→Option (List Lt × List Ru) × PSt
 | (none,s)=>(none,s)
 | (some (b,a),s) =>
  let v1:=newVarP ts s
  let v2:=newVarP ts v1.2
  let r:=newRelP ts v2.2
  (some (neverF v1.1 v2.1 r.1 l b a),r.2)
def neverP (ts:List Tw) (st:PSt):Option (List Lt × List Ru) × PSt:=match atomP ts st with
 | (none,s)=>(none,s)
 | (some l,s)=>neverE ts l (sideP ts s)
def sinceF (x y z w:Tm) (rel:List UInt8) (l m:Lt) (a:Tm):List Lt × List Ru :=
 ([timedF x l,compareF 4 x a,neg (withF rel m [x,a])],[⟨withF rel m [y,z],0,0,[timedF w m,happensF y,happensF z,compareF 3 y w,compareF 4 w z]⟩])
def sinceE (ts:List Tw) (l m:Lt):Option Tm × PSt→Option (List Lt × List Ru) × PSt
 | (none,s)=>(none,s)
 | (some a,s) =>
  let v1:=newVarP ts s
  let v2:=newVarP ts v1.2
  let v3:=newVarP ts v2.2
  let v4:=newVarP ts v3.2
  let r:=newRelP ts v4.2
  (some (sinceF v1.1 v2.1 v3.1 v4.1 r.1 l m a),r.2)
def sinceM (ts:List Tw) (l:Lt):Option Lt × PSt→Option (List Lt × List Ru) × PSt
 | (none,s)=>(none,s)
 | (some m,s)=>if isP ts s 1 [97,116] then sinceE ts l m (termP ts (nextP s)) else (none,failP s)
def sinceP (ts:List Tw) (st:PSt):Option (List Lt × List Ru) × PSt:=match atomP ts st with
 | (none,s)=>(none,s)
 | (some l,s)=>if isP ts s 1 [110,111] then sinceM ts l (atomP ts (nextP s)) else (none,failP s)
def litE (f:Lt→Lt) (r:Option Lt × PSt):Option (List Lt × List Ru) × PSt:=(r.1.map fun l=>([f l],[]),r.2)
def litsE (r:Option (List Lt) × PSt):Option (List Lt × List Ru) × PSt:=(r.1.map fun l=>(l,[]),r.2)
def literalP (ts:List Tw) (st:PSt):Option (List Lt × List Ru) × PSt :=
 if isP ts st 1 [110,111,116] then litE neg (atomP ts (nextP st))
 else if isP ts st 1 [111,110,99,101] then litsE (onceP ts (nextP st))
 else if isP ts st 1 [110,101,118,101,114] then neverP ts (nextP st)
 else if isP ts st 1 [115,105,110,99,101] then sinceP ts (nextP st)
 else if (tokP ts st.nx).kind=1∧relF (tokP ts st.nx).text=true∧(tokP ts (st.nx+1)).kind=4∧(tokP ts (st.nx+1)).text=[40] then litE id (atomP ts st)
 else litE id (comparisonP ts st)
def litsP (ts:List Tw):Nat→PSt→List Lt→List Ru→Option (List Lt × List Ru) × PSt
 | 0,st,_,_=>(none,st)
 | f+1,st,body,aux=>match literalP ts st with
  | (none,s)=>(none,s)
  | (some (ls,au),s1)=>if isP ts s1 4 [44] then litsP ts f (nextP s1) (body++ls) (aux++au) else (some (body++ls,aux++au),s1)
/-- wildcards numbered -/
def numT:Nat→List Tm→List Tm
 | _,[]=>[]
 | n,t::l=>if t.var=[95] then ⟨[95]++itoa ((n+1:Nat):Int),t.val⟩::numT (n+1) l else t::numT n l
def cntT (l:List Tm):Nat:=(l.filter fun t=>t.var == [95]).length
def numL:Nat→List Lt→List Lt
 | _,[]=>[]
 | n,x::l=>⟨x.op,x.nt,x.rel,numT n x.args⟩::numL (n+cntT x.args) l
def numR (r:Ru):Ru:=⟨r.head,r.agg,r.at_,numL 0 r.body⟩
def ruleE (ts:List Tw) (h:Hd):Option (List Lt × List Ru) × PSt→Option (List Ru) × PSt
 | (none,s)=>(none,s)
 | (some (body,aux),s)=>if isP ts s 4 [46] then (some ((⟨⟨0,false,h.rel,h.args⟩,h.agg,h.at_,body⟩::aux).map numR),nextP s) else (none,failP s)
def ruleP (ts:List Tw) (st:PSt):Option (List Ru) × PSt:=match headP ts st with
 | (none,s)=>(none,s)
 | (some h,s1)=>ruleE ts h (if isP ts s1 4 [58,45] then litsP ts (ts.length+1) (nextP s1) [] [] else (some ([],[]),s1))
def goalE (ts:List Tw) (rules:List Ru):Option Lt × PSt→Option Qu × PSt
 | (none,s)=>(none,s)
 | (some l,s)=>if s.nx < ts.length then (none,failP s) else (some ⟨rules,⟨l.op,l.nt,l.rel,numT 0 l.args⟩⟩,s)
def queryP (ts:List Tw):Nat→PSt→List Ru→Option Qu × PSt
 | 0,st,_=>(none,st)
 | f+1,st,rules=>if isP ts st 4 [63] then goalE ts rules (atomP ts (nextP st))
  else match ruleP ts st with
   | (none,s)=>(none,s)
   | (some rs,s)=>if 64 < (rules++rs).length then (none,{ s with err:=some (3,st.nx) }) else queryP ts f s (rules++rs)
def st0:PSt:=⟨0,0,0,none⟩
def posF (toks:List Tk) (size:Nat) (i:Nat):Int:=match toks[i]? with
 | some t=>t.pos
 | none=>size
/-- Parse -/
def parseF (s:List UInt8):Except (Int × Int) Qu:=match scanF s with
 | .error x=>.error x
 | .ok l=>match queryP (l.map tw) (l.length+1) st0 [] with
  | (some q,_)=>.ok q
  | (none,st)=>match st.err with
   | some (e,i)=>.error (e,posF l s.length i)
   | none=>.error (0,0)
end Go.Proofs.YtffdpoifdahadaaGreatDoor
namespace Go.Proofs.YtffdpoifdahadaaGreatDoor
open Go.RowKit
end Go.Proofs.YtffdpoifdahadaaGreatDoor
namespace Go.Proofs.YtffdpoifdahadaaGreatDoor
open Go.RowKit
open Go.Lib (hid)
abbrev tmRow (l:List Tm):List Value:=l.flatMap fun t=>(fcells t).toList
theorem tmRow_len (l:List Tm):(tmRow l).length=l.length * 7:=by
 induction l with
 | nil=>rfl
 | cons t l ih=>show (List.flatMap _ (t::l)).length=_; rw [List.flatMap_cons,List.length_append,List.length_cons]; show 7+(tmRow l).length=(l.length+1) * 7; rw [ih]; omega
theorem tmRow_at (l:List Tm) (i:Nat) (t:Tm) (h:l[i]? = some t) (j:Nat) (u:Value) (hu:(fcells t).toList[j]? = some u):(tmRow l)[i * 7+j]? = some u:=by
 induction l generalizing i with
 | nil=>simp at h
 | cons s l ih =>
  have hj:j < 7:=(List.getElem?_eq_some_iff.1 hu).1; show (List.flatMap _ (s::l))[i * 7+j]? = _; rw [List.flatMap_cons]
  cases i with
  | zero=>simp at h; subst h; rw [List.getElem?_append_left (by show _ < 7; omega)]; simpa using hu
  | succ i =>
   rw [List.getElem?_append_right (by show 7≤_; omega)]; show (tmRow l)[(i+1) * 7+j - 7]? = _; rw [show (i+1) * 7+j - 7=i * 7+j by omega]; exact ih i (by simpa using h)
theorem own_tms {w:World} {b:Nat} {l:List Tm} {S:Foot} (h:w.heap[b]? = some (.cells (tmRow l).toArray 63 (0,0))) (hl:l.length≤maxLen) (hS:S b):OwnR 63 7 FlR S w l (.slice (some ⟨b,0,none⟩) l.length l.length) :=
 ⟨tmRow l,⟨tmRow_len l,Or.inr ⟨b,l.length,_,rfl,Nat.zero_le _,h,Nat.le_refl _,hl,by have:=tmRow_len l; simp only [List.size_toArray]; omega,by have:=tmRow_len l; rw [List.take_of_length_le (by rw [this]; exact Nat.le_refl _)]⟩⟩,fun k hk=>by simp [Value.ownBlock] at hk; exact hk ▸ hS,fun i x hx=>⟨(fcells x).toList,fun j u hu=>tmRow_at l i x hx j u hu,rfl⟩⟩
/-- a literal made anew -/
def PL1 (w:World) (l:Lt) (e:Ending) (w':World):Prop :=
 ∃ v,e=.returned (.agg (lcells l.op l.nt l.rel v))∧OwnR 63 7 FlR (from_ w.heap.size) w' l.args v∧Below w.heap.size w w'
set_option maxHeartbeats 1000000 in
set_option maxRecDepth 100000 in
theorem compare_any (op:Int) (a b:Tm) (w:World):Calls Tryz.prog 120 #[iv op,.agg (fcells a),.agg (fcells b)] w (PL1 w ⟨op,false,[],[a,b]⟩):=by
 go_enter Tryz.func120,Tryz.ntmps120
 go_wp2_with fail
 have hE:∀ (o0 o1 o2 o3:Obj),((((w.alloc o0).alloc o1).alloc o2).alloc o3).heap[w.heap.size+1+1]? = some o2∧((((w.alloc o0).alloc o1).alloc o2).alloc o3).heap[w.heap.size+1+1+1]? = some o3∧Below w.heap.size w ((((w.alloc o0).alloc o1).alloc o2).alloc o3):=fun o0 o1 o2 o3=>by
  have z1:(w.alloc o0).heap.size=w.heap.size+1:=by simp
  have z2:((w.alloc o0).alloc o1).heap.size=w.heap.size+1+1:=by simp
  have z3:(((w.alloc o0).alloc o1).alloc o2).heap.size=w.heap.size+1+1+1:=by simp
  refine ⟨?_,?_,((((Below.refl _ w).alloc (Nat.le_refl _) o0).alloc (by rw [z1]; omega) o1).alloc (by rw [z2]; omega) o2).alloc (by rw [z3]; omega) o3⟩
  ·rw [Below.heap_alloc _ _ _ (by rw [z3]; omega),← z2]; exact heap_alloc_new' _ _
  ·rw [← z3]; exact heap_alloc_new' _ _
 obtain ⟨h1,h2,h3⟩:=hE (.cells (fcells a) 63) (.cells (fcells b) 63) (.cells (lcells op false [] (.slice (some ⟨w.heap.size+1+1+1,0,none⟩) 2 2)) 24) (.cells (tmRow [a,b]).toArray 63); refine bodyPost_ret (v:=.agg (lcells op false [] (.slice (some ⟨w.heap.size+1+1+1,0,none⟩) 2 2))) (results_cell_row (by rfl) _ _ (w.heap.size+1+1) 24 _ (0,0) _ (by rfl) h1 Tryz.underlying24 rfl (by kernel_rfl)) rfl ⟨_,rfl,own_tms h2 (by show 2≤maxLen; decide) (by unfold from_; omega),h3⟩
end Go.Proofs.YtffdpoifdahadaaGreatDoor
namespace Go.Proofs.YtffdpoifdahadaaGreatDoor
open Go.RowKit
open Go.Lib (hid itoa)
theorem PL1.open {w w':World} {l:Lt} {e:Ending} (h:PL1 w l e w'):∃ a c,e=.returned (.agg (lcells l.op l.nt l.rel (.slice a l.args.length c)))∧OwnR 63 7 FlR (from_ w.heap.size) w' l.args (.slice a l.args.length c)∧Below w.heap.size w w':=by
 obtain ⟨v,rfl,ho,hb⟩:=h; obtain ⟨a,c,rfl,-⟩:=ho.slice; exact ⟨a,c,rfl,ho,hb⟩
end Go.Proofs.YtffdpoifdahadaaGreatDoor
