/- AskI: AskM, AppN, AskH, AskI, in one text. -/
import Derived.Test.YtffdpoifdahadaaGreatDoorAskG
import Derived.Test.YtffdpoifdahadaaGreatDoorLexW8
import Derived.Test.YtffdpoifdahadaaGreatDoorLexW6
set_option linter.unusedVariables false
set_option maxHeartbeats 40000000
set_option maxRecDepth 100000
namespace Go.Proofs.YtffdpoifdahadaaGreatDoor
open Go.RowKit
open Go.Lib (hid itoa)
structure Ru where
 head:Lt
 agg:Int
 at_:Int
 body:List Lt
structure Qu where
 rules:List Ru
 goal:Lt
def cd (ts:List Tw):List (List UInt8):=ts.filterMap fun t=>if t.kind=1 then some t.text else none
theorem mq (ts:List Tw):(cd ts).length<=ts.length:=List.length_filterMap_le _ _
def eB (ns:List (List UInt8)) (pre:List UInt8):Nat->Nat->Nat
 | 0,n=>n
 | f+1,n=>if pre++itoa ((n+1:Nat):Int)∈ns then eB ns pre f (n+1) else n+1
theorem i8 (ns:List (List UInt8)) (pre:List UInt8):∀ f n,eB ns pre f n<=n+f/\n<=eB ns pre f n
 | 0,n=>⟨zM _,zM _⟩
 | f+1,n=>by
  unfold eB; split
  ·have:=i8 ns pre f (n+1); omega
  ·omega
theorem oS {a b:Nat} (ha:a < 9223372036854775808) (hb:b < 9223372036854775808) (h:itoa (a:Int)=itoa (b:Int)):a=b:=by
 have h1:=gY (a:Int) (-9223372036854775808) 9223372036854775807 (by omega) (by omega) (by omega) (by omega); have h2:=gY (b:Int) (-9223372036854775808) 9223372036854775807 (by omega) (by omega) (by omega) (by omega); rw [h,h2] at h1; injection h1 with h1; omega
theorem ky {α:Type} [DecidableEq α]:∀ {l m:List α},l.Nodup->(∀ x∈l,x∈m)->l.length<=m.length
 | [],m,_,_=>zW _
 | a::l,m,hn,hs=>by
  have ha:=hs a (by simp); have hn':=List.nodup_cons.1 hn
  have:=ky (l:=l) (m:=m.erase a) hn'.2 fun x hx=>by
   have hne:x≠a:=fun e=>hn'.1 (e ▸ hx)
   exact (List.mem_erase_of_ne hne).2 (hs x (by simp [hx]))
  rw [List.length_erase_of_mem ha] at this; have:=List.length_pos_of_mem ha; simp only [zT]; omega
theorem mI (ns:List (List UInt8)) (pre:List UInt8) (n f:Nat) (hf:ns.length < f) (hb:n+f < 9223372036854775808):∃ j,1<=j/\j<=f/\pre++itoa ((n+j:Nat):Int) ∉ ns:=by
 apply Classical.byContradiction; intro hno
 have hall:∀ j,1<=j->j<=f->pre++itoa ((n+j:Nat):Int)∈ns:=fun j h1 h2=>Classical.byContradiction fun h=>hno ⟨j,h1,h2,h⟩
 have hd:((List.range f).map fun j=>pre++itoa ((n+(j+1):Nat):Int)).Nodup:=by
  unfold List.Nodup; rw [List.pairwise_map]; refine List.nodup_range.imp_of_mem ?_; intro a b ha hb2 hne e; rw [List.mem_range] at ha hb2; have e2:=oS (by omega) (by omega) (List.append_cancel_left e); omega
 have:=ky hd (m:=ns) fun x hx=>by
  obtain ⟨j,hj,rfl⟩:=List.mem_map.1 hx; rw [List.mem_range] at hj; exact hall (j+1) (by omega) (by omega)
 simp at this; omega
def aq (ts:List Tw) (st:PSt):Tm × PSt:=(bh ([84]++itoa ((eB (cd ts) [84] (ts.length+1) st.vars:Nat):Int)),{ st with vars:=eB (cd ts) [84] (ts.length+1) st.vars })
def bg (ts:List Tw) (st:PSt):List UInt8 × PSt:=([97,117,120]++itoa ((eB (cd ts) [97,117,120] (ts.length+1) st.rels:Nat):Int),{ st with rels:=eB (cd ts) [97,117,120] (ts.length+1) st.rels })
def im (b:Bool) (r:Option Tm × PSt):Option (Bool × Tm) × PSt:=(r.1.map fun t=>(b,t),r.2)
def cW (ts:List Tw) (st:PSt):Option (Bool × Tm) × PSt :=
 if isP ts st 1 [98,101,102,111,114,101] then im true (aT ts (am st))
 else if isP ts st 1 [97,102,116,101,114] then im false (aT ts (am st))
 else (none,bf st)
def aE (op:Int) (a b:Tm):Lt:=⟨op,false,[],[a,b]⟩
def aS (x:Tm) (l:Lt):Lt:=⟨0,false,l.rel,x::l.args⟩
def aQ (x:Tm):Lt:=⟨0,false,[101,118,101,110,116],[x,bh [95]]⟩
def bM (b:Bool) (x a:Tm):Lt:=if b then aE 3 x a else aE 3 a x
def dg (seen:List (List UInt8)):List Tm->List Tm
 | []=>[]
 | t::l=>if t.var∈seen then dg seen l else t::dg (t.var::seen) l
def bq (rel:List UInt8) (l:Lt) (terms:List Tm):Lt:=⟨0,false,rel,terms++dg [[],[95]] l.args⟩
def ir (s:List UInt8):Option (Int × Bool) :=
 if s=[61] then some (1,false) else if s=[33,61] then some (2,false) else if s=[60] then some (3,false)
 else if s=[60,61] then some (4,false) else if s=[62] then some (3,true) else if s=[62,61] then some (4,true) else none
def ki (minus:Bool) (a b:Tm):Option Tm × PSt->Option Lt × PSt
 | (none,s)=>(none,s)
 | (some c,s)=>(some ⟨5,false,[],if minus then [b,a,c] else [a,b,c]⟩,s)
def lh (ts:List Tw) (op:Int) (sw:Bool) (a:Tm):Option Tm × PSt->Option Lt × PSt
 | (none,s)=>(none,s)
 | (some b,s2) =>
  if op=1/\isP ts s2 4 [43]=true then ki false a b (aT ts (am s2))
  else if op=1/\isP ts s2 4 [45]=true then ki true a b (aT ts (am s2))
  else (some (if sw then aE op b a else aE op a b),s2)
def aV (ts:List Tw) (st:PSt):Option Lt × PSt:=match aT ts st with
 | (none,s)=>(none,s)
 | (some a,s1)=>if (br ts s1.nx).kind=4 then
   match ir (br ts s1.nx).text with
   | none=>(none,bf s1)
   | some (op,sw)=>lh ts op sw a (aT ts (am s1))
  else (none,bf s1)
def pM (ts:List Tw) (l:Lt):Option (Bool × Tm) × PSt->Option (List Lt) × PSt
 | (none,s)=>(none,s)
 | (some (b,a),s)=>(some [aS (aq ts s).1 l,bM b (aq ts s).1 a],(aq ts s).2)
def eM (ts:List Tw) (st:PSt):Option (List Lt) × PSt:=match aY ts st with
 | (none,s)=>(none,s)
 | (some l,s)=>pM ts l (cW ts s)
def neg (l:Lt):Lt:=⟨l.op,true,l.rel,l.args⟩
def eN (y x:Tm) (rel:List UInt8) (l:Lt) (b:Bool) (a:Tm):List Lt × List Ru :=
 ([neg (bq rel l [a])],[⟨bq rel l [y],0,0,[aQ y,aS x l,bM b x y]⟩])
def mp (ts:List Tw) (l:Lt):Option (Bool × Tm) × PSt->Option (List Lt × List Ru) × PSt
 | (none,s)=>(none,s)
 | (some (b,a),s) =>
  let v1:=aq ts s
  let v2:=aq ts v1.2
  let r:=bg ts v2.2
  (some (eN v1.1 v2.1 r.1 l b a),r.2)
def dN (ts:List Tw) (st:PSt):Option (List Lt × List Ru) × PSt:=match aY ts st with
 | (none,s)=>(none,s)
 | (some l,s)=>mp ts l (cW ts s)
def eJ (x y z w:Tm) (rel:List UInt8) (l m:Lt) (a:Tm):List Lt × List Ru :=
 ([aS x l,aE 4 x a,neg (bq rel m [x,a])],[⟨bq rel m [y,z],0,0,[aS w m,aQ y,aQ z,aE 3 y w,aE 4 w z]⟩])
def lS (ts:List Tw) (l m:Lt):Option Tm × PSt->Option (List Lt × List Ru) × PSt
 | (none,s)=>(none,s)
 | (some a,s) =>
  let v1:=aq ts s
  let v2:=aq ts v1.2
  let v3:=aq ts v2.2
  let v4:=aq ts v3.2
  let r:=bg ts v4.2
  (some (eJ v1.1 v2.1 v3.1 v4.1 r.1 l m a),r.2)
def jn (ts:List Tw) (l:Lt):Option Lt × PSt->Option (List Lt × List Ru) × PSt
 | (none,s)=>(none,s)
 | (some m,s)=>if isP ts s 1 [97,116] then lS ts l m (aT ts (am s)) else (none,bf s)
def dJ (ts:List Tw) (st:PSt):Option (List Lt × List Ru) × PSt:=match aY ts st with
 | (none,s)=>(none,s)
 | (some l,s)=>if isP ts s 1 [110,111] then jn ts l (aY ts (am s)) else (none,bf s)
def gw (f:Lt->Lt) (r:Option Lt × PSt):Option (List Lt × List Ru) × PSt:=(r.1.map fun l=>([f l],[]),r.2)
def kS (r:Option (List Lt) × PSt):Option (List Lt × List Ru) × PSt:=(r.1.map fun l=>(l,[]),r.2)
def bx (ts:List Tw) (st:PSt):Option (List Lt × List Ru) × PSt :=
 if isP ts st 1 [110,111,116] then gw neg (aY ts (am st))
 else if isP ts st 1 [111,110,99,101] then kS (eM ts (am st))
 else if isP ts st 1 [110,101,118,101,114] then dN ts (am st)
 else if isP ts st 1 [115,105,110,99,101] then dJ ts (am st)
 else if (br ts st.nx).kind=1/\dz (br ts st.nx).text=true/\(br ts (st.nx+1)).kind=4/\(br ts (st.nx+1)).text=[40] then gw id (aY ts st)
 else gw id (aV ts st)
def cp (ts:List Tw):Nat->PSt->List Lt->List Ru->Option (List Lt × List Ru) × PSt
 | 0,st,_,_=>(none,st)
 | f+1,st,body,aux=>match bx ts st with
  | (none,s)=>(none,s)
  | (some (ls,au),s1)=>if isP ts s1 4 [44] then cp ts f (am s1) (body++ls) (aux++au) else (some (body++ls,aux++au),s1)
def cj:Nat->List Tm->List Tm
 | _,[]=>[]
 | n,t::l=>if t.var=[95] then ⟨[95]++itoa ((n+1:Nat):Int),t.val⟩::cj (n+1) l else t::cj n l
def cB (l:List Tm):Nat:=(l.filter fun t=>t.var == [95]).length
def g7:Nat->List Lt->List Lt
 | _,[]=>[]
 | n,x::l=>⟨x.op,x.nt,x.rel,cj n x.args⟩::g7 (n+cB x.args) l
def eF (r:Ru):Ru:=⟨r.head,r.agg,r.at_,g7 0 r.body⟩
def io (ts:List Tw) (h:Hd):Option (List Lt × List Ru) × PSt->Option (List Ru) × PSt
 | (none,s)=>(none,s)
 | (some (body,aux),s)=>if isP ts s 4 [46] then (some ((⟨⟨0,false,h.rel,h.args⟩,h.agg,h.at_,body⟩::aux).map eF),am s) else (none,bf s)
def fC (ts:List Tw) (st:PSt):Option (List Ru) × PSt:=match dC ts st with
 | (none,s)=>(none,s)
 | (some h,s1)=>io ts h (if isP ts s1 4 [58,45] then cp ts (ts.length+1) (am s1) [] [] else (some ([],[]),s1))
def j7 (ts:List Tw) (rules:List Ru):Option Lt × PSt->Option Qu × PSt
 | (none,s)=>(none,s)
 | (some l,s)=>if s.nx < ts.length then (none,bf s) else (some ⟨rules,⟨l.op,l.nt,l.rel,cj 0 l.args⟩⟩,s)
def cR (ts:List Tw):Nat->PSt->List Ru->Option Qu × PSt
 | 0,st,_=>(none,st)
 | f+1,st,rules=>if isP ts st 4 [63] then j7 ts rules (aY ts (am st))
  else match fC ts st with
   | (none,s)=>(none,s)
   | (some rs,s)=>if 64 < (rules++rs).length then (none,{ s with err:=some (3,st.nx) }) else cR ts f s (rules++rs)
def st0:PSt:=⟨0,0,0,none⟩
def vO (toks:List Tk) (size:Nat) (i:Nat):Int:=match toks[i]? with
 | some t=>t.pos
 | none=>size
def de (s:List UInt8):Except (Int × Int) Qu:=match ef s with
 | .error x=>.error x
 | .ok l=>match cR (l.map tw) (l.length+1) st0 [] with
  | (some q,_)=>.ok q
  | (none,st)=>match st.err with
   | some (e,i)=>.error (e,vO l s.length i)
   | none=>.error (0,0)
end Go.Proofs.YtffdpoifdahadaaGreatDoor
namespace Go.Proofs.YtffdpoifdahadaaGreatDoor
open Go.RowKit
theorem aO.appendN {α:Type} {P:Program} {E t ty:TypeId} {sz bytes:Nat} {R:Rel α} {i:TypeInfo} {z:Value} (hR:dA sz R) (ht:P.underlying t=some (.slice E)) (hi:P.info? E=some i) (hz:i.zero=some z) (hsize:i.size=sz) (hby:i.bytes=bytes) (hzs:z.cells.size=sz) (hsz:0 < sz)
  {S:aP} {w:World} {l m:List α} {v:Value} (h:aO E sz R S w l v) {B:Nat} {vs:Value} {news:List Value} (hr:Row B w sz vs m.length news) (hone:∀ u∈news,u.oneCell'=true)
  (hx:∀ n y,m[n]? = some y->∃ cs,(∀ j u,cs[j]? = some u->news[n * sz+j]? = some u)/\R (fun k=>S k/\v.ownBlock≠some k) w y cs) (h63:l.length+m.length<=maxLen) (hbytes:(l.length+m.length) * bytes<=140737488355328) (hS:∀ k,w.heap.size<=k->S k) :
  ∃ v' w',cH P t t ty v vs v' w w'/\aO E sz R S w' (l++m) v'/\Fr S w w':=by
 obtain ⟨xs,h1,h2,h3⟩:=h; obtain ⟨v',w',hrun,hown,hg,hv⟩:=jB w 0 t ty E i z sz bytes ht hi hz hsize hby hzs hsz v l.length xs h1 B vs m.length news hr hone h63 hbytes (zW _)
 have hkeep:∀ {y:α} {ds:List Value},R (fun k=>S k/\v.ownBlock≠some k) w y ds->R (fun k=>S k/\v'.ownBlock≠some k) w' y ds:=by
  intro y ds hy
  refine hR.move hy fun k hk hu=>⟨⟨hu.1,?_⟩,hg.block k hk (fun e=>hu.2 e.symm)⟩
  rcases hv with hv | hv
  ·rw [hv]; exact hu.2
  ·rw [hv]; intro e; injection e with e; omega
 refine ⟨v',w',⟨hrun⟩,⟨xs++news,by rw [zQ]; exact hown,fun k hk=>?_,fun i y hy=>?_⟩,⟨hg.os,hg.tape,hg.output,hg.size,fun k hk hs=>hg.block k hk (fun e=>hs (h2 k e.symm))⟩⟩
 ·rcases hv with hv | hv
  ·exact h2 k (hv ▸ hk)
  ·rw [hv] at hk; injection hk with hk; subst hk; exact hS _ (zM _)
 ·by_cases hil:i < l.length
  ·rw [Aa hil] at hy
   obtain ⟨ds,h4,h5⟩:=h3 i y hy; refine ⟨ds,fun j u hu=>?_,hkeep h5⟩; have:=h4 j u hu; rw [Aa (List.getElem?_eq_some_iff.1 this).1]; exact this
  ·rw [Ab (by omega)] at hy
   obtain ⟨ds,h4,h5⟩:=hx _ y hy; refine ⟨ds,fun j u hu=>?_,hkeep h5⟩; have hxl:=h1.1
   have hm:i * sz=l.length * sz+(i - l.length) * sz:=by rw [← Nat.add_mul]; congr 1; omega
   rw [Ab (by omega),show i * sz+j - xs.length=(i - l.length) * sz+j by omega]; exact h4 j u hu
end Go.Proofs.YtffdpoifdahadaaGreatDoor
namespace Go.Proofs.YtffdpoifdahadaaGreatDoor
open Go.RowKit
open Go.Lib (hid)
abbrev fB (l:List Tm):List Value:=l.flatMap fun t=>(aB t).toList
theorem gy (l:List Tm):(fB l).length=l.length * 7:=by
 induction l with
 | nil=>rfl
 | cons t l ih=>show (List.flatMap _ (t::l)).length=_; rw [List.flatMap_cons,zQ,zT]; show 7+(fB l).length=(l.length+1) * 7; rw [ih]; omega
theorem lM (l:List Tm) (i:Nat) (t:Tm) (h:l[i]? = some t) (j:Nat) (u:Value) (hu:(aB t).toList[j]? = some u):(fB l)[i * 7+j]? = some u:=by
 induction l generalizing i with
 | nil=>simp at h
 | cons s l ih =>
  have hj:j < 7:=(List.getElem?_eq_some_iff.1 hu).1; show (List.flatMap _ (s::l))[i * 7+j]? = _; rw [List.flatMap_cons]
  cases i with
  | zero=>simp at h; subst h; rw [Aa (by show _ < 7; omega)]; simpa using hu
  | succ i =>
   rw [Ab (by show 7<=_; omega)]; show (fB l)[(i+1) * 7+j - 7]? = _; rw [show (i+1) * 7+j - 7=i * 7+j by omega]; exact ih i (by simpa using h)
theorem fg {w:World} {b:Nat} {l:List Tm} {S:aP} (h:w.heap[b]? = some (.cells (fB l).toArray 63 (0,0))) (hl:l.length<=maxLen) (hS:S b):aO 63 7 FlR S w l (.slice (some ⟨b,0,none⟩) l.length l.length) :=
 ⟨fB l,⟨gy l,Or.inr ⟨b,l.length,_,rfl,zW _,h,zM _,hl,by have:=gy l; simp only [List.size_toArray]; omega,by have:=gy l; rw [List.take_of_length_le (by rw [this]; exact zM _)]⟩⟩,fun k hk=>by simp [Value.ownBlock] at hk; exact hk ▸ hS,fun i x hx=>⟨(aB x).toList,fun j u hu=>lM l i x hx j u hu,rfl⟩⟩
theorem q_ (l:List Tm) (k:Nat) (u:Value) (h:(fB l)[k]? = some u):∃ i t,k / 7=i/\l[i]? = some t/\(aB t).toList[k % 7]? = some u:=by
 have hk:=(List.getElem?_eq_some_iff.1 h).1; rw [gy] at hk
 have hi:k / 7 < l.length:=by omega
 refine ⟨k / 7,l[k / 7],rfl,zR hi,?_⟩
 have hm:k % 7 < (aB l[k / 7]).toList.length:=by show k % 7 < 7; omega
 have:=lM l (k / 7) l[k / 7] (zR hi) (k % 7) _ (zR hm); rw [show k / 7 * 7+k % 7=k by omega,h] at this; rw [zR hm]; exact this.symm
theorem xW {S:aP} {w:World} {l:List Tm} {v:Value} (h:SlR 7 FlR S w l v):Row w.heap.size w 7 v l.length (fB l):=by
 obtain ⟨a,cap,b,off,cs,rfl,hc,hn,hcell,hR⟩:=h; refine ⟨a,cap,b,off,rfl,gy l,fun h0=>⟨(hn h0).1,(hn h0).2.2⟩,fun j hj=>?_⟩; obtain ⟨i,t,hi,ht,hu⟩:=q_ l j _ (zR hj); have hf:cs i=(aB t).toList:=hR i t ht; have:=hcell i (List.getElem?_eq_some_iff.1 ht).1 (j % 7) _ (by rw [hf]; exact hu); rw [show off+j=off+i * 7+j % 7 by omega]; exact this
theorem sF {S S2:aP} {w:World} {l m:List Tm} {v vs:Value} (h:aO 63 7 FlR S w l v) (hm:SlR 7 FlR S2 w m vs) (hS:∀ q,w.heap.size<=q->S q) (hl:l.length+m.length<=1048576) :
  ∃ a c w',cH Tryz.prog 22 22 22 v vs (.slice a (l.length+m.length) c) w w'/\aO 63 7 FlR S w' (l++m) (.slice a (l.length+m.length) c)/\Fr S w w':=by
 obtain ⟨i0,hi,hz0,hz1,hz2⟩:=info_parts wQ
 have hone:∀ u∈fB m,u.oneCell'=true:=fun u hu=>by
  obtain ⟨t,ht,hu⟩:=List.mem_flatMap.1 hu; exact aD.one (S:=S) (w:=w) (x:=t) rfl u hu
 obtain ⟨v',w',h1,h2,h3⟩:=aO.appendN (t:=22) (ty:=22) aD (by kernel_rfl) hi hz0 hz1 hz2 rfl (by decide) h (xW hm) hone (fun n y hy=>⟨(aB y).toList,fun j u hu=>lM m n y hy j u hu,rfl⟩) (by unfold maxLen; omega) (by omega) hS; obtain ⟨a,c,rfl,-,-⟩:=h2.slice; rw [zQ] at h1 h2; exact ⟨a,c,w',h1,h2,h3⟩
def PL1 (w:World) (l:Lt) (e:Ending) (w':World):Prop :=
 ∃ v,e=.returned (.agg (ap l.op l.nt l.rel v))/\aO 63 7 FlR (aF w.heap.size) w' l.args v/\Below w.heap.size w w'
theorem qq (t:Tm) (w:World):Calls Tryz.prog 119 #[.agg (aB t)] w (PL1 w ⟨0,false,[101,118,101,110,116],[t,bh [95]]⟩):=by
 go_enter Tryz.func119,Tryz.ntmps119
 go_wp2_with fail
 have hE:∀ (o1 o2 o3:Obj),(((w.alloc o1).alloc o2).alloc o3).heap[w.heap.size+1]? = some o2/\(((w.alloc o1).alloc o2).alloc o3).heap[w.heap.size+1+1]? = some o3/\Below w.heap.size w (((w.alloc o1).alloc o2).alloc o3):=fun o1 o2 o3=>by
  have z1:(w.alloc o1).heap.size=w.heap.size+1:=by simp
  have z2:((w.alloc o1).alloc o2).heap.size=w.heap.size+1+1:=by simp
  refine ⟨?_,?_,(((zN _ w).alloc (zM _) o1).alloc (by rw [z1]; omega) o2).alloc (by rw [z2]; omega) o3⟩
  ·rw [z7 _ _ _ (by rw [z2]; omega),← z1]; exact af _ _
  ·rw [← z2]; exact af _ _
 obtain ⟨h1,h2,h3⟩:=hE (.cells (aB t) 63) (.cells (ap 0 false [101,118,101,110,116] (.slice (some ⟨w.heap.size+1+1,0,none⟩) 2 2)) 24) (.cells (fB [t,bh [95]]).toArray 63); refine bodyPost_ret (v:=.agg (ap 0 false [101,118,101,110,116] (.slice (some ⟨w.heap.size+1+1,0,none⟩) 2 2))) (results_cell_row (by rfl) _ _ (w.heap.size+1) 24 _ (0,0) _ (by rfl) h1 Tryz.underlying24 rfl (by kernel_rfl)) rfl ⟨_,rfl,fg h2 (by show 2<=maxLen; decide) (by unfold aF; omega),h3⟩
theorem dT (op:Int) (a b:Tm) (w:World):Calls Tryz.prog 120 #[iv op,.agg (aB a),.agg (aB b)] w (PL1 w ⟨op,false,[],[a,b]⟩):=by
 go_enter Tryz.func120,Tryz.ntmps120
 go_wp2_with fail
 have hE:∀ (o0 o1 o2 o3:Obj),((((w.alloc o0).alloc o1).alloc o2).alloc o3).heap[w.heap.size+1+1]? = some o2/\((((w.alloc o0).alloc o1).alloc o2).alloc o3).heap[w.heap.size+1+1+1]? = some o3/\Below w.heap.size w ((((w.alloc o0).alloc o1).alloc o2).alloc o3):=fun o0 o1 o2 o3=>by
  have z1:(w.alloc o0).heap.size=w.heap.size+1:=by simp
  have z2:((w.alloc o0).alloc o1).heap.size=w.heap.size+1+1:=by simp
  have z3:(((w.alloc o0).alloc o1).alloc o2).heap.size=w.heap.size+1+1+1:=by simp
  refine ⟨?_,?_,((((zN _ w).alloc (zM _) o0).alloc (by rw [z1]; omega) o1).alloc (by rw [z2]; omega) o2).alloc (by rw [z3]; omega) o3⟩
  ·rw [z7 _ _ _ (by rw [z3]; omega),← z2]; exact af _ _
  ·rw [← z3]; exact af _ _
 obtain ⟨h1,h2,h3⟩:=hE (.cells (aB a) 63) (.cells (aB b) 63) (.cells (ap op false [] (.slice (some ⟨w.heap.size+1+1+1,0,none⟩) 2 2)) 24) (.cells (fB [a,b]).toArray 63); refine bodyPost_ret (v:=.agg (ap op false [] (.slice (some ⟨w.heap.size+1+1+1,0,none⟩) 2 2))) (results_cell_row (by rfl) _ _ (w.heap.size+1+1) 24 _ (0,0) _ (by rfl) h1 Tryz.underlying24 rfl (by kernel_rfl)) rfl ⟨_,rfl,fg h2 (by show 2<=maxLen; decide) (by unfold aF; omega),h3⟩
end Go.Proofs.YtffdpoifdahadaaGreatDoor
namespace Go.Proofs.YtffdpoifdahadaaGreatDoor
open Go.RowKit
open Go.Lib (hid itoa)
theorem pa (w:World) (o1 o2 o3:Obj):(((w.alloc o1).alloc o2).alloc o3).heap[w.heap.size]? = some o1/\(((w.alloc o1).alloc o2).alloc o3).heap[w.heap.size+1]? = some o2/\(((w.alloc o1).alloc o2).alloc o3).heap[w.heap.size+1+1]? = some o3/\(((w.alloc o1).alloc o2).alloc o3).heap.size=w.heap.size+1+1+1/\Below w.heap.size w (((w.alloc o1).alloc o2).alloc o3):=by
 have z1:(w.alloc o1).heap.size=w.heap.size+1:=by simp
 have z2:((w.alloc o1).alloc o2).heap.size=w.heap.size+1+1:=by simp
 have z3:(((w.alloc o1).alloc o2).alloc o3).heap.size=w.heap.size+1+1+1:=by simp
 refine ⟨?_,?_,?_,z3,(((zN _ w).alloc (zM _) o1).alloc (by rw [z1]; omega) o2).alloc (by rw [z2]; omega) o3⟩
 ·rw [z7 _ _ _ (by rw [z2]; omega),z7 _ _ _ (by rw [z1]; omega)]; exact af _ _
 ·rw [z7 _ _ _ (by rw [z2]; omega),← z1]; exact af _ _
 ·rw [← z2]; exact af _ _
theorem iW (t:Tm) (l:Lt) (S:aP) (v:Value) (w:World) (hv:SlR 7 FlR S w l.args v) (hl:l.args.length<=1048575) :
  Calls Tryz.prog 115 #[.agg (aB t),.agg (ap l.op l.nt l.rel v)] w (PL1 w (aS t l)):=by
 obtain ⟨a0,c0,rfl⟩:∃ a c,v=.slice a l.args.length c:=by obtain ⟨a,c,e,_⟩:=hv.slice; exact ⟨a,c,e⟩
 obtain ⟨op,nt,rel,args⟩:=l; show Calls _ _ _ w (PL1 w ⟨0,false,rel,t::args⟩); replace hv:=hid hv
 go_enter Tryz.func115,Tryz.ntmps115
 go_wp2_with fail
 obtain ⟨h1,h2,h3,hz,hb⟩:=pa w (.cells (aB t) 63) (.cells (ap op nt rel (.slice a0 args.length c0)) 24) (.cells (ap 0 false [] (.slice none 0 0)) 24); generalize hW:((w.alloc (.cells (aB t) 63)).alloc (.cells (ap op nt rel (.slice a0 args.length c0)) 24)).alloc (.cells (ap 0 false [] (.slice none 0 0)) 24)=W at *; have hVd:=hid (show SlR 7 FlR S (W.drew.alloc (.cells (aB t) 63)) args (.slice a0 args.length c0) from (hv.out.below aD hb).below aD (((zN _ W).drew).alloc (zM _) _)); have hown:=fg (l:=[t]) (S:=fun q=>W.heap.size<=q) (show (W.drew.alloc (.cells (aB t) 63)).heap[W.heap.size]? = some (.cells (fB [t]).toArray 63 (0,0)) from af _ _) (by show 1<=maxLen; decide) (zM _)
 have hsz:(W.drew.alloc (.cells (aB t) 63)).heap.size=W.heap.size+1:=by simp
 obtain ⟨ar,cr,W5,hap,hO,hF⟩:=sF hown hVd.out (fun q hq=>by rw [hsz] at hq; omega) (by simp; omega); replace hap:cH Tryz.prog 22 22 22 (.slice (some ⟨W.heap.size,0,none⟩) 1 1) (.slice a0 args.length c0) (.slice ar (1+args.length) cr) (W.drew.alloc (.cells (aB t) 63)) W5:=hap; obtain ⟨m0,m1,m2,m3,m4,m5,m6,-⟩:=aH (show W.drew.heap[w.heap.size]? = _ from h1); obtain ⟨l0,l1,l2,l3,-⟩:=aK h2; obtain ⟨e0,e1,e2,e3,-⟩:=aK (show (W.drew.alloc (.cells (aB t) 63)).heap[w.heap.size+1]? = _ from (z7 _ _ _ (show _ < W.heap.size by omega)).trans h2); obtain ⟨i0,i1,i2,i3,-⟩:=aK (show (W.alloc (.cells (aB t) 63)).heap[w.heap.size+1]? = _ from (z7 _ _ _ (show _ < W.heap.size by omega)).trans h2)
 have hr5:=(hF.block (w.heap.size+1+1) (by rw [hsz]; omega) (by omega)).trans ((z7 W.drew (.cells (aB t) 63) _ (show _ < W.heap.size by omega)).trans h3); obtain ⟨q0,q1,q2,q3,fz⟩:=aK hr5; have fz0:=fz 0; have fz1:=fz 1; have fz2:=fz 2; have fz3:=fz 3; have hbw:=hid ((hb.trans ((((zN _ W).drew).alloc (zM _) (.cells (aB t) 63)).mono hb.size)).trans ((hF.to_below (B:=w.heap.size) (by rw [hsz]; omega) (fun k hk e=>by omega)))); obtain ⟨g0,g1,g2,g3,-⟩:=aK ((hF.block (w.heap.size+1) (by rw [hsz]; omega) (by omega)).trans ((z7 W.drew (.cells (aB t) 63) _ (show _ < W.heap.size by omega)).trans h2)); replace hr5:=hid hr5; replace hO:=hid hO; replace hz:=hid hz; clear fz hF hown hVd hW
 go_region_law (refine cq (by rfl) (.tmp 8) (.tmp 10) (by rfl) (by rfl) (by rfl) hap ?_)
 all_goals go_wp2_with fail
 all_goals refine bodyPost_ret (v:=.agg (ap 0 false rel (.slice ar (1+args.length) cr))) (results_cell_row (by rfl) _ _ (w.heap.size+1+1) 24 _ (0,0) _ (by rfl) (e_ hr5.out 0 false rel (.slice ar (1+args.length) cr)) Tryz.underlying24 rfl (by kernel_rfl)) rfl ⟨_,rfl,?_,?_⟩
 all_goals have hz':=hz.out
 all_goals first
  | exact ((Fr.of_below hbw.out nS).setLt (by omega) 0 false rel _).to_below (zM _) (fun _ _ h=>h)
  | exact hO.out.move aD fun k hk hk2=>⟨by unfold aF; omega,bU (by omega)⟩
theorem PL1.open {w w':World} {l:Lt} {e:Ending} (h:PL1 w l e w'):∃ a c,e=.returned (.agg (ap l.op l.nt l.rel (.slice a l.args.length c)))/\aO 63 7 FlR (aF w.heap.size) w' l.args (.slice a l.args.length c)/\Below w.heap.size w w':=by
 obtain ⟨v,rfl,ho,hb⟩:=h; obtain ⟨a,c,rfl,-⟩:=ho.slice; exact ⟨a,c,rfl,ho,hb⟩
theorem qN (x a:Tm) (w:World):Calls Tryz.prog 116 #[.bool true,.agg (aB x),.agg (aB a)] w (PL1 w (aE 3 x a)):=by
 go_enter Tryz.func116,Tryz.ntmps116
 go_wp2_with fail
 obtain ⟨h1,h2,h3,hz,hb⟩:=pa w (.cells (aB x) 63) (.cells (aB a) 63) (.cells #[.int .i64 0,.bool false,.string ⟨#[]⟩,.slice none 0 0] 24)
 with_reducible refine (dT _ _ _ _).mono ?_
 intro e W hP; obtain ⟨a',c',rfl,hO,hb2⟩:=PL1.open hP; clear hP; have hr:Hid (W.heap[w.heap.size+1+1]? = some (.cells (ap 0 false [] (.slice none 0 0)) 24 (0,0))):=hid (an hb2 h3 (by omega)); obtain ⟨q0,q1,q2,q3,fz⟩:=aK hr.out; have fz0:=fz 0; have fz1:=fz 1; have fz2:=fz 2; have fz3:=fz 3; have hbw:=hid (hb.trans (hb2.mono (by omega))); replace hO:=hid hO; replace hz:=hid hz; clear fz hb hb2 h1 h2 h3
 go_wp2_with fail
 refine bodyPost_ret (v:=.agg (ap 3 false [] (.slice a' 2 c'))) (results_cell_row (by rfl) _ _ (w.heap.size+1+1) 24 _ (0,0) _ (by rfl) (e_ hr.out 3 false [] (.slice a' 2 c')) Tryz.underlying24 rfl (by kernel_rfl)) rfl ⟨_,rfl,?_,?_⟩
 all_goals have hz':=hz.out
 ·exact hO.out.move aD fun k hk hk2=>⟨by unfold aF at *; omega,bU (by unfold aF at hk2; omega)⟩
 ·exact ((Fr.of_below hbw.out nS).setLt (by omega) 3 false [] _).to_below (zM _) (fun _ _ h=>h)
theorem o9 (x a:Tm) (w:World):Calls Tryz.prog 116 #[.bool false,.agg (aB x),.agg (aB a)] w (PL1 w (aE 3 a x)):=by
 go_enter Tryz.func116,Tryz.ntmps116
 go_wp2_with fail
 obtain ⟨h1,h2,h3,hz,hb⟩:=pa w (.cells (aB x) 63) (.cells (aB a) 63) (.cells #[.int .i64 0,.bool false,.string ⟨#[]⟩,.slice none 0 0] 24)
 with_reducible refine (dT _ _ _ _).mono ?_
 intro e W hP; obtain ⟨a',c',rfl,hO,hb2⟩:=PL1.open hP; clear hP; have hr:Hid (W.heap[w.heap.size+1+1]? = some (.cells (ap 0 false [] (.slice none 0 0)) 24 (0,0))):=hid (an hb2 h3 (by omega)); obtain ⟨q0,q1,q2,q3,fz⟩:=aK hr.out; have fz0:=fz 0; have fz1:=fz 1; have fz2:=fz 2; have fz3:=fz 3; have hbw:=hid (hb.trans (hb2.mono (by omega))); replace hO:=hid hO; replace hz:=hid hz; clear fz hb hb2 h1 h2 h3
 go_wp2_with fail
 refine bodyPost_ret (v:=.agg (ap 3 false [] (.slice a' 2 c'))) (results_cell_row (by rfl) _ _ (w.heap.size+1+1) 24 _ (0,0) _ (by rfl) (e_ hr.out 3 false [] (.slice a' 2 c')) Tryz.underlying24 rfl (by kernel_rfl)) rfl ⟨_,rfl,?_,?_⟩
 all_goals have hz':=hz.out
 ·exact hO.out.move aD fun k hk hk2=>⟨by unfold aF at *; omega,bU (by unfold aF at hk2; omega)⟩
 ·exact ((Fr.of_below hbw.out nS).setLt (by omega) 3 false [] _).to_below (zM _) (fun _ _ h=>h)
theorem mT (b:Bool) (x a:Tm) (w:World):Calls Tryz.prog 116 #[.bool b,.agg (aB x),.agg (aB a)] w (PL1 w (bM b x a)):=by
 cases b with
 | true=>exact qN x a w
 | false=>exact o9 x a w
end Go.Proofs.YtffdpoifdahadaaGreatDoor
