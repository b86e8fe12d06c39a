/- StrWb: StrJ, StrW8, StrW9, StrK, StrWa, StrWb, in one text. -/
import Derived.Test.YtffdpoifdahadaaGreatDoorStrI
import Derived.Test.YtffdpoifdahadaaGreatDoorStrW7
import Derived.Test.YtffdpoifdahadaaGreatDoorApiV
import Derived.Test.YtffdpoifdahadaaGreatDoorProg
set_option linter.unusedVariables false
set_option linter.unusedSimpArgs false
set_option maxHeartbeats 40000000
set_option maxRecDepth 100000
namespace Go.Proofs.YtffdpoifdahadaaGreatDoor
theorem g8 {α:Type} [DecidableEq α] {a b:List α} (ha:a.Nodup) (hb:b.Nodup) (h:∀ x,x∈a ↔ x∈b):a.Perm b:=by
 rw [List.perm_iff_count]; intro x; by_cases hx:x∈a
 ·rw [ha.count,hb.count,if_pos hx,if_pos ((h x).1 hx)]
 ·rw [ha.count,hb.count,if_neg hx,if_neg (fun e=>hx ((h x).2 e))]
def lf (n:Nat) (tk:List Nat) (ls:List Bool):List Nat:=(List.range n).filter fun i=>ls.getD i false && !decide (i∈tk)
theorem fH {n:Nat} {tk:List Nat} {ls:List Bool} {i:Nat}:i∈lf n tk ls ↔ i < n/\ls.getD i false=true/\i ∉ tk:=by
 unfold lf; rw [List.mem_filter,List.mem_range]; simp
theorem iY (n:Nat) (tk:List Nat) (ls:List Bool):(lf n tk ls).Nodup:=List.Pairwise.filter _ List.nodup_range
structure HB (n:Nat) (tk:List Nat) (ls:List Bool) (hp:List Int):Prop where
 len:ls.length=n
 heap:k9 hp hp.length
 mem:hp.Perm ((lf n tk ls).map fun i:Nat=>(i:Int))
 tks:∀ i∈tk,ls.getD i false=true
theorem HB.small {n:Nat} {tk:List Nat} {ls:List Bool} {hp:List Int} (h:HB n tk ls hp):hp.length<=n:=by
 rw [h.mem.length_eq,zY]; unfold lf; exact zV (List.length_filter_le _ _) (by rw [List.length_range]; exact zM _)
theorem HB.push {n:Nat} {tk:List Nat} {ls:List Bool} {hp:List Int} (h:HB n tk ls hp) {i:Nat} (hi:i < n) (hl:ls.getD i false=false):HB n tk (ls.set i true) (nK hp i):=by
 have hpk:=x8 h.heap (i:Int)
 have hg:∀ j,(ls.set i true).getD j false=if j=i then true else ls.getD j false:=fun j=>by
  rw [zZ,List.getElem?_set]; by_cases e:j=i
  ·subst e; rw [if_pos rfl,if_pos rfl,if_pos (by rw [h.len]; exact hi)]; rfl
  ·rw [if_neg (fun x=>e x.symm),if_neg e,zZ]
 refine ⟨by rw [List.length_set]; exact h.len,?_,?_,fun j hj=>?_⟩
 ·have e:(nK hp (i:Int)).length=hp.length+1:=by rw [hpk.2.length_eq]; simp
  rw [e]; exact hpk.1
 ·refine hpk.2.trans ((h.mem.append_right _).trans ?_)
  have e:((lf n tk ls).map fun i:Nat=>(i:Int))++[(i:Int)]=(lf n tk ls++[i]).map fun i:Nat=>(i:Int):=by rw [List.map_append]; rfl
  rw [e]; refine List.Perm.map _ (g8 ?_ (iY _ _ _) fun x=>?_)
  ·refine List.nodup_append.2 ⟨iY _ _ _,by simp,fun a ha b hb=>?_⟩
   simp at hb; subst hb; rintro rfl; rw [fH,hl] at ha; exact absurd ha.2.1 (by simp)
  ·rw [z8,List.mem_singleton,fH,fH,hg]
   by_cases e:x=i
   ·subst e
    rw [if_pos rfl]; refine ⟨fun _=>⟨hi,rfl,fun hx=>?_⟩,fun _=>Or.inr rfl⟩; rw [h.tks x hx] at hl; cases hl
   ·rw [if_neg e]
    exact ⟨fun hx=>hx.resolve_right e,fun hx=>Or.inl hx⟩
 ·rw [hg]
  split
  ·rfl
  ·exact h.tks j hj
structure xy (n:Nat) (tk:List Nat) (ls:List Bool) (hp:List Int) (i:Nat):Prop where
 lt:i < n
 new:i ∉ tk
 on:ls.getD i false=true
 top:gt hp 0=(i:Int)
 last:gt (fx hp) (hp.length - 1)=(i:Int)
 least:∀ j,j < n->j ∉ tk->ls.getD j false=true->i<=j
 next:HB n (tk++[i]) ls ((fx hp).take (hp.length - 1))
theorem sX {l:List Int} {m k:Nat} (h:k < m):gt (l.take m) k=gt l k:=by
 show (l.take m).getD k 0=l.getD k 0; rw [zZ,zZ,List.getElem?_take_of_lt h]
theorem HB.pop {n:Nat} {tk:List Nat} {ls:List Bool} {hp:List Int} (h:HB n tk ls hp) (h0:hp≠[]):∃ i,xy n tk ls hp i:=by
 obtain ⟨p1,p2,p3,p4⟩:=vP h.heap h0; have hl:0 < hp.length:=List.length_pos_iff.2 h0
 have hmem:gt hp 0∈hp:=by
  show hp.getD 0 0∈hp; rw [zZ,zR hl]; exact List.getElem_mem hl
 obtain ⟨i,hi,e⟩:=List.mem_map.1 ((h.mem.mem_iff).1 hmem); rw [fH] at hi; have e2:gt hp 0=(i:Int):=e.symm; have hpl:(fx hp).length=hp.length:=p2.length_eq
 have hsplit:fx hp=(fx hp).take (hp.length - 1)++[(i:Int)]:=by
  have hd:(fx hp).drop (hp.length - 1)=[(i:Int)]:=by
   have h1:hp.length - 1 < (fx hp).length:=by omega
   rw [Ac h1,List.drop_of_length_le (by omega)]; have h2:gt (fx hp) (hp.length - 1)=(i:Int):=p3.trans e2
   have h3:(fx hp).getD (hp.length - 1) 0=(fx hp)[hp.length - 1]:=by rw [zZ,zR h1]; rfl
   rw [← h3]; exact congrArg (fun x=>[x]) h2
  conv=>lhs; rw [← List.take_append_drop (hp.length - 1) (fx hp)]
  rw [hd]
 have hlen:((fx hp).take (hp.length - 1)).length=hp.length - 1:=by rw [Ah]; omega
 refine ⟨i,hi.1,hi.2.2,hi.2.1,e2,p3.trans e2,fun j hj hn hls=>?_,h.len,?_,?_,fun j hj=>?_⟩
 ·have hjm:(j:Int)∈hp:=(h.mem.mem_iff).2 (List.mem_map.2 ⟨j,fH.2 ⟨hj,hls,hn⟩,rfl⟩)
  obtain ⟨k,hk,ek⟩:=List.mem_iff_getElem.1 hjm; have:=p4 k hk; rw [e2] at this
  have e3:gt hp k=(j:Int):=by
   show hp.getD k 0=_; rw [zZ,zR hk]; exact ek
  omega
 ·rw [hlen]
  intro k hk hkl; rw [sX (by omega),sX hkl]; exact p1 k hk hkl
 ·have h1:((fx hp).take (hp.length - 1)++[(i:Int)]).Perm ((lf n tk ls).map fun i:Nat=>(i:Int)):=by rw [← hsplit]; exact p2.trans h.mem
  have h2:(lf n tk ls).Perm (lf n (tk++[i]) ls++[i]):=by
   refine g8 (iY _ _ _) (List.nodup_append.2 ⟨iY _ _ _,by simp,fun a ha b hb=>?_⟩) fun x=>?_
   ·simp at hb; subst hb
    rintro rfl; rw [fH] at ha; exact ha.2.2 (by simp)
   ·rw [z8,List.mem_singleton,fH,fH,z8,List.mem_singleton]
    by_cases ex:x=i
    ·subst ex; exact ⟨fun _=>Or.inr rfl,fun _=>hi⟩
    ·exact ⟨fun hx=>Or.inl ⟨hx.1,hx.2.1,fun e=>e.elim hx.2.2 ex⟩,fun hx=>by rcases hx with hx | hx; exact ⟨hx.1,hx.2.1,fun e=>hx.2.2 (Or.inl e)⟩; exact absurd hx ex⟩
  have h3:=h1.trans (h2.map fun i:Nat=>(i:Int)); rw [List.map_append] at h3; exact (List.perm_append_right_iff _).1 h3
 ·rcases List.mem_append.1 hj with hj | hj
  ·exact h.tks j hj
  ·simp at hj; subst hj; exact hi.2.1
theorem HB.none {n:Nat} {tk:List Nat} {ls:List Bool} (h:HB n tk ls []) {i:Nat} (hi:i < n) (hn:i ∉ tk):ls.getD i false=false:=by
 rcases hb:ls.getD i false with _ | _
 ·rfl
 ·have:=(h.mem.mem_iff).2 (List.mem_map.2 ⟨i,fH.2 ⟨hi,hb,hn⟩,rfl⟩)
  cases this
def tn (body:List Lg) (bd:List (List UInt8)) (ls:List Bool):Prop:=∀ i,i < body.length->ls.getD i false=eK (aZ body i) (dL bd (aZ body i))
theorem rr {body:List Lg} {bd:List (List UInt8)} {tk:List Nat} {ls:List Bool} (h:HB body.length tk ls []) (hl:tn body bd ls):l_ body bd tk=none:=by
 unfold l_; rw [List.find?_eq_none]; intro i hi; rw [List.mem_range] at hi; unfold yD; by_cases ht:i∈tk
 ·simp [ht]
 ·have:=h.none hi ht
  rw [hl i hi] at this; simp [this]
theorem vQ {body:List Lg} {bd:List (List UInt8)} {tk:List Nat} {ls:List Bool} {hp:List Int} {i:Nat} (h:xy body.length tk ls hp i) (hl:tn body bd ls):l_ body bd tk=some i:=by
 unfold l_; rw [List.find?_eq_some_iff_getElem]; have hon:=h.on; rw [hl i h.lt] at hon; refine ⟨by unfold yD; simp [h.new,hon],i,by simpa using h.lt,by simp,fun j hj=>?_⟩; simp only [List.getElem_range]; unfold yD; by_cases ht:j∈tk
 ·simp [ht]
 ·by_cases hr:eK (aZ body j) (dL bd (aZ body j))=true
  ·have:=h.least j (Nat.lt_trans hj h.lt) ht (by rw [hl j (Nat.lt_trans hj h.lt)]; exact hr)
   omega
  ·simp at hr
   simp [hr]
def cP (body:List Lg) (m:Nat) (v:List UInt8):List Nat:=(List.range m).flatMap fun i=>((el (aZ body i)).filter fun u=>decide (u=v)).map fun _=>i
theorem gQ (body:List Lg) (m:Nat) (v:List UInt8):cP body (m+1) v=cP body m v++((el (aZ body m)).filter fun u=>decide (u=v)).map fun _=>m:=by
 unfold cP; rw [List.range_succ,List.flatMap_append]; simp
theorem vg {body:List Lg} {m:Nat} {v:List UInt8} {i:Nat} (h:i∈cP body m v):i < m:=by
 unfold cP at h; obtain ⟨j,hj,h⟩:=List.mem_flatMap.1 h; obtain ⟨u,-,rfl⟩:=List.mem_map.1 h; exact List.mem_range.1 hj
theorem qH (i j:Nat) {α:Type} (l:List α):(l.map fun _=>i).count j=if i=j then l.length else 0:=by
 induction l with
 | nil=>simp
 | cons a l ih =>
  rw [List.map_cons,List.count_cons,ih]; by_cases e:i=j
  ·simp [e]
  ·simp [e]
theorem ix (body:List Lg) (v:List UInt8) (j:Nat):∀ m,(cP body m v).count j=if j < m then ((el (aZ body j)).filter fun u=>decide (u=v)).length else 0
 | 0=>by simp [cP]
 | m+1=>by
  rw [gQ,List.count_append,ix body v j m,qH]; by_cases e:m=j
  ·subst e; simp
  ·by_cases h:j < m
   ·rw [if_pos h,if_neg e,if_pos (by omega)]; omega
   ·rw [if_neg h,if_neg e,if_neg (by omega)]
theorem nP {bd:List (List UInt8)} {v:List UInt8} (hv:v ∉ bd) (x:Lg):dL (bd++[v]) x+((el x).filter fun u=>decide (u=v)).length=dL bd x:=by
 unfold dL
 induction el x with
 | nil=>rfl
 | cons a l ih =>
  rw [List.filter_cons,List.filter_cons,List.filter_cons]; by_cases e:a=v
  ·subst e
   simp [hv] at ih ⊢; omega
  ·by_cases hb:a∈bd
   ·simp [e,hb] at ih ⊢
    omega
   ·simp [e,hb] at ih ⊢
    omega
theorem rG {a b:List (List UInt8)} (h:∀ v,v∈a ↔ v∈b) (x:Lg):dL a x=dL b x:=Nat.le_antisymm (sM (fun v hv=>(h v).2 hv) x) (sM (fun v hv=>(h v).1 hv) x)
end Go.Proofs.YtffdpoifdahadaaGreatDoor
namespace Go.Proofs.YtffdpoifdahadaaGreatDoor
open Go.RowKit
open Go.Lib (hid)
def tyO:Obj->Option TypeId
 | .cells _ t _=>some t
 | _=>none
theorem cS {w:World} {a b:Nat} {o p:Obj} (ha:w.heap[a]? = some o) (hb:w.heap[b]? = some p) (h:tyO o≠tyO p):a≠b:=by
 rintro rfl; rw [ha] at hb; injection hb with hb; exact h (by rw [hb])
theorem cE {w:World} {e:TypeId} {sz n m:Nat} {v:Value} {xs:List Value} {k:Nat} (h:w.ownsRow m e sz v n xs) (hk:v.ownBlock=some k):∃ cur,w.heap[k]? = some (.cells cur e (0,0)):=by
 rcases h.2 with ⟨rfl,-⟩ | ⟨g,cap,cur,rfl,-,hg,-⟩
 ·cases hk
 ·injection hk with hk; subst hk; exact ⟨cur,hg⟩
def iP (bd:List (List UInt8)):Lit->Option Value
 | .string s=>if s∈bd then some (.bool true) else none
 | _=>none
def xI (uv:List UInt8->Value) (U:List UInt8->List Nat):Lit->Option Value
 | .string s=>if U s=[] then none else some (uv s)
 | _=>none
abbrev bQ (l:List Nat):List Int:=l.map fun i:Nat=>(i:Int)
structure BK where
 la:Option Addr
 lc:Nat
 B:Nat
 ob:Nat
 oc:Nat
 lb:Nat
 lbc:Nat
 mb:Nat
 mu:Nat
 uv:List UInt8->Value
 U:List UInt8->List Nat
abbrev BK.ov (K:BK) (n:Nat):Value:=.slice (some ⟨K.ob,0,none⟩) n K.oc
abbrev BK.lv (K:BK) (n:Nat):Value:=.slice (some ⟨K.lb,0,none⟩) n K.lbc
abbrev BK.cells (K:BK) (n:Nat) (hv:Value):Array Value:=ed (.slice K.la n K.lc) (.map (some K.mb)) (K.ov n) (.map (some K.mu)) (K.lv n) hv
structure BM (G:aP) (K:BK) (lits:List Lg) (S:aP) (bd:List (List UInt8)) (op:List Nat) (ls:List Bool) (hp:List Int) (hv:Value) (NB NU:Nat) (w:World):Prop where
 blk:w.heap[K.B]? = some (.cells (K.cells lits.length hv) 74 (0,0))
 lit:SlR 4 LgR S w lits (.slice K.la lits.length K.lc)
 bound:bR Tryz.prog 9 K.mb NB (iP bd) w
 opn:w.ownsRow 0 3 1 (K.ov lits.length) lits.length ((bQ op).map iv)
 use:bR Tryz.prog 9 K.mu NU (xI K.uv K.U) w
 lst:w.ownsRow 0 4 1 (K.lv lits.length) lits.length (ls.map Value.bool)
 heap:IO w hp hv
 rows:∀ v,K.U v≠[]->IO w (bQ (K.U v)) (K.uv v)
 new:∀ k,w.heap.size<=k->G k
 gB:G K.B
 go:G K.ob
 gl:G K.lb
 gb:G K.mb
 gu:G K.mu
 gh:∀ k,hv.ownBlock=some k->G k
 gr:∀ v,K.U v≠[]->∀ k,(K.uv v).ownBlock=some k->G k
 low:∀ k,S k->¬ G k
 dm:K.mb≠K.mu
 dh:hv.ownBlock≠some K.ob
 du:∀ v,K.U v≠[]->(K.uv v).ownBlock≠some K.ob/\∀ k,hv.ownBlock=some k->(K.uv v).ownBlock≠some k
 dr:∀ u v,K.U u≠[]->K.U v≠[]->u≠v->(K.uv u).ownBlock≠(K.uv v).ownBlock
section
variable {G G':aP} {K:BK} {lits:List Lg} {S:aP} {bd:List (List UInt8)} {op:List Nat} {ls:List Bool} {hp:List Int} {hv:Value} {NB NU:Nat} {w w':World}
theorem IO.keep {l:List Int} {v:Value} (h:IO w l v) (hk:∀ k,v.ownBlock=some k->w'.heap[k]? = w.heap[k]?):IO w' l v:=aJ h hk fun _ _=>zW _
theorem IO.lt {l:List Int} {v:Value} (h:IO w l v) {k:Nat} (hk:v.ownBlock=some k):k < w.heap.size:=(World.ownsRow.lt h k hk).2
theorem BM.oo (h:BM G K lits S bd op ls hp hv NB NU w):∃ cur,w.heap[K.ob]? = some (.cells cur 3 (0,0)):=cE h.opn rfl
theorem BM.lo (h:BM G K lits S bd op ls hp hv NB NU w):∃ cur,w.heap[K.lb]? = some (.cells cur 4 (0,0)):=cE h.lst rfl
theorem BM.hlt (h:BM G K lits S bd op ls hp hv NB NU w) {k:Nat} (hk:hv.ownBlock=some k):k < w.heap.size:=h.heap.lt hk
theorem BM.rlt (h:BM G K lits S bd op ls hp hv NB NU w) {v:List UInt8} (hU:K.U v≠[]) {k:Nat} (hk:(K.uv v).ownBlock=some k):k < w.heap.size:=(h.rows v hU).lt hk
theorem BM.move (h:BM G K lits S bd op ls hp hv NB NU w) (hs:w.heap.size<=w'.heap.size) (hk:∀ k,k < w.heap.size->G k\/S k->w'.heap[k]? = w.heap[k]?)
  (h1:∀ k,k < w.heap.size->G k->G' k) (h2:∀ k,w'.heap.size<=k->G' k) (h3:∀ k,G' k->G k):BM G' K lits S bd op ls hp hv NB NU w':=by
 obtain ⟨oc,ho⟩:=h.oo; obtain ⟨lc,hl⟩:=h.lo
 have kg:∀ k,k < w.heap.size->G k->w'.heap[k]? = w.heap[k]?:=fun k hk1 hg=>hk k hk1 (Or.inl hg)
 exact ⟨(kg _ (ae h.blk) h.gB).trans h.blk,h.lit.move eA fun k hk1 hs=>⟨hs,hk k hk1 (Or.inr hs)⟩,h.bound.same (kg _ h.bound.lt h.gb),
  aJ h.opn (fun k hk=>by injection hk with hk; subst hk; exact kg _ (ae ho) h.go) (fun _ _=>zW _),h.use.same (kg _ h.use.lt h.gu),
  aJ h.lst (fun k hk=>by injection hk with hk; subst hk; exact kg _ (ae hl) h.gl) (fun _ _=>zW _),h.heap.keep fun k hk=>kg _ (h.hlt hk) (h.gh k hk),
  fun v hU=>(h.rows v hU).keep fun k hk=>kg _ (h.rlt hU hk) (h.gr v hU k hk),h2,h1 _ (ae h.blk) h.gB,h1 _ (ae ho) h.go,h1 _ (ae hl) h.gl,h1 _ h.bound.lt h.gb,h1 _ h.use.lt h.gu,
  fun k hk=>h1 _ (h.hlt hk) (h.gh k hk),fun v hU k hk=>h1 _ (h.rlt hU hk) (h.gr v hU k hk),fun k hs hg=>h.low k hs (h3 k hg),h.dm,h.dh,h.du,h.dr⟩
theorem BM.below (h:BM G K lits S bd op ls hp hv NB NU w) (hb:Below w.heap.size w w'):BM G K lits S bd op ls hp hv NB NU w' :=
 h.move hb.size (fun k hk _=>hb.block k hk) (fun _ _ h=>h) (fun k hk=>h.new k (zV hb.size hk)) fun _ h=>h
theorem BM.less (h:BM G K lits S bd op ls hp hv NB NU w) (hb:Below w.heap.size w w'):BM (fun k=>G k/\¬(w.heap.size<=k/\k < w'.heap.size)) K lits S bd op ls hp hv NB NU w' :=
 h.move hb.size (fun k hk _=>hb.block k hk) (fun k hk h=>⟨h,fun e=>by omega⟩) (fun k hk=>⟨h.new k (zV hb.size hk),fun e=>by omega⟩) fun _ h=>h.1
theorem BM.congr (h:BM G K lits S bd op ls hp hv NB NU w) {bd':List (List UInt8)} (hb:∀ v,v∈bd' ↔ v∈bd):BM G K lits S bd' op ls hp hv NB NU w :=
 have e:∀ kl,WideAt.IsKeyLit kl->iP bd' kl=iP bd kl:=fun kl _=>by
  cases kl with
  | string s =>
   show (if s∈bd' then _ else _)=if s∈bd then _ else _
   by_cases e:s∈bd
   ·rw [if_pos e,if_pos ((hb s).2 e)]
   ·rw [if_neg e,if_neg fun x=>e ((hb s).1 x)]
  | _=>rfl
 { h with bound:=h.bound.congr e }
theorem getD_some {α:Type} {l:List α} {i:Nat} {d:α} (h:i < l.length):l[i]? = some (l.getD i d):=by rw [zZ,zR h]; rfl
theorem ej {e:TypeId} {n c g i:Nat} {xs:List Value} {x:Value} (h:w.ownsRow 0 e 1 (.slice (some ⟨g,0,none⟩) n c) n xs) (hi:xs[i]? = some x):w.cell? ⟨g,i,none⟩=some x/\w.frozen? ⟨g,i,none⟩=false/\i < n:=by
 obtain ⟨hl,h3⟩:=h; have hin:=(List.getElem?_eq_some_iff.1 hi).1; rcases h3 with ⟨h,-⟩ | ⟨g',cap,cur,h,-,hg,hn,hx,hs,ht⟩
 ·cases h
 ·simp only [Value.slice.injEq,Al,Addr.mk.injEq] at h
  obtain ⟨⟨rfl,-,-⟩,-,rfl⟩:=h; refine ⟨(aj hg).trans ?_,bX hg,by omega⟩; rw [← ht,List.getElem?_take_of_lt (by omega)] at hi; rw [← Array.getElem?_toList]; exact hi
theorem oH {e:TypeId} {n c g i:Nat} {xs:List Value} (h:w.ownsRow 0 e 1 (.slice (some ⟨g,0,none⟩) n c) n xs) (hi:i < n) (x:Value):(w.setCell ⟨g,i,none⟩ x).ownsRow 0 e 1 (.slice (some ⟨g,0,none⟩) n c) n (xs.set i x) :=
 eh [x] w xs i h (by simp; omega)
theorem BM.setOpen (h:BM G K lits S bd op ls hp hv NB NU w) {i:Nat} (hi:i < lits.length) (x:Nat):BM G K lits S bd (op.set i x) ls hp hv NB NU (w.setCell ⟨K.ob,i,none⟩ (iv x)):=by
 obtain ⟨oc,ho⟩:=h.oo; obtain ⟨lc,hl⟩:=h.lo; obtain ⟨es1,cl1,hm1⟩:=h.bound.obj; obtain ⟨es2,cl2,hm2⟩:=h.use.obj
 have hne:∀ k,k≠K.ob->(w.setCell ⟨K.ob,i,none⟩ (iv x)).heap[k]? = w.heap[k]?:=fun k hk=>ak _ hk
 have hsz:(w.setCell ⟨K.ob,i,none⟩ (iv x)).heap.size=w.heap.size:=by simp [World.setCell]
 have hset:bQ (op.set i x)=(bQ op).set i (x:Int):=by unfold bQ; rw [List.map_set]
 exact { h with
  blk:=(hne _ (cS h.blk ho (by simp [tyO]))).trans h.blk
  lit:=h.lit.move eA fun k hk hs=>⟨hs,hne k fun e=>h.low k hs (e ▸ h.go)⟩
  bound:=h.bound.same (hne _ (cS hm1 ho (by simp [tyO])))
  opn:=by rw [hset,List.map_set]; exact oH h.opn hi _
  use:=h.use.same (hne _ (cS hm2 ho (by simp [tyO])))
  lst:=aJ h.lst (fun k hk=>by injection hk with hk; subst hk; exact hne _ (cS hl ho (by simp [tyO]))) (fun _ _=>zW _)
  heap:=h.heap.keep fun k hk=>hne _ fun e=>h.dh (by rw [hk,e])
  rows:=fun v hU=>(h.rows v hU).keep fun k hk=>hne _ fun e=>(h.du v hU).1 (by rw [hk,e])
  new:=fun k hk=>h.new k (by rw [hsz] at hk; exact hk) }
theorem BM.setListed (h:BM G K lits S bd op ls hp hv NB NU w) {i:Nat} (hi:i < lits.length):BM G K lits S bd op (ls.set i true) hp hv NB NU (w.setCell ⟨K.lb,i,none⟩ (.bool true)):=by
 obtain ⟨oc,ho⟩:=h.oo; obtain ⟨lc,hl⟩:=h.lo; obtain ⟨es1,cl1,hm1⟩:=h.bound.obj; obtain ⟨es2,cl2,hm2⟩:=h.use.obj
 have hne:∀ k,k≠K.lb->(w.setCell ⟨K.lb,i,none⟩ (.bool true)).heap[k]? = w.heap[k]?:=fun k hk=>ak _ hk
 have hsz:(w.setCell ⟨K.lb,i,none⟩ (.bool true)).heap.size=w.heap.size:=by simp [World.setCell]
 exact { h with
  blk:=(hne _ (cS h.blk hl (by simp [tyO]))).trans h.blk
  lit:=h.lit.move eA fun k hk hs=>⟨hs,hne k fun e=>h.low k hs (e ▸ h.gl)⟩
  bound:=h.bound.same (hne _ (cS hm1 hl (by simp [tyO])))
  opn:=aJ h.opn (fun k hk=>by injection hk with hk; subst hk; exact hne _ (cS ho hl (by simp [tyO]))) (fun _ _=>zW _)
  use:=h.use.same (hne _ (cS hm2 hl (by simp [tyO])))
  lst:=by rw [List.map_set]; exact oH h.lst hi _
  heap:=h.heap.keep fun k hk=>hne _ (by obtain ⟨c,hc⟩:=cE h.heap hk; exact cS hc hl (by simp [tyO]))
  rows:=fun v hU=>(h.rows v hU).keep fun k hk=>hne _ (by obtain ⟨c,hc⟩:=cE (h.rows v hU) hk; exact cS hc hl (by simp [tyO]))
  new:=fun k hk=>h.new k (by rw [hsz] at hk; exact hk) }
theorem BM.setHeap (h:BM G K lits S bd op ls hp hv NB NU w) {hp':List Int} {hv':Value} (hB:w'.heap[K.B]? = some (.cells (K.cells lits.length hv') 74 (0,0))) (hI:IO w' hp' hv')
  (hor:hv'.ownBlock=hv.ownBlock\/∃ k,hv'.ownBlock=some k/\w.heap.size<=k) (hF:Fr (fun k=>k=K.B\/hv.ownBlock=some k) w w'):BM G K lits S bd op ls hp' hv' NB NU w'/\Fr G w w':=by
 obtain ⟨oc,ho⟩:=h.oo; obtain ⟨lc,hl⟩:=h.lo; obtain ⟨es1,cl1,hm1⟩:=h.bound.obj; obtain ⟨es2,cl2,hm2⟩:=h.use.obj
 have hne:∀ k,k < w.heap.size->k≠K.B->hv.ownBlock≠some k->w'.heap[k]? = w.heap[k]?:=fun k hk h1 h2=>hF.block k hk fun e=>e.elim h1 h2
 have hty:∀ {k:Nat} {o:Obj},w.heap[k]? = some o->tyO o≠some 3->hv.ownBlock≠some k:=fun hk ht e=>by
  obtain ⟨c,hc⟩:=cE h.heap e; exact cS hk hc ht rfl
 refine ⟨{ h with
  blk:=hB
  lit:=h.lit.move eA fun k hk hs=>⟨hs,hne k hk (fun e=>h.low k hs (e ▸ h.gB)) fun e=>h.low k hs (h.gh k e)⟩
  bound:=h.bound.same (hne _ h.bound.lt (cS hm1 h.blk (by simp [tyO])) (hty hm1 (by simp [tyO])))
  opn:=aJ h.opn (fun k hk=>by injection hk with hk; subst hk; exact hne _ (ae ho) (cS ho h.blk (by simp [tyO])) h.dh) (fun _ _=>zW _)
  use:=h.use.same (hne _ h.use.lt (cS hm2 h.blk (by simp [tyO])) (hty hm2 (by simp [tyO])))
  lst:=aJ h.lst (fun k hk=>by injection hk with hk; subst hk; exact hne _ (ae hl) (cS hl h.blk (by simp [tyO])) (hty hl (by simp [tyO]))) (fun _ _=>zW _)
  heap:=hI
  rows:=fun v hU=>(h.rows v hU).keep fun k hk=>hne _ (h.rlt hU hk) (by obtain ⟨c,hc⟩:=cE (h.rows v hU) hk; exact cS hc h.blk (by simp [tyO])) fun e=>(h.du v hU).2 k e hk
  new:=fun k hk=>h.new k (zV hF.size hk)
  gh:=fun k hk=>?_
  dh:=fun e=>?_
  du:=fun v hU=>⟨(h.du v hU).1,fun k hk e=>?_⟩ },hF.mono fun k _ e=>e.elim (fun e=>e ▸ h.gB) (h.gh k)⟩
 ·rcases hor with e | ⟨q,e,hq⟩
  ·exact h.gh k (e ▸ hk)
  ·rw [hk] at e; injection e with e; subst e; exact h.new _ hq
 ·rcases hor with e2 | ⟨q,e2,hq⟩
  ·exact h.dh (e2 ▸ e)
  ·rw [e] at e2; injection e2 with e2; have:=ae ho; omega
 ·rcases hor with e2 | ⟨q,e2,hq⟩
  ·exact (h.du v hU).2 k (e2 ▸ hk) e
  ·rw [hk] at e2; injection e2 with e2; have:=h.rlt hU e; omega
theorem BM.setBound (h:BM G K lits S bd op ls hp hv NB NU w) {v:List UInt8} {NB':Nat} (hm:bR Tryz.prog 9 K.mb NB' (putF (iP bd) (.string v) (.bool true)) w') (hg:w.grownBy w' (some K.mb)):BM G K lits S (bd++[v]) op ls hp hv NB' NU w'/\Fr G w w':=by
 obtain ⟨oc,ho⟩:=h.oo; obtain ⟨lc,hl⟩:=h.lo; obtain ⟨es1,cl1,hm1⟩:=h.bound.obj
 have hne:∀ k,k < w.heap.size->k≠K.mb->w'.heap[k]? = w.heap[k]?:=fun k hk h1=>hg.block k hk fun e=>h1 (by injection e)
 have hty:∀ {k:Nat} {c:Array Value} {t:TypeId} {f:Nat × Nat},w.heap[k]? = some (.cells c t f)->k≠K.mb:=fun hk=>cS hk hm1 (by simp [tyO])
 refine ⟨{ h with
  blk:=(hne _ (ae h.blk) (hty h.blk)).trans h.blk
  lit:=h.lit.move eA fun k hk hs=>⟨hs,hne k hk fun e=>h.low k hs (e ▸ h.gb)⟩
  bound:=hm.congr fun kl _=>?_
  opn:=aJ h.opn (fun k hk=>by injection hk with hk; subst hk; exact hne _ (ae ho) (hty ho)) (fun _ _=>zW _)
  use:=h.use.same (hne _ h.use.lt fun e=>h.dm e.symm)
  lst:=aJ h.lst (fun k hk=>by injection hk with hk; subst hk; exact hne _ (ae hl) (hty hl)) (fun _ _=>zW _)
  heap:=h.heap.keep fun k hk=>hne _ (h.hlt hk) (by obtain ⟨c,hc⟩:=cE h.heap hk; exact hty hc)
  rows:=fun v hU=>(h.rows v hU).keep fun k hk=>hne _ (h.rlt hU hk) (by obtain ⟨c,hc⟩:=cE (h.rows v hU) hk; exact hty hc)
  new:=fun k hk=>h.new k (zV hg.size hk) },(Fr.refl G w).grown hg fun k hk=>by injection hk with hk; subst hk; exact Or.inl h.gb⟩
 unfold putF
 cases kl with
 | string s =>
  by_cases e:s=v
  ·subst e; simp [iP]
  ·by_cases e2:s∈bd
   ·simp [iP,e2,e]
   ·simp [iP,e2,e]
 | _=>simp [iP]
end
end Go.Proofs.YtffdpoifdahadaaGreatDoor
namespace Go.Proofs.YtffdpoifdahadaaGreatDoor
open Go.RowKit
open Go.Lib (hid)
theorem py {α:Type} {l:List α} {i:Nat} {d:α} (h:i < l.length):l.set i (l.getD i d)=l:=by
 refine List.ext_getElem? fun j=>?_
 rw [List.getElem?_set]; by_cases e:i=j
 ·subst e; rw [if_pos rfl,if_pos h]; exact (getD_some h).symm
 ·rw [if_neg e]
def PList (G:aP) (K:BK) (lits:List Lg) (S:aP) (bd:List (List UInt8)) (op:List Nat) (ls:List Bool) (tk:List Nat) (NB NU:Nat) (w:World) (e:Ending) (w':World):Prop :=
 e=.returned (.tuple #[])/\∃ hp' hv',BM G K lits S bd op ls hp' hv' NB NU w'/\HB lits.length tk ls hp'/\Fr G w w'
theorem gZ {P:Program} {t:TypeId} {g n cap i:Nat} (hi:i < n) (ht:P.underlying t=some (.slice (P.elem t))) (hz:∀ w,(sizeOf (P.elem t)).run P w=.ok 1 w) (kd:IntKind) (W:World) :
  (Instr.indexAt t (.slice (some ⟨g,0,none⟩) n cap) (.int kd i)).run P W=.ok (.pointer (some ⟨g,i,none⟩)) W:=oT hi ht hz kd W
theorem lp {w w1:World} (hb:Below w.drew.heap.size w.drew w1) (p:Addr) (u:Value) (h:w.cell? p=some u):w1.cell? p=some u :=
 (hb.cell (p:=p) (Aj w p h)).trans h
theorem pZ (G:aP) (K:BK) (lits:List Lg) (S:aP) (bd:List (List UInt8)) (op:List Nat) (ls:List Bool) (tk:List Nat) (hp:List Int) (hv:Value) (NB NU i:Nat) (w:World) (h:BM G K lits S bd op ls hp hv NB NU w) (hH:HB lits.length tk ls hp) (hi:i < lits.length) (hol:op.length=lits.length) (hsz:lits.length<=1048576) :
  Calls Tryz.prog 38 #[pt K.B,iv i] w (PList G K lits S bd op (ls.set i (ls.getD i false || eK (aZ lits i) (op.getD i 0))) tk NB NU w):=by
 have c0:w.cell? ⟨K.B,0,none⟩=some (.slice K.la lits.length K.lc):=(aj h.blk).trans rfl; have c2:w.cell? ⟨K.B,2,none⟩=some (.slice (some ⟨K.ob,0,none⟩) lits.length K.oc):=(aj h.blk).trans rfl; have c4:w.cell? ⟨K.B,4,none⟩=some (.slice (some ⟨K.lb,0,none⟩) lits.length K.lbc):=(aj h.blk).trans rfl; have q4:=gZ (P:=Tryz.prog) (t:=69) (g:=K.lb) (cap:=K.lbc) hi (by kernel_rfl) (fun _=>by kernel_rfl); have q2:=gZ (P:=Tryz.prog) (t:=33) (g:=K.ob) (cap:=K.oc) hi (by kernel_rfl) (fun _=>by kernel_rfl); have hlsl:=hH.len
 have hil:i < ls.length:=by rw [hlsl]; exact hi
 obtain ⟨d4,f4,-⟩:=ej (i:=i) (x:=.bool (ls.getD i false)) h.lst (by rw [Ai,getD_some hil]; rfl); have d2:w.cell? ⟨K.ob,i,none⟩=some (iv (op.getD i 0)):=(ej (i:=i) (x:=iv (op.getD i 0)) h.opn (by rw [Ai,Ai,getD_some (by omega)]; rfl)).1; have hF0:=hid (Fr.refl G w); have hgl:=h.gl; have hset:=hid (fun hp hv (W:World) (hW:BM G K lits S bd op ls hp hv NB NU W)=>hW.setListed hi); by_cases hb:ls.getD i false=true
 ·rw [hb]
  rw [hb] at d4
  have e:ls.set i (true || eK (aZ lits i) (op.getD i 0))=ls:=by
   rw [Bool.true_or,← hb]; exact py hil
  rw [e]; have hfin:=hid (show BM G K lits S bd op ls hp hv NB NU w from h); replace hH:=hid hH; obtain ⟨n,hn⟩:∃ n,n=lits.length:=⟨_,rfl⟩; rw [← hn] at c0 c2 c4 q4 q2 hlsl; replace hn:=hid hn; replace hlsl:=hid hlsl; clear h hset e
  go_enter Tryz.func38,Tryz.ntmps38
  go_wp2_with fail
  go_quiet (fail)
  all_goals go_wp2_with fail
  all_goals exact bodyPost_end (results_none (by rfl) _ _ _) rfl ⟨rfl,_,_,hfin.out.below (bG (zN _ w) _),hH.out,Fr.of_below (bG (zN _ w) _) _⟩
 ·replace hb:ls.getD i false=false:=by simpa using hb
  rw [hb] at d4 ⊢; rw [Bool.false_or]; have hlit:lits[i]? = some (aZ lits i):=getD_some hi; obtain ⟨g,o,cs,hidx,-,hg,hc,hrt⟩:=h.lit.at (P:=Tryz.prog) (t:=25) (by kernel_rfl) (fun _=>by kernel_rfl) hlit; obtain ⟨xa,xc,rfl,-⟩:=hrt; have e0:w.cell? ⟨g,o+0,none⟩=some (iv (aZ lits i).op):=hc 0 _ rfl; have e1:w.cell? ⟨g,o+1,none⟩=some (.bool (aZ lits i).nt):=hc 1 _ rfl; have e2:w.cell? ⟨g,o+2,none⟩=some (sv (aZ lits i).rel):=hc 2 _ rfl; have e3:w.cell? ⟨g,o+3,none⟩=some (.slice xa (aZ lits i).args.length xc):=hc 3 _ rfl; rw [Nat.add_zero] at e0; generalize op.getD i 0=on at *; have hrd:=hid (fun W=>p_ (aZ lits i).op (aZ lits i).nt (aZ lits i).rel xa (aZ lits i).args.length xc (on) W)
  obtain ⟨rb,hrb⟩:∃ b,b=eK (aZ lits i) (on):=⟨_,rfl⟩; rw [← hrb]; replace hrd:=hid (fun W=>hrb ▸ hrd.out W:∀ W,Calls Tryz.prog 65 #[.agg #[iv (aZ lits i).op,.bool (aZ lits i).nt,sv (aZ lits i).rel,.slice xa (aZ lits i).args.length xc],iv (on)] W fun e w'=>e=.returned (.bool rb)/\Below W.heap.size W w'); have hh:=hid h; replace hH:=hid hH; replace hrb:=hid hrb; replace hb:=hid hb; generalize aZ lits i=x at *; obtain ⟨n,hn⟩:∃ n,n=lits.length:=⟨_,rfl⟩; rw [← hn] at c0 c2 c4 q4 q2 hlsl hidx; replace hn:=hid hn; replace hlsl:=hid hlsl; clear h hc hlit
  go_enter Tryz.func38,Tryz.ntmps38
  go_wp2_with fail
  go_region_held3 (fun w'=>w'.cell? ⟨K.B,0,none⟩=some (.slice K.la n K.lc)/\w'.cell? ⟨K.B,2,none⟩=some (.slice (some ⟨K.ob,0,none⟩) n K.oc)/\w'.cell? ⟨K.B,4,none⟩=some (.slice (some ⟨K.lb,0,none⟩) n K.lbc)/\w'.cell? ⟨K.lb,i,none⟩=some (.bool false)/\w'.cell? ⟨K.ob,i,none⟩=some (iv (on))/\w'.cell? ⟨g,o,none⟩=some (iv x.op)/\w'.cell? ⟨g,o+1,none⟩=some (.bool x.nt)/\w'.cell? ⟨g,o+2,none⟩=some (sv x.rel)/\w'.cell? ⟨g,o+3,none⟩=some (.slice xa x.args.length xc)) (first | with_reducible exact ⟨c0,c2,c4,d4,d2,e0,e1,e2,e3⟩ | exact ⟨kp _ _ c0,kp _ _ c2,kp _ _ c4,kp _ _ d4,kp _ _ d2,kp _ _ e0,kp _ _ e1,kp _ _ e2,kp _ _ e3⟩ | go_keep) ((go_at_call 65; (with_reducible refine (hrd.out _).mono ?_); rintro e w1 ⟨rfl,hb1⟩; have kp:=lp hb1; replace hb1:=hid hb1))
  have hbx:Below w.heap.size w w1:=(show Below w.heap.size w w.drew from (zN _ w).drew).trans hb1.out; have hM1:=hid (hh.out.below hbx); have hF1:=hid (Fr.of_below hbx G); have c4':=lp hb1.out _ _ c4; have d4':=lp hb1.out _ _ d4; have f4':w1.frozen? ⟨K.lb,i,none⟩=false:=(World.frozen?_of_block (hbx.block K.lb (Aj w _ d4))).trans f4
  cases rb with
  | false =>
   have e:ls.set i false=ls:=by have:=py (d:=false) hil; rw [hb.out] at this; exact this
   replace e:=hid e
   go_wp2_with fail
   exact bodyPost_end (results_none (by rfl) _ _ _) rfl ⟨rfl,_,_,by rw [e.out]; exact hM1.out,by rw [e.out]; exact hH.out,hF1.out⟩
  | true =>
   have hM2:=hid (hM1.out.setListed hi); have hF2:=hid (hF1.out.setCell (p:=⟨K.lb,i,none⟩) (Or.inl hgl) (.bool true)); have hH2:=hid (hH.out.push hi hb.out); clear c0 c2 c4 d4 d2 e0 e1 e2 e3 hidx q2 hM1 hF1 f4 hset
   go_wp2_with fail
   have hsm:=hH.out.small
   have hown:∀ k,hv.ownBlock=some k->k≠K.B:=fun k hk=>by
    obtain ⟨c,hc⟩:=cE hM2.out.heap hk; exact cS hc hM2.out.blk (by simp [tyO])
   refine (oU K.B _ _ _ _ _ hv hp i (w1.setCell ⟨K.lb,i,none⟩ (.bool true)) hM2.out.blk hM2.out.heap hown (by omega)).mono ?_; rintro e w2 ⟨rfl,hv',hB2,hI2,-,hor,hF3⟩; obtain ⟨hM3,hF4⟩:=hM2.out.setHeap hB2 hI2 hor hF3; replace hM3:=hid hM3; replace hF4:=hid hF4; clear hB2 hI2 hor hF3 hM2
   go_wp2_with fail
   exact bodyPost_end (results_none (by rfl) _ _ _) rfl ⟨rfl,_,_,hM3.out,hH2.out,hF2.out.trans hF4.out⟩
end Go.Proofs.YtffdpoifdahadaaGreatDoor
namespace Go.Proofs.YtffdpoifdahadaaGreatDoor
theorem gL {α:Type} {l:List α} {i j:Nat} {x d:α} (hi:i < l.length):(l.set i x).getD j d=if j=i then x else l.getD j d:=by
 rw [zZ,List.getElem?_set]; by_cases e:j=i
 ·subst e; rw [if_pos rfl,if_pos rfl,if_pos hi]; rfl
 ·rw [if_neg fun x=>e x.symm,if_neg e,zZ]
def il (lits:List Lg) (bd:List (List UInt8)) (us:List Nat) (op:List Nat):Prop:=op.length=lits.length/\∀ j,j < lits.length->op.getD j 0+us.count j=dL bd (aZ lits j)
def mY (lits:List Lg) (op:List Nat) (ls:List Bool):Prop:=ls.length=lits.length/\∀ j,j < lits.length->ls.getD j false=eK (aZ lits j) (op.getD j 0)
theorem il.start {lits:List Lg} {bd:List (List UInt8)} {op:List Nat} (hl:op.length=lits.length) (h:∀ j,j < lits.length->op.getD j 0=dL bd (aZ lits j)):il lits bd [] op:=⟨hl,fun j hj=>by rw [h j hj]; rfl⟩
theorem il.round {lits:List Lg} {bd:List (List UInt8)} {v:List UInt8} {op:List Nat} {k i:Nat} (h:il lits bd ((cP lits lits.length v).take k) op) (hv:v ∉ bd) (hi:(cP lits lits.length v)[k]? = some i) :
  i < lits.length/\1<=op.getD i 0/\il lits bd ((cP lits lits.length v).take (k+1)) (op.set i (op.getD i 0 - 1)):=by
 have hin:=vg (zU hi)
 have htk:(cP lits lits.length v).take (k+1)=(cP lits lits.length v).take k++[i]:=by rw [List.take_add_one,hi]; rfl
 have hle:((cP lits lits.length v).take (k+1)).count i<=(cP lits lits.length v).count i:=(List.take_sublist _ _).count_le _; rw [ix,if_pos hin] at hle; have h2:=nP hv (aZ lits i); rw [htk,List.count_append] at hle
 have h3:([i]:List Nat).count i=1:=by simp
 have h4:=h.2 i hin; refine ⟨hin,by omega,by rw [List.length_set]; exact h.1,fun j hj=>?_⟩; rw [gL (by rw [h.1]; exact hin),htk,List.count_append]; by_cases e:j=i
 ·subst e
  rw [if_pos rfl]; omega
 ·rw [if_neg e,← h.2 j hj]
  have:([i]:List Nat).count j=0:=by simp [Ne.symm e]
  omega
theorem il.done {lits:List Lg} {bd:List (List UInt8)} {v:List UInt8} {op:List Nat} (h:il lits bd (cP lits lits.length v) op) (hv:v ∉ bd):∀ j,j < lits.length->op.getD j 0=dL (bd++[v]) (aZ lits j):=fun j hj=>by
 have h1:=h.2 j hj; rw [ix,if_pos hj] at h1; have h2:=nP hv (aZ lits j); omega
theorem mY.round {lits:List Lg} {op:List Nat} {ls:List Bool} {i:Nat} (h:mY lits op ls) (hl:op.length=lits.length) (hi:i < lits.length) :
  mY lits (op.set i (op.getD i 0 - 1)) (ls.set i (ls.getD i false || eK (aZ lits i) ((op.set i (op.getD i 0 - 1)).getD i 0))):=by
 refine ⟨by rw [List.length_set]; exact h.1,fun j hj=>?_⟩; rw [gL (by rw [h.1]; exact hi),gL (by omega),gL (by omega),if_pos rfl]; by_cases e:j=i
 ·subst e
  rw [if_pos rfl,if_pos rfl,h.2 j hj]; rcases hr:eK (aZ lits j) (op.getD j 0) with _ | _
  ·rfl
  ·rw [vJ hr (Nat.sub_le _ 1)]; rfl
 ·rw [if_neg e,if_neg e]; exact h.2 j hj
def tvL (t:Tg):List (List UInt8):=if fk t=true then [t.var] else []
theorem g_ (x:Lg) (k:Nat) (t:Tg) (h:x.args[k]? = some t):((x.args.take (k+1)).filter fk).map Tg.var=((x.args.take k).filter fk).map Tg.var++tvL t:=by
 rw [List.take_add_one,h,List.filter_append,List.map_append]
 congr 1
 unfold tvL; simp only [Option.toList,List.filter_cons,List.filter_nil]; split <;> rfl
end Go.Proofs.YtffdpoifdahadaaGreatDoor
namespace Go.Proofs.YtffdpoifdahadaaGreatDoor
open Go.RowKit
open Go.Lib (hid)
theorem bH (s:List UInt8) (h:s.length<=1048576):keyOf Tryz.prog 9 (sv s)=some (.string s):=by
 have:=WideMaps.keyOf_string_mk (P:=Tryz.prog) (k:=9) Tryz.underlying9 (s:=⟨s.toArray⟩) (by rw [ByteArray.size_mk',List.size_toArray]; unfold maxLen; omega); simpa using this
theorem bj {w w' W:World} {b B:Nat} (hg:w.grownBy w' (some b)) (hb:B<=b) (hB:B<=w.heap.size):Below B w w' :=
 ⟨hg.os,hg.tape,hg.output,hg.size,fun k hk=>hg.block k (by omega) fun e=>by injection e; omega⟩

def mW:List (List UInt8 × Nat):=[([101,118,101,110,116],2),([104,97,110,100,108,101,100],3),([99,97,117,115,101,100],2),([115,101,110,116],4),([115,101,116],4),([115,112,97,119,110,101,100],3),([115,116,111,112,112,101,100],2),([102,97,105,108,101,100],3),([114,101,115,116,97,114,116,101,100],2),([97,115,107,101,100],4),([97,110,115,119,101,114,101,100],4),([108,111,115,116],3),([102,105,114,101,100],3),([97,114,114,105,118,101,100],3)]
def arF (s:List UInt8):Nat:=((mW.find? fun p=>decide (p.1=s)).map Prod.snd).getD 0
def arV:Lit->Option Value
 | .string s=>(mW.find? fun p=>decide (p.1=s)).map fun p=>iv p.2
 | _=>none
noncomputable def arP:Lit->Option Value:=(putF (putF (putF (putF (putF (putF (putF (putF (putF (putF (putF (putF (putF (putF (fun _=>none) (.string [101,118,101,110,116]) (iv 2)) (.string [104,97,110,100,108,101,100]) (iv 3)) (.string [99,97,117,115,101,100]) (iv 2)) (.string [115,101,110,116]) (iv 4)) (.string [115,101,116]) (iv 4)) (.string [115,112,97,119,110,101,100]) (iv 3)) (.string [115,116,111,112,112,101,100]) (iv 2)) (.string [102,97,105,108,101,100]) (iv 3)) (.string [114,101,115,116,97,114,116,101,100]) (iv 2)) (.string [97,115,107,101,100]) (iv 4)) (.string [97,110,115,119,101,114,101,100]) (iv 4)) (.string [108,111,115,116]) (iv 3)) (.string [102,105,114,101,100]) (iv 3)) (.string [97,114,114,105,118,101,100]) (iv 3))
theorem zH (kl:Lit) (hk:WideAt.IsKeyLit kl):arV kl=arP kl:=by
 unfold arV arP putF
 cases kl with
 | string s =>
  unfold mW; by_cases h0:s=[101,118,101,110,116]
  ·subst h0; simp
  by_cases h1:s=[104,97,110,100,108,101,100]
  ·subst h1; simp
  by_cases h2:s=[99,97,117,115,101,100]
  ·subst h2; simp
  by_cases h3:s=[115,101,110,116]
  ·subst h3; simp
  by_cases h4:s=[115,101,116]
  ·subst h4; simp
  by_cases h5:s=[115,112,97,119,110,101,100]
  ·subst h5; simp
  by_cases h6:s=[115,116,111,112,112,101,100]
  ·subst h6; simp
  by_cases h7:s=[102,97,105,108,101,100]
  ·subst h7; simp
  by_cases h8:s=[114,101,115,116,97,114,116,101,100]
  ·subst h8; simp
  by_cases h9:s=[97,115,107,101,100]
  ·subst h9; simp
  by_cases h10:s=[97,110,115,119,101,114,101,100]
  ·subst h10; simp
  by_cases h11:s=[108,111,115,116]
  ·subst h11; simp
  by_cases h12:s=[102,105,114,101,100]
  ·subst h12; simp
  by_cases h13:s=[97,114,114,105,118,101,100]
  ·subst h13; simp
  simp only [List.find?_cons,List.find?_nil]; simp [h0,Ne.symm h0,h1,Ne.symm h1,h2,Ne.symm h2,h3,Ne.symm h3,h4,Ne.symm h4,h5,Ne.symm h5,h6,Ne.symm h6,h7,Ne.symm h7,h8,Ne.symm h8,h9,Ne.symm h9,h10,Ne.symm h10,h11,Ne.symm h11,h12,Ne.symm h12,h13,Ne.symm h13]
 | _=>simp
theorem i9 (s:List UInt8) (hs:s.length<=1048576) (w:World) :
  Calls Tryz.prog 22 #[sv s] w fun e w'=>e=.returned (iv (arF s))/\Below w.heap.size w w':=by
 obtain ⟨V0,hV0⟩:∃ V0,V0=w.alloc (.map #[] 0):=⟨_,rfl⟩; have hm0:=bR.made (P:=Tryz.prog) (k:=9) w; rw [← hV0] at hm0; obtain ⟨V1,hu1,hm1,hg1⟩:=hm0.put (Maps.string_keyed Tryz.underlying9) (t:=83) (e:=3) Tryz.underlying83 (by decide) (bH [101,118,101,110,116] (by decide)) trivial (iv 2); obtain ⟨V2,hu2,hm2,hg2⟩:=hm1.put (Maps.string_keyed Tryz.underlying9) (t:=83) (e:=3) Tryz.underlying83 (by decide) (bH [104,97,110,100,108,101,100] (by decide)) trivial (iv 3); obtain ⟨V3,hu3,hm3,hg3⟩:=hm2.put (Maps.string_keyed Tryz.underlying9) (t:=83) (e:=3) Tryz.underlying83 (by decide) (bH [99,97,117,115,101,100] (by decide)) trivial (iv 2)
 obtain ⟨V4,hu4,hm4,hg4⟩:=hm3.put (Maps.string_keyed Tryz.underlying9) (t:=83) (e:=3) Tryz.underlying83 (by decide) (bH [115,101,110,116] (by decide)) trivial (iv 4); obtain ⟨V5,hu5,hm5,hg5⟩:=hm4.put (Maps.string_keyed Tryz.underlying9) (t:=83) (e:=3) Tryz.underlying83 (by decide) (bH [115,101,116] (by decide)) trivial (iv 4); obtain ⟨V6,hu6,hm6,hg6⟩:=hm5.put (Maps.string_keyed Tryz.underlying9) (t:=83) (e:=3) Tryz.underlying83 (by decide) (bH [115,112,97,119,110,101,100] (by decide)) trivial (iv 3)
 obtain ⟨V7,hu7,hm7,hg7⟩:=hm6.put (Maps.string_keyed Tryz.underlying9) (t:=83) (e:=3) Tryz.underlying83 (by decide) (bH [115,116,111,112,112,101,100] (by decide)) trivial (iv 2); obtain ⟨V8,hu8,hm8,hg8⟩:=hm7.put (Maps.string_keyed Tryz.underlying9) (t:=83) (e:=3) Tryz.underlying83 (by decide) (bH [102,97,105,108,101,100] (by decide)) trivial (iv 3); obtain ⟨V9,hu9,hm9,hg9⟩:=hm8.put (Maps.string_keyed Tryz.underlying9) (t:=83) (e:=3) Tryz.underlying83 (by decide) (bH [114,101,115,116,97,114,116,101,100] (by decide)) trivial (iv 2)
 obtain ⟨V10,hu10,hm10,hg10⟩:=hm9.put (Maps.string_keyed Tryz.underlying9) (t:=83) (e:=3) Tryz.underlying83 (by decide) (bH [97,115,107,101,100] (by decide)) trivial (iv 4); obtain ⟨V11,hu11,hm11,hg11⟩:=hm10.put (Maps.string_keyed Tryz.underlying9) (t:=83) (e:=3) Tryz.underlying83 (by decide) (bH [97,110,115,119,101,114,101,100] (by decide)) trivial (iv 4); obtain ⟨V12,hu12,hm12,hg12⟩:=hm11.put (Maps.string_keyed Tryz.underlying9) (t:=83) (e:=3) Tryz.underlying83 (by decide) (bH [108,111,115,116] (by decide)) trivial (iv 3)
 obtain ⟨V13,hu13,hm13,hg13⟩:=hm12.put (Maps.string_keyed Tryz.underlying9) (t:=83) (e:=3) Tryz.underlying83 (by decide) (bH [102,105,114,101,100] (by decide)) trivial (iv 3); obtain ⟨V14,hu14,hm14,hg14⟩:=hm13.put (Maps.string_keyed Tryz.underlying9) (t:=83) (e:=3) Tryz.underlying83 (by decide) (bH [97,114,114,105,118,101,100] (by decide)) trivial (iv 3)
 have hb:Below w.heap.size w V14:=by
  have y0:Below w.heap.size w V0:=by rw [hV0]; exact (zN w.heap.size w).alloc (zM _) (.map #[] 0)
  have y1:=y0.trans (bj (W:=w) hg1 (zM _) y0.size); have y2:=y1.trans (bj (W:=w) hg2 (zM _) y1.size); have y3:=y2.trans (bj (W:=w) hg3 (zM _) y2.size); have y4:=y3.trans (bj (W:=w) hg4 (zM _) y3.size); have y5:=y4.trans (bj (W:=w) hg5 (zM _) y4.size); have y6:=y5.trans (bj (W:=w) hg6 (zM _) y5.size); have y7:=y6.trans (bj (W:=w) hg7 (zM _) y6.size); have y8:=y7.trans (bj (W:=w) hg8 (zM _) y7.size); have y9:=y8.trans (bj (W:=w) hg9 (zM _) y8.size); have y10:=y9.trans (bj (W:=w) hg10 (zM _) y9.size); have y11:=y10.trans (bj (W:=w) hg11 (zM _) y10.size); have y12:=y11.trans (bj (W:=w) hg12 (zM _) y11.size)
  have y13:=y12.trans (bj (W:=w) hg13 (zM _) y12.size); have y14:=y13.trans (bj (W:=w) hg14 (zM _) y13.size); exact y14
 have hmap:=hm14.congr zH
 have hmk:(Instr.makeMap 83 none).run Tryz.prog w=.ok (.map (some w.heap.size)) V0:=by rw [hV0]; exact run_makeMap _ _
 have hlook:=hmap.look (Maps.string_keyed Tryz.underlying9) (t:=83) (e:=3) Tryz.underlying83 (z:=iv 0) (by kernel_rfl) (bH s hs) trivial
 have hval:(arV (.string s)).getD (iv 0)=iv (arF s):=by
  unfold arF; show (((mW.find? fun p=>decide (p.1=s)).map fun p=>iv p.2)).getD (iv 0)=_
  cases mW.find? fun p=>decide (p.1=s) <;> rfl
 rw [hval] at hlook; obtain ⟨mb,hmb⟩:∃ mb,mb=w.heap.size:=⟨_,rfl⟩; rw [← hmb] at hmk hlook hu1 hu2 hu3 hu4 hu5 hu6 hu7 hu8 hu9 hu10 hu11 hu12 hu13 hu14; replace hb:=hid hb; replace hmb:=hid hmb; obtain ⟨x,hx⟩:∃ x,x=arF s:=⟨_,rfl⟩; rw [← hx] at hlook ⊢; replace hx:=hid hx; clear hmap hval hV0 hm0 hm1 hm2 hm3 hm4 hm5 hm6 hm7 hm8 hm9 hm10 hm11 hm12 hm13 hm14 hg1 hg2 hg3 hg4 hg5 hg6 hg7 hg8 hg9 hg10 hg11 hg12 hg13 hg14
 go_enter Tryz.func22,Tryz.ntmps22
 go_wp2_with fail
 go_ret; exact ⟨rfl,hb.out⟩
end Go.Proofs.YtffdpoifdahadaaGreatDoor
namespace Go.Proofs.YtffdpoifdahadaaGreatDoor
open Go.RowKit
open Go.Lib (hid)
structure BI (G:aP) (K:BK) (lits:List Lg) (S:aP) (bd:List (List UInt8)) (tk:List Nat) (hp:List Int) (hv:Value) (NB NU:Nat) (w:World):Prop where
 ex:∃ op ls,BM G K lits S bd op ls hp hv NB NU w/\HB lits.length tk ls hp/\op.length=lits.length/\(∀ j,j < lits.length->op.getD j 0=dL bd (aZ lits j))/\mY lits op ls
def PBind (G:aP) (K:BK) (lits:List Lg) (S:aP) (bd:List (List UInt8)) (tk:List Nat) (NB NU:Nat) (w:World) (e:Ending) (w':World):Prop :=
 e=.returned (.tuple #[])/\∃ hp' hv',BI G K lits S bd tk hp' hv' NB NU w'/\Fr G w w'
structure Sml (lits:List Lg):Prop where
 len:lits.length<=1048576
 use:∀ v,(cP lits lits.length v).length<=2000000000000
 arg:∀ x∈lits,x.args.length<=1048576
 var:∀ x∈lits,∀ t∈x.args,t.var.length<=1048576
theorem t_ (bd:List (List UInt8)) (x:Lg):dL bd x<=x.args.length:=by
 unfold dL el; exact zV (List.length_filter_le _ _) (by rw [zY]; exact List.length_filter_le _ _)
theorem h_ {lits:List Lg} {i:Nat} (h:i < lits.length):aZ lits i∈lits:=zU (getD_some h)
def iw (K:BK) (s:List UInt8):Value:=if K.U s=[] then .slice none 0 0 else K.uv s
theorem ph {G:aP} {K:BK} {lits:List Lg} {S:aP} {bd:List (List UInt8)} {op:List Nat} {ls:List Bool} {hp:List Int} {hv:Value} {NB NU:Nat} {w:World} (h:BM G K lits S bd op ls hp hv NB NU w) (s:List UInt8) (hs:s.length<=1048576) :
  (Instr.lookup 68 (.map (some K.mu)) (sv s) false).run Tryz.prog w=.ok (iw K s) w:=by
 have:=h.use.look (Maps.string_keyed Tryz.underlying9) (t:=68) (e:=33) Tryz.underlying68 (z:=.slice none 0 0) (by kernel_rfl) (bH s hs) trivial; rw [this]; show (Result.ok ((if K.U s=[] then none else some (K.uv s)).getD (.slice none 0 0)) w:Result Value)=_; unfold iw; by_cases e:K.U s=[]
 ·rw [if_pos e,if_pos e]; rfl
 ·rw [if_neg e,if_neg e]; rfl
theorem ve {G:aP} {K:BK} {lits:List Lg} {S:aP} {bd:List (List UInt8)} {op:List Nat} {ls:List Bool} {hp:List Int} {hv:Value} {NB NU:Nat} {w:World} (h:BM G K lits S bd op ls hp hv NB NU w) (s:List UInt8):∃ a c,iw K s=.slice a (K.U s).length c:=by
 unfold iw; by_cases e:K.U s=[]
 ·rw [if_pos e,e]; exact ⟨_,_,rfl⟩
 ·rw [if_neg e]
  obtain ⟨a,c,e2,-⟩:=bp (h.rows s e)
  have:(bQ (K.U s)).length=(K.U s).length:=by simp
  rw [this] at e2; exact ⟨a,c,e2⟩
theorem uv_at {G:aP} {K:BK} {lits:List Lg} {S:aP} {bd:List (List UInt8)} {op:List Nat} {ls:List Bool} {hp:List Int} {hv:Value} {NB NU:Nat} {w:World} (h:BM G K lits S bd op ls hp hv NB NU w) {s:List UInt8} {a:Option Addr} {c:Nat} (e:iw K s=.slice a (K.U s).length c) {k i:Nat} (hk:(K.U s)[k]? = some i) :
  ∃ g,(∀ kd W,(Instr.indexAt 33 (.slice a (K.U s).length c) (.int kd k)).run Tryz.prog W=.ok (.pointer (some ⟨g,k,none⟩)) W)/\w.cell? ⟨g,k,none⟩=some (iv i):=by
 have hlt:=(List.getElem?_eq_some_iff.1 hk).1
 have hne:K.U s≠[]:=by rintro e; rw [e] at hlt; simp at hlt
 have hr:=h.rows s hne; unfold iw at e; rw [if_neg hne] at e; rw [e] at hr
 have hl:(bQ (K.U s)).length=(K.U s).length:=by simp
 obtain ⟨g,c',e2,hc,-,hcell,-⟩:=fi hr (by omega); simp only [Value.slice.injEq] at e2; obtain ⟨rfl,-,rfl⟩:=e2; exact ⟨g,gZ hlt (by kernel_rfl) (fun _=>by kernel_rfl),hcell k i (by unfold bQ; rw [Ai,hk]; rfl)⟩
theorem uN {G:aP} {K:BK} {lits:List Lg} {S:aP} {bd bd':List (List UInt8)} {tk:List Nat} {hp:List Int} {hv:Value} {NB NU:Nat} {w:World} (h:BI G K lits S bd tk hp hv NB NU w) (hb:∀ v,v∈bd' ↔ v∈bd):BI G K lits S bd' tk hp hv NB NU w:=by
 obtain ⟨op,ls,h1,h2,h3,h4,h5⟩:=h.ex; exact ⟨op,ls,h1.congr hb,h2,h3,fun j hj=>by rw [h4 j hj,rG hb],h5⟩
theorem BM.monoB {G:aP} {K:BK} {lits:List Lg} {S:aP} {bd:List (List UInt8)} {op:List Nat} {ls:List Bool} {hp:List Int} {hv:Value} {NB NB' NU:Nat} {w:World} (h:BM G K lits S bd op ls hp hv NB NU w) (hn:NB<=NB'):BM G K lits S bd op ls hp hv NB' NU w:={ h with bound:=h.bound.mono hn }
theorem BI.below {G:aP} {K:BK} {lits:List Lg} {S:aP} {bd:List (List UInt8)} {tk:List Nat} {hp:List Int} {hv:Value} {NB NU:Nat} {w w':World} (h:BI G K lits S bd tk hp hv NB NU w) (hb:Below w.heap.size w w'):BI G K lits S bd tk hp hv NB NU w':=by
 obtain ⟨op,ls,h1,h2⟩:=h.ex; exact ⟨op,ls,h1.below hb,h2⟩
theorem BI.monoB {G:aP} {K:BK} {lits:List Lg} {S:aP} {bd:List (List UInt8)} {tk:List Nat} {hp:List Int} {hv:Value} {NB NB' NU:Nat} {w:World} (h:BI G K lits S bd tk hp hv NB NU w) (hn:NB<=NB'):BI G K lits S bd tk hp hv NB' NU w:=by
 obtain ⟨op,ls,h1,h2⟩:=h.ex; exact ⟨op,ls,h1.monoB hn,h2⟩
theorem xm (G:aP) (K:BK) (lits:List Lg) (S:aP) (bd:List (List UInt8)) (tk:List Nat) (hp:List Int) (hv:Value) (NB NU:Nat) (t:Tg) (ta:Option Addr) (tc:Nat) (w:World) (h:BI G K lits S bd tk hp hv NB NU w) (hs:Sml lits) (hU:∀ v,K.U v=cP lits lits.length v) (hv0:t.var.length<=1048576) (hN:NB<=2000000000000) :
  Calls Tryz.prog 29 #[pt K.B,.agg (aR t ta tc)] w (PBind G K lits S (bd++tvL t) tk (NB+1) NU w):=by
 obtain ⟨var,kind,vt,n0,m0,vs,ln⟩:=t; replace hv0:var.length<=1048576:=hv0
 have hbw:∀ W,Calls Tryz.prog 30 #[.agg #[sv var,iv kind,sv vt,iv n0,iv m0,sv vs,.slice ta ln tc]] W fun e w'=>e=.returned (.bool (eT var))/\Below W.heap.size W w':=fun W=>jG ⟨var,kind,vt,n0,m0,vs,ln⟩ ta tc W hv0
 show Calls Tryz.prog 29 #[pt K.B,.agg #[sv var,iv kind,sv vt,iv n0,iv m0,sv vs,.slice ta ln tc]] w _; obtain ⟨op,ls,hM,hH,hol,hop,hla⟩:=h.ex; have hb0:Below w.heap.size w (w.alloc (.cells #[sv var,iv kind,sv vt,iv n0,iv m0,sv vs,.slice ta ln tc] 63)):=(zN _ w).alloc (zM _) _; have hbn:(w.alloc (.cells #[sv var,iv kind,sv vt,iv n0,iv m0,sv vs,.slice ta ln tc] 63)).heap[w.heap.size]? = some (.cells #[sv var,iv kind,sv vt,iv n0,iv m0,sv vs,.slice ta ln tc] 63 (0,0)):=af _ _; have hM0:=hM.below hb0; obtain ⟨w0,hw0⟩:∃ w0,w0=w.alloc (.cells #[sv var,iv kind,sv vt,iv n0,iv m0,sv vs,.slice ta ln tc] 63):=⟨_,rfl⟩; rw [← hw0] at hb0 hbn hM0
 have c1:w0.cell? ⟨K.B,1,none⟩=some (.map (some K.mb)):=(aj hM0.blk).trans rfl; have hne:K.B≠w.heap.size:=Nat.ne_of_lt (ae hM.blk); have d0:w0.cell? ⟨w.heap.size,0,none⟩=some (sv var):=(aj hbn).trans rfl; have d1:w0.cell? ⟨w.heap.size,1,none⟩=some (iv kind):=(aj hbn).trans rfl; have d2:w0.cell? ⟨w.heap.size,2,none⟩=some (sv vt):=(aj hbn).trans rfl; have d3:w0.cell? ⟨w.heap.size,3,none⟩=some (iv n0):=(aj hbn).trans rfl; have d4:w0.cell? ⟨w.heap.size,4,none⟩=some (iv m0):=(aj hbn).trans rfl; have d5:w0.cell? ⟨w.heap.size,5,none⟩=some (sv vs):=(aj hbn).trans rfl; have d6:w0.cell? ⟨w.heap.size,6,none⟩=some (.slice ta ln tc):=(aj hbn).trans rfl
 have hlk:∀ W,W.heap[K.mb]? = w0.heap[K.mb]?->(Instr.lookup 67 (.map (some K.mb)) (sv var) false).run Tryz.prog W=.ok (.bool (decide (var∈bd))) W:=fun W hW=>by
  have hlt:=aL (show w0.heap[K.mb]? = some _ from hM0.bound.obj.choose_spec.choose_spec); have:=(hM0.bound.same hW).look (Maps.string_keyed Tryz.underlying9) (t:=67) (e:=4) Tryz.underlying67 (z:=.bool false) (by kernel_rfl) (bH var hv0) trivial; rw [this]; show (Result.ok ((if var∈bd then some (Value.bool true) else none).getD (.bool false)) W:Result Value)=_; by_cases e:var∈bd
  ·rw [if_pos e,zP e]; rfl
  ·rw [if_neg e,zO e]; rfl
 have hbI:=hid (fun (W:World) (hW:Below w0.heap.size w0 W)=>h.below (hb0.trans (hW.mono hb0.size))); have hF0:=hid (fun (W:World) (hW:Below w0.heap.size w0 W)=>Fr.of_below (hb0.trans (hW.mono hb0.size)) G); replace hbw:=hid hbw; rcases var with _ | ⟨vc,vr⟩
 ·have e:tvL ⟨[],kind,vt,n0,m0,vs,ln⟩=[]:=rfl
  rw [e,List.append_nil]; clear hM hM0 h hb0 hbn hlk e; replace hw0:=hid hw0
  go_enter Tryz.func29,Tryz.ntmps29
  go_wp2_with fail
  rw [← hw0.out]
  go_quiet (fail)
  all_goals go_wp2_with fail
  all_goals exact bodyPost_end (results_none (by rfl) _ _ _) rfl ⟨rfl,_,_,(hbI.out _ (bG (zN _ w0) _)).monoB (Nat.le_succ _),hF0.out _ (bG (zN _ w0) _)⟩
 by_cases h1:vc::vr∈bd
 ·have e:∀ v,v∈bd++tvL ⟨vc::vr,kind,vt,n0,m0,vs,ln⟩ ↔ v∈bd:=fun v=>by
   unfold tvL; split
   ·rw [z8,List.mem_singleton]
    exact ⟨fun h=>h.elim id fun e=>e ▸ h1,Or.inl⟩
   ·simp
  have q1:decide (vc::vr∈bd)=true:=zP h1; rw [q1] at hlk
  have hl1:=fun n=>hlk (w0.drewN n) rfl
  replace e:=hid e; replace h1:=hid h1; clear hM hM0 h hb0 hbn q1 hlk; replace hw0:=hid hw0
  go_enter Tryz.func29,Tryz.ntmps29
  go_wp2_with fail
  rw [← hw0.out]
  go_quiet (fail)
  all_goals go_wp2_with fail
  all_goals exact bodyPost_end (results_none (by rfl) _ _ _) rfl ⟨rfl,_,_,uN ((hbI.out _ (bG (zN _ w0) _)).monoB (Nat.le_succ _)) e.out,hF0.out _ (bG (zN _ w0) _)⟩
 have q1:decide (vc::vr∈bd)=false:=zO h1; rw [q1] at hlk; obtain ⟨mo,hmo⟩:∃ mo,w0.heap[K.mb]? = some mo:=⟨_,hM0.bound.obj.choose_spec.choose_spec⟩; obtain ⟨wf,hwf⟩:∃ b,b=eT (vc::vr):=⟨_,rfl⟩; rw [← hwf] at hbw
 have hlk2:∀ W,W.heap[K.mb]? = some mo->(Instr.lookup 67 (.map (some K.mb)) (sv (vc::vr)) false).run Tryz.prog W=.ok (.bool false) W:=fun W hW=>hlk W (hW.trans hmo.symm)
 have hmol:=aL hmo; replace h1:=hid h1; replace hM0:=hid hM0; replace hb0:=hid hb0; replace hbn:=hid hbn; replace hwf:=hid hwf; replace hw0:=hid hw0; clear hlk q1
 go_enter Tryz.func29,Tryz.ntmps29
 go_wp2_with fail
 rw [← hw0.out]
 go_region_held3 (fun w'=>w'.cell? ⟨K.B,1,none⟩=some (.map (some K.mb))/\w'.heap[K.mb]? = some mo/\w'.cell? ⟨w.heap.size,0,none⟩=some (sv (vc::vr))/\w'.cell? ⟨w.heap.size,1,none⟩=some (iv kind)/\w'.cell? ⟨w.heap.size,2,none⟩=some (sv vt)/\w'.cell? ⟨w.heap.size,3,none⟩=some (iv n0)/\w'.cell? ⟨w.heap.size,4,none⟩=some (iv m0)/\w'.cell? ⟨w.heap.size,5,none⟩=some (sv vs)/\w'.cell? ⟨w.heap.size,6,none⟩=some (.slice ta ln tc)) (first | exact ⟨c1,hmo,d0,d1,d2,d3,d4,d5,d6⟩ | exact ⟨kp _ _ c1,(hb1.out.block _ hmol).trans hmo,kp _ _ d0,kp _ _ d1,kp _ _ d2,kp _ _ d3,kp _ _ d4,kp _ _ d5,kp _ _ d6⟩ | go_keep) ((go_at_call 30; (with_reducible refine (hbw.out _).mono ?_); rintro e w1 ⟨rfl,hb1⟩; have kp:=lp hb1; replace hb1:=hid hb1))
 have hbx:Below w0.heap.size w0 w1:=(show Below w0.heap.size w0 w0.drew from (zN _ w0).drew).trans hb1.out; have hI1:=hid (hbI.out _ hbx); have hF1:=hid (hF0.out _ hbx); have hM1:=hM0.out.below hbx; have c1':=kp _ _ c1; have d0':=kp _ _ d0; have hlT:w.heap.size < w1.heap.size:=zS (ae hbn.out) hbx.size; clear hbI hF0 c1 d0 d1 d2 d3 d4 d5 d6 hlk2 kp
 cases wf with
 | true =>
  have e:tvL ⟨vc::vr,kind,vt,n0,m0,vs,ln⟩=[]:=by unfold tvL fk; rw [← hwf.out]; simp
  replace e:=hid e
  go_wp2_with fail
  exact bodyPost_end (results_none (by rfl) _ _ _) rfl ⟨rfl,_,_,by rw [e.out,List.append_nil]; exact hI1.out.monoB (Nat.le_succ _),hF1.out⟩
 | false =>
  have e:tvL ⟨vc::vr,kind,vt,n0,m0,vs,ln⟩=[vc::vr]:=by unfold tvL fk; rw [← hwf.out]; simp
  obtain ⟨w2,hput,hmv,hgr⟩:=hM1.bound.drew.put (Maps.string_keyed Tryz.underlying9) (t:=67) (e:=4) Tryz.underlying67 (by unfold maxLen; omega) (bH (vc::vr) hv0) trivial (.bool true); obtain ⟨hM2,hF2⟩:=(hM1.below (show Below w1.heap.size w1 w1.drew from (zN _ w1).drew)).setBound hmv hgr; have hF2':=hid (hF1.out.trans ((Fr.of_below (show Below w1.heap.size w1 w1.drew from (zN _ w1).drew) G).trans hF2)); have hmT:K.mb≠w.heap.size:=Nat.ne_of_lt hM.bound.lt; have d0'':w2.cell? ⟨w.heap.size,0,none⟩=some (sv (vc::vr)):=(Af (hgr.block w.heap.size hlT fun e=>hmT (by injection e with e; exact e.symm))).trans d0'; have c3:w2.cell? ⟨K.B,3,none⟩=some (.map (some K.mu)):=(aj hM2.blk).trans rfl; obtain ⟨ua,uc,huv⟩:=ve hM2 (vc::vr)
  have hul:∀ n,(Instr.lookup 68 (.map (some K.mu)) (sv (vc::vr)) false).run Tryz.prog (w2.drewN n)=.ok (.slice ua (K.U (vc::vr)).length uc) (w2.drewN n):=fun n=>by
   rw [ph (hM2.below (bG (zN _ w2) n)) (vc::vr) hv0,huv]
  have huse:=hs.use (vc::vr); rw [← hU (vc::vr)] at huse; obtain ⟨us,hus⟩:∃ us,us=K.U (vc::vr):=⟨_,rfl⟩; have husG:us=cP lits lits.length (vc::vr):=hus.trans (hU _); rw [← hus] at hul huse huv; have hH':=hid hH; replace hM2:=hid hM2; replace e:=hid e; replace hus:=hid hus; replace husG:=hid husG; replace huv:=hid huv; replace hmT:=hid hmT; clear hM1 hI1 hM hF2 hmv hb0 hbn hwf hbw hH hgr
  go_wp2_with fail
  go_region
  all_goals go_wp2_with fail
  go_quiet (fail)
  all_goals go_wp2_with fail
  go_loopg [36] us.length (fun f iv36 wr=>∃ (k:Nat) (op2:List Nat) (ls2:List Bool) (hp2:List Int) (hv2:Value),iv36=iv k/\k+f=us.length/\Hid (BM G K lits S (bd++[vc::vr]) op2 ls2 hp2 hv2 (NB+1) NU wr)/\Hid (HB lits.length tk ls2 hp2)/\Hid (il lits bd (us.take k) op2)/\Hid (mY lits op2 ls2)/\Hid (Fr G w wr))
  case atStart=>exact ⟨0,op,ls,hp,hv,rfl,by omega,hid (hM2.out.below (bG (zN _ w2) _)),hH',hid (il.start hol hop),hid hla,hid (hF2'.out.trans (Fr.of_below (bG (zN _ w2) _) G))⟩
  case round =>
   obtain ⟨k,op2,ls2,hp2,hv2,rfl,hkf,hMr,hHr,hOr,hLr,hFr⟩:=hrel; clear hM2 hH' hF2' hop hla hol d0'' c3 hul hput d0' c1'; by_cases hlt:k < us.length
   ·have q1:decide ((k:Int) < (us.length:Int))=true:=zP (by omega)
    obtain ⟨i,hi⟩:∃ i,us[k]? = some i:=⟨_,zR hlt⟩;(have huv2:iw K (vc::vr)=.slice ua (K.U (vc::vr)).length uc:=by rw [← hus.out]; exact huv.out);obtain ⟨g,hidx,hcell⟩:=uv_at hMr.out huv2 (k:=k) (i:=i) (by rw [← hus.out]; exact hi); rw [← hus.out] at hidx; have hO0:=hOr.out; rw [husG.out] at hO0 hi; obtain ⟨hin,h1le,hO1⟩:=hO0.round h1.out hi; have hL1:=hid (hLr.out.round hOr.out.1 hin); rw [← husG.out] at hO1 hi; replace hO1:=hid hO1; have c2:wr.cell? ⟨K.B,2,none⟩=some (.slice (some ⟨K.ob,0,none⟩) lits.length K.oc):=(aj hMr.out.blk).trans rfl; have q2:=gZ (P:=Tryz.prog) (t:=33) (g:=K.ob) (cap:=K.oc) hin (by kernel_rfl) (fun _=>by kernel_rfl); obtain ⟨dI,fI,-⟩:=ej (i:=i) (x:=iv (op2.getD i 0)) hMr.out.opn (by rw [Ai,Ai,getD_some (by rw [hOr.out.1]; exact hin)]; rfl); have hset:=hid (hMr.out.setOpen hin (op2.getD i 0 - 1)); have hgo:=hMr.out.go;obtain ⟨on,hon⟩:∃ on,on=op2.getD i 0:=⟨_,rfl⟩; rw [← hon] at dI hset hO1 hL1 h1le
    have hob:on<=2000000000000:=by
     have h3:=hOr.out.2 i hin; have h4:=t_ bd (aZ lits i); have h5:=hs.arg _ (h_ hin); omega
    (have ew:IntKind.i64.wrap ((on:Int) - 1)=((on - 1:Nat):Int):=by rw [zX]; omega);obtain ⟨om,hom⟩:∃ om,om=on - 1:=⟨_,rfl⟩; rw [← hom] at ew hset hO1 hL1; replace hon:=hid hon; replace hom:=hid hom; have hlist:=hid (pZ G K lits S (bd++[vc::vr]) (op2.set i om) ls2 tk hp2 hv2 (NB+1) NU i (wr.setCell ⟨K.ob,i,none⟩ (iv om)) hset.out hHr.out hin (by rw [List.length_set]; exact hOr.out.1) hs.len); have hF2:=hid (hFr.out.setCell (p:=⟨K.ob,i,none⟩) (Or.inl hgo) (iv om)); obtain ⟨n,hn⟩:∃ n,n=lits.length:=⟨_,rfl⟩; rw [← hn] at c2 q2; replace hn:=hid hn; clear hO0;go_wp2_with fail;(with_reducible refine hlist.out.mono ?_);rintro e2 w3 ⟨rfl,hp3,hv3,hM3,hH3,hF3⟩;(have e3:IntKind.i64.wrap ((k:Int)+1)=((k+1:Nat):Int):=by rw [zX]; omega);replace hM3:=hid hM3; replace hH3:=hid hH3; replace hF3:=hid hF3;go_wp2_with fail
    go_roundg (us.length - (k+1))
    case measure=>omega
    case rel=>exact ⟨k+1,_,_,hp3,hv3,rfl,by omega,hM3,hH3,hO1,hL1,hid (hF2.out.trans hF3.out)⟩
   ·have q1:decide ((k:Int) < (us.length:Int))=false:=zO (by omega)
    have hO2:=hOr.out; rw [List.take_of_length_le (by omega),husG.out] at hO2; have hfin:=hid (show BI G K lits S (bd++[vc::vr]) tk hp2 hv2 (NB+1) NU wr from ⟨op2,ls2,hMr.out,hHr.out,hO2.1,hO2.done h1.out,hLr.out⟩); clear hO2;go_wp2_with fail;exact bodyPost_end (results_none (by rfl) _ _ _) rfl ⟨rfl,_,_,by rw [e.out]; exact hfin.out,hFr.out⟩
end Go.Proofs.YtffdpoifdahadaaGreatDoor
