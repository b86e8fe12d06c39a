/- EfC: EfB, EfC, in one text. -/
import Derived.Test.YtfejagpjahoibaaGreatDoorPlB
import Derived.Test.YtfejagpjahoibaaGreatDoorEfA
set_option linter.unusedVariables false
set_option linter.unusedSimpArgs false
namespace Go.Proofs.YtfejagpjahoibaaGreatDoor
/- the plan in closed form -/
def amC (x:Stl) (f:Nat→Int) (i:Nat):Option Cmd:=if (optOf x f i).kind=4 then some (cmdF x.turn 4 (uAt x i) (dAt x (f i))) else none
def unC (x:Stl) (f:Nat→Int) (i:Nat):Option Cmd:=if (optOf x f i).kind=0∨(optOf x f i).kind=4 then none else some (cmdF x.turn (optOf x f i).kind (uAt x i) out0)
def reC (x:Stl) (f:Nat→Int) (i:Nat):Option (List UInt8):=if (optOf x f i).kind=0 then some (uAt x i).key else none
def giC (x:Stl) (tk:Nat→Bool) (j:Nat):Option Cmd:=if tk j then none else if ((x.give[j]?).getD opt0).kind=0 then none else some (cmdF x.turn ((x.give[j]?).getD opt0).kind out0 (dAt x j))
def grC (x:Stl) (tk:Nat→Bool) (j:Nat):Option (List UInt8):=if tk j then none else if ((x.give[j]?).getD opt0).kind=0 then some (dAt x j).key else none
theorem fm_succ {α:Type} (f:Nat→Option α) (n:Nat):(List.range (n+1)).filterMap f=(List.range n).filterMap f++(f n).toList:=by
 rw [List.range_succ,List.filterMap_append]
 cases h:f n with
 | none=>simp [h]
 | some y=>simp [h]
theorem run1_form {x:Stl} {f:Nat→Int}:∀ i,i≤x.undo.length→(run1 x (listN x.undo.length f) (stF x f x.undo.length).1 i).st=(List.range i).filterMap (amC x f) ∧
  (run1 x (listN x.undo.length f) (stF x f x.undo.length).1 i).un=(List.range i).filterMap (unC x f)∧(run1 x (listN x.undo.length f) (stF x f x.undo.length).1 i).re=(List.range i).filterMap (reC x f)
 | 0,_=>⟨rfl,rfl,rfl⟩
 | i+1,hi=>by
  obtain ⟨h1,h2,h3⟩:=run1_form (x:=x) (f:=f) i (by omega); rw [fm_succ,fm_succ,fm_succ,← h1,← h2,← h3]; rw [run1,stF_at (x:=x) (f:=f) (i:=i) (n:=x.undo.length) (by omega)]; unfold p1 amC unC reC
  have hf:(((listN x.undo.length f)[i]?).getD 0)=f i:=by rw [listN_at f (by omega)]; rfl
  rw [hf]; by_cases e0:(optOf x f i).kind=0
  ·simp [e0]
  ·by_cases e4:(optOf x f i).kind=4
   ·simp [e0,e4]
   ·simp [e0,e4]
theorem run2_form {x:Stl} {tk:Nat→Bool} {p:P4}:∀ j,(run2 x tk p j).st=(p.st++p.un)++(List.range j).filterMap (giC x tk)∧(run2 x tk p j).re=p.re++(List.range j).filterMap (grC x tk)
 | 0=>by simp [run2]
 | j+1=>by
  obtain ⟨h1,h2⟩:=run2_form (x:=x) (tk:=tk) (p:=p) j; rw [fm_succ,fm_succ,← List.append_assoc,← List.append_assoc,← h1,← h2]; rw [run2]; unfold p2 giC grC; by_cases ht:tk j=true
  ·simp [ht]
  ·by_cases e0:((x.give[j]?).getD opt0).kind=0
   ·simp [ht,e0]
   ·simp [ht,e0]
theorem plan_form {x:Stl} {f:Nat→Int} (h:AsgTo x f x.undo.length) {p:P4} (hp:planF x (listN x.undo.length f)=some p) :
  p.st=((List.range x.undo.length).filterMap (amC x f)++(List.range x.undo.length).filterMap (unC x f))++(List.range x.do.length).filterMap (giC x (stF x f x.undo.length).2) ∧
  p.re=(List.range x.undo.length).filterMap (reC x f)++(List.range x.do.length).filterMap (grC x (stF x f x.undo.length).2):=by
 unfold planF at hp; rw [(options_st x f).1 h] at hp; injection hp with hp; obtain ⟨h1,h2,h3⟩:=run1_form (x:=x) (f:=f) x.undo.length (Nat.le_refl _)
 obtain ⟨h4,h5⟩:=run2_form (x:=x) (tk:=(stF x f x.undo.length).2) (p:=run1 x (listN x.undo.length f) (stF x f x.undo.length).1 x.undo.length) x.do.length
 rw [hp] at h4 h5; rw [h4,h5,h1,h2,h3]; exact ⟨rfl,rfl⟩
theorem uAt_get {x:Stl} {i:Nat} (h:i < x.undo.length):x.undo[i]? = some (uAt x i):=by unfold uAt; rw [List.getElem?_eq_getElem h]; rfl
theorem dAt_get {x:Stl} {j:Nat} (h:j < x.do.length):x.do[j]? = some (dAt x j):=by unfold dAt; rw [Int.toNat_natCast,List.getElem?_eq_getElem h]; rfl
theorem key_inj {l:List Out} (hd:(l.map Out.key).Nodup) {i j:Nat} {a b:Out} (h:l[i]? = some a) (h2:l[j]? = some b) (e:a.key=b.key):i=j:=by
 have h3:(l.map Out.key)[i]? = some a.key:=by rw [List.getElem?_map,h]; rfl
 have h4:(l.map Out.key)[j]? = some a.key:=by rw [List.getElem?_map,h2,e]; rfl
 obtain ⟨hi,e3⟩:=List.getElem?_eq_some_iff.1 h3; obtain ⟨hj,e4⟩:=List.getElem?_eq_some_iff.1 h4; have hp:=List.pairwise_iff_getElem.1 hd; rcases Nat.lt_trichotomy i j with h5 | h5 | h5
 ·exact absurd (e3.trans e4.symm) (hp i j hi hj h5)
 ·exact h5
 ·exact absurd (e4.trans e3.symm) (hp j i hj hi h5)
/-- what a settlement's keys must be -/
structure StlS (x:Stl):Prop where
 k:StlK x
 d:StlD x
 ne:∀ d∈x.do,d.key≠[]
 ud:∀ u∈x.undo,∀ d∈x.do,u.key≠d.key
 p:∀ i,i < x.undo.length→((x.drop[i]?).getD opt0).kind=3→(uAt x i).part=false
section
variable {x:Stl} {f:Nat→Int}
theorem giv_kind (hK:StlK x) (j:Nat):((x.give[j]?).getD opt0).kind=0∨((x.give[j]?).getD opt0).kind=1:=by
 cases e:x.give[j]? with
 | none=>exact Or.inl rfl
 | some o=>exact hK.g o (List.mem_of_getElem? e)
/-- what becomes of an effect of undo: the kinds -/
theorem opt_kinds (hK:StlK x) (h:AsgTo x f x.undo.length) {i:Nat} (hi:i < x.undo.length) :
  (f i = -1∧((optOf x f i).kind=0∨(optOf x f i).kind=2∨(optOf x f i).kind=3)∧optOf x f i=(x.drop[i]?).getD opt0)∨∃ c:Nat,c < x.do.length∧f i=c∧(optOf x f i).kind=4:=by
 rcases optOf_kind hK h hi with ⟨h1,h2⟩ | h1
 ·exact Or.inl ⟨h1,h2,by unfold optOf; rw [if_pos h1]⟩
 ·exact Or.inr h1
theorem taken_iff {j:Nat}:(stF x f x.undo.length).2 j=true ↔ ∃ i,i < x.undo.length∧f i=(j:Int):=any_range
theorem mem_am {c:Cmd}:c∈(List.range x.undo.length).filterMap (amC x f) ↔ ∃ i,i < x.undo.length∧(optOf x f i).kind=4∧c=cmdF x.turn 4 (uAt x i) (dAt x (f i)):=by
 rw [List.mem_filterMap]; constructor
 ·rintro ⟨i,hi,e⟩
  unfold amC at e; split at e
  ·rename_i hk
   injection e with e; exact ⟨i,List.mem_range.1 hi,hk,e.symm⟩
  ·cases e
 ·rintro ⟨i,hi,hk,rfl⟩
  exact ⟨i,List.mem_range.2 hi,by unfold amC; rw [if_pos hk]⟩
theorem mem_un {c:Cmd}:c∈(List.range x.undo.length).filterMap (unC x f) ↔ ∃ i,i < x.undo.length∧(optOf x f i).kind≠0∧(optOf x f i).kind≠4∧c=cmdF x.turn (optOf x f i).kind (uAt x i) out0:=by
 rw [List.mem_filterMap]; constructor
 ·rintro ⟨i,hi,e⟩
  unfold unC at e; split at e
  ·cases e
  ·rename_i hk
   injection e with e; exact ⟨i,List.mem_range.1 hi,fun e=>hk (Or.inl e),fun e=>hk (Or.inr e),e.symm⟩
 ·rintro ⟨i,hi,h0,h4,rfl⟩
  exact ⟨i,List.mem_range.2 hi,by unfold unC; rw [if_neg (fun e=>e.elim h0 h4)]⟩
theorem mem_gi {tk:Nat→Bool} {c:Cmd}:c∈(List.range x.do.length).filterMap (giC x tk) ↔ ∃ j,j < x.do.length∧tk j=false∧((x.give[j]?).getD opt0).kind≠0∧c=cmdF x.turn ((x.give[j]?).getD opt0).kind out0 (dAt x j):=by
 rw [List.mem_filterMap]; constructor
 ·rintro ⟨i,hi,e⟩
  unfold giC at e; split at e
  ·cases e
  ·rename_i ht
   split at e
   ·cases e
   ·rename_i hk
    injection e with e; exact ⟨i,List.mem_range.1 hi,by simpa using ht,hk,e.symm⟩
 ·rintro ⟨i,hi,ht,hk,rfl⟩
  exact ⟨i,List.mem_range.2 hi,by unfold giC; rw [if_neg (by simp [ht]),if_neg hk]⟩
theorem mem_st (h:AsgTo x f x.undo.length) {p:P4} (hp:planF x (listN x.undo.length f)=some p) {c:Cmd}:c∈p.st ↔ (∃ i,i < x.undo.length∧(optOf x f i).kind=4∧c=cmdF x.turn 4 (uAt x i) (dAt x (f i))) ∨
  (∃ i,i < x.undo.length∧(optOf x f i).kind≠0∧(optOf x f i).kind≠4∧c=cmdF x.turn (optOf x f i).kind (uAt x i) out0) ∨
  ∃ j,j < x.do.length∧(stF x f x.undo.length).2 j=false∧((x.give[j]?).getD opt0).kind≠0∧c=cmdF x.turn ((x.give[j]?).getD opt0).kind out0 (dAt x j):=by
 rw [(plan_form h hp).1,List.mem_append,List.mem_append,mem_am,mem_un,mem_gi,or_assoc]
theorem mem_re (h:AsgTo x f x.undo.length) {p:P4} (hp:planF x (listN x.undo.length f)=some p) {s:List UInt8}:s∈p.re ↔ (∃ i,i < x.undo.length∧(optOf x f i).kind=0∧s=(uAt x i).key) ∨
  ∃ j,j < x.do.length∧(stF x f x.undo.length).2 j=false∧((x.give[j]?).getD opt0).kind=0∧s=(dAt x j).key:=by
 rw [(plan_form h hp).2,List.mem_append,List.mem_filterMap,List.mem_filterMap]; constructor
 ·rintro (⟨i,hi,e⟩ | ⟨i,hi,e⟩)
  ·unfold reC at e
   split at e
   ·rename_i hk
    injection e with e; exact Or.inl ⟨i,List.mem_range.1 hi,hk,e.symm⟩
   ·cases e
  ·unfold grC at e
   split at e
   ·cases e
   ·rename_i ht
    split at e
    ·rename_i hk
     injection e with e; exact Or.inr ⟨i,List.mem_range.1 hi,by simpa using ht,hk,e.symm⟩
    ·cases e
 ·rintro (⟨i,hi,hk,rfl⟩ | ⟨i,hi,ht,hk,rfl⟩)
  ·exact Or.inl ⟨i,List.mem_range.2 hi,by unfold reC; rw [if_pos hk]⟩
  ·exact Or.inr ⟨i,List.mem_range.2 hi,by unfold grC; rw [if_neg (by simp [ht]),if_pos hk]⟩
theorem tch_cmd {t k:Int} {u d:Out} {s:List UInt8}:Tch (cmdF t k u d) s ↔ ((k=1∨k=4)∧s=d.key)∨((k=2∨k=3∨k=4)∧s=u.key):=Iff.rfl
/-- the keys that a step touches tell it -/
theorem steps_apart (hS:StlS x) (h:AsgTo x f x.undo.length) {p:P4} (hp:planF x (listN x.undo.length f)=some p):p.st.Pairwise Apart:=by
 have hu:∀ i,i < x.undo.length→uAt x i∈x.undo:=fun i hi=>List.mem_of_getElem? (uAt_get hi)
 have hd:∀ j:Nat,j < x.do.length→dAt x j∈x.do:=fun j hj=>List.mem_of_getElem? (dAt_get hj)
 have hui:∀ {i j},i < x.undo.length→j < x.undo.length→(uAt x i).key=(uAt x j).key→i=j:=fun hi hj e=>key_inj hS.d.u (uAt_get hi) (uAt_get hj) e
 have hdi:∀ {i j:Nat},i < x.do.length→j < x.do.length→(dAt x i).key=(dAt x j).key→i=j:=fun hi hj e=>key_inj hS.d.d (dAt_get hi) (dAt_get hj) e
 have f4:∀ {i},i < x.undo.length→(optOf x f i).kind=4→∃ c:Nat,c < x.do.length∧f i=c:=fun hi hk=>by
  rcases opt_kinds hS.k h hi with ⟨-,h2,-⟩ | ⟨c,hc,hf,-⟩
  ·rw [hk] at h2; exact absurd h2 (by decide)
  ·exact ⟨c,hc,hf⟩
 have k23:∀ {i},i < x.undo.length→(optOf x f i).kind≠0→(optOf x f i).kind≠4→(optOf x f i).kind≠1∧(optOf x f i).kind≠4:=fun hi h0 h4=>by
  rcases opt_kinds hS.k h hi with ⟨-,h2,-⟩ | ⟨c,hc,hf,hk⟩
  ·omega
  ·exact absurd hk h4
 have hg:∀ j,((x.give[j]?).getD opt0).kind≠0→((x.give[j]?).getD opt0).kind=1:=fun j hj=>(giv_kind hS.k j).resolve_left hj
 have hlt:=List.pairwise_lt_range (n:=x.undo.length); have hlt2:=List.pairwise_lt_range (n:=x.do.length); rw [(plan_form h hp).1]; refine List.pairwise_append.2 ⟨List.pairwise_append.2 ⟨?_,?_,?_⟩,?_,?_⟩
 ·rw [List.pairwise_filterMap]
  refine List.Pairwise.imp_of_mem ?_ hlt; intro i j hi hj hij b hb c hc s h1 h2; have hi':=List.mem_range.1 hi; have hj':=List.mem_range.1 hj; unfold amC at hb hc; split at hb
  ·split at hc
   ·rename_i k1 k2
    injection hb with hb; injection hc with hc; subst hb hc; obtain ⟨c1,hc1,e1⟩:=f4 hi' k1; obtain ⟨c2,hc2,e2⟩:=f4 hj' k2; rw [tch_cmd] at h1 h2; rw [e1] at h1; rw [e2] at h2; rcases h1 with ⟨-,h1⟩ | ⟨-,h1⟩ <;> rcases h2 with ⟨-,h2⟩ | ⟨-,h2⟩
    ·have:=hdi hc1 hc2 (h1.symm.trans h2)
     subst this; exact absurd (h.2 i j hi' hj' (by rw [e1]; omega) (e1.trans e2.symm)) (by omega)
    ·exact hS.ud _ (hu j hj') _ (hd c1 hc1) (h2.symm.trans h1)
    ·exact hS.ud _ (hu i hi') _ (hd c2 hc2) (h1.symm.trans h2)
    ·exact absurd (hui hi' hj' (h1.symm.trans h2)) (by omega)
   ·cases hc
  ·cases hb
 ·rw [List.pairwise_filterMap]
  refine List.Pairwise.imp_of_mem ?_ hlt; intro i j hi hj hij b hb c hc s h1 h2; have hi':=List.mem_range.1 hi; have hj':=List.mem_range.1 hj; unfold unC at hb hc; split at hb
  ·cases hb
  ·split at hc
   ·cases hc
   ·rename_i k1 k2
    injection hb with hb; injection hc with hc; subst hb hc; have n1:=k23 hi' (fun e=>k1 (Or.inl e)) (fun e=>k1 (Or.inr e)); have n2:=k23 hj' (fun e=>k2 (Or.inl e)) (fun e=>k2 (Or.inr e)); rw [tch_cmd] at h1 h2; rcases h1 with ⟨e,-⟩ | ⟨-,h1⟩
    ·exact e.elim n1.1 n1.2
    rcases h2 with ⟨e,-⟩ | ⟨-,h2⟩
    ·exact e.elim n2.1 n2.2
    exact absurd (hui hi' hj' (h1.symm.trans h2)) (by omega)
 ·intro b hb c hc s h1 h2
  obtain ⟨i,hi,k1,rfl⟩:=mem_am.1 hb; obtain ⟨j,hj,k0,k4,rfl⟩:=mem_un.1 hc; obtain ⟨c1,hc1,e1⟩:=f4 hi k1; have n2:=k23 hj k0 k4; rw [tch_cmd] at h1 h2; rw [e1] at h1; rcases h2 with ⟨e,-⟩ | ⟨-,h2⟩
  ·exact e.elim n2.1 n2.2
  rcases h1 with ⟨-,h1⟩ | ⟨-,h1⟩
  ·exact hS.ud _ (hu j hj) _ (hd c1 hc1) (h2.symm.trans h1)
  ·have:=hui hi hj (h1.symm.trans h2)
   subst this; exact k4 k1
 ·rw [List.pairwise_filterMap]
  refine List.Pairwise.imp_of_mem ?_ hlt2; intro i j hi hj hij b hb c hc s h1 h2; have hi':=List.mem_range.1 hi; have hj':=List.mem_range.1 hj; unfold giC at hb hc; split at hb
  ·cases hb
  ·split at hb
   ·cases hb
   ·split at hc
    ·cases hc
    ·split at hc
     ·cases hc
     ·rename_i t1 k1 t2 k2
      injection hb with hb; injection hc with hc; subst hb hc; rw [hg i k1] at h1; rw [hg j k2] at h2; rw [tch_cmd] at h1 h2; rcases h1 with ⟨-,h1⟩ | ⟨e,-⟩
      ·rcases h2 with ⟨-,h2⟩ | ⟨e,-⟩
       ·exact absurd (hdi hi' hj' (h1.symm.trans h2)) (by omega)
       ·exact absurd e (by decide)
      ·exact absurd e (by decide)
 ·intro b hb c hc s h1 h2
  obtain ⟨j,hj,ht,k2,rfl⟩:=mem_gi.1 hc; rw [hg j k2,tch_cmd] at h2; rcases h2 with ⟨-,h2⟩ | ⟨e,-⟩
  ·rcases List.mem_append.1 hb with hb | hb
   ·obtain ⟨i,hi,k1,rfl⟩:=mem_am.1 hb
    obtain ⟨c1,hc1,e1⟩:=f4 hi k1; rw [tch_cmd,e1] at h1; rcases h1 with ⟨-,h1⟩ | ⟨-,h1⟩
    ·have:=hdi hc1 hj (h1.symm.trans h2)
     subst this; have:(stF x f x.undo.length).2 c1=true:=taken_iff.2 ⟨i,hi,e1⟩; rw [ht] at this; cases this
    ·exact hS.ud _ (hu i hi) _ (hd j hj) (h1.symm.trans h2)
   ·obtain ⟨i,hi,k0,k4,rfl⟩:=mem_un.1 hb
    have n2:=k23 hi k0 k4; rw [tch_cmd] at h1; rcases h1 with ⟨e,-⟩ | ⟨-,h1⟩
    ·exact e.elim n2.1 n2.2
    ·exact hS.ud _ (hu i hi) _ (hd j hj) (h1.symm.trans h2)
  ·exact absurd e (by decide)
/-- what a plan's steps do to the effects in force -/
structure PlanV (x:Stl) (p:P4) (v V:List UInt8→Option Eff):Prop where
 u:∀ u∈x.undo,(u.key∈p.re∧(∀ c∈p.st,c.kind=3→c.of≠u.key)∧V u.key=v u.key) ∨
  (u.key ∉ p.re∧u.part=false∧(∃ c∈p.st,c.kind=3∧c.of=u.key)∧V u.key=(v u.key).map fun e=>(e.1,e.2.1,true)) ∨
  (u.key ∉ p.re∧(∀ c∈p.st,c.kind=3→c.of≠u.key)∧V u.key=none)
 d:∀ d∈x.do,(d.key∈p.re∧V d.key=none)∨(d.key ∉ p.re∧V d.key=some (d.name,d.args,false))
 o:∀ k,(∀ u∈x.undo,u.key≠k)→(∀ d∈x.do,d.key≠k)→V k=v k
theorem plan_view (hS:StlS x) (h:AsgTo x f x.undo.length) {p:P4} (hp:planF x (listN x.undo.length f)=some p) {v:List UInt8→Option Eff}
  (hu:∀ u∈x.undo,∃ n a,v u.key=some (n,a,u.part)) (hd:∀ d∈x.do,v d.key=none):FitAll v p.st∧PlanV x p v (p.st.foldl goV v):=by
 have hum:∀ i,i < x.undo.length→uAt x i∈x.undo:=fun i hi=>List.mem_of_getElem? (uAt_get hi)
 have hdm:∀ j:Nat,j < x.do.length→dAt x j∈x.do:=fun j hj=>List.mem_of_getElem? (dAt_get hj)
 have hui:∀ {i j},i < x.undo.length→j < x.undo.length→(uAt x i).key=(uAt x j).key→i=j:=fun hi hj e=>key_inj hS.d.u (uAt_get hi) (uAt_get hj) e
 have hdi:∀ {i j:Nat},i < x.do.length→j < x.do.length→(dAt x i).key=(dAt x j).key→i=j:=fun hi hj e=>key_inj hS.d.d (dAt_get hi) (dAt_get hj) e
 have hg:∀ j,((x.give[j]?).getD opt0).kind≠0→((x.give[j]?).getD opt0).kind=1:=fun j hj=>(giv_kind hS.k j).resolve_left hj
 have hfit:∀ c∈p.st,Fit v c:=by
  intro c hc; rcases (mem_st h hp).1 hc with ⟨i,hi,hk,rfl⟩ | ⟨i,hi,h0,h4,rfl⟩ | ⟨j,hj,ht,hk,rfl⟩
  ·rcases opt_kinds hS.k h hi with ⟨-,h2,-⟩ | ⟨c,hcl,hf,-⟩
   ·rw [hk] at h2; exact absurd h2 (by decide)
   ·obtain ⟨n,a,hv⟩:=hu _ (hum i hi)
    rw [hf]; exact Or.inr (Or.inr (Or.inr ⟨rfl,hS.ne _ (hdm c hcl),⟨_,hv⟩,Or.inr (hd _ (hdm c hcl))⟩))
  ·obtain ⟨n,a,hv⟩:=hu _ (hum i hi)
   rcases opt_kinds hS.k h hi with ⟨-,h2,h3⟩ | ⟨c,hcl,hf,hk⟩
   ·rcases h2 with h2 | h2 | h2
    ·exact absurd h2 h0
    ·rw [h2]; exact Or.inr (Or.inl ⟨rfl,_,hv⟩)
    ·rw [h2]
     have hpt:=hS.p i hi (by rw [← h3]; exact h2); rw [hpt] at hv; exact Or.inr (Or.inr (Or.inl ⟨rfl,n,a,hv⟩))
   ·exact absurd hk h4
  ·rw [hg j hk]
   exact Or.inl ⟨rfl,hS.ne _ (hdm j hj),hd _ (hdm j hj)⟩
 obtain ⟨h1,h2,h3⟩:=fit_apart p.st v (steps_apart hS h hp) hfit
 have noRe:∀ i,i < x.undo.length→(optOf x f i).kind≠0→(uAt x i).key ∉ p.re:=fun i hi h0 hm=>by
  rcases (mem_re h hp).1 hm with ⟨j,hj,hk,e⟩ | ⟨j,hj,ht,hk,e⟩
  ·have:=hui hi hj e; subst this; exact h0 hk
  ·exact hS.ud _ (hum i hi) _ (hdm j hj) e
 have no3:∀ i,i < x.undo.length→(optOf x f i).kind≠3→∀ c∈p.st,c.kind=3→c.of≠(uAt x i).key:=fun i hi h0 c hc hk e=>by
  rcases (mem_st h hp).1 hc with ⟨j,hj,hkj,rfl⟩ | ⟨j,hj,h0j,h4,rfl⟩ | ⟨j,hj,ht,hkj,rfl⟩
  ·exact absurd hk (by show (4:Int)≠3; decide)
  ·have:=hui hj hi e; subst this; exact h0 hk
  ·rw [hg j hkj] at hk; exact absurd hk (by show (1:Int)≠3; decide)
 refine ⟨h1,⟨fun u hmu=>?_,fun d hmd=>?_,fun k hku hkd=>?_⟩⟩
 ·obtain ⟨i,hi⟩:=List.mem_iff_getElem?.1 hmu
  have hil:=(List.getElem?_eq_some_iff.1 hi).1
  have e:u=uAt x i:=by rw [uAt_get hil] at hi; injection hi with hi; exact hi.symm
  subst e; rcases opt_kinds hS.k h hil with ⟨-,h4,h5⟩ | ⟨c,hcl,hf,hk⟩
  ·rcases h4 with h4 | h4 | h4
   ·refine Or.inl ⟨(mem_re h hp).2 (Or.inl ⟨i,hil,h4,rfl⟩),no3 i hil (by omega),h3 _ fun c hc ht=>?_⟩
    rcases (mem_st h hp).1 hc with ⟨j,hj,hkj,rfl⟩ | ⟨j,hj,h0j,h4j,rfl⟩ | ⟨j,hj,htj,hkj,rfl⟩
    ·rcases opt_kinds hS.k h hj with ⟨-,h2,-⟩ | ⟨c,hcl,hf,-⟩
     ·rw [hkj] at h2; exact absurd h2 (by decide)
     ·rw [hf,tch_cmd] at ht
      rcases ht with ⟨-,e⟩ | ⟨-,e⟩
      ·exact hS.ud _ (hum i hil) _ (hdm c hcl) e
      ·have:=hui hil hj e; subst this; omega
    ·rw [tch_cmd] at ht
     rcases ht with ⟨hh,e⟩ | ⟨-,e⟩
     ·rcases opt_kinds hS.k h hj with ⟨-,h2,-⟩ | ⟨c,hcl,hf,hk⟩
      ·omega
      ·exact h4j hk
     ·have:=hui hil hj e; subst this; exact h0j h4
    ·rw [hg j hkj,tch_cmd] at ht
     rcases ht with ⟨-,e⟩ | ⟨e,-⟩
     ·exact hS.ud _ (hum i hil) _ (hdm j hj) e
     ·exact absurd e (by decide)
   ·have hm:=(mem_st h hp).2 (Or.inr (Or.inl ⟨i,hil,by omega,by omega,rfl⟩))
    refine Or.inr (Or.inr ⟨noRe i hil (by omega),no3 i hil (by omega),?_⟩); rw [h2 _ hm _ (by rw [tch_cmd]; exact Or.inr ⟨Or.inl h4,rfl⟩)]; unfold goV; rw [h4]; simp [cmdF]
   ·have hm:=(mem_st h hp).2 (Or.inr (Or.inl ⟨i,hil,by omega,by omega,rfl⟩))
    refine Or.inr (Or.inl ⟨noRe i hil (by omega),hS.p i hil (by rw [← h5]; exact h4),⟨_,hm,h4,rfl⟩,?_⟩); rw [h2 _ hm _ (by rw [tch_cmd]; exact Or.inr ⟨Or.inr (Or.inl h4),rfl⟩)]; unfold goV; rw [h4]; simp [cmdF]
  ·have hm:=(mem_st h hp).2 (Or.inl ⟨i,hil,hk,rfl⟩)
   refine Or.inr (Or.inr ⟨noRe i hil (by omega),no3 i hil (by omega),?_⟩); rw [h2 _ hm _ (by rw [tch_cmd]; exact Or.inr ⟨Or.inr (Or.inr rfl),rfl⟩)]
   have hne:(uAt x i).key≠(dAt x (f i)).key:=by rw [hf]; exact hS.ud _ (hum i hil) _ (hdm c hcl)
   unfold goV; simp [cmdF,hne]
 ·obtain ⟨j,hj⟩:=List.mem_iff_getElem?.1 hmd
  have hjl:=(List.getElem?_eq_some_iff.1 hj).1
  have e:d=dAt x j:=by rw [dAt_get hjl] at hj; injection hj with hj; exact hj.symm
  subst e; by_cases ht:(stF x f x.undo.length).2 j=true
  ·obtain ⟨i,hi,hf⟩:=taken_iff.1 ht
   rcases opt_kinds hS.k h hi with ⟨h4,-,-⟩ | ⟨c,hcl,hf2,hk⟩
   ·rw [hf] at h4; omega
   ·have hm:=(mem_st h hp).2 (Or.inl ⟨i,hi,hk,rfl⟩)
    refine Or.inr ⟨fun hr=>?_,?_⟩
    ·rcases (mem_re h hp).1 hr with ⟨i2,hi2,hk2,e⟩ | ⟨j2,hj2,ht2,hk2,e⟩
     ·exact hS.ud _ (hum i2 hi2) _ (hdm j hjl) e.symm
     ·have:=hdi hjl hj2 e; subst this; rw [ht] at ht2; cases ht2
    ·rw [h2 _ hm _ (by rw [tch_cmd,hf]; exact Or.inl ⟨Or.inr rfl,rfl⟩)]
     rw [hf]; unfold goV; simp [cmdF]
  ·have ht':(stF x f x.undo.length).2 j=false:=by simpa using ht
   rcases giv_kind hS.k j with h0 | h1k
   ·refine Or.inl ⟨(mem_re h hp).2 (Or.inr ⟨j,hjl,ht',h0,rfl⟩),?_⟩
    rw [h3 _ fun c hc htc=>?_]
    ·exact hd _ hmd
    ·rcases (mem_st h hp).1 hc with ⟨i,hi,hki,rfl⟩ | ⟨i,hi,h0i,h4i,rfl⟩ | ⟨j2,hj2,ht2,hkj,rfl⟩
     ·rcases opt_kinds hS.k h hi with ⟨-,h2,-⟩ | ⟨c,hcl,hf,-⟩
      ·rw [hki] at h2; exact absurd h2 (by decide)
      ·rw [hf,tch_cmd] at htc
       rcases htc with ⟨-,e⟩ | ⟨-,e⟩
       ·have:=hdi hjl hcl e
        subst this; exact ht (taken_iff.2 ⟨i,hi,hf⟩)
       ·exact hS.ud _ (hum i hi) _ hmd e.symm
     ·rw [tch_cmd] at htc
      rcases htc with ⟨hh,e⟩ | ⟨-,e⟩
      ·rcases opt_kinds hS.k h hi with ⟨-,h2,-⟩ | ⟨c,hcl,hf,hk⟩
       ·omega
       ·exact h4i hk
      ·exact hS.ud _ (hum i hi) _ hmd e.symm
     ·rw [hg j2 hkj,tch_cmd] at htc
      rcases htc with ⟨-,e⟩ | ⟨e,-⟩
      ·have:=hdi hjl hj2 e; subst this; exact hkj h0
      ·exact absurd e (by decide)
   ·have hm:=(mem_st h hp).2 (Or.inr (Or.inr ⟨j,hjl,ht',by omega,rfl⟩))
    refine Or.inr ⟨fun hr=>?_,?_⟩
    ·rcases (mem_re h hp).1 hr with ⟨i2,hi2,hk2,e⟩ | ⟨j2,hj2,ht2,hk2,e⟩
     ·exact hS.ud _ (hum i2 hi2) _ hmd e.symm
     ·have:=hdi hjl hj2 e; subst this; omega
    ·rw [h2 _ hm _ (by rw [tch_cmd]; exact Or.inl ⟨Or.inl h1k,rfl⟩)]
     unfold goV; rw [h1k]; simp [cmdF]
 ·refine h3 k fun c hc ht=>?_
  rcases (mem_st h hp).1 hc with ⟨i,hi,hki,rfl⟩ | ⟨i,hi,h0i,h4i,rfl⟩ | ⟨j2,hj2,ht2,hkj,rfl⟩
  ·rcases opt_kinds hS.k h hi with ⟨-,h2,-⟩ | ⟨c,hcl,hf,-⟩
   ·rw [hki] at h2; exact absurd h2 (by decide)
   ·rw [hf,tch_cmd] at ht
    rcases ht with ⟨-,e⟩ | ⟨-,e⟩
    ·exact hkd _ (hdm c hcl) e.symm
    ·exact hku _ (hum i hi) e.symm
  ·rw [tch_cmd] at ht
   rcases ht with ⟨hh,e⟩ | ⟨-,e⟩
   ·rcases opt_kinds hS.k h hi with ⟨-,h2,-⟩ | ⟨c,hcl,hf,hk⟩
    ·omega
    ·exact h4i hk
   ·exact hku _ (hum i hi) e.symm
  ·rw [hg j2 hkj,tch_cmd] at ht
   rcases ht with ⟨-,e⟩ | ⟨e,-⟩
   ·exact hkd _ (hdm j2 hj2) e.symm
   ·exact absurd e (by decide)
end
end Go.Proofs.YtfejagpjahoibaaGreatDoor
set_option linter.unusedSimpArgs false
namespace Go.Proofs.YtfejagpjahoibaaGreatDoor
theorem filter_one {α:Type} {R:α→α→Prop} {p:α→Bool} (hR:∀ a b,p a=true→p b=true→¬ R a b):∀ {l:List α},l.Pairwise R→∀ {c:α},c∈l→p c=true→l.filter p=[c]
 | [],_,c,h,_=>by cases h
 | a::l,hp,c,h,hc=>by
  rw [List.pairwise_cons] at hp; by_cases ha:p a=true
  ·have:l.filter p=[]:=by
    rw [List.filter_eq_nil_iff]
    exact fun b hb hpb=>hR a b ha hpb (hp.1 b hb)
   rw [List.filter_cons_of_pos ha,this]; rcases List.mem_cons.1 h with h | h
   ·rw [h]
   ·exact absurd (hp.1 c h) (hR a c ha hc)
  ·rw [List.filter_cons_of_neg (by simpa using ha)]
   rcases List.mem_cons.1 h with h | h
   ·subst h; exact absurd hc ha
   ·exact filter_one hR hp.2 h hc
/- what the law wants to be in force -/
def m3 (st:List Cmd) (k:List UInt8):List Cmd:=st.filter fun c=>decide (c.kind=3) && decide (c.of=k)
def pU (st:List Cmd) (u:Out):Bool:=u.part || !(m3 st u.key).isEmpty
def wU1 (st:List Cmd) (u:Out):List Out:=(m3 st u.key).map fun _=>{ u with part:=true }
def wU2 (st:List Cmd) (re:List (List UInt8)) (u:Out):List Out:=(re.filter fun s=>decide (s=u.key)).map fun _=>{ u with part:=pU st u }
def wU (st:List Cmd) (re:List (List UInt8)) (u:Out):List Out:=wU1 st u++wU2 st re u
def wD (re:List (List UInt8)) (d:Out):List Out:=if re.any (fun s=>decide (s=d.key)) then [] else [{ d with part:=false }]
def wantF (others undo «do»:List Out) (st:List Cmd) (re:List (List UInt8)):List Out:=(others++undo.flatMap (wU st re))++«do».flatMap (wD re)
theorem flat_keys {g:Out→List Out}:∀ {l:List Out},(∀ u∈l,((g u).map Out.key).Sublist [u.key])→((l.flatMap g).map Out.key).Sublist (l.map Out.key)
 | [],_=>by simp
 | u::l,h=>by
  rw [List.flatMap_cons,List.map_append,List.map_cons]; exact (h u (List.mem_cons_self ..)).append (flat_keys fun x hx=>h x (List.mem_cons_of_mem _ hx))
theorem view_ext {l:List Out} {V:List UInt8→Option Eff} (hN:KeysN l) (h1:∀ o∈l,V o.key=some (effO o)) (h2:∀ k,V k≠none→∃ o∈l,o.key=k) (k:List UInt8):viewL l k=V k:=by
 cases e:V k with
 | none =>
  rw [view_none]; intro o ho hk; have:=h1 o ho; rw [hk,e] at this; cases this
 | some x =>
  obtain ⟨o,ho,rfl⟩:=h2 k (by rw [e]; exact fun h=>by cases h); rw [view_mem hN ho,← h1 o ho,e]
theorem re_nodup {x:Stl} {f:Nat→Int} (hS:StlS x) (h:AsgTo x f x.undo.length) {p:P4} (hp:planF x (listN x.undo.length f)=some p):p.re.Nodup:=by
 have hum:∀ i,i < x.undo.length→uAt x i∈x.undo:=fun i hi=>List.mem_of_getElem? (uAt_get hi)
 have hdm:∀ j:Nat,j < x.do.length→dAt x j∈x.do:=fun j hj=>List.mem_of_getElem? (dAt_get hj)
 rw [(plan_form h hp).2]; refine List.nodup_append.2 ⟨?_,?_,?_⟩
 ·unfold List.Nodup
  rw [List.pairwise_filterMap]; refine List.Pairwise.imp_of_mem ?_ (List.pairwise_lt_range (n:=x.undo.length)); intro i j hi hj hij b hb c hc e; subst e; unfold reC at hb hc; split at hb
  ·split at hc
   ·injection hb with hb
    injection hc with hc; have:=key_inj hS.d.u (uAt_get (List.mem_range.1 hi)) (uAt_get (List.mem_range.1 hj)) (hb.trans hc.symm); omega
   ·cases hc
  ·cases hb
 ·unfold List.Nodup
  rw [List.pairwise_filterMap]; refine List.Pairwise.imp_of_mem ?_ (List.pairwise_lt_range (n:=x.do.length)); intro i j hi hj hij b hb c hc e; subst e; unfold grC at hb hc; split at hb
  ·cases hb
  ·split at hb
   ·split at hc
    ·cases hc
    ·split at hc
     ·injection hb with hb
      injection hc with hc; have:=key_inj hS.d.d (dAt_get (List.mem_range.1 hi)) (dAt_get (List.mem_range.1 hj)) (hb.trans hc.symm); omega
     ·cases hc
   ·cases hb
 ·intro a ha b hb e
  subst e; rw [List.mem_filterMap] at ha hb; obtain ⟨i,hi,e1⟩:=ha; obtain ⟨j,hj,e2⟩:=hb; unfold reC at e1; unfold grC at e2; split at e1
  ·split at e2
   ·cases e2
   ·split at e2
    ·injection e1 with e1
     injection e2 with e2; exact hS.ud _ (hum i (List.mem_range.1 hi)) _ (hdm j (List.mem_range.1 hj)) (e1.trans e2.symm)
    ·cases e2
  ·cases e1
theorem settle_plain {x:Stl} {f:Nat→Int} (hS:StlS x) (h:AsgTo x f x.undo.length) {p:P4} (hp:planF x (listN x.undo.length f)=some p) {others:List Out} (hN:KeysN ((others++x.undo)++x.do)) :
  ∃ now,foldF (others++x.undo) p.st=(0,now)∧KeysN now∧KeysN (wantF others x.undo x.do p.st p.re)∧now.length=(wantF others x.undo x.do p.st p.re).length∧∀ o∈now,∃ q∈wantF others x.undo x.do p.st p.re,q.key=o.key∧effO q=effO o:=by
 have hN':(((others++x.undo)++x.do).map Out.key).Nodup:=hN; rw [List.map_append] at hN'; obtain ⟨hF,hD,hFD⟩:=List.nodup_append.1 hN'; have hFN:KeysN (others++x.undo):=hF; rw [List.map_append] at hF; obtain ⟨hO,hU,hOU⟩:=List.nodup_append.1 hF
 have hv:∀ u∈x.undo,viewL (others++x.undo) u.key=some (effO u):=fun u hu=>view_mem hFN (List.mem_append_right _ hu)
 have hvo:∀ o∈others,viewL (others++x.undo) o.key=some (effO o):=fun u hu=>view_mem hFN (List.mem_append_left _ hu)
 have hvd:∀ d∈x.do,viewL (others++x.undo) d.key=none:=fun d hd=>by
  rw [view_none]; intro o ho e; exact hFD _ (List.mem_map.2 ⟨o,ho,rfl⟩) _ (List.mem_map.2 ⟨d,hd,rfl⟩) e
 obtain ⟨hfit,hV⟩:=plan_view hS h hp (v:=viewL (others++x.undo)) (fun u hu=>⟨u.name,u.args,hv u hu⟩) hvd; obtain ⟨now,h1,h2,h3⟩:=fold_view p.st _ hFN hfit; rw [← h3] at hV; have hap:=steps_apart hS h hp; have hre:=re_nodup hS h hp
 have f3:∀ (k:List UInt8) {c:Cmd},c∈p.st→c.kind=3→c.of=k→m3 p.st k=[c]:=fun k c hc hk ho=>by
  unfold m3; refine filter_one (R:=Apart) (fun a b ha hb hR=>?_) hap hc (by simp [hk,ho]); simp only [Bool.and_eq_true,decide_eq_true_eq] at ha hb; exact hR k (Or.inr ⟨Or.inr (Or.inl ha.1),ha.2.symm⟩) (Or.inr ⟨Or.inr (Or.inl hb.1),hb.2.symm⟩)
 have n3:∀ (k:List UInt8),(∀ c∈p.st,c.kind=3→c.of≠k)→m3 p.st k=[]:=fun k hc=>by
  unfold m3; rw [List.filter_eq_nil_iff]; intro c hm hh; simp only [Bool.and_eq_true,decide_eq_true_eq] at hh; exact hc c hm hh.1 hh.2
 have r1:∀ (k:List UInt8),k∈p.re→(p.re.filter fun s=>decide (s=k))=[k]:=fun k hk=>filter_one (R:=fun a b=>a≠b) (fun a b ha hb hR=>hR ((of_decide_eq_true ha).trans (of_decide_eq_true hb).symm)) hre hk (by simp)
 have r0:∀ (k:List UInt8),k ∉ p.re→(p.re.filter fun s=>decide (s=k))=[]:=fun k hk=>by
  rw [List.filter_eq_nil_iff]; intro s hs hh; exact hk (of_decide_eq_true hh ▸ hs)
 -- what wU is
 have hW:∀ u∈x.undo,(wU p.st p.re u=[]∧viewL now u.key=none)∨∃ w,wU p.st p.re u=[w]∧w.key=u.key∧viewL now u.key=some (effO w):=fun u hu=>by
  rcases hV.u u hu with ⟨a1,a2,a3⟩ | ⟨a1,a2,⟨c,a3,a4,a5⟩,a6⟩ | ⟨a1,a2,a3⟩
  ·refine Or.inr ⟨u,?_,rfl,by rw [a3,hv u hu]⟩
   unfold wU wU1 wU2 pU; rw [n3 _ a2,r1 _ a1]; simp
  ·refine Or.inr ⟨{ u with part:=true },?_,rfl,by rw [a6,hv u hu]; rfl⟩
   unfold wU wU1 wU2; rw [f3 _ a3 a4 a5,r0 _ a1]; simp
  ·refine Or.inl ⟨?_,a3⟩
   unfold wU wU1 wU2; rw [n3 _ a2,r0 _ a1]; simp
 have hDd:∀ d∈x.do,(wD p.re d=[]∧viewL now d.key=none)∨(wD p.re d=[{ d with part:=false }]∧viewL now d.key=some (effO { d with part:=false })):=fun d hd=>by
  rcases hV.d d hd with ⟨a1,a2⟩ | ⟨a1,a2⟩
  ·refine Or.inl ⟨?_,a2⟩
   unfold wD; rw [if_pos (by rw [List.any_eq_true]; exact ⟨_,a1,by simp⟩)]
  ·refine Or.inr ⟨?_,a2⟩
   unfold wD; rw [if_neg]; rw [List.any_eq_true]; rintro ⟨s,hs,e⟩; exact a1 (of_decide_eq_true e ▸ hs)
 have hWN:KeysN (wantF others x.undo x.do p.st p.re):=by
  unfold KeysN wantF
  have s1:((x.undo.flatMap (wU p.st p.re)).map Out.key).Sublist (x.undo.map Out.key):=flat_keys fun u hu=>by
   rcases hW u hu with ⟨e,-⟩ | ⟨w,e,hk,-⟩
   ·rw [e]; simp
   ·rw [e]; simp [hk]
  have s2:((x.do.flatMap (wD p.re)).map Out.key).Sublist (x.do.map Out.key):=flat_keys fun u hu=>by
   rcases hDd u hu with ⟨e,-⟩ | ⟨e,-⟩
   ·rw [e]; simp
   ·rw [e]; simp
  have s3:(((others++x.undo.flatMap (wU p.st p.re))++x.do.flatMap (wD p.re)).map Out.key).Sublist ((others.map Out.key++x.undo.map Out.key)++x.do.map Out.key):=by
   rw [List.map_append,List.map_append]; exact ((List.Sublist.refl _).append s1).append s2
  rw [List.map_append] at hN'; exact List.Nodup.sublist s3 hN'
 have hview:∀ k,viewL (wantF others x.undo x.do p.st p.re) k=viewL now k:=view_ext hWN (fun o ho=>by
  unfold wantF at ho; rcases List.mem_append.1 ho with ho | ho
  ·rcases List.mem_append.1 ho with ho | ho
   ·rw [hV.o o.key (fun u hu e=>hOU _ (List.mem_map.2 ⟨o,ho,rfl⟩) _ (List.mem_map.2 ⟨u,hu,rfl⟩) e.symm) (fun d hd e=>hFD _ (List.mem_map.2 ⟨o,List.mem_append_left _ ho,rfl⟩) _ (List.mem_map.2 ⟨d,hd,rfl⟩) e.symm)]
    exact hvo o ho
   ·obtain ⟨u,hu,ho⟩:=List.mem_flatMap.1 ho
    rcases hW u hu with ⟨e,-⟩ | ⟨w,e,hk,hw⟩
    ·rw [e] at ho; cases ho
    ·rw [e] at ho
     rw [List.mem_singleton.1 ho,hk]; exact hw
  ·obtain ⟨d,hd,ho⟩:=List.mem_flatMap.1 ho
   rcases hDd d hd with ⟨e,-⟩ | ⟨e,hw⟩
   ·rw [e] at ho; cases ho
   ·rw [e] at ho
    rw [List.mem_singleton.1 ho]
    exact hw) fun k hk=>by
  unfold wantF; by_cases e1:∃ u∈x.undo,u.key=k
  ·obtain ⟨u,hu,rfl⟩:=e1
   rcases hW u hu with ⟨-,e⟩ | ⟨w,e,hk2,-⟩
   ·exact absurd e hk
   ·exact ⟨w,List.mem_append_left _ (List.mem_append_right _ (List.mem_flatMap.2 ⟨u,hu,by rw [e]; exact List.mem_singleton.2 rfl⟩)),hk2⟩
  ·by_cases e2:∃ d∈x.do,d.key=k
   ·obtain ⟨d,hd,rfl⟩:=e2
    rcases hDd d hd with ⟨-,e⟩ | ⟨e,-⟩
    ·exact absurd e hk
    ·exact ⟨{ d with part:=false },List.mem_append_right _ (List.mem_flatMap.2 ⟨d,hd,by rw [e]; exact List.mem_singleton.2 rfl⟩),rfl⟩
   ·rw [hV.o k (fun u hu e=>e1 ⟨u,hu,e⟩) (fun d hd e=>e2 ⟨d,hd,e⟩)] at hk
    cases e3:viewL (others++x.undo) k with
    | none=>exact absurd e3 hk
    | some e =>
     obtain ⟨o,ho,hok,-⟩:=view_some e3; rcases List.mem_append.1 ho with ho | ho
     ·exact ⟨o,List.mem_append_left _ (List.mem_append_left _ ho),hok⟩
     ·exact absurd ⟨o,ho,hok⟩ e1
 obtain ⟨h4,h5⟩:=view_same h2 hWN fun k=>(hview k).symm
 exact ⟨now,h1,h2,hWN,h4,h5⟩
end Go.Proofs.YtfejagpjahoibaaGreatDoor
