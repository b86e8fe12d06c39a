/- plan, plain: what PlanOffers says. -/
import Derived.Test.YtdmgfnnpjoihfaaDoorPlB
set_option linter.unusedVariables false
set_option linter.unusedSimpArgs false
namespace Go.Proofs.YtdmgfnnpjoihfaaDoor
open Go.RowKit
open Go.Lib (hid)
/-- nothing to undo, nothing to perform -/
theorem plan_none {l:List Offer} {clock turn:Int} {rf:List (List UInt8)} {p:P4} (hp:planF (stlF l [] [] clock turn rf) (bestF (stlF l [] [] clock turn rf))=some p):p.st=[]∧p.re=[]∧p.co=0:=by
 have e:bestF (stlF l [] [] clock turn rf)=[]:=by
  unfold bestF listN; show (List.range 0).map _=[]; rfl
 rw [e] at hp; have hp':some (⟨[]++[],[],0,[]⟩:P4)=some p:=hp; injection hp' with hp'; rw [← hp']; exact ⟨rfl,rfl,rfl⟩
/- the order of the entries -/
theorem find_nodup {n:List UInt8}:∀ (l:List Offer) (o:Offer),(l.map Offer.name).Nodup→o∈l→o.name=n→findF l n=some o
 | [],o,_,h,_=>by cases h
 | a::l,o,hd,h,hn=>by
  unfold findF; rw [List.map_cons,List.nodup_cons] at hd; by_cases e:a.name=n
  ·rw [List.find?_cons_of_pos (by simpa using e)]
   rcases List.mem_cons.1 h with h | h
   ·rw [h]
   ·exact absurd (List.mem_map.2 ⟨o,h,hn.trans e.symm⟩) hd.1
  ·rw [List.find?_cons_of_neg (by simpa using e)]
   rcases List.mem_cons.1 h with h | h
   ·subst h; exact absurd hn e
   ·exact find_nodup l o hd.2 h hn
theorem find_perm {l m:List Offer} (hp:l.Perm m) (hd:(l.map Offer.name).Nodup) (n:List UInt8):findF m n=findF l n:=by
 have hd2:(m.map Offer.name).Nodup:=(hp.map _).nodup_iff.1 hd
 cases e:findF l n with
 | some o =>
  unfold findF at e; have h1:=List.mem_of_find?_eq_some e
  have h2:o.name=n:=by simpa using List.find?_some e
  exact find_nodup m o hd2 (hp.mem_iff.1 h1) h2
 | none =>
  unfold findF at e ⊢; rw [List.find?_eq_none] at e ⊢
  exact fun o ho=>e o (hp.mem_iff.2 ho)
theorem stl_find {l m:List Offer} (h:∀ n,findF m n=findF l n) (undo «do»:List Out) (clock turn:Int) (R:List (List UInt8)):stlF m undo «do» clock turn R=stlF l undo «do» clock turn R:=by
 have e:findF m=findF l:=funext h; unfold stlF; rw [e]
theorem cat_perm {l m:List Offer} (hp:l.Perm m) (h:CatOk l):CatOk m:=⟨by rw [← hp.length_eq]; exact h.1,fun o ho=>h.2.1 o (hp.mem_iff.2 ho),(hp.map _).nodup_iff.1 h.2.2⟩
theorem prep_cat {l m:List Offer} {undo «do»:List Out} (h0:prepE l undo «do» = 0) (hm:m=[]∨CatOk m):prepE m undo «do» = 0:=by
 have hok:okArg l undo «do»:=by
  unfold prepE at h0
  by_cases e:okArg l undo «do»
  ·exact e
  ·rw [if_neg e] at h0; exact absurd h0 (by decide)
 have hok2:okArg m undo «do»:=⟨hm,hok.2.1,hok.2.2⟩
 unfold prepE at h0 ⊢; rw [if_pos hok] at h0; rw [if_pos hok2]; exact h0
theorem prep_none {l:List Offer} {undo «do»:List Out} (h0:prepE l undo «do» = 0):prepE l [] []=0:=by
 have hok:okArg l undo «do»:=by
  unfold prepE at h0
  by_cases e:okArg l undo «do»
  ·exact e
  ·rw [if_neg e] at h0; exact absurd h0 (by decide)
 unfold prepE; rw [if_pos ⟨hok.1,by decide,by decide⟩,if_pos (by decide)]
/- an entry made cheaper -/
def cheapN (c x:Int):Int:=if x = -1∨c < x then c else x
def cheapF (c:Int) (o:Offer):Offer:=⟨o.name,cheapN c o.do,cheapN c o.undo,o.due,o.part,cheapN c o.amend⟩
theorem cheapN_ok {c x:Int} (h0:0≤c) (h:x≠-1):cheapN c x≠-1∧cheapN c x≤x:=by
 unfold cheapN; split <;> omega
theorem cheapN_rng {c x:Int} (h0:0≤c) (h1:c≤1048576) (hx:-1≤x∧x≤1048576):-1≤cheapN c x∧cheapN c x≤1048576:=by
 unfold cheapN; split <;> omega
theorem cheap_is {c:Int} (h0:0≤c) (o:Offer):Cheaper o (cheapF c o):=⟨cheapN_ok h0,cheapN_ok h0,rfl,rfl,cheapN_ok h0⟩
theorem costB_iff (x:Int):costB x=true ↔ -1≤x∧x≤1048576:=by
 unfold costB; rw [Bool.and_eq_true,decide_eq_true_eq,decide_eq_true_eq]
theorem cheap_right {c:Int} (h0:0≤c) (h1:c≤1048576) {o:Offer} (h:rightF o=true):rightF (cheapF c o)=true:=by
 obtain ⟨e1,e2,e3,e4,e5,e6,e7⟩:=right_parts h; unfold rightF; rw [Bool.and_eq_true,List.all_eq_true,Bool.and_eq_true,Bool.and_eq_true,decide_eq_true_eq,decide_eq_true_eq]; refine ⟨fun k hk=>?_,⟨e5,e6⟩,e7⟩; rw [costB_iff]; have hk:=List.mem_range.1 hk
 match k,hk with
 | 0,_=>exact cheapN_rng h0 h1 e1
 | 1,_=>exact cheapN_rng h0 h1 e2
 | 2,_=>exact e3
 | 3,_=>exact cheapN_rng h0 h1 e4
 | k+4,h=>omega
theorem find_set {c:Int} (h0:0≤c) {n:List UInt8}:∀ (l:List Offer) (r:Nat) (o:Offer),l[r]? = some o→CheapO (findF l n) (findF (l.set r (cheapF c o)) n)
 | [],r,o,h=>by simp at h
 | a::l,0,o,h=>by
  simp at h; subst h; rw [List.set_cons_zero]
  have h1:∀ x:Offer,findF (x::l) n=if x.name=n then some x else findF l n:=fun x=>by
   unfold findF; rw [List.find?_cons]; by_cases e:x.name=n
   ·rw [if_pos e,decide_eq_true e]
   ·rw [if_neg e,decide_eq_false e]
  rw [h1,h1,show (cheapF c a).name=a.name from rfl]; by_cases e:a.name=n
  ·rw [if_pos e,if_pos e]
   exact cheap_is h0 a
  ·rw [if_neg e,if_neg e]
   cases findF l n with
   | none=>trivial
   | some o=>exact Cheaper.refl o
 | a::l,r+1,o,h=>by
  rw [List.getElem?_cons_succ] at h; rw [List.set_cons_succ]; by_cases e:a.name=n
  ·unfold findF
   rw [List.find?_cons_of_pos (by simpa using e),List.find?_cons_of_pos (by simpa using e)]; exact Cheaper.refl a
  ·have ih:=find_set h0 (n:=n) l r o h
   unfold findF at ih ⊢; rw [List.find?_cons_of_neg (by simpa using e),List.find?_cons_of_neg (by simpa using e)]; exact ih
theorem set_names {c:Int}:∀ (l:List Offer) (r:Nat) (o:Offer),l[r]? = some o→(l.set r (cheapF c o)).map Offer.name=l.map Offer.name
 | [],r,o,h=>by simp at h
 | a::l,0,o,h=>by
  simp at h; subst h; rfl
 | a::l,r+1,o,h=>by
  rw [List.getElem?_cons_succ] at h; rw [List.set_cons_succ,List.map_cons,List.map_cons,set_names l r o h]
theorem cat_set {c:Int} (h0:0≤c) (h1:c≤1048576) {l:List Offer} (h:CatOk l) {r:Nat} {o:Offer} (ho:l[r]? = some o):CatOk (l.set r (cheapF c o)):=by
 refine ⟨by rw [List.length_set]; exact h.1,fun x hx=>?_,by rw [set_names l r o ho]; exact h.2.2⟩; rcases List.mem_or_eq_of_mem_set hx with hx | hx
 ·exact h.2.1 x hx
 ·rw [hx]; exact cheap_right h0 h1 (h.2.1 o (List.mem_of_getElem? ho))
end Go.Proofs.YtdmgfnnpjoihfaaDoor
