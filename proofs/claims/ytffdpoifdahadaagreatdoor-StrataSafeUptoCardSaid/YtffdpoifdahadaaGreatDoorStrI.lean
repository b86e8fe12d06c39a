/- StrI: StrA, StrB, StrD, StrE, StrF, StrC, StrG, StrI, in one text. -/
import Derived.Test.YtffdpoifdahadaaGreatDoorAskYe
import Derived.Lib.SlicesCompact
set_option linter.unusedVariables false
set_option linter.unusedSimpArgs false
namespace Go.Proofs.YtffdpoifdahadaaGreatDoor
/-- a variable that must be bound -/
def tvar (t:Tg):Bool:=!decide (t.var=[]) && !wildF t.var
def lvars (x:Lg):List (List UInt8):=(x.args.filter tvar).map Tg.var
/-- arguments that are not bound -/
def openN (bd:List (List UInt8)) (x:Lg):Nat:=((lvars x).filter fun v=>!decide (v∈bd)).length
def readyF (x:Lg) (n:Nat):Bool :=
 if x.op=0 then !x.nt || decide (n=0)
 else if x.op=1 then decide (x.args.length=2) && decide (n≤1)
 else if x.op=2∨x.op=3∨x.op=4 then decide (x.args.length=2) && decide (n=0)
 else if x.op=5 then decide (x.args.length=3) && decide (n≤1)
 else false
def bindsF (x:Lg):Bool:=!(decide (x.op=0) && x.nt)
def bindV (bd:List (List UInt8)) (x:Lg):List (List UInt8):=if bindsF x=true then bd++lvars x else bd
def lit0:Lg:=⟨0,false,[],[]⟩
def litAt (body:List Lg) (i:Nat):Lg:=body.getD i lit0
def canF (body:List Lg) (bd:List (List UInt8)) (tk:List Nat) (i:Nat):Bool:=!decide (i∈tk) && readyF (litAt body i) (openN bd (litAt body i))
def pickF (body:List Lg) (bd:List (List UInt8)) (tk:List Nat):Option Nat:=(List.range body.length).find? (canF body bd tk)
def orderG (body:List Lg):Nat→List (List UInt8)→List Nat→List Nat × List (List UInt8)
 | 0,bd,tk=>(tk,bd)
 | f+1,bd,tk=>match pickF body bd tk with
  | none=>(tk,bd)
  | some i=>orderG body f (bindV bd (litAt body i)) (tk++[i])
def orderF (head:Lg) (body:List Lg):Option (List Nat) :=
 if (orderG body body.length [] []).1.length < body.length then none
 else if (lvars head).all (fun v=>decide (v∈(orderG body body.length [] []).2))=true then some (orderG body body.length [] []).1 else none
/-! what is bound grows, what is open shrinks -/
theorem open_le {a b:List (List UInt8)} (h:∀ v∈a,v∈b) (x:Lg):openN b x≤openN a x:=by
 unfold openN
 induction lvars x with
 | nil=>exact Nat.le_refl _
 | cons v l ih =>
  rw [List.filter_cons,List.filter_cons]; by_cases hb:v∈b
  ·rw [if_neg (by simp [hb])]
   split
   ·rw [List.length_cons]; omega
   ·exact ih
  ·rw [if_pos (by simp [hb]),if_pos (by simp; exact fun ha=>hb (h v ha))]
   rw [List.length_cons,List.length_cons]; omega
theorem ready_le {x:Lg} {m n:Nat} (h:readyF x n=true) (hm:m≤n):readyF x m=true:=by
 unfold readyF at h ⊢; split
 ·rename_i h1
  rw [if_pos h1] at h; simp only [Bool.or_eq_true,decide_eq_true_eq] at h ⊢; rcases h with h | h
  ·exact Or.inl h
  ·exact Or.inr (by omega)
 ·rename_i h1
  rw [if_neg h1] at h; split
  ·rename_i h2
   rw [if_pos h2] at h; simp only [Bool.and_eq_true,decide_eq_true_eq] at h ⊢; omega
  ·rename_i h2
   rw [if_neg h2] at h; split
   ·rename_i h3
    rw [if_pos h3] at h; simp only [Bool.and_eq_true,decide_eq_true_eq] at h ⊢; omega
   ·rename_i h3
    rw [if_neg h3] at h; split
    ·rename_i h4
     rw [if_pos h4] at h; simp only [Bool.and_eq_true,decide_eq_true_eq] at h ⊢; omega
    ·rename_i h4
     rw [if_neg h4] at h; cases h
/-- what is bound once the literals l were taken, whatever their order -/
def boundBy (body:List Lg) (l:List Nat):List (List UInt8):=l.foldl (fun bd i=>bindV bd (litAt body i)) []
theorem bound_mem (body:List Lg):∀ (l:List Nat) (bd:List (List UInt8)) (v:List UInt8),v∈l.foldl (fun bd i=>bindV bd (litAt body i)) bd ↔ v∈bd∨∃ i∈l,bindsF (litAt body i)=true∧v∈lvars (litAt body i)
 | [],bd,v=>by simp
 | i::l,bd,v=>by
  rw [List.foldl_cons,bound_mem body l]; unfold bindV; by_cases h:bindsF (litAt body i)=true
  ·rw [if_pos h,List.mem_append]
   simp only [List.mem_cons]; constructor
   ·rintro ((h1 | h1) | ⟨j,h1,h2⟩)
    ·exact Or.inl h1
    ·exact Or.inr ⟨i,Or.inl rfl,h,h1⟩
    ·exact Or.inr ⟨j,Or.inr h1,h2⟩
   ·rintro (h1 | ⟨j,rfl | h1,h2⟩)
    ·exact Or.inl (Or.inl h1)
    ·exact Or.inl (Or.inr h2.2)
    ·exact Or.inr ⟨j,h1,h2⟩
  ·rw [if_neg h]
   simp only [List.mem_cons]; constructor
   ·rintro (h1 | ⟨j,h1,h2⟩)
    ·exact Or.inl h1
    ·exact Or.inr ⟨j,Or.inr h1,h2⟩
   ·rintro (h1 | ⟨j,rfl | h1,h2⟩)
    ·exact Or.inl h1
    ·exact absurd h2.1 h
    ·exact Or.inr ⟨j,h1,h2⟩
/-- an order in which each literal is ready when it is taken -/
def GoodO (body:List Lg) (l:List Nat):Prop:=l.Nodup∧(∀ i∈l,i < body.length)∧∀ a i b,l=a++i::b→readyF (litAt body i) (openN (boundBy body a) (litAt body i))=true
theorem GoodO.snoc {body:List Lg} {l:List Nat} (h:GoodO body l) {i:Nat} (hi:i < body.length) (hn:i ∉ l) (hr:readyF (litAt body i) (openN (boundBy body l) (litAt body i))=true):GoodO body (l++[i]):=by
 obtain ⟨h1,h2,h3⟩:=h; refine ⟨?_,fun j hj=>?_,fun a j b e=>?_⟩
 ·rw [List.nodup_append]
  exact ⟨h1,by simp,fun x hx y hy=>by simp at hy; subst hy; exact fun e=>hn (e ▸ hx)⟩
 ·rcases List.mem_append.1 hj with hj | hj
  ·exact h2 j hj
  ·simp at hj; subst hj; exact hi
 ·rcases List.eq_nil_or_concat b with hb | ⟨b',y,hb⟩
  ·subst hb
   have:=List.append_inj' e rfl; rw [← this.1]; have h5:=this.2; simp at h5; rw [← h5]; exact hr
  ·subst hb
   have e2:l++[i]=(a++j::b')++[y]:=by rw [e]; simp
   have:=List.append_inj' e2 rfl; exact h3 a j b' this.1
theorem pick_some {body:List Lg} {bd:List (List UInt8)} {tk:List Nat} {i:Nat} (h:pickF body bd tk=some i):i < body.length∧i ∉ tk∧readyF (litAt body i) (openN bd (litAt body i))=true:=by
 have h1:=List.find?_some h; have h2:=List.mem_of_find?_eq_some h; unfold canF at h1; simp only [Bool.and_eq_true,Bool.not_eq_true',decide_eq_false_iff_not] at h1; exact ⟨List.mem_range.1 h2,h1.1,h1.2⟩
theorem pick_none {body:List Lg} {bd:List (List UInt8)} {tk:List Nat} (h:pickF body bd tk=none) {i:Nat} (hi:i < body.length) (hn:i ∉ tk):readyF (litAt body i) (openN bd (litAt body i))=false:=by
 have:=List.find?_eq_none.1 h i (List.mem_range.2 hi); unfold canF at this; simpa [hn] using this
/-- what the search leaves: a good order that is whole, or that nothing can be put to -/
theorem orderG_ok (body:List Lg):∀ (f:Nat) (tk:List Nat),GoodO body tk→body.length≤f+tk.length →
  ∃ l,orderG body f (boundBy body tk) tk=(l,boundBy body l)∧GoodO body l∧(l.length=body.length∨∀ i,i < body.length→i ∉ l→readyF (litAt body i) (openN (boundBy body l) (litAt body i))=false)
 | 0,tk,h,hl=>by
  have:tk.length≤body.length:=by
   have:=nodup_sub h.1 (m:=List.range body.length) fun x hx=>List.mem_range.2 (h.2.1 x hx)
   simpa using this
  exact ⟨tk,rfl,h,Or.inl (by omega)⟩
 | f+1,tk,h,hl=>by
  rw [orderG]
  cases hp:pickF body (boundBy body tk) tk with
  | none=>exact ⟨tk,rfl,h,Or.inr fun i hi hn=>pick_none hp hi hn⟩
  | some i =>
   obtain ⟨h1,h2,h3⟩:=pick_some hp
   have hb:bindV (boundBy body tk) (litAt body i)=boundBy body (tk++[i]):=by unfold boundBy; rw [List.foldl_append]; rfl
   simp only; rw [hb]; exact orderG_ok body f (tk++[i]) (h.snoc h1 h2 h3) (by rw [List.length_append]; simp; omega)
theorem good_len {body:List Lg} {l:List Nat} (h:GoodO body l):l.length≤body.length:=by
 have:=nodup_sub h.1 (m:=List.range body.length) fun x hx=>List.mem_range.2 (h.2.1 x hx)
 simpa using this
/-- a whole good order is found if there is any -/
theorem orderG_whole {body:List Lg} {o:List Nat} (ho:GoodO body o) (hw:o.length=body.length):(orderG body body.length [] []).1.length=body.length:=by
 obtain ⟨l,h1,h2,h3⟩:=orderG_ok body body.length [] ⟨List.nodup_nil,fun i h=>by simp at h,fun a i b e=>by simp at e⟩ (by simp); have h1':orderG body body.length [] []=(l,boundBy body l):=h1; rw [h1']; rcases h3 with h3 | h3
 ·exact h3
 ·-- the first one of o that l lacks is ready
  apply Classical.byContradiction; intro hne
  have hex:∃ i∈o,i ∉ l:=by
   apply Classical.byContradiction; intro hno
   have:=nodup_sub ho.1 (m:=l) fun x hx=>Classical.byContradiction fun h=>hno ⟨x,hx,h⟩
   have:=good_len h2; simp only at hne; omega
  have key:∀ (a b:List Nat),o=a++b→(∀ x∈a,x∈l)→∀ x∈b,x∈l:=by
   intro a b
   induction b generalizing a with
   | nil=>intro _ _ x hx; cases hx
   | cons i b ih =>
    intro e ha
    have hi:i∈l:=Classical.byContradiction fun hn=>by
     have hr:=ho.2.2 a i b e; have hlt:=ho.2.1 i (by rw [e]; simp)
     have hle:=open_le (a:=boundBy body a) (b:=boundBy body l) (fun v hv=>by
      rw [boundBy,bound_mem] at hv ⊢; rcases hv with hv | ⟨j,hj,hv⟩
      ·cases hv
      ·exact Or.inr ⟨j,ha j hj,hv⟩) (litAt body i)
     have:=ready_le hr hle; rw [h3 i hlt hn] at this; cases this
    intro x hx; rcases List.mem_cons.1 hx with rfl | hx
    ·exact hi
    ·exact ih (a++[i]) (by rw [e]; simp) (fun y hy=>by rcases List.mem_append.1 hy with hy | hy; exact ha y hy; simp at hy; subst hy; exact hi) x hx
  obtain ⟨i,h4,h5⟩:=hex; exact h5 (key [] o rfl (fun x hx=>by cases hx) i h4)
/-- a rule is safe: its literals can be taken in some order, and bind the head -/
def Safe (head:Lg) (body:List Lg):Prop:=(∃ o,GoodO body o∧o.length=body.length)∧∀ v∈lvars head,∃ x∈body,bindsF x=true∧v∈lvars x
theorem whole_bound {body:List Lg} {l:List Nat} (h:GoodO body l) (hw:l.length=body.length) (v:List UInt8):v∈boundBy body l ↔ ∃ x∈body,bindsF x=true∧v∈lvars x:=by
 rw [boundBy,bound_mem]; constructor
 ·rintro (hv | ⟨i,hi,hv⟩)
  ·cases hv
  ·have hlt:=h.2.1 i hi
   refine ⟨litAt body i,?_,hv⟩; unfold litAt; rw [List.getD_eq_getElem?_getD,List.getElem?_eq_getElem hlt]; exact List.getElem_mem hlt
 ·rintro ⟨x,hx,hv⟩
  obtain ⟨i,hi⟩:=List.mem_iff_getElem?.1 hx; have hlt:=(List.getElem?_eq_some_iff.1 hi).1
  have e:litAt body i=x:=by unfold litAt; rw [List.getD_eq_getElem?_getD,hi]; rfl
  refine Or.inr ⟨i,?_,by rw [e]; exact hv⟩; apply Classical.byContradiction; intro hn
  have hs:∀ y∈i::l,y∈List.range body.length:=fun y hy=>by
   rcases List.mem_cons.1 hy with rfl | hy
   ·exact List.mem_range.2 hlt
   ·exact List.mem_range.2 (h.2.1 y hy)
  have:=nodup_sub (List.nodup_cons.2 ⟨hn,h.1⟩) hs; simp at this; omega
theorem order_iff (head:Lg) (body:List Lg):(orderF head body).isSome=true ↔ Safe head body:=by
 obtain ⟨l,h1,h2,h3⟩:=orderG_ok body body.length [] ⟨List.nodup_nil,fun i h=>by simp at h,fun a i b e=>by simp at e⟩ (by simp); have h1':orderG body body.length [] []=(l,boundBy body l):=h1; unfold orderF; rw [h1']; simp only; by_cases hw:l.length < body.length
 ·rw [if_pos hw]
  constructor
  ·intro h; cases h
  ·rintro ⟨⟨o,ho,how⟩,-⟩
   have:=orderG_whole ho how; rw [h1'] at this; simp only at this; omega
 ·rw [if_neg hw]
  have hle:=good_len h2
  have hwl:l.length=body.length:=by omega
  by_cases hh:(lvars head).all (fun v=>decide (v∈boundBy body l))=true
  ·rw [if_pos hh]
   refine ⟨fun _=>⟨⟨l,h2,hwl⟩,fun v hv=>?_⟩,fun _=>rfl⟩; rw [List.all_eq_true] at hh; have:=hh v hv; rw [decide_eq_true_eq] at this; exact (whole_bound h2 hwl v).1 this
  ·rw [if_neg hh]
   refine ⟨fun h=>(by cases h),fun hs=>?_⟩
   exfalso
   apply hh; rw [List.all_eq_true]; intro v hv; rw [decide_eq_true_eq]; exact (whole_bound h2 hwl v).2 (hs.2 v hv)
/-- what Order answers -/
theorem order_some {head:Lg} {body:List Lg} {l:List Nat} (h:orderF head body=some l):GoodO body l∧l.length=body.length∧∀ v∈lvars head,v∈boundBy body l:=by
 obtain ⟨l',h1,h2,h3⟩:=orderG_ok body body.length [] ⟨List.nodup_nil,fun i h=>by simp at h,fun a i b e=>by simp at e⟩ (by simp); have h1':orderG body body.length [] []=(l',boundBy body l'):=h1; unfold orderF at h; rw [h1'] at h; simp only at h; split at h
 ·cases h
 ·rename_i hw
  split at h
  ·rename_i hh
   injection h with h; subst h; have hle:=good_len h2; rw [List.all_eq_true] at hh; exact ⟨h2,by omega,fun v hv=>by have:=hh v hv; rwa [decide_eq_true_eq] at this⟩
  ·cases h
end Go.Proofs.YtffdpoifdahadaaGreatDoor
set_option linter.unusedSimpArgs false
namespace Go.Proofs.YtffdpoifdahadaaGreatDoor
abbrev Nm:=List UInt8
def headsF (rs:List Rg):List Nm:=rs.map fun r=>r.head.rel
/-- distinct ones -/
def dd {α:Type} [DecidableEq α]:List α→List α
 | []=>[]
 | a::l=>if a∈l then dd l else a::dd l
theorem dd_mem {α:Type} [DecidableEq α]:∀ (l:List α) (x:α),x∈dd l ↔ x∈l
 | [],x=>Iff.rfl
 | a::l,x=>by
  unfold dd; split
  ·rename_i h
   rw [dd_mem l,List.mem_cons]; exact ⟨Or.inr,fun h2=>by rcases h2 with rfl | h2; exact h; exact h2⟩
  ·rw [List.mem_cons,List.mem_cons,dd_mem l]
theorem dd_nodup {α:Type} [DecidableEq α]:∀ l:List α,(dd l).Nodup
 | []=>List.nodup_nil
 | a::l=>by
  unfold dd; split
  ·exact dd_nodup l
  ·rename_i h
   exact List.nodup_cons.2 ⟨fun h2=>h ((dd_mem l a).1 h2),dd_nodup l⟩
/-- how much more than that of the literal the rule's number is, at least -/
def stepF (r:Rg) (x:Lg):Nat:=if x.nt=true∨r.agg≠0 then 1 else 0
def usesF (hs:List Nm) (x:Lg):Bool:=decide (x.op=0) && decide (x.rel∈hs)
/-- the least number of a rule's head -/
def leastF (hs:List Nm) (lv:Nm→Nat) (r:Rg):Nat:=(r.body.filter (usesF hs)).foldl (fun m x=>max m (lv x.rel+stepF r x)) (lv r.head.rel)
def setF (lv:Nm→Nat) (n:Nm) (k:Nat):Nm→Nat:=fun m=>if m=n then k else lv m
/-- one pass over the rules; the truth value: something changed -/
def passF (hs:List Nm) (N:Nat):List Rg→(Nm→Nat)→Bool→Option ((Nm→Nat) × Bool)
 | [],lv,ch=>some (lv,ch)
 | r::rs,lv,ch =>
  if N≤leastF hs lv r then none
  else if lv r.head.rel < leastF hs lv r then passF hs N rs (setF lv r.head.rel (leastF hs lv r)) true
  else passF hs N rs lv ch
def levelsG (rs:List Rg):Nat→(Nm→Nat)→Option (Nm→Nat)
 | 0,_=>none
 | f+1,lv=>match passF (headsF rs) (dd (headsF rs)).length rs lv false with
  | none=>none
  | some (lv',ch)=>if ch=true then levelsG rs f lv' else some lv'
def fuelF (rs:List Rg):Nat:=rs.length * (dd (headsF rs)).length+1
def levelsF (rs:List Rg):Option (Nm→Nat):=levelsG rs (fuelF rs) fun _=>0
/-- a numbering is valid -/
def ValidN (rs:List Rg) (lv:Nm→Nat):Prop:=∀ r∈rs,∀ x∈r.body,usesF (headsF rs) x=true→lv x.rel+stepF r x≤lv r.head.rel
theorem foldl_max_le {α:Type} (f:α→Nat):∀ (l:List α) (m b:Nat),l.foldl (fun m x=>max m (f x)) m≤b ↔ m≤b∧∀ x∈l,f x≤b
 | [],m,b=>by simp
 | a::l,m,b=>by
  rw [List.foldl_cons,foldl_max_le f l]; simp only [List.mem_cons,forall_eq_or_imp]; constructor
  ·rintro ⟨h1,h2⟩; exact ⟨by omega,by omega,h2⟩
  ·rintro ⟨h1,h2,h3⟩; exact ⟨by omega,h3⟩
theorem least_le {hs:List Nm} {lv:Nm→Nat} {r:Rg} {b:Nat}:leastF hs lv r≤b ↔ lv r.head.rel≤b∧∀ x∈r.body,usesF hs x=true→lv x.rel+stepF r x≤b:=by
 unfold leastF; rw [foldl_max_le (fun x=>lv x.rel+stepF r x)]; simp only [List.mem_filter,and_imp]
theorem least_ge (hs:List Nm) (lv:Nm→Nat) (r:Rg):lv r.head.rel≤leastF hs lv r:=(least_le.1 (Nat.le_refl _)).1
/-- a pass goes no further than a valid numbering -/
theorem pass_below {all:List Rg} {nu:Nm→Nat} (hv:ValidN all nu) {N:Nat}:∀ (rs:List Rg) (lv:Nm→Nat) (ch:Bool) (q:(Nm→Nat) × Bool),(∀ r∈rs,r∈all)→(∀ m,lv m≤nu m)→passF (headsF all) N rs lv ch=some q→∀ m,q.1 m≤nu m
 | [],lv,ch,q,_,h,e=>by cases e; exact h
 | r::rs,lv,ch,q,hs,h,e=>by
  have hle:leastF (headsF all) lv r≤nu r.head.rel:=least_le.2 ⟨h _,fun x hx hu=>by
   have:=hv r (hs r (by simp)) x hx hu; have:=h x.rel
   omega⟩
  unfold passF at e; split at e
  ·cases e
  ·split at e
   ·refine pass_below hv rs _ _ q (fun r hr=>hs r (by simp [hr])) (fun m=>?_) e
    unfold setF; split
    ·rename_i hm; subst hm; exact hle
    ·exact h m
   ·exact pass_below hv rs _ _ q (fun r hr=>hs r (by simp [hr])) h e
/-- a pass does not fail below a valid numbering that stays below N -/
theorem pass_ok {all:List Rg} {nu:Nm→Nat} (hv:ValidN all nu) {N:Nat} (hN:∀ r∈all,nu r.head.rel < N):∀ (rs:List Rg) (lv:Nm→Nat) (ch:Bool),(∀ r∈rs,r∈all)→(∀ m,lv m≤nu m)→(passF (headsF all) N rs lv ch).isSome=true
 | [],lv,ch,_,_=>rfl
 | r::rs,lv,ch,hs,h=>by
  have hr:=hs r (by simp)
  have hle:leastF (headsF all) lv r≤nu r.head.rel:=least_le.2 ⟨h _,fun x hx hu=>by
   have:=hv r hr x hx hu; have:=h x.rel
   omega⟩
  have:=hN r hr; unfold passF; rw [if_neg (by omega)]; split
  ·refine pass_ok hv hN rs _ _ (fun r hr=>hs r (by simp [hr])) (fun m=>?_)
   unfold setF; split
   ·rename_i hm; subst hm; exact hle
   ·exact h m
  ·exact pass_ok hv hN rs _ _ (fun r hr=>hs r (by simp [hr])) h
/-- a pass: nothing gets less, nothing reaches N; unchanged, all rules are met -/
theorem pass_grow {hs:List Nm} {N:Nat}:∀ (rs:List Rg) (lv:Nm→Nat) (ch:Bool) (q:(Nm→Nat) × Bool),passF hs N rs lv ch=some q →
  (∀ m,lv m≤q.1 m)∧(ch=true→q.2=true)∧(q.2=false→q.1=lv∧∀ r∈rs,leastF hs lv r≤lv r.head.rel)∧(∀ r∈rs,lv r.head.rel < N)∧((∀ m,lv m=q.1 m)∨∃ r∈rs,lv r.head.rel < q.1 r.head.rel)
 | [],lv,ch,q,e=>by
  cases e; exact ⟨fun _=>Nat.le_refl _,fun h=>h,fun _=>⟨rfl,fun r hr=>(by cases hr)⟩,fun r hr=>(by cases hr),Or.inl fun _=>rfl⟩
 | r::rs,lv,ch,q,e=>by
  unfold passF at e; have hge:=least_ge hs lv r; split at e
  ·cases e
  ·rename_i hlt
   split at e
   ·rename_i hc
    obtain ⟨g1,g2,g3,g4,g5⟩:=pass_grow rs _ _ q e
    have hmono:∀ m,lv m≤setF lv r.head.rel (leastF hs lv r) m:=fun m=>by
     unfold setF; split
     ·rename_i h; subst h; exact hge
     ·exact Nat.le_refl _
    refine ⟨fun m=>Nat.le_trans (hmono m) (g1 m),fun _=>g2 rfl,fun h=>(by rw [g2 rfl] at h; cases h),fun s hs'=>?_,Or.inr ⟨r,by simp,?_⟩⟩
    ·rcases List.mem_cons.1 hs' with rfl | hs'
     ·omega
     ·exact Nat.lt_of_le_of_lt (hmono _) (g4 s hs')
    ·have:=g1 r.head.rel
     unfold setF at this; rw [if_pos rfl] at this; omega
   ·rename_i hc
    obtain ⟨g1,g2,g3,g4,g5⟩:=pass_grow rs lv ch q e; refine ⟨g1,g2,fun h=>⟨(g3 h).1,fun s hs'=>?_⟩,fun s hs'=>?_,?_⟩
    ·rcases List.mem_cons.1 hs' with rfl | hs'
     ·omega
     ·exact (g3 h).2 s hs'
    ·rcases List.mem_cons.1 hs' with rfl | hs'
     ·omega
     ·exact g4 s hs'
    ·rcases g5 with g5 | ⟨s,h1,h2⟩
     ·exact Or.inl g5
     ·exact Or.inr ⟨s,by simp [h1],h2⟩
theorem pass_changed {hs:List Nm} {N:Nat}:∀ (rs:List Rg) (lv:Nm→Nat) (ch:Bool) (q:(Nm→Nat) × Bool),passF hs N rs lv ch=some q→q.2=true→ch=true∨∃ r∈rs,lv r.head.rel < q.1 r.head.rel
 | [],lv,ch,q,e,h=>by cases e; exact Or.inl h
 | r::rs,lv,ch,q,e,h=>by
  unfold passF at e; have hge:=least_ge hs lv r; split at e
  ·cases e
  ·split at e
   ·rename_i hc
    have g1:=(pass_grow rs _ _ q e).1 r.head.rel; unfold setF at g1; rw [if_pos rfl] at g1; exact Or.inr ⟨r,by simp,by omega⟩
   ·rcases pass_changed rs lv ch q e h with h | ⟨s,h1,h2⟩
    ·exact Or.inl h
    ·exact Or.inr ⟨s,by simp [h1],h2⟩
/-- the numbers of all names, summed -/
def sumN (ns:List Nm) (lv:Nm→Nat):Nat:=(ns.map lv).sum
theorem sum_le {ns:List Nm} {a b:Nm→Nat} (h:∀ m∈ns,a m≤b m):sumN ns a≤sumN ns b:=by
 unfold sumN
 induction ns with
 | nil=>exact Nat.le_refl _
 | cons n ns ih =>
  simp only [List.map_cons,List.sum_cons]; have:=h n (by simp)
  have:=ih fun m hm=>h m (by simp [hm])
  omega
theorem sum_lt {ns:List Nm} {a b:Nm→Nat} (h:∀ m∈ns,a m≤b m) {n:Nm} (hn:n∈ns) (hlt:a n < b n):sumN ns a < sumN ns b:=by
 unfold sumN
 induction ns with
 | nil=>cases hn
 | cons k ns ih =>
  simp only [List.map_cons,List.sum_cons]; have h1:=h k (by simp); rcases List.mem_cons.1 hn with rfl | hn
  ·have:=sum_le (ns:=ns) (a:=a) (b:=b) fun m hm=>h m (by simp [hm])
   unfold sumN at this; omega
  ·have:=ih (fun m hm=>h m (by simp [hm])) hn
   omega
theorem sum_max {ns:List Nm} {a:Nm→Nat} {N:Nat} (h:∀ m∈ns,a m < N):sumN ns a≤ns.length * N:=by
 unfold sumN
 induction ns with
 | nil=>exact Nat.zero_le _
 | cons k ns ih =>
  simp only [List.map_cons,List.sum_cons,List.length_cons,Nat.succ_mul]; have h1:=h k (by simp)
  have:=ih fun m hm=>h m (by simp [hm])
  omega
/-- what the passes leave: the least valid numbering -/
theorem levelsG_some (rs:List Rg):∀ (f:Nat) (lv lv':Nm→Nat),levelsG rs f lv=some lv'→ValidN rs lv'∧∀ nu,ValidN rs nu→(∀ m,lv m≤nu m)→∀ m,lv' m≤nu m
 | 0,lv,lv',e=>by cases e
 | f+1,lv,lv',e=>by
  unfold levelsG at e
  cases hp:passF (headsF rs) (dd (headsF rs)).length rs lv false with
  | none=>rw [hp] at e; cases e
  | some q =>
   obtain ⟨lv1,ch⟩:=q; rw [hp] at e; simp only at e
   have hb:=fun nu (hv:ValidN rs nu) h=>pass_below hv rs lv false _ (fun r hr=>hr) h hp
   split at e
   ·obtain ⟨h1,h2⟩:=levelsG_some rs f lv1 lv' e
    exact ⟨h1,fun nu hv h=>h2 nu hv (hb nu hv h)⟩
   ·rename_i hch
    injection e with e; subst e; rw [Bool.not_eq_true] at hch; obtain ⟨-,-,g3,-,-⟩:=pass_grow rs lv false _ hp; obtain ⟨e1,e2⟩:=g3 hch; simp only at e1; refine ⟨fun r hr x hx hu=>?_,fun nu hv h=>hb nu hv h⟩; rw [e1]; exact (least_le.1 (e2 r hr)).2 x hx hu
/-- it ends, and does not fail where a valid numbering stays below the number of names -/
theorem levelsG_ok (rs:List Rg) {nu:Nm→Nat} (hv:ValidN rs nu) (hN:∀ r∈rs,nu r.head.rel < (dd (headsF rs)).length):∀ (f:Nat) (lv:Nm→Nat),(∀ m,lv m≤nu m)→sumN (headsF rs) nu < f+sumN (headsF rs) lv→(levelsG rs f lv).isSome=true
 | 0,lv,h,hf=>by
  have:=sum_le (ns:=headsF rs) fun m _=>h m
  omega
 | f+1,lv,h,hf=>by
  unfold levelsG; have h1:=pass_ok hv hN rs lv false (fun r hr=>hr) h
  cases hp:passF (headsF rs) (dd (headsF rs)).length rs lv false with
  | none=>rw [hp] at h1; cases h1
  | some q =>
   obtain ⟨lv1,ch⟩:=q; simp only; have hb:=pass_below hv rs lv false _ (fun r hr=>hr) h hp; split
   ·rename_i hch
    refine levelsG_ok rs hv hN f lv1 hb ?_; rcases pass_changed rs lv false _ hp hch with h2 | ⟨r,h2,h3⟩
    ·cases h2
    ·have:=sum_lt (ns:=headsF rs) (fun m _=>(pass_grow rs lv false _ hp).1 m) (List.mem_map.2 ⟨r,h2,rfl⟩) h3
     simp only at this; omega
   ·rfl
/-! a valid numbering pressed together -/
def rankF (D:List Nat) (v:Nat):Nat:=(D.filter fun u=>decide (u < v)).length
theorem rank_mono (D:List Nat) {v w:Nat} (h:v≤w):rankF D v≤rankF D w:=by
 unfold rankF
 induction D with
 | nil=>exact Nat.le_refl _
 | cons a D ih =>
  rw [List.filter_cons,List.filter_cons]; split
  ·rename_i h1
   rw [decide_eq_true_eq] at h1; rw [if_pos (by rw [decide_eq_true_eq]; omega),List.length_cons,List.length_cons]; omega
  ·split
   ·rw [List.length_cons]; omega
   ·exact ih
theorem rank_strict {D:List Nat} {v w:Nat} (hv:v∈D) (h:v < w):rankF D v < rankF D w:=by
 unfold rankF
 induction D with
 | nil=>cases hv
 | cons a D ih =>
  rw [List.filter_cons,List.filter_cons]; rcases List.mem_cons.1 hv with rfl | hv
  ·rw [if_neg (by rw [decide_eq_true_eq]; omega),if_pos (by rw [decide_eq_true_eq]; exact h),List.length_cons]
   have:=rank_mono D (Nat.le_of_lt h); unfold rankF at this; omega
  ·have:=ih hv
   split
   ·rename_i h1
    rw [decide_eq_true_eq] at h1; rw [if_pos (by rw [decide_eq_true_eq]; omega),List.length_cons,List.length_cons]; omega
   ·split
    ·rw [List.length_cons]; omega
    ·exact this
theorem rank_lt {D:List Nat} {v:Nat} (hv:v∈D):rankF D v < D.length:=by
 have h1:=rank_strict hv (show v < v+1 by omega); have h2:rankF D (v+1)≤D.length:=List.length_filter_le _ _; omega
def pressN (rs:List Rg) (nu:Nm→Nat):Nm→Nat:=fun m=>rankF (dd ((headsF rs).map nu)) (nu m)
theorem press_valid {rs:List Rg} {nu:Nm→Nat} (hv:ValidN rs nu):ValidN rs (pressN rs nu)∧∀ r∈rs,pressN rs nu r.head.rel < (dd (headsF rs)).length:=by
 constructor
 ·intro r hr x hx hu
  have h:=hv r hr x hx hu
  have hm:x.rel∈headsF rs:=by
   unfold usesF at hu; simp only [Bool.and_eq_true,decide_eq_true_eq] at hu; exact hu.2
  have hD:nu x.rel∈dd ((headsF rs).map nu):=(dd_mem _ _).2 (List.mem_map.2 ⟨_,hm,rfl⟩); unfold pressN; unfold stepF at h ⊢; split
  ·rename_i hc
   rw [if_pos hc] at h; have:=rank_strict hD (show nu x.rel < nu r.head.rel by omega); omega
  ·rename_i hc
   rw [if_neg hc] at h; exact rank_mono _ (by omega)
 ·intro r hr
  have hD:nu r.head.rel∈dd ((headsF rs).map nu):=(dd_mem _ _).2 (List.mem_map.2 ⟨_,List.mem_map.2 ⟨r,hr,rfl⟩,rfl⟩); have h1:=rank_lt hD
  have h2:=nodup_sub (dd_nodup ((headsF rs).map nu)) (m:=(dd (headsF rs)).map nu) fun v hv=>by
   obtain ⟨n,hn,rfl⟩:=List.mem_map.1 ((dd_mem _ _).1 hv); exact List.mem_map.2 ⟨n,(dd_mem _ _).2 hn,rfl⟩
  rw [List.length_map] at h2; unfold pressN; omega
/-- levels answers the least valid numbering, and fails where there is none -/
theorem levels_some {rs:List Rg} {lv:Nm→Nat} (h:levelsF rs=some lv):ValidN rs lv∧∀ nu,ValidN rs nu→∀ m,lv m≤nu m:=by
 obtain ⟨h1,h2⟩:=levelsG_some rs _ _ _ h; exact ⟨h1,fun nu hv=>h2 nu hv fun m=>Nat.zero_le _⟩
theorem levels_iff (rs:List Rg):(levelsF rs).isSome=true ↔ ∃ nu,ValidN rs nu:=by
 constructor
 ·intro h
  obtain ⟨lv,hl⟩:=Option.isSome_iff_exists.1 h; exact ⟨lv,(levels_some hl).1⟩
 ·rintro ⟨nu,hv⟩
  obtain ⟨h1,h2⟩:=press_valid hv; refine levelsG_ok rs h1 h2 _ _ (fun m=>Nat.zero_le _) ?_
  have h3:=sum_max (ns:=headsF rs) (a:=pressN rs nu) (N:=(dd (headsF rs)).length) fun m hm=>by
   obtain ⟨r,hr,rfl⟩:=List.mem_map.1 hm; exact h2 r hr
  have e:(headsF rs).length=rs.length:=List.length_map _; rw [e] at h3; unfold fuelF; omega
/-- no number is left out -/
theorem levels_dense {rs:List Rg} {lv:Nm→Nat} (h:levelsF rs=some lv) {k:Nat}:∀ {r:Rg},r∈rs→lv r.head.rel=k+1→∃ s∈rs,lv s.head.rel=k:=by
 intro r hr hk; obtain ⟨h1,h2⟩:=levels_some h; apply Classical.byContradiction; intro hno
 have hno':∀ s∈rs,lv s.head.rel≠k:=fun s hs e=>hno ⟨s,hs,e⟩
 have hv:ValidN rs fun m=>if k < lv m then lv m - 1 else lv m:=by
  intro s hs x hx hu; have h3:=h1 s hs x hx hu
  have hm:x.rel∈headsF rs:=by
   unfold usesF at hu; simp only [Bool.and_eq_true,decide_eq_true_eq] at hu; exact hu.2
  obtain ⟨t,ht,he⟩:=List.mem_map.1 hm; have h4:=hno' t ht; rw [he] at h4; have h5:=hno' s hs
  have h6:stepF s x≤1:=by unfold stepF; split <;> decide
  simp only; split <;> split <;> omega
 have:=h2 _ hv r.head.rel
 try simp only at this
 rw [if_pos (by omega)] at this; omega
/-- what the numbering of the same rules in another order is -/
theorem levels_same {rs qs:List Rg} {lv lv2:Nm→Nat} (h:levelsF rs=some lv) (h2:levelsF qs=some lv2) (hv:∀ nu,ValidN rs nu ↔ ValidN qs nu):∀ m,lv m=lv2 m:=by
 intro m; obtain ⟨a1,a2⟩:=levels_some h; obtain ⟨b1,b2⟩:=levels_some h2; have:=a2 lv2 ((hv lv2).2 b1) m; have:=b2 lv ((hv lv).1 a1) m; omega
end Go.Proofs.YtffdpoifdahadaaGreatDoor
set_option linter.unusedSimpArgs false
namespace Go.Proofs.YtffdpoifdahadaaGreatDoor
/-- the list made long enough for index k -/
def longS (S:List (List Nat)) (k:Nat):List (List Nat):=S++List.replicate (k+1 - S.length) []
def addS (S:List (List Nat)) (k i:Nat):List (List Nat):=(longS S k).modify k (·++[i])
/-- the strata of the first rules; f: the level of a rule -/
def strataG (f:Nat→Nat):Nat→List (List Nat)
 | 0=>[]
 | i+1=>addS (strataG f i) (f i) i
theorem longS_len (S:List (List Nat)) (k:Nat):(longS S k).length=max S.length (k+1):=by
 unfold longS; rw [List.length_append,List.length_replicate]; omega
theorem longS_get (S:List (List Nat)) (k n:Nat):(longS S k).getD n []=S.getD n []:=by
 unfold longS; rw [List.getD_eq_getElem?_getD,List.getD_eq_getElem?_getD]; by_cases h:n < S.length
 ·rw [List.getElem?_append_left h]
 ·rw [List.getElem?_append_right (by omega),List.getElem?_eq_none (l:=S) (by omega),List.getElem?_replicate]
  split <;> rfl
theorem addS_len (S:List (List Nat)) (k i:Nat):(addS S k i).length=max S.length (k+1):=by
 unfold addS; rw [List.length_modify,longS_len]
theorem addS_get (S:List (List Nat)) (k i n:Nat):(addS S k i).getD n []=if n=k then S.getD n []++[i] else S.getD n []:=by
 unfold addS; rw [List.getD_eq_getElem?_getD,List.getElem?_modify]; have h0:=longS_get S k n; rw [List.getD_eq_getElem?_getD] at h0; by_cases h:n=k
 ·subst h
  have hl:n < (longS S n).length:=by rw [longS_len]; omega
  rw [List.getElem?_eq_getElem hl] at h0 ⊢; rw [if_pos rfl,← h0]; simp
 ·rw [if_neg h,← h0]
  have h2:¬ k=n:=fun e=>h e.symm
  simp [h2]
theorem strataG_get (f:Nat→Nat):∀ (i n:Nat),(strataG f i).getD n []=(List.range i).filter fun k=>decide (f k=n)
 | 0,n=>rfl
 | i+1,n=>by
  unfold strataG; rw [addS_get,strataG_get f i n,List.range_succ,List.filter_append]; by_cases h:n=f i
  ·rw [if_pos h,List.filter_cons_of_pos (by simp [h]),List.filter_nil]
  ·rw [if_neg h,List.filter_cons_of_neg (by simp; exact fun e=>h e.symm),List.filter_nil,List.append_nil]
theorem strataG_lt (f:Nat→Nat):∀ (i k:Nat),k < i→f k < (strataG f i).length
 | i+1,k,h=>by
  unfold strataG; rw [addS_len]; by_cases e:k=i
  ·subst e; omega
  ·have:=strataG_lt f i k (by omega); omega
theorem strataG_of (f:Nat→Nat):∀ (i n:Nat),n < (strataG f i).length→∃ k,k < i∧n≤f k
 | 0,n,h=>absurd h (by simp [strataG])
 | i+1,n,h=>by
  unfold strataG at h; rw [addS_len] at h; by_cases e:n≤f i
  ·exact ⟨i,by omega,e⟩
  ·obtain ⟨k,hk,h2⟩:=strataG_of f i n (by omega)
   exact ⟨k,by omega,h2⟩
theorem mem_stratum {f:Nat→Nat} {i n k:Nat}:k∈(strataG f i).getD n [] ↔ k < i∧f k=n:=by
 rw [strataG_get,List.mem_filter,List.mem_range,decide_eq_true_eq]
/-- a stratum is ascending -/
theorem stratum_asc {f:Nat→Nat} {i n:Nat}:((strataG f i).getD n []).Pairwise (· < ·):=by
 rw [strataG_get]; exact (List.pairwise_lt_range).filter _
def totalS (S:List (List Nat)):Nat:=(S.map List.length).sum
theorem total_app (a b:List (List Nat)):totalS (a++b)=totalS a+totalS b:=by unfold totalS; rw [List.map_append,List.sum_append]
theorem total_rep (n:Nat):totalS (List.replicate n [])=0:=by
 unfold totalS
 induction n with
 | zero=>rfl
 | succ n ih=>rw [List.replicate_succ,List.map_cons,List.sum_cons,ih]; rfl
theorem total_modify:∀ (S:List (List Nat)) (k i:Nat),k < S.length→totalS (S.modify k (·++[i]))=totalS S+1
 | a::S,0,i,_=>by
  rw [List.modify_zero_cons]; unfold totalS; rw [List.map_cons,List.sum_cons,List.map_cons,List.sum_cons,List.length_append]; simp only [List.length_singleton]; omega
 | a::S,k+1,i,h=>by
  rw [List.modify_succ_cons]; have:=total_modify S k i (by simpa using h); unfold totalS at this ⊢; rw [List.map_cons,List.sum_cons,List.map_cons,List.sum_cons]; omega
theorem strataG_total (f:Nat→Nat):∀ i,totalS (strataG f i)=i
 | 0=>rfl
 | i+1=>by
  unfold strataG addS; rw [total_modify _ _ _ (by rw [longS_len]; omega)]; unfold longS; rw [total_app,total_rep,strataG_total f i]
/-- the relation of a rule's head -/
def relA (rs:List Rg) (k:Nat):Nm:=((rs.map fun r=>r.head.rel)[k]?).getD []
theorem relA_get {rs:List Rg} {k:Nat} (h:k < rs.length):relA rs k=rs[k].head.rel:=by
 unfold relA; rw [List.getElem?_map,List.getElem?_eq_getElem h]; rfl
theorem relA_mem {rs:List Rg} {n:Nm}:n∈headsF rs ↔ ∃ k,k < rs.length∧relA rs k=n:=by
 unfold headsF; rw [List.mem_map]; constructor
 ·rintro ⟨r,hr,e⟩
  obtain ⟨k,hk,e2⟩:=List.getElem_of_mem hr; exact ⟨k,hk,by rw [relA_get hk,e2,e]⟩
 ·rintro ⟨k,hk,e⟩
  exact ⟨rs[k],List.getElem_mem hk,by rw [← e,relA_get hk]⟩
def strataF (rs:List Rg) (lv:Nm→Nat):List (List Nat):=strataG (fun k=>lv (relA rs k)) rs.length
/-- with levels of which none is left out, no stratum is empty -/
theorem strata_full {rs:List Rg} {lv:Nm→Nat} (h:levelsF rs=some lv) {n:Nat} (hn:n < (strataF rs lv).length):(strataF rs lv).getD n []≠[]:=by
 obtain ⟨k,hk,hle⟩:=strataG_of _ _ _ hn
 have down:∀ d m,lv (relA rs m)=n+d→m < rs.length→∃ j,j < rs.length∧lv (relA rs j)=n:=by
  intro d
  induction d with
  | zero=>intro m e hm; exact ⟨m,hm,e⟩
  | succ d ih =>
   intro m e hm
   have e2:lv (rs[m].head.rel)=(n+d)+1:=by rw [← relA_get hm]; exact e
   obtain ⟨s,hs,e3⟩:=levels_dense h (List.getElem_mem hm) e2; obtain ⟨j,hj,rfl⟩:=List.getElem_of_mem hs; exact ih j (by rw [relA_get hj]; exact e3) hj
 obtain ⟨j,hj,e⟩:=down (lv (relA rs k) - n) k (by omega) hk; intro e0; have:j∈(strataF rs lv).getD n []:=mem_stratum.2 ⟨hj,e⟩; rw [e0] at this; cases this
/-- the law's function level: the first stratum that holds a rule of the relation -/
def hasR (rs:List Rg) (S:List (List Nat)) (rel:Nm) (n:Nat):Bool:=(S.getD n []).any fun k=>decide (k < rs.length) && decide (relA rs k=rel)
def levelA (rs:List Rg) (S:List (List Nat)) (rel:Nm):Int:=match (List.range S.length).find? (hasR rs S rel) with
 | some n=>(n:Int)
 | none=>-1
theorem hasR_iff {rs:List Rg} {lv:Nm→Nat} {rel:Nm} {n:Nat}:hasR rs (strataF rs lv) rel n=true ↔ rel∈headsF rs∧lv rel=n:=by
 unfold hasR; rw [List.any_eq_true,relA_mem]; constructor
 ·rintro ⟨k,hk,h⟩
  obtain ⟨h1,h2⟩:=mem_stratum.1 hk; simp only [Bool.and_eq_true,decide_eq_true_eq] at h; exact ⟨⟨k,h1,h.2⟩,by rw [← h.2]; exact h2⟩
 ·rintro ⟨⟨k,h1,h2⟩,e⟩
  exact ⟨k,mem_stratum.2 ⟨h1,by show lv (relA rs k)=n; rw [h2,e]⟩,by simp [h1,h2]⟩
theorem level_of {rs:List Rg} {lv:Nm→Nat} {rel:Nm} (h:rel∈headsF rs):levelA rs (strataF rs lv) rel=(lv rel:Int):=by
 unfold levelA
 have hlt:lv rel < (strataF rs lv).length:=by
  obtain ⟨k,hk,e⟩:=relA_mem.1 h; rw [← e]; exact strataG_lt (fun k=>lv (relA rs k)) rs.length k hk
 cases e:(List.range (strataF rs lv).length).find? (hasR rs (strataF rs lv) rel) with
 | none =>
  rw [List.find?_eq_none] at e; exact absurd (hasR_iff.2 ⟨h,rfl⟩) (e _ (List.mem_range.2 hlt))
 | some n =>
  have:=List.find?_some e; rw [(hasR_iff.1 this).2]
end Go.Proofs.YtffdpoifdahadaaGreatDoor
set_option linter.unusedSimpArgs false
namespace Go.Proofs.YtffdpoifdahadaaGreatDoor
open Go.Lib (keeps compactUpTo compact)
theorem leN_trans (a b c:Nm) (h:decide (a≤b)=true) (h2:decide (b≤c)=true):decide (a≤c)=true:=by
 rw [decide_eq_true_eq] at *; exact List.le_trans h h2
theorem leN_total (a b:Nm):(decide (a≤b) || decide (b≤a))=true:=by
 rw [Bool.or_eq_true,decide_eq_true_eq,decide_eq_true_eq]; exact List.le_total a b
theorem sorted_le (ss:List Nm):(ss.mergeSort fun x y=>decide (x≤y)).Pairwise (·≤·):=by
 have:=List.pairwise_mergeSort (le:=fun x y:Nm=>decide (x≤y)) leN_trans leN_total ss
 exact this.imp fun h=>of_decide_eq_true h
theorem compact_mem {zs:List Nm} {x:Nm}:x∈compact zs ↔ x∈zs:=by
 unfold compact compactUpTo; rw [List.mem_map]; constructor
 ·rintro ⟨j,hj,rfl⟩
  have hj:=List.mem_range.1 (List.mem_filter.1 hj).1
  have hs:j < zs.toArray.size:=by simpa using hj
  rw [getElem!_pos _ j hs]; simp
 ·intro h
  obtain ⟨j,hj,rfl⟩:=List.getElem_of_mem h
  induction j with
  | zero=>exact ⟨0,by simp [keeps,hj],by rw [getElem!_pos _ 0 (by simpa using hj)]; simp⟩
  | succ j ih =>
   by_cases hk:keeps zs.toArray (j+1)=true
   ·exact ⟨j+1,List.mem_filter.2 ⟨List.mem_range.2 hj,hk⟩,by rw [getElem!_pos _ (j+1) (by simpa using hj)]; simp⟩
   ·obtain ⟨i,hi,e⟩:=ih (by omega) (List.getElem_mem _)
    refine ⟨i,hi,?_⟩; rw [e]; unfold keeps at hk; simp only [decide_eq_true_eq,not_or,ne_eq,Classical.not_not] at hk; have h2:=hk.2; rw [getElem!_pos _ (j+1) (by simpa using hj),Nat.add_sub_cancel,getElem!_pos _ j (by simp; omega)] at h2; simpa using h2.symm
theorem compact_nodup {zs:List Nm} (hs:zs.Pairwise (·≤·)):(compact zs).Nodup:=by
 unfold compact compactUpTo; rw [List.nodup_iff_pairwise_ne,List.pairwise_map]; have hp:((List.range zs.length).filter (keeps zs.toArray)).Pairwise (· < ·):=List.pairwise_lt_range.filter _
 refine hp.imp_of_mem fun {i j} hi hj hlt=>?_
 have hj1:=List.mem_range.1 (List.mem_filter.1 hj).1; have hj2:=(List.mem_filter.1 hj).2; have hi1:=List.mem_range.1 (List.mem_filter.1 hi).1; unfold keeps at hj2; rw [decide_eq_true_eq] at hj2; have h2:=hj2.resolve_left (by omega); rw [getElem!_pos _ j (by simpa using hj1),getElem!_pos _ (j - 1) (by simp; omega)] at h2; rw [getElem!_pos _ i (by simpa using hi1),getElem!_pos _ j (by simpa using hj1)]; simp only [List.getElem_toArray] at h2 ⊢
 have h3:∀ (a b:Nat) (ha:a < zs.length) (hb:b < zs.length),a≤b→zs[a]≤zs[b]:=fun a b ha hb hab=>by
  by_cases e:a=b
  ·subst e; exact List.le_refl _
  ·exact List.pairwise_iff_getElem.1 hs a b ha hb (by omega)
 intro e; apply h2; refine List.le_antisymm ?_ (h3 (j - 1) j (by omega) hj1 (by omega)); rw [← e]; exact h3 i (j - 1) hi1 (by omega) (by omega)
/-- what Derived answers -/
def derivedF (rs:List Rg):List Nm:=compact ((headsF rs).mergeSort fun x y=>decide (x≤y))
theorem derived_mem {rs:List Rg} {n:Nm}:n∈derivedF rs ↔ n∈headsF rs:=by
 unfold derivedF; rw [compact_mem,List.mem_mergeSort]
theorem derived_nodup (rs:List Rg):(derivedF rs).Nodup:=compact_nodup (sorted_le _)
theorem derived_len (rs:List Rg):(derivedF rs).length≤rs.length:=by
 have h:=List.Nodup.length_le_of_subset (derived_nodup rs) (l₂:=headsF rs) fun x hx=>derived_mem.1 hx
 unfold headsF at h; simpa using h
end Go.Proofs.YtffdpoifdahadaaGreatDoor
set_option linter.unusedSimpArgs false
namespace Go.Proofs.YtffdpoifdahadaaGreatDoor
/-- the law's function number: that of the first place with the name -/
def numberA (names:List Nm) (lv:List Int) (rel:Nm):Int:=match (List.range (min names.length lv.length)).find? (fun i=>decide (names.getD i []=rel)) with
 | some i=>lv.getD i 0
 | none=>-1
/-- one literal of a rule with number n -/
def fitL (names:List Nm) (lv:List Int) (r:Rg) (n:Int) (x:Lg):Bool :=
 if x.op≠0∨numberA names lv x.rel < 0 then true
 else !(decide (n < numberA names lv x.rel) || (decide (n=numberA names lv x.rel) && (x.nt || !decide (r.agg=0))))
def fitR (names:List Nm) (lv:List Int) (r:Rg):Bool:=r.body.all (fitL names lv r (numberA names lv r.head.rel)) && !decide (numberA names lv r.head.rel < 0)
/-- the law's function valid -/
def validA (rs:List Rg) (names:List Nm) (lv:List Int):Bool:=rs.all (fitR names lv)
theorem number_at {names:List Nm} {lv:List Int} (hn:names.Nodup) (hl:lv.length=names.length) {i:Nat} (hi:i < names.length):numberA names lv (names.getD i [])=lv.getD i 0:=by
 unfold numberA
 cases e:(List.range (min names.length lv.length)).find? (fun j=>decide (names.getD j []=names.getD i [])) with
 | none =>
  rw [List.find?_eq_none] at e; exact absurd (e i (List.mem_range.2 (by omega))) (by simp)
 | some j =>
  have h1:=List.find?_some e; have h2:=List.mem_range.1 (List.mem_of_find?_eq_some e); rw [decide_eq_true_eq] at h1
  have hj:j < names.length:=by omega
  rw [List.getD_eq_getElem?_getD,List.getD_eq_getElem?_getD,List.getElem?_eq_getElem hj,List.getElem?_eq_getElem hi,Option.getD_some,Option.getD_some] at h1
  have:j=i:=by
   have hp:=List.pairwise_iff_getElem.1 (List.nodup_iff_pairwise_ne.1 hn); rcases Nat.lt_trichotomy j i with h | h | h
   ·exact absurd h1 (hp j i hj hi h)
   ·exact h
   ·exact absurd h1.symm (hp i j hi hj h)
  rw [this]
theorem number_out {names:List Nm} {lv:List Int} {rel:Nm} (h:rel ∉ names):numberA names lv rel = -1:=by
 unfold numberA; rw [List.find?_eq_none.2]; intro i hi; have hi:=List.mem_range.1 hi; rw [decide_eq_true_eq]; intro e; apply h; rw [← e,List.getD_eq_getElem?_getD,List.getElem?_eq_getElem (by omega),Option.getD_some]; exact List.getElem_mem _
/-- a valid candidate is a valid numbering -/
theorem valid_nu {rs:List Rg} {lv:List Int} (h:validA rs (derivedF rs) lv=true):ValidN rs fun m=>(numberA (derivedF rs) lv m).toNat:=by
 unfold validA at h; rw [List.all_eq_true] at h
 have h0:∀ r∈rs,0≤numberA (derivedF rs) lv r.head.rel:=fun r hr=>by
  have:=h r hr; unfold fitR at this; simp only [Bool.and_eq_true,Bool.not_eq_true',decide_eq_false_iff_not] at this; omega
 intro r hr x hx hu; have h1:=h r hr; unfold fitR at h1; simp only [Bool.and_eq_true,List.all_eq_true] at h1; have h2:=h1.1 x hx; unfold usesF at hu; simp only [Bool.and_eq_true,decide_eq_true_eq] at hu; obtain ⟨hu1,hu2⟩:=hu; obtain ⟨s,hs,hs2⟩:=List.mem_map.1 hu2; have h3:=h0 s hs; rw [hs2] at h3; have h4:=h0 r hr; unfold fitL at h2; rw [if_neg (by rintro (h | h); exact h hu1; omega)] at h2; simp only [Bool.not_eq_true',Bool.or_eq_false_iff,decide_eq_false_iff_not,Bool.and_eq_false_iff,Bool.not_eq_false'] at h2; obtain ⟨h5,h6⟩:=h2; show (numberA (derivedF rs) lv x.rel).toNat+stepF r x≤(numberA (derivedF rs) lv r.head.rel).toNat; unfold stepF; split
 ·rename_i hst
  rcases h6 with h6 | h6
  ·omega
  ·exfalso
   rcases hst with hst | hst
   ·rw [h6.1] at hst; cases hst
   ·exact hst (by simpa using h6.2)
 ·omega
/-- a valid numbering, written out by the names, is a valid candidate -/
theorem nu_valid {rs:List Rg} {nu:Nm→Nat} (h:ValidN rs nu):validA rs (derivedF rs) ((derivedF rs).map fun m=>(nu m:Int))=true:=by
 have hin:∀ m∈headsF rs,numberA (derivedF rs) ((derivedF rs).map fun m=>(nu m:Int)) m=(nu m:Int):=fun m hm=>by
  obtain ⟨i,hi,e⟩:=List.getElem_of_mem (derived_mem.2 hm); have h1:=number_at (derived_nodup rs) (lv:=(derivedF rs).map fun m=>(nu m:Int)) (by rw [List.length_map]) hi
  have e2:(derivedF rs).getD i []=m:=by rw [List.getD_eq_getElem?_getD,List.getElem?_eq_getElem hi,Option.getD_some,e]
  rw [e2] at h1; rw [h1,List.getD_eq_getElem?_getD,List.getElem?_map,List.getElem?_eq_getElem hi,Option.map_some,Option.getD_some,e]
 have hout:∀ m,m ∉ headsF rs→numberA (derivedF rs) ((derivedF rs).map fun m=>(nu m:Int)) m = -1:=fun m hm=>number_out fun h=>hm (derived_mem.1 h)
 unfold validA; rw [List.all_eq_true]; intro r hr; have hh:r.head.rel∈headsF rs:=List.mem_map.2 ⟨r,hr,rfl⟩; unfold fitR; rw [hin _ hh,Bool.and_eq_true,List.all_eq_true]; refine ⟨fun x hx=>?_,by simp⟩; unfold fitL; split
 ·rfl
 ·rename_i hno
  simp only [not_or,ne_eq,Classical.not_not] at hno; by_cases hm:x.rel∈headsF rs
  ·rw [hin _ hm]
   have hv:=h r hr x hx (by unfold usesF; simp [hno.1,hm]); unfold stepF at hv; simp only [Bool.not_eq_true',Bool.or_eq_false_iff,decide_eq_false_iff_not,Bool.and_eq_false_iff,Bool.not_eq_false']; split at hv
   ·exact ⟨by omega,Or.inl (by omega)⟩
   ·rename_i hs
    simp only [not_or,Bool.not_eq_true,ne_eq,Classical.not_not] at hs; exact ⟨by omega,Or.inr ⟨hs.1,by simp [hs.2]⟩⟩
  ·have:=hout _ hm
   omega
/-- StrataLeast: where there is no numbering, no candidate is valid -/
theorem least_none {rs:List Rg} (h:levelsF rs=none) (lv:List Int):validA rs (derivedF rs) lv=false:=by
 cases e:validA rs (derivedF rs) lv with
 | false=>rfl
 | true =>
  have:=(levels_iff rs).2 ⟨_,valid_nu e⟩; rw [h] at this; cases this
/-- StrataLeast: a valid candidate gives each relation at least its stratum -/
theorem least_some {rs:List Rg} {nu:Nm→Nat} (h:levelsF rs=some nu) {lv:List Int} (hl:lv.length=(derivedF rs).length) (hv:validA rs (derivedF rs) lv=true) {i:Nat} (hi:i < (derivedF rs).length):(nu ((derivedF rs).getD i []):Int)≤lv.getD i 0:=by
 have h1:=(levels_some h).2 _ (valid_nu hv) ((derivedF rs).getD i []); have h2:=number_at (derived_nodup rs) hl hi
 have hm:(derivedF rs).getD i []∈headsF rs:=by
  rw [List.getD_eq_getElem?_getD,List.getElem?_eq_getElem hi,Option.getD_some]; exact derived_mem.1 (List.getElem_mem hi)
 obtain ⟨r,hr,e⟩:=List.mem_map.1 hm
 have h3:0≤numberA (derivedF rs) lv r.head.rel:=by
  unfold validA at hv; have:=(List.all_eq_true.1 hv) r hr; unfold fitR at this; simp only [Bool.and_eq_true,Bool.not_eq_true',decide_eq_false_iff_not] at this; omega
 rw [e] at h3; show (nu ((derivedF rs).getD i []):Int)≤_; rw [h2] at h3; simp only [h2] at h1; omega
/-- StrataLeast: the strata are a valid candidate -/
theorem least_own {rs:List Rg} {nu:Nm→Nat} (h:levelsF rs=some nu):validA rs (derivedF rs) ((derivedF rs).map fun m=>levelA rs (strataF rs nu) m)=true:=by
 have e:((derivedF rs).map fun m=>levelA rs (strataF rs nu) m)=(derivedF rs).map fun m=>(nu m:Int):=List.map_congr_left fun m hm=>level_of (derived_mem.1 hm)
 rw [e]; exact nu_valid (levels_some h).1
end Go.Proofs.YtffdpoifdahadaaGreatDoor
set_option linter.unusedSimpArgs false
namespace Go.Proofs.YtffdpoifdahadaaGreatDoor
/-- literals that can be taken one by one -/
def Takes:List Nm→List Lg→Prop
 | _,[]=>True
 | bd,x::l=>readyF x (openN bd x)=true∧Takes (bindV bd x) l
def afterT (bd:List Nm) (l:List Lg):List Nm:=l.foldl bindV bd
theorem bindV_mem {bd:List Nm} {x:Lg} {v:Nm}:v∈bindV bd x ↔ v∈bd∨(bindsF x=true∧v∈lvars x):=by
 unfold bindV; split
 ·rename_i h; rw [List.mem_append]; simp [h]
 ·rename_i h; simp [h]
theorem bindV_mono {a b:List Nm} (h:∀ v∈a,v∈b) (x:Lg):∀ v∈bindV a x,v∈bindV b x:=fun v hv=>by
 rw [bindV_mem] at hv ⊢; rcases hv with hv | hv
 ·exact Or.inl (h v hv)
 ·exact Or.inr hv
theorem takes_mono:∀ {l:List Lg} {a b:List Nm},(∀ v∈a,v∈b)→Takes a l→Takes b l
 | [],a,b,_,_=>trivial
 | x::l,a,b,h,ht=>⟨ready_le ht.1 (open_le h x),takes_mono (bindV_mono h x) ht.2⟩
theorem takes_app:∀ {l m:List Lg} {bd:List Nm},Takes bd (l++m) ↔ Takes bd l∧Takes (afterT bd l) m
 | [],m,bd=>⟨fun h=>⟨trivial,h⟩,fun h=>h.2⟩
 | x::l,m,bd=>by
  show (_∧Takes (bindV bd x) (l++m)) ↔ (_∧Takes (bindV bd x) l)∧_; rw [takes_app (l:=l)]; exact ⟨fun h=>⟨⟨h.1,h.2.1⟩,h.2.2⟩,fun h=>⟨h.1.1,h.1.2,h.2⟩⟩
theorem bound_after (body:List Lg) (a:List Nat):boundBy body a=afterT [] (a.map (litAt body)):=by
 unfold boundBy afterT; rw [List.foldl_map]
theorem good_takes {body:List Lg} {o:List Nat} (h:GoodO body o):Takes [] (o.map (litAt body)):=by
 have key:∀ (b a:List Nat),o=a++b→Takes (boundBy body a) (b.map (litAt body)):=by
  intro b
  induction b with
  | nil=>intro a _; trivial
  | cons i b ih =>
   intro a e; refine ⟨h.2.2 a i b e,?_⟩; have:=ih (a++[i]) (by rw [e]; simp)
   have e2:boundBy body (a++[i])=bindV (boundBy body a) (litAt body i):=by unfold boundBy; rw [List.foldl_append]; rfl
   rw [e2] at this; exact this
 exact key o [] rfl
theorem takes_good {body:List Lg} {o:List Nat} (hn:o.Nodup) (hr:∀ i∈o,i < body.length) (h:Takes [] (o.map (litAt body))):GoodO body o:=by
 refine ⟨hn,hr,fun a i b e=>?_⟩; rw [e,List.map_append,takes_app] at h; rw [bound_after]; exact h.2.1
theorem lits_range (body:List Lg):(List.range body.length).map (litAt body)=body:=by
 apply List.ext_getElem?; intro i; rw [List.getElem?_map]; by_cases h:i < body.length
 ·rw [List.getElem?_range h]
  unfold litAt; rw [Option.map_some,List.getD_eq_getElem?_getD,List.getElem?_eq_getElem h]; rfl
 ·rw [List.getElem?_eq_none (by simpa using h),List.getElem?_eq_none (by simpa using h)]; rfl
theorem nodup_perm_range {o:List Nat} {n:Nat} (hn:o.Nodup) (hr:∀ i∈o,i < n) (hl:o.length=n):o.Perm (List.range n):=by
 have hm:∀ a,a∈o ↔ a∈List.range n:=fun a=>by
  rw [List.mem_range]; refine ⟨hr a,fun h=>Classical.byContradiction fun hno=>?_⟩
  have:=nodup_sub (List.nodup_cons.2 ⟨hno,hn⟩) (m:=List.range n) (fun x hx=>by
   rcases List.mem_cons.1 hx with rfl | hx
   ·exact List.mem_range.2 h
   ·exact List.mem_range.2 (hr x hx))
  rw [List.length_cons,List.length_range,hl] at this; omega
 rw [List.perm_iff_count]; intro a; by_cases h:a∈o
 ·have h2:=(hm a).1 h
  have e1:=List.one_le_count_iff.2 h; have e2:=List.one_le_count_iff.2 h2; have e3:=List.nodup_iff_count.1 hn a; have e4:=List.nodup_iff_count.1 (List.nodup_range (n:=n)) a; omega
 ·rw [List.count_eq_zero_of_not_mem h,List.count_eq_zero_of_not_mem (fun h2=>h ((hm a).2 h2))]
theorem perm_map_inv {α β:Type} (f:α→β):∀ {l k:List β},l.Perm k→∀ m:List α,k=m.map f→∃ o:List α,o.Perm m∧l=o.map f:=by
 intro l k h
 induction h with
 | nil =>
  intro m e; exact ⟨m,List.Perm.refl _,e⟩
 | cons x h ih =>
  intro m e
  cases m with
  | nil=>cases e
  | cons a m =>
   injection e with e1 e2; obtain ⟨o,h1,h2⟩:=ih m e2; exact ⟨a::o,h1.cons a,by rw [h2,e1]; rfl⟩
 | swap x y l =>
  intro m e
  match m,e with
  | a::b::m,e =>
   injection e with e1 e2; injection e2 with e2 e3; exact ⟨b::a::m,List.Perm.swap _ _ _,by rw [e1,e2,e3]; rfl⟩
 | trans h1 h2 ih1 ih2 =>
  intro m e; obtain ⟨o,p1,p2⟩:=ih2 m e; obtain ⟨o2,p3,p4⟩:=ih1 o p2; exact ⟨o2,p3.trans p1,p4⟩
/-- a safe rule, without indices -/
theorem safe_iff (head:Lg) (body:List Lg):Safe head body ↔ (∃ l:List Lg,l.Perm body∧Takes [] l)∧∀ v∈lvars head,∃ x∈body,bindsF x=true∧v∈lvars x:=by
 unfold Safe; constructor
 ·rintro ⟨⟨o,ho,hw⟩,hh⟩
  refine ⟨⟨o.map (litAt body),?_,good_takes ho⟩,hh⟩; have:=(nodup_perm_range ho.1 ho.2.1 hw).map (litAt body); rw [lits_range] at this; exact this
 ·rintro ⟨⟨l,hp,ht⟩,hh⟩
  refine ⟨?_,hh⟩; obtain ⟨o,h1,h2⟩:=perm_map_inv (litAt body) hp (List.range body.length) (lits_range body).symm; refine ⟨o,takes_good (h1.nodup_iff.2 List.nodup_range) (fun i hi=>List.mem_range.1 (h1.mem_iff.1 hi)) (h2 ▸ ht),?_⟩; have:=h1.length_eq; simpa using this
theorem safe_perm {head:Lg} {body body2:List Lg} (hp:body.Perm body2):Safe head body ↔ Safe head body2:=by
 rw [safe_iff,safe_iff]; constructor
 ·rintro ⟨⟨l,h1,h2⟩,h3⟩
  exact ⟨⟨l,h1.trans hp,h2⟩,fun v hv=>by obtain ⟨x,hx,h⟩:=h3 v hv; exact ⟨x,hp.mem_iff.1 hx,h⟩⟩
 ·rintro ⟨⟨l,h1,h2⟩,h3⟩
  exact ⟨⟨l,h1.trans hp.symm,h2⟩,fun v hv=>by obtain ⟨x,hx,h⟩:=h3 v hv; exact ⟨x,hp.mem_iff.2 hx,h⟩⟩
/-- one atom more that is not negated -/
theorem safe_more {head:Lg} {body:List Lg} {x:Lg} (h:Safe head body) (h0:x.op=0) (h1:x.nt=false):Safe head (body++[x]):=by
 rw [safe_iff] at h ⊢; obtain ⟨⟨l,hp,ht⟩,hh⟩:=h; refine ⟨⟨l++[x],hp.append_right [x],takes_app.2 ⟨ht,?_,trivial⟩⟩,fun v hv=>?_⟩
 ·unfold readyF
  rw [if_pos h0,h1]; rfl
 ·obtain ⟨y,hy,h⟩:=hh v hv
  exact ⟨y,by simp [hy],h⟩
/-- a literal that binds nothing new when it is taken -/
def idleF (x:Lg):Bool:=!(decide (x.op=0) && !x.nt) && !decide (x.op=1) && !decide (x.op=5)
theorem idle_open {x:Lg} {n:Nat} (h:idleF x=true) (hr:readyF x n=true):bindsF x=false∨n=0:=by
 unfold idleF at h; unfold readyF at hr; simp only [Bool.and_eq_true,Bool.not_eq_true',Bool.and_eq_false_iff,decide_eq_false_iff_not,Bool.not_eq_false'] at h; obtain ⟨⟨h1,h2⟩,h3⟩:=h; by_cases h0:x.op=0
 ·left
  rcases h1 with h1 | h1
  ·exact absurd h0 h1
  ·unfold bindsF; rw [decide_eq_true h0,h1]; rfl
 ·right
  rw [if_neg h0,if_neg h2] at hr; by_cases h4:x.op=2∨x.op=3∨x.op=4
  ·rw [if_pos h4] at hr
   simp only [Bool.and_eq_true,decide_eq_true_eq] at hr; exact hr.2
  ·rw [if_neg h4,if_neg h3] at hr; cases hr
theorem open_zero {bd:List Nm} {x:Lg} (h:openN bd x=0):∀ v∈lvars x,v∈bd:=by
 intro v hv; unfold openN at h; rw [List.length_eq_zero_iff,List.filter_eq_nil_iff] at h; have:=h v hv; simpa using this
theorem safe_less {head:Lg} {a b:List Lg} {x:Lg} (h:Safe head (a++x::b)) (hx:idleF x=true):Safe head (a++b):=by
 rw [safe_iff] at h ⊢; obtain ⟨⟨l,hp,ht⟩,hh⟩:=h; have hm:x∈l:=hp.mem_iff.2 (by simp); obtain ⟨s,t,rfl⟩:=List.append_of_mem hm; rw [takes_app] at ht; obtain ⟨h1,h2,h3⟩:=ht
 have hp2:(s++t).Perm (a++b):=by
  have p1:(s++x::t).Perm (x::(s++t)):=List.perm_middle; have p2:(a++x::b).Perm (x::(a++b)):=List.perm_middle; exact ((p1.symm.trans hp).trans p2).cons_inv
 have hsame:∀ v∈bindV (afterT [] s) x,v∈afterT [] s:=fun v hv=>by
  rw [bindV_mem] at hv; rcases hv with hv | ⟨hb,hv⟩
  ·exact hv
  ·rcases idle_open hx h2 with h | h
   ·rw [hb] at h; cases h
   ·exact open_zero h v hv
 refine ⟨⟨s++t,hp2,takes_app.2 ⟨h1,takes_mono hsame h3⟩⟩,fun v hv=>?_⟩
 -- what x binds was bound ahead
 have hmem:∀ (l:List Lg) (bd:List Nm) (w:Nm),w∈afterT bd l ↔ w∈bd∨∃ y∈l,bindsF y=true∧w∈lvars y:=by
  intro l
  induction l with
  | nil=>intro bd w; simp [afterT]
  | cons y l ih =>
   intro bd w; show w∈afterT (bindV bd y) l ↔ _; rw [ih,bindV_mem]; simp only [List.mem_cons]; constructor
   ·rintro ((h | h) | ⟨z,h,h'⟩)
    ·exact Or.inl h
    ·exact Or.inr ⟨y,Or.inl rfl,h⟩
    ·exact Or.inr ⟨z,Or.inr h,h'⟩
   ·rintro (h | ⟨z,rfl | h,h'⟩)
    ·exact Or.inl (Or.inl h)
    ·exact Or.inl (Or.inr h')
    ·exact Or.inr ⟨z,h,h'⟩
 obtain ⟨y,hy,hb⟩:=hh v hv; have hy2:y∈s++x::t:=hp.mem_iff.2 hy
 have hyl:y=x∨y∈s++t:=by
  rcases List.mem_append.1 hy2 with h | h
  ·exact Or.inr (List.mem_append.2 (Or.inl h))
  ·rcases List.mem_cons.1 h with h | h
   ·exact Or.inl h
   ·exact Or.inr (List.mem_append.2 (Or.inr h))
 rcases hyl with rfl | hyl
 ·have h5:=hsame v (bindV_mem.2 (Or.inr hb))
  rw [hmem] at h5; rcases h5 with h5 | ⟨z,hz,h5⟩
  ·cases h5
  ·exact ⟨z,hp2.mem_iff.1 (List.mem_append.2 (Or.inl hz)),h5⟩
 ·exact ⟨y,hp2.mem_iff.1 hyl,hb⟩
end Go.Proofs.YtffdpoifdahadaaGreatDoor
set_option linter.unusedSimpArgs false
namespace Go.Proofs.YtffdpoifdahadaaGreatDoor
/-- the number of arguments of a derived relation: that of the last rule -/
def arOf (rs:List Rg) (rel:Nm):Option Nat:=(rs.reverse.find? fun r=>decide (r.head.rel=rel)).map fun r=>r.head.args.length
def headBad (ar:Nm→Nat) (done:List Rg) (r:Rg):Bool:=(match arOf done r.head.rel with | some n=>!decide (n=r.head.args.length) | none=>false) || decide (0 < ar r.head.rel)
def namedG (ar:Nm→Nat):List Rg→List Rg→Bool
 | _,[]=>true
 | done,r::rs=>if headBad ar done r=true then false else namedG ar (done++[r]) rs
def rightL (ar:Nm→Nat) (rs:List Rg) (x:Lg):Bool :=
 if x.op≠0 then true
 else if 0 < ar x.rel then decide (x.args.length=ar x.rel)
 else decide (arOf rs x.rel=some x.args.length)
def namedF (ar:Nm→Nat) (q:Qg):Bool:=namedG ar [] q.rules && (q.rules.all fun r=>r.body.all (rightL ar q.rules)) && rightL ar q.rules q.goal
def checkF (ar:Nm→Nat) (q:Qg) (right:Bool):Int × List (List Nat) :=
 if right=false then (1,[])
 else if namedF ar q=false then (8,[])
 else if (q.rules.all fun r=>(orderF r.head r.body).isSome)=false then (18,[])
 else match levelsF q.rules with
  | none=>(19,[])
  | some lv=>(0,strataF q.rules lv)
/-- heads agree -/
def AgreeH (ar:Nm→Nat) (rs:List Rg):Prop:=(∀ r∈rs,ar r.head.rel=0)∧∀ r∈rs,∀ s∈rs,r.head.rel=s.head.rel→r.head.args.length=s.head.args.length
theorem agree_nil (ar:Nm→Nat):AgreeH ar []:=⟨(by intro _ h; cases h),(by intro _ h; cases h)⟩
theorem arOf_some {rs:List Rg} {rel:Nm} {n:Nat} (h:arOf rs rel=some n):∃ r∈rs,r.head.rel=rel∧r.head.args.length=n:=by
 unfold arOf at h; rw [Option.map_eq_some_iff] at h; obtain ⟨r,h1,h2⟩:=h; exact ⟨r,List.mem_reverse.1 (List.mem_of_find?_eq_some h1),by simpa using List.find?_some h1,h2⟩
theorem arOf_none {rs:List Rg} {rel:Nm} (h:arOf rs rel=none):∀ r∈rs,r.head.rel≠rel:=by
 unfold arOf at h; rw [Option.map_eq_none_iff,List.find?_eq_none] at h; intro r hr; have:=h r (List.mem_reverse.2 hr); simpa using this
theorem arOf_mem {rs:List Rg} {ar:Nm→Nat} (h:AgreeH ar rs) {r:Rg} (hr:r∈rs):arOf rs r.head.rel=some r.head.args.length:=by
 cases e:arOf rs r.head.rel with
 | none=>exact absurd rfl (arOf_none e r hr)
 | some n =>
  obtain ⟨s,h1,h2,h3⟩:=arOf_some e; rw [← h3,h.2 s h1 r hr h2]
theorem namedG_iff {ar:Nm→Nat}:∀ (rs done:List Rg),AgreeH ar done→(namedG ar done rs=true ↔ AgreeH ar (done++rs))
 | [],done,hd=>by simp [namedG,hd]
 | r::rs,done,hd=>by
  unfold namedG
  have key:headBad ar done r=false ↔ AgreeH ar (done++[r]):=by
   unfold headBad; rw [Bool.or_eq_false_iff]; constructor
   ·rintro ⟨h1,h2⟩
    have h2:ar r.head.rel=0:=by rw [decide_eq_false_iff_not] at h2; omega
    have h3:∀ s∈done,s.head.rel=r.head.rel→s.head.args.length=r.head.args.length:=fun s hs e=>by
     have:=arOf_mem hd hs; rw [e] at this; rw [this] at h1; simpa using h1
    refine ⟨fun s hs=>?_,fun s hs t ht e=>?_⟩
    ·rcases List.mem_append.1 hs with hs | hs
     ·exact hd.1 s hs
     ·rw [List.mem_singleton.1 hs]; exact h2
    ·rcases List.mem_append.1 hs with hs | hs <;> rcases List.mem_append.1 ht with ht | ht
     ·exact hd.2 s hs t ht e
     ·rw [List.mem_singleton.1 ht] at e ⊢; exact h3 s hs e
     ·rw [List.mem_singleton.1 hs] at e ⊢; exact (h3 t ht e.symm).symm
     ·rw [List.mem_singleton.1 hs,List.mem_singleton.1 ht]
   ·intro h
    refine ⟨?_,by rw [h.1 r (by simp)]; rfl⟩
    cases e:arOf done r.head.rel with
    | none=>rfl
    | some n =>
     obtain ⟨s,h1,h2,h3⟩:=arOf_some e; have:=h.2 s (by simp [h1]) r (by simp) h2; show (!decide (n=r.head.args.length))=false; rw [← h3,this]; simp
  cases e:headBad ar done r with
  | true =>
   rw [if_pos rfl]; constructor
   ·intro h; cases h
   ·intro h
    have:headBad ar done r=false:=key.2 ⟨fun s hs=>h.1 s (by rcases List.mem_append.1 hs with hs | hs <;> simp_all),fun s hs t ht=>h.2 s (by rcases List.mem_append.1 hs with hs | hs <;> simp_all) t (by rcases List.mem_append.1 ht with hs | hs <;> simp_all)⟩; rw [e] at this; cases this
  | false =>
   rw [if_neg (by simp),namedG_iff rs (done++[r]) (key.1 e),List.append_assoc]; rfl
theorem named_iff {ar:Nm→Nat} {q:Qg}:namedF ar q=true ↔ AgreeH ar q.rules∧(∀ r∈q.rules,∀ x∈r.body,rightL ar q.rules x=true)∧rightL ar q.rules q.goal=true:=by
 unfold namedF; rw [Bool.and_eq_true,Bool.and_eq_true,namedG_iff _ _ (agree_nil ar),List.nil_append]; simp only [List.all_eq_true]; exact ⟨fun h=>⟨h.1.1,h.1.2,h.2⟩,fun h=>⟨⟨h.1,h.2.1⟩,h.2.2⟩⟩
/-- the same rules in another order, the literals of each in another order -/
structure Sub (rs ts:List Rg):Prop where
 of:∀ r∈rs,∃ t∈ts,t.head=r.head∧t.agg=r.agg∧t.body.Perm r.body
def Turned (rs ts:List Rg):Prop:=Sub rs ts∧Sub ts rs
theorem Sub.heads {rs ts:List Rg} (h:Sub rs ts) {m:Nm} (hm:m∈headsF rs):m∈headsF ts:=by
 obtain ⟨r,hr,rfl⟩:=List.mem_map.1 hm; obtain ⟨t,ht,e,_⟩:=h.of r hr; exact List.mem_map.2 ⟨t,ht,by rw [e]⟩
theorem Sub.agree {ar:Nm→Nat} {rs ts:List Rg} (h:Sub rs ts) (ha:AgreeH ar ts):AgreeH ar rs:=by
 refine ⟨fun r hr=>?_,fun r hr s hs e=>?_⟩
 ·obtain ⟨t,ht,e,_⟩:=h.of r hr
  rw [← e]; exact ha.1 t ht
 ·obtain ⟨t,ht,e1,_⟩:=h.of r hr
  obtain ⟨u,hu,e2,_⟩:=h.of s hs; rw [← e1,← e2] at e ⊢; exact ha.2 t ht u hu e
theorem Sub.ar {ar:Nm→Nat} {rs ts:List Rg} (h:Sub rs ts) (ha:AgreeH ar ts) {m:Nm} {n:Nat} (he:arOf rs m=some n):arOf ts m=some n:=by
 obtain ⟨r,hr,e1,e2⟩:=arOf_some he; obtain ⟨t,ht,e,_⟩:=h.of r hr; have:=arOf_mem ha ht; rw [e,e1,e2] at this; exact this
theorem Sub.right {ar:Nm→Nat} {rs ts:List Rg} (h:Sub rs ts) (ha:AgreeH ar ts) {x:Lg} (hx:rightL ar rs x=true):rightL ar ts x=true:=by
 unfold rightL at hx ⊢; split at hx
 ·rename_i h0; rw [if_pos h0]
 ·rename_i h0
  rw [if_neg h0]; split at hx
  ·rename_i h1; rw [if_pos h1]; exact hx
  ·rename_i h1; rw [if_neg h1]
   rw [decide_eq_true_eq] at hx ⊢; exact h.ar ha hx
theorem Turned.named {ar:Nm→Nat} {rs ts:List Rg} {g:Lg} (h:Turned rs ts) (hn:namedF ar ⟨rs,g⟩=true):namedF ar ⟨ts,g⟩=true:=by
 rw [named_iff] at hn ⊢; obtain ⟨h1,h2,h3⟩:=hn; have ha:AgreeH ar ts:=h.2.agree h1; refine ⟨ha,fun t ht x hx=>?_,h.1.right ha h3⟩; obtain ⟨r,hr,_,_,hp⟩:=h.2.of t ht; exact h.1.right ha (h2 r hr x (hp.mem_iff.2 hx))
theorem Turned.safe {rs ts:List Rg} (h:Turned rs ts) (hs:(rs.all fun r=>(orderF r.head r.body).isSome)=true):(ts.all fun r=>(orderF r.head r.body).isSome)=true:=by
 rw [List.all_eq_true] at hs ⊢; intro t ht; obtain ⟨r,hr,e,_,hp⟩:=h.2.of t ht; have:=hs r hr; rw [order_iff] at this ⊢; rw [← e]; exact (safe_perm hp).1 this
theorem Turned.valid {rs ts:List Rg} (h:Turned rs ts) {nu:Nm→Nat} (hv:ValidN rs nu):ValidN ts nu:=by
 intro t ht x hx hu; obtain ⟨r,hr,e,e2,hp⟩:=h.2.of t ht
 have h1:=hv r hr x (hp.mem_iff.2 hx) (by
  unfold usesF at hu ⊢; simp only [Bool.and_eq_true,decide_eq_true_eq] at hu ⊢
  exact ⟨hu.1,h.2.heads hu.2⟩)
 unfold stepF at h1 ⊢; rw [← e,← e2]; exact h1
theorem Turned.symm {rs ts:List Rg} (h:Turned rs ts):Turned ts rs:=⟨h.2,h.1⟩
/-- both have the same strata -/
theorem Turned.strata {rs ts:List Rg} (h:Turned rs ts) (lv:Nm→Nat):(strataF rs lv).length=(strataF ts lv).length:=by
 have key:∀ {a b:List Rg},Sub a b→(strataF a lv).length≤(strataF b lv).length:=fun {a b} hs=>by
  refine Nat.le_of_not_lt fun hlt=>?_
  obtain ⟨k,hk,hle⟩:=strataG_of _ _ _ hlt; obtain ⟨j,hj,e⟩:=relA_mem.1 (hs.heads (relA_mem.2 ⟨k,hk,rfl⟩)); have:=strataG_lt (fun k=>lv (relA b k)) b.length j hj; have hle:(strataF b lv).length≤lv (relA a k):=hle; have this:lv (relA b j) < (strataF b lv).length:=this; rw [e] at this; omega
 exact Nat.le_antisymm (key h.1) (key h.2)
/-- StrataTurns -/
theorem turns_check {ar:Nm→Nat} {rs ts:List Rg} {g:Lg} (h:Turned rs ts):(checkF ar ⟨rs,g⟩ true).1=(checkF ar ⟨ts,g⟩ true).1∧(checkF ar ⟨rs,g⟩ true).2.length=(checkF ar ⟨ts,g⟩ true).2.length ∧
  ∀ m∈headsF rs,levelA rs (checkF ar ⟨rs,g⟩ true).2 m=levelA ts (checkF ar ⟨ts,g⟩ true).2 m:=by
 have en:namedF ar ⟨rs,g⟩=namedF ar ⟨ts,g⟩:=by
  rw [Bool.eq_iff_iff]; exact ⟨h.named,h.symm.named⟩
 have es:(rs.all fun r=>(orderF r.head r.body).isSome)=(ts.all fun r=>(orderF r.head r.body).isSome):=by
  rw [Bool.eq_iff_iff]; exact ⟨h.safe,h.symm.safe⟩
 have ev:∀ nu,ValidN rs nu ↔ ValidN ts nu:=fun nu=>⟨h.valid,h.symm.valid⟩
 have hnil:∀ (a:List Rg) m,levelA a [] m = -1:=fun _ _=>rfl
 unfold checkF; simp only [Bool.true_eq_false,↓reduceIte,en,es]; by_cases h1:namedF ar ⟨ts,g⟩=false
 ·rw [if_pos h1,if_pos h1]; exact ⟨rfl,rfl,fun m _=>rfl⟩
 ·rw [if_neg h1,if_neg h1]
  by_cases h2:(ts.all fun r=>(orderF r.head r.body).isSome)=false
  ·rw [if_pos h2,if_pos h2]; exact ⟨rfl,rfl,fun m _=>rfl⟩
  ·rw [if_neg h2,if_neg h2]
   cases e1:levelsF rs with
   | none =>
    have:levelsF ts=none:=by
     cases e2:levelsF ts with
     | none=>rfl
     | some lv =>
      have:=(levels_iff rs).2 ⟨lv,(ev lv).2 (levels_some e2).1⟩; rw [e1] at this; cases this
    simp only [this]; exact ⟨trivial,trivial,fun m _=>rfl⟩
   | some lv =>
    cases e2:levelsF ts with
    | none =>
     have:=(levels_iff ts).2 ⟨lv,(ev lv).1 (levels_some e1).1⟩; rw [e2] at this; cases this
    | some lv2 =>
     have:lv=lv2:=funext (levels_same e1 e2 ev); subst this; simp only; refine ⟨trivial,h.strata lv,fun m hm=>?_⟩; rw [level_of hm,level_of (h.1.heads hm)]
end Go.Proofs.YtffdpoifdahadaaGreatDoor
set_option linter.unusedSimpArgs false
namespace Go.Proofs.YtffdpoifdahadaaGreatDoor
def rotA {α:Type} (d:α) (l:List α) (k:Nat):List α:=(List.range l.length).map fun j=>l.getD ((j+k) % l.length) d
theorem rot_len {α:Type} (d:α) (l:List α) (k:Nat):(rotA d l k).length=l.length:=by unfold rotA; rw [List.length_map,List.length_range]
theorem rot_le {n i j k:Nat} (hj:j < n) (h:(i+k) % n=(j+k) % n):j≤i:=by
 have h1:=Nat.sub_mod_eq_zero_of_mod_eq h.symm
 have e:j+k - (i+k)=j - i:=by omega
 rw [e,Nat.mod_eq_of_lt (by omega)] at h1; omega
theorem rot_perm {α:Type} (d:α) (l:List α) (k:Nat):(rotA d l k).Perm l:=by
 have h1:((List.range l.length).map fun j=>(j+k) % l.length).Perm (List.range l.length):=by
  refine nodup_perm_range ?_ (fun i hi=>?_) (by rw [List.length_map,List.length_range])
  ·rw [List.nodup_iff_pairwise_ne,List.pairwise_map]
   refine List.pairwise_lt_range.imp_of_mem fun {i j} hi hj hlt e=>?_
   have:=rot_le (List.mem_range.1 hj) e; omega
  ·obtain ⟨j,hj,rfl⟩:=List.mem_map.1 hi
   have:=List.mem_range.1 hj; exact Nat.mod_lt _ (by omega)
 have h2:=h1.map fun i=>l.getD i d
 have e1:((List.range l.length).map fun j=>(j+k) % l.length).map (fun i=>l.getD i d)=rotA d l k:=by unfold rotA; rw [List.map_map]; rfl
 have e2:(List.range l.length).map (fun i=>l.getD i d)=l:=by
  apply List.ext_getElem?; intro i; rw [List.getElem?_map]; by_cases h:i < l.length
  ·rw [List.getElem?_range h,Option.map_some,List.getD_eq_getElem?_getD,List.getElem?_eq_getElem h]; rfl
  ·rw [List.getElem?_eq_none (by simpa using h),List.getElem?_eq_none (by simpa using h)]; rfl
 rw [e1,e2] at h2; exact h2
def turnR (k:Nat) (r:Rg):Rg:=⟨r.head,r.agg,r.at_,rotA lit0 r.body k⟩
def rg0:Rg:=⟨lit0,0,0,[]⟩
def turnF (rs:List Rg) (n k:Nat):List Rg:=(rotA rg0 rs n).map (turnR k)
theorem turn_turned (rs:List Rg) (n k:Nat):Turned rs (turnF rs n k):=by
 constructor
 ·refine ⟨fun r hr=>⟨turnR k r,List.mem_map.2 ⟨r,(rot_perm rg0 rs n).mem_iff.2 hr,rfl⟩,rfl,rfl,rot_perm _ _ _⟩⟩
 ·refine ⟨fun t ht=>?_⟩
  obtain ⟨r,hr,rfl⟩:=List.mem_map.1 ht; exact ⟨r,(rot_perm rg0 rs n).mem_iff.1 hr,rfl,rfl,(rot_perm _ _ _).symm⟩
theorem check_ok {ar:Nm→Nat} {q:Qg} {b:Bool} (h:(checkF ar q b).1=0):b=true∧namedF ar q=true∧∃ lv,levelsF q.rules=some lv∧(checkF ar q b).2=strataF q.rules lv:=by
 unfold checkF at h ⊢
 cases b with
 | false=>simp at h
 | true =>
  simp only [Bool.true_eq_false,↓reduceIte] at h ⊢
  cases e:namedF ar q with
  | false=>rw [e] at h; simp at h
  | true =>
   rw [e] at h; simp only [Bool.true_eq_false,↓reduceIte] at h ⊢; split at h
   ·simp at h
   ·rename_i hs
    rw [if_neg hs]
    cases e2:levelsF q.rules with
    | none=>rw [e2] at h; simp at h
    | some lv=>exact ⟨trivial,trivial,lv,rfl,rfl⟩
theorem check_bad {ar:Nm→Nat} {q:Qg} {b:Bool} (h:(checkF ar q b).1≠0):(checkF ar q b).2=[]:=by
 unfold checkF at h ⊢; split
 ·rfl
 ·rename_i h1; rw [if_neg h1] at h
  split
  ·rfl
  ·rename_i h2; rw [if_neg h2] at h
   split
   ·rfl
   ·rename_i h3; rw [if_neg h3] at h
    cases e:levelsF q.rules with
    | none=>rfl
    | some lv=>rw [e] at h; exact absurd rfl h
theorem check_rule {ar:Nm→Nat} {q:Qg} {b:Bool} (h:(checkF ar q b).1=19):levelsF q.rules=none:=by
 unfold checkF at h; split at h
 ·exact absurd h (by decide)
 ·split at h
  ·exact absurd h (by decide)
  ·split at h
   ·exact absurd h (by decide)
   ·cases e:levelsF q.rules with
    | none=>rfl
    | some lv=>rw [e] at h; simp at h
/-- Vars: distinct, in the order of the first occurrences -/
def addV (acc:List Nm) (v:Nm):List Nm:=if v∈acc then acc else acc++[v]
def distV (l:List Nm):List Nm:=l.foldl addV []
def varsF (x:Lg):List Nm:=distV (lvars x)
theorem dist_all:∀ (l acc:List Nm),acc.Nodup→(l.foldl addV acc).Nodup∧∀ v,v∈l.foldl addV acc ↔ v∈acc∨v∈l
 | [],acc,h=>⟨h,fun v=>by simp⟩
 | a::l,acc,h=>by
  have h1:(addV acc a).Nodup:=by
   unfold addV; split
   ·exact h
   ·rename_i hn
    rw [List.nodup_append]; exact ⟨h,by simp,fun x hx y hy e=>hn (by rw [← List.mem_singleton.1 hy,← e]; exact hx)⟩
  obtain ⟨h2,h3⟩:=dist_all l (addV acc a) h1; refine ⟨h2,fun v=>?_⟩; rw [List.foldl_cons,h3]
  have:v∈addV acc a ↔ v∈acc∨v=a:=by
   unfold addV; split
   ·rename_i hm; exact ⟨Or.inl,fun h=>h.elim id fun e=>e ▸ hm⟩
   ·rw [List.mem_append,List.mem_singleton]
  rw [this,List.mem_cons,or_assoc]
theorem vars_nodup (x:Lg):(varsF x).Nodup:=(dist_all (lvars x) [] List.nodup_nil).1
theorem vars_mem {x:Lg} {v:Nm}:v∈varsF x ↔ v∈lvars x:=by
 have:=(dist_all (lvars x) [] List.nodup_nil).2 v; unfold varsF distV; rw [this]; simp
/-- the law's function missing -/
def missF (seen:List Nm) (x:Lg):Nat:=((varsF x).filter fun v=>!decide (v∈seen)).length
theorem miss_le {seen bd:List Nm} (h:∀ v∈bd,v∈seen) (x:Lg):missF seen x≤openN bd x:=by
 unfold missF openN
 refine nodup_sub ((vars_nodup x).filter _) fun v hv=>?_
 obtain ⟨h1,h2⟩:=List.mem_filter.1 hv; refine List.mem_filter.2 ⟨vars_mem.1 h1,?_⟩; simp only [Bool.not_eq_true',decide_eq_false_iff_not] at h2 ⊢
 exact fun hb=>h2 (h v hb)
theorem miss_zero {seen:List Nm} {x:Lg} (h:∀ v∈lvars x,v∈seen):missF seen x=0:=by
 unfold missF; rw [List.length_eq_zero_iff,List.filter_eq_nil_iff]; intro v hv; have:=h v (vars_mem.1 hv); simp [this]
/-- what has been seen when the first literals have been taken -/
def seenV (body:List Lg) (l:List Nat):List Nm:=l.foldl (fun s i=>if bindsF (litAt body i)=true then s++varsF (litAt body i) else s) []
theorem seen_mem (body:List Lg):∀ (l:List Nat) (a b:List Nm),(∀ v,v∈a ↔ v∈b)→∀ v,v∈l.foldl (fun s i=>if bindsF (litAt body i)=true then s++varsF (litAt body i) else s) a ↔ v∈l.foldl (fun bd i=>bindV bd (litAt body i)) b
 | [],a,b,h,v=>h v
 | i::l,a,b,h,v=>by
  rw [List.foldl_cons,List.foldl_cons]; refine seen_mem body l _ _ (fun w=>?_) v; rw [bindV_mem]; split
  ·rename_i hb; rw [List.mem_append,vars_mem,h]; simp [hb]
  ·rename_i hb; rw [h]; simp [hb]
theorem seen_bound (body:List Lg) (l:List Nat) (v:Nm):v∈seenV body l ↔ v∈boundBy body l:=seen_mem body l [] [] (fun _=>Iff.rfl) v
/-- StrataOrder: one literal of the order -/
theorem order_lit {body:List Lg} {l a b:List Nat} {i:Nat} (h:GoodO body l) (e:l=a++i::b) :
  ((litAt body i).op=1∨(litAt body i).op=5→missF (seenV body a) (litAt body i)≤1)∧(¬((litAt body i).op=1∨(litAt body i).op=5)→((litAt body i).op≠0∨(litAt body i).nt=true)→missF (seenV body a) (litAt body i)=0):=by
 have hr:=h.2.2 a i b e; have hm:=miss_le (seen:=seenV body a) (bd:=boundBy body a) (fun v hv=>(seen_bound body a v).2 hv) (litAt body i); unfold readyF at hr; constructor
 ·rintro (h1 | h1)
  ·rw [if_neg (by rw [h1]; decide),if_pos h1] at hr
   simp only [Bool.and_eq_true,decide_eq_true_eq] at hr; omega
  ·rw [if_neg (by rw [h1]; decide),if_neg (by rw [h1]; decide),if_neg (by rw [h1]; decide),if_pos h1] at hr
   simp only [Bool.and_eq_true,decide_eq_true_eq] at hr; omega
 ·intro h1 h2
  simp only [not_or] at h1; by_cases h0:(litAt body i).op=0
  ·rw [if_pos h0] at hr
   have hn:=h2.resolve_left (fun h=>h h0); rw [hn] at hr
   have:openN (boundBy body a) (litAt body i)=0:=by simpa using hr
   omega
  ·rw [if_neg h0,if_neg h1.1] at hr
   by_cases h3:(litAt body i).op=2∨(litAt body i).op=3∨(litAt body i).op=4
   ·rw [if_pos h3] at hr
    simp only [Bool.and_eq_true,decide_eq_true_eq] at hr; omega
   ·rw [if_neg h3,if_neg h1.2] at hr; cases hr
/-- StrataOrder: the head -/
theorem order_head {head:Lg} {body:List Lg} {l:List Nat} (h:orderF head body=some l):missF (seenV body l) head=0 :=
 miss_zero fun v hv=>(seen_bound body l v).2 ((order_some h).2.2 v hv)
end Go.Proofs.YtffdpoifdahadaaGreatDoor
