/- AskWb: AskWa, AskWb, in one text. -/
import Derived.Test.YtffdpoifdahadaaGreatDoorAskT
import Derived.Test.YtffdpoifdahadaaGreatDoorAskU
set_option linter.unusedVariables false
namespace Go.Proofs.YtffdpoifdahadaaGreatDoor
open Go.RowKit
open Go.Lib (hid itoa)
/-- a step of the parser: L tokens, at most c new names of a kind; the truth value says whether it went well -/
structure Gr (L c:Nat) (a:PSt) (z:Bool) (b:PSt):Prop where
 nx:a.nx≤b.nx
 vars:b.vars≤a.vars+c
 rels:b.rels≤a.rels+c
 ok:z=true→b.err=a.err
 bad:z=false→∃ i,b.err=some (2,i)
 top:a.nx≤L→b.nx≤L
section
variable {L c d:Nat} {a b e:PSt} {z:Bool}
theorem Gr.trans (h:Gr L c a true b) (k:Gr L d b z e):Gr L (c+d) a z e:=by
 have h1:=h.vars; have h2:=k.vars; have h3:=h.rels; have h4:=k.rels; exact ⟨Nat.le_trans h.nx k.nx,by omega,by omega,fun q=>(k.ok q).trans (h.ok rfl),k.bad,fun q=>k.top (h.top q)⟩
theorem Gr.trans0 (h:Gr L 0 a true b) (k:Gr L d b z e):Gr L d a z e:=by
 have:=h.trans k; rwa [Nat.zero_add] at this
theorem Gr.refl (a:PSt):Gr L 0 a true a:=⟨Nat.le_refl _,Nat.le_refl _,Nat.le_refl _,fun _=>rfl,fun h=>Bool.noConfusion h,fun h=>h⟩
theorem Gr.fail (a:PSt):Gr L 0 a false (failP a):=⟨Nat.le_refl _,Nat.le_refl _,Nat.le_refl _,fun h=>Bool.noConfusion h,fun _=>⟨_,rfl⟩,fun h=>h⟩
theorem Gr.next (h:a.nx < L):Gr L 0 a true (nextP a):=⟨Nat.le_succ _,Nat.le_refl _,Nat.le_refl _,fun _=>rfl,fun h=>Bool.noConfusion h,fun _=>h⟩
theorem Gr.weak (h:Gr L c a z b) (hc:c≤d):Gr L d a z b:=⟨h.nx,Nat.le_trans h.vars (by omega),Nat.le_trans h.rels (by omega),h.ok,h.bad,h.top⟩
end
theorem tok_lt {ts:List Tw} {i:Nat} (h:(tokP ts i).kind≠0):i < ts.length:=by
 rcases Nat.lt_or_ge i ts.length with h1 | h1
 ·exact h1
 ·exact absurd (by unfold tokP; rw [List.getD_eq_getElem?_getD,List.getElem?_eq_none h1]; rfl) h
theorem is_lt {ts:List Tw} {st:PSt} {k:Int} {s:List UInt8} (hk:k≠0) (h:isP ts st k s=true):st.nx < ts.length:=by
 unfold isP at h; rw [Bool.and_eq_true,beq_iff_eq] at h; exact tok_lt (by rw [h.1]; exact hk)
theorem needP_g (ts:List Tw) (st:PSt) (s:List UInt8):Gr ts.length 0 st (needP ts st s).1 (needP ts st s).2:=by
 unfold needP; split
 ·rename_i h; exact Gr.next (is_lt (by decide) h)
 ·exact Gr.fail _
theorem relP_g (ts:List Tw) (st:PSt):Gr ts.length 0 st (relP ts st).1.2 (relP ts st).2:=by
 unfold relP; split
 ·rename_i h; exact (Gr.next (tok_lt (by rw [h.1]; decide))).trans0 (needP_g _ _ _)
 ·exact Gr.fail _
theorem varP_g (ts:List Tw) (st:PSt):Gr ts.length 0 st (varP ts st).1.isSome (varP ts st).2:=by
 unfold varP; split
 ·rename_i h; exact Gr.next (tok_lt (by rw [h.1]; decide))
 ·exact Gr.fail _
theorem termP_g (ts:List Tw) (st:PSt):Gr ts.length 0 st (termP ts st).1.isSome (termP ts st).2:=by
 unfold termP; split
 ·rename_i h; exact Gr.next (tok_lt (by rw [h]; decide))
 ·split
  ·rename_i h; exact Gr.next (tok_lt (by rw [h]; decide))
  ·split
   ·rename_i h
    have h1:=Gr.next (is_lt (by decide) h); split
    ·rename_i h2; exact h1.trans0 (Gr.next (tok_lt (by show (tokP ts (st.nx+1)).kind≠0; rw [h2]; decide)))
    ·exact h1.trans0 (Gr.fail _)
   ·exact varP_g _ _
theorem argP_g (ts:List Tw) (st:PSt):Gr ts.length 0 st (argP ts st).1.isSome (argP ts st).2:=by
 unfold argP; split
 ·rename_i h; exact Gr.next (is_lt (by decide) h)
 ·exact termP_g _ _
theorem argsP_g (ts:List Tw):∀ (f:Nat) (st:PSt) (acc:List Tm),st.nx≤ts.length→ts.length < f+st.nx→Gr ts.length 0 st (argsP ts f st acc).1.isSome (argsP ts f st acc).2∧∀ al,(argsP ts f st acc).1=some al→al.length≤acc.length+f
 | 0,st,_,h1,h2=>by omega
 | f+1,st,acc,h1,h2=>by
  unfold argsP; have h:=argP_g ts st; have hn:=argP_nx ts st; generalize argP ts st=r at *; obtain ⟨o,s⟩:=r
  cases o with
  | none=>exact ⟨h,fun al e=>by cases e⟩
  | some t =>
   show Gr ts.length 0 st (if isP ts s 4 [44]=true then argsP ts f (nextP s) (acc++[t]) else (some (acc++[t]),s)).1.isSome (if isP ts s 4 [44]=true then argsP ts f (nextP s) (acc++[t]) else (some (acc++[t]),s)).2∧∀ al,(if isP ts s 4 [44]=true then argsP ts f (nextP s) (acc++[t]) else (some (acc++[t]),s)).1=some al→_; have hn':st.nx < s.nx:=hn rfl; split
   ·rename_i h3
    have h4:=is_lt (by decide) h3; have h5:(nextP s).nx=s.nx+1:=rfl; obtain ⟨g1,g2⟩:=argsP_g ts f (nextP s) (acc++[t]) (by omega) (by omega); refine ⟨(h.trans0 (Gr.next h4)).trans0 g1,fun al e=>?_⟩; have:=g2 al e; simp at this; omega
   ·exact ⟨h,fun al e=>by cases e; simp⟩
theorem atomP_g (ts:List Tw) (st:PSt) (hst:st.nx≤ts.length):Gr ts.length 0 st (atomP ts st).1.isSome (atomP ts st).2∧∀ l,(atomP ts st).1=some l→l.args.length≤ts.length+1:=by
 unfold atomP; have h:=relP_g ts st; split
 ·rename_i h0
  rw [h0] at h; split
  ·rename_i h1; exact ⟨h.trans0 (Gr.next (is_lt (by decide) h1)),fun l e=>by cases e; exact Nat.zero_le _⟩
  ·have h2:=argsP_g ts (ts.length+1) (relP ts st).2 [] (h.top hst) (by omega)
   generalize argsP ts (ts.length+1) (relP ts st).2 []=r at *; obtain ⟨o,s⟩:=r
   cases o with
   | none=>exact ⟨h.trans0 h2.1,fun l e=>by cases e⟩
   | some al =>
    show Gr ts.length 0 st (if isP ts s 4 [41]=true then (some (⟨0,false,(relP ts st).1.1,al⟩:Lt),nextP s) else (none,failP s)).1.isSome (if isP ts s 4 [41]=true then (some (⟨0,false,(relP ts st).1.1,al⟩:Lt),nextP s) else (none,failP s)).2∧∀ l,(if isP ts s 4 [41]=true then (some (⟨0,false,(relP ts st).1.1,al⟩:Lt),nextP s) else (none,failP s)).1=some l→_; split
    ·rename_i h3; exact ⟨(h.trans0 h2.1).trans0 (Gr.next (is_lt (by decide) h3)),fun l e=>by cases e; have:=h2.2 al rfl; simpa using this⟩
    ·exact ⟨(h.trans0 h2.1).trans0 (Gr.fail _),fun l e=>by cases e⟩
 ·rename_i h0
  rw [Bool.not_eq_true] at h0; rw [h0] at h; exact ⟨h,fun l e=>by cases e⟩
theorem headArgP_g (ts:List Tw) (st:PSt) (x:Hd):Gr ts.length 0 st (headArgP ts st x).1.isSome (headArgP ts st x).2:=by
 unfold headArgP; split
 ·rename_i hc
  have h0:=Gr.next (L:=ts.length) (a:=st) (tok_lt (by rw [hc.1]; decide)); have h:=needP_g ts (nextP st) [40]; split
  ·rename_i h1
   rw [h1] at h; have h2:=varP_g ts (needP ts (nextP st) [40]).2; generalize varP ts (needP ts (nextP st) [40]).2=r at *; obtain ⟨o,s⟩:=r
   cases o with
   | none=>exact (h0.trans0 h).trans0 h2
   | some t =>
    show Gr ts.length 0 st (if (needP ts s [41]).1=true then (some (⟨x.rel,x.args++[t],aggF (tokP ts st.nx).text,x.args.length⟩:Hd),(needP ts s [41]).2) else (none,(needP ts s [41]).2)).1.isSome (if (needP ts s [41]).1=true then (some (⟨x.rel,x.args++[t],aggF (tokP ts st.nx).text,x.args.length⟩:Hd),(needP ts s [41]).2) else (none,(needP ts s [41]).2)).2; have h3:=needP_g ts s [41]; split
    ·rename_i h4; rw [h4] at h3; exact ((h0.trans0 h).trans0 h2).trans0 h3
    ·rename_i h4; rw [Bool.not_eq_true] at h4; rw [h4] at h3; exact ((h0.trans0 h).trans0 h2).trans0 h3
  ·rename_i h1; rw [Bool.not_eq_true] at h1; rw [h1] at h; exact h0.trans0 h
 ·have h:=termP_g ts st
  generalize termP ts st=r at *; obtain ⟨o,s⟩:=r
  cases o with
  | none=>exact h
  | some t=>exact h
theorem headsP_g (ts:List Tw):∀ (f:Nat) (st:PSt) (x:Hd),st.nx≤ts.length→ts.length < f+st.nx→Gr ts.length 0 st (headsP ts f st x).1.isSome (headsP ts f st x).2
 | 0,st,_,h1,h2=>by omega
 | f+1,st,x,h1,h2=>by
  unfold headsP; have h:=headArgP_g ts st x
  have hn:=fun y=>headArgP_nx ts st x y
  generalize headArgP ts st x=r at *; obtain ⟨o,s⟩:=r
  cases o with
  | none=>exact h
  | some t =>
   show Gr ts.length 0 st (if isP ts s 4 [44]=true then headsP ts f (nextP s) t else (some t,s)).1.isSome (if isP ts s 4 [44]=true then headsP ts f (nextP s) t else (some t,s)).2; have hn':st.nx < s.nx:=(hn t rfl).1; split
   ·rename_i h3
    have h4:=is_lt (by decide) h3; have h5:(nextP s).nx=s.nx+1:=rfl; exact (h.trans0 (Gr.next h4)).trans0 (headsP_g ts f (nextP s) t (by omega) (by omega))
   ·exact h
theorem headP_g (ts:List Tw) (st:PSt) (hst:st.nx≤ts.length):Gr ts.length 0 st (headP ts st).1.isSome (headP ts st).2∧((headP ts st).1.isSome=true→st.nx < (headP ts st).2.nx):=by
 unfold headP; have h:=relP_g ts st
 have hlt:(relP ts st).1.2=true→st.nx < (relP ts st).2.nx:=by
  intro h0; unfold relP at h0 ⊢; split at h0
  ·rename_i hc; rw [if_pos hc,needP_nx _ _ _ h0]; show st.nx < st.nx+1+1; omega
  ·cases h0
 split
 ·rename_i h0
  rw [h0] at h; have hlt:=hlt h0; split
  ·rename_i h1; exact ⟨h.trans0 (Gr.next (is_lt (by decide) h1)),fun _=>Nat.lt_succ_of_lt hlt⟩
  ·have h2:=headsP_g ts (ts.length+1) (relP ts st).2 ⟨(relP ts st).1.1,[],0,0⟩ (h.top hst) (by omega)
   generalize headsP ts (ts.length+1) (relP ts st).2 ⟨(relP ts st).1.1,[],0,0⟩=r at *; obtain ⟨o,s⟩:=r
   cases o with
   | none=>exact ⟨h.trans0 h2,fun e=>by cases e⟩
   | some y =>
    show Gr ts.length 0 st (if isP ts s 4 [41]=true then (some y,nextP s) else (none,failP s)).1.isSome (if isP ts s 4 [41]=true then (some y,nextP s) else (none,failP s)).2∧((if isP ts s 4 [41]=true then (some y,nextP s) else (none,failP s)).1.isSome=true→st.nx < (if isP ts s 4 [41]=true then (some y,nextP s) else (none,failP s)).2.nx); have h6:=h2.nx; split
    ·rename_i h3; exact ⟨(h.trans0 h2).trans0 (Gr.next (is_lt (by decide) h3)),fun _=>by show st.nx < s.nx+1; simp only at h6; omega⟩
    ·exact ⟨(h.trans0 h2).trans0 (Gr.fail _),fun e=>by cases e⟩
 ·rename_i h0
  rw [Bool.not_eq_true] at h0; rw [h0] at h; exact ⟨h,fun e=>by cases e⟩
theorem sideP_g (ts:List Tw) (st:PSt):Gr ts.length 0 st (sideP ts st).1.isSome (sideP ts st).2:=by
 have hE:∀ b st,Gr ts.length 0 st (sideE b (termP ts st)).1.isSome (sideE b (termP ts st)).2:=by
  intro b st; have h:=termP_g ts st; generalize termP ts st=r at *; obtain ⟨o,s⟩:=r; cases o <;> exact h
 unfold sideP; split
 ·rename_i h; exact (Gr.next (is_lt (by decide) h)).trans0 (hE _ _)
 ·split
  ·rename_i h; exact (Gr.next (is_lt (by decide) h)).trans0 (hE _ _)
  ·exact Gr.fail _
theorem newVarP_g (ts:List Tw) (st:PSt):Gr ts.length (ts.length+1) st true (newVarP ts st).2:=⟨Nat.le_refl _,(newVarP_vars ts st).1,Nat.le_add_right _ _,fun _=>rfl,fun h=>Bool.noConfusion h,fun h=>h⟩
theorem newRelP_g (ts:List Tw) (st:PSt):Gr ts.length (ts.length+1) st true (newRelP ts st).2:=⟨Nat.le_refl _,Nat.le_add_right _ _,(newRelP_rels ts st).1,fun _=>rfl,fun h=>Bool.noConfusion h,fun h=>h⟩
theorem addE_g (ts:List Tw) (m:Bool) (a b:Tm) (st:PSt):Gr ts.length 0 st (addE m a b (termP ts st)).1.isSome (addE m a b (termP ts st)).2∧∀ l,(addE m a b (termP ts st)).1=some l→l.args.length≤3:=by
 have h:=termP_g ts st; generalize termP ts st=r at *; obtain ⟨o,s⟩:=r
 cases o with
 | none=>exact ⟨h,fun l e=>by cases e⟩
 | some c=>exact ⟨h,fun l e=>by cases e; cases m <;> exact Nat.le_refl _⟩
theorem cmpE_g (ts:List Tw) (op:Int) (sw:Bool) (a:Tm) (st:PSt):Gr ts.length 0 st (cmpE ts op sw a (termP ts st)).1.isSome (cmpE ts op sw a (termP ts st)).2∧∀ l,(cmpE ts op sw a (termP ts st)).1=some l→l.args.length≤3:=by
 have h:=termP_g ts st; generalize termP ts st=r at *; obtain ⟨o,s⟩:=r
 cases o with
 | none=>exact ⟨h,fun l e=>by cases e⟩
 | some b =>
  unfold cmpE; simp only; split
  ·rename_i hc
   have g:=addE_g ts false a b (nextP s); exact ⟨(h.trans0 (Gr.next (is_lt (by decide) hc.2))).trans0 g.1,g.2⟩
  ·split
   ·rename_i hc
    have g:=addE_g ts true a b (nextP s); exact ⟨(h.trans0 (Gr.next (is_lt (by decide) hc.2))).trans0 g.1,g.2⟩
   ·refine ⟨h,fun l e=>?_⟩
    simp only [Option.some.injEq] at e; subst e; cases sw <;> exact (by decide:2≤3)
theorem comparisonP_g (ts:List Tw) (st:PSt):Gr ts.length 0 st (comparisonP ts st).1.isSome (comparisonP ts st).2∧∀ l,(comparisonP ts st).1=some l→l.args.length≤3:=by
 unfold comparisonP; have h:=termP_g ts st; generalize termP ts st=r at *; obtain ⟨o,s⟩:=r
 cases o with
 | none=>exact ⟨h,fun l e=>by cases e⟩
 | some a =>
  simp only; split
  ·rename_i hk
   have h1:=Gr.next (L:=ts.length) (a:=s) (tok_lt (by rw [hk]; decide)); split
   ·exact ⟨h.trans0 (Gr.fail _),fun l e=>by cases e⟩
   ·rename_i op sw _
    have g:=cmpE_g ts op sw a (nextP s); exact ⟨(h.trans0 h1).trans0 g.1,g.2⟩
  ·exact ⟨h.trans0 (Gr.fail _),fun l e=>by cases e⟩
theorem comparisonP_lt (ts:List Tw) (st:PSt) (h:(comparisonP ts st).1.isSome=true):st.nx < (comparisonP ts st).2.nx:=by
 unfold comparisonP at h ⊢; have h1:=termP_nx ts st; generalize termP ts st=r at *; obtain ⟨o,s⟩:=r
 cases o with
 | none=>cases h
 | some a =>
  have h2:st.nx < s.nx:=h1 rfl; simp only at h ⊢; split
  ·rename_i hk
   rw [if_pos hk] at h; split
   ·rename_i ho; rw [ho] at h; cases h
   ·rename_i op sw ho
    have h3:=(cmpE_g ts op sw a (nextP s)).1.nx; have:(nextP s).nx=s.nx+1:=rfl; omega
  ·rename_i hk; rw [if_neg hk] at h; cases h
/-- what a literal may be: short arguments -/
def LOk (L:Nat) (q:List Lt × List Ru):Prop:=(∀ x∈q.1,x.args.length≤L+3)∧∀ r∈q.2,r.body.length≤5∧∀ x∈r.body,x.args.length≤L+3
theorem dvars_len:∀ (seen:List (List UInt8)) (l:List Tm),(dvars seen l).length≤l.length
 | _,[]=>Nat.le_refl _
 | seen,t::l=>by
  unfold dvars; split
  ·have:=dvars_len seen l; simp; omega
  ·have:=dvars_len (t.var::seen) l; simp; omega
theorem with_len (rel:List UInt8) (l:Lt) (ts:List Tm):(withF rel l ts).args.length≤ts.length+l.args.length:=by
 show (ts++dvars [[],[95]] l.args).length≤_; have:=dvars_len [[],[95]] l.args; rw [List.length_append]; omega
theorem neverF_ok {L:Nat} (y x:Tm) (rel:List UInt8) (l:Lt) (b:Bool) (a:Tm) (h:l.args.length≤L+1):LOk L (neverF y x rel l b a):=by
 have h1:=with_len rel l [a]; simp only [List.length_cons,List.length_nil] at h1; refine ⟨fun q hq=>?_,fun r hr=>?_⟩
 ·simp [neverF] at hq; subst hq; show (withF rel l [a]).args.length≤_; omega
 ·simp [neverF] at hr; subst hr
  refine ⟨by show 3≤5; decide,fun q hq=>?_⟩; simp at hq; rcases hq with rfl | rfl | rfl
  ·show 2≤L+3; omega
  ·show l.args.length+1≤L+3; omega
  ·cases b <;> (show 2≤L+3; omega)
theorem sinceF_ok {L:Nat} (x y z w:Tm) (rel:List UInt8) (l m:Lt) (a:Tm) (h:l.args.length≤L+1) (h2:m.args.length≤L+1):LOk L (sinceF x y z w rel l m a):=by
 have h1:=with_len rel m [x,a]; simp only [List.length_cons,List.length_nil] at h1; refine ⟨fun q hq=>?_,fun r hr=>?_⟩
 ·simp [sinceF] at hq
  rcases hq with rfl | rfl | rfl
  ·show l.args.length+1≤L+3; omega
  ·show 2≤L+3; omega
  ·show (withF rel m [x,a]).args.length≤_; omega
 ·simp [sinceF] at hr; subst hr
  refine ⟨by show 5≤5; decide,fun q hq=>?_⟩; simp at hq; rcases hq with rfl | rfl | rfl | rfl | rfl
  ·show m.args.length+1≤L+3; omega
  all_goals (show 2≤L+3; omega)
theorem atomP_lt (ts:List Tw) (st:PSt) (h:(atomP ts st).1.isSome=true):st.nx < (atomP ts st).2.nx:=by
 unfold atomP at h ⊢; by_cases h0:(relP ts st).1.2=true
 ·rw [if_pos h0] at h ⊢
  have hr:st.nx < (relP ts st).2.nx:=by
   unfold relP at h0 ⊢; split at h0
   ·rename_i hc; rw [if_pos hc,needP_nx _ _ _ h0]; show st.nx < st.nx+1+1; omega
   ·cases h0
  by_cases h1:isP ts (relP ts st).2 4 [41]=true
  ·rw [if_pos h1]; exact Nat.lt_succ_of_lt hr
  ·rw [if_neg h1] at h ⊢
   have h2:=argsP_keep ts (ts.length+1) (relP ts st).2 []; generalize argsP ts (ts.length+1) (relP ts st).2 []=r at *; obtain ⟨o,s⟩:=r
   cases o with
   | none=>cases h
   | some al =>
    have h3:=h2.nx; simp only at h3 h ⊢; split
    ·show st.nx < s.nx+1; omega
    ·show st.nx < s.nx; omega
 ·rw [if_neg h0] at h; cases h
theorem onceP_g (ts:List Tw) (st:PSt) (hst:st.nx≤ts.length):Gr ts.length (ts.length+1) st (onceP ts st).1.isSome (onceP ts st).2∧∀ q,(onceP ts st).1=some q→LOk ts.length (q,[]):=by
 unfold onceP; have h:=atomP_g ts st hst; generalize atomP ts st=r at *; obtain ⟨o,s⟩:=r
 cases o with
 | none=>exact ⟨h.1.weak (by omega),fun q e=>by cases e⟩
 | some l =>
  have hl:=h.2 l rfl; have h2:=sideP_g ts s; simp only; generalize sideP ts s=r at *; obtain ⟨o,s2⟩:=r
  cases o with
  | none=>exact ⟨(h.1.trans0 h2).weak (by omega),fun q e=>by cases e⟩
  | some x =>
   obtain ⟨b,a⟩:=x; refine ⟨(h.1.trans0 h2).trans0 (newVarP_g ts s2),fun q e=>?_⟩; cases e; refine ⟨fun q hq=>?_,fun r hr=>by cases hr⟩; simp at hq; rcases hq with rfl | rfl
   ·show l.args.length+1≤_; omega
   ·cases b <;> (show 2≤_; omega)
theorem neverP_g (ts:List Tw) (st:PSt) (hst:st.nx≤ts.length):Gr ts.length (4 * (ts.length+1)) st (neverP ts st).1.isSome (neverP ts st).2∧∀ q,(neverP ts st).1=some q→LOk ts.length q:=by
 unfold neverP; have h:=atomP_g ts st hst; generalize atomP ts st=r at *; obtain ⟨o,s⟩:=r
 cases o with
 | none=>exact ⟨h.1.weak (by omega),fun q e=>by cases e⟩
 | some l =>
  have hl:=h.2 l rfl; have h2:=sideP_g ts s; simp only; generalize sideP ts s=r at *; obtain ⟨o,s2⟩:=r
  cases o with
  | none=>exact ⟨(h.1.trans0 h2).weak (by omega),fun q e=>by cases e⟩
  | some x =>
   obtain ⟨b,a⟩:=x; have g1:=newVarP_g ts s2; have g2:=newVarP_g ts (newVarP ts s2).2; have g3:=newRelP_g ts (newVarP ts (newVarP ts s2).2).2; refine ⟨((h.1.trans0 h2).trans0 ((g1.trans g2).trans g3)).weak (by omega),fun q e=>?_⟩; cases e; exact neverF_ok _ _ _ _ _ _ hl
theorem sinceP_g (ts:List Tw) (st:PSt) (hst:st.nx≤ts.length):Gr ts.length (4 * (ts.length+1)) st (sinceP ts st).1.isSome (sinceP ts st).2∧∀ q,(sinceP ts st).1=some q→LOk ts.length q:=by
 unfold sinceP; have h:=atomP_g ts st hst; generalize atomP ts st=r at *; obtain ⟨o,s⟩:=r
 cases o with
 | none=>exact ⟨h.1.weak (by omega),fun q e=>by cases e⟩
 | some l =>
  have hl:=h.2 l rfl; simp only; split
  ·rename_i hz
   have h1:=h.1.trans0 (Gr.next (is_lt (by decide) hz)); have h2:=atomP_g ts (nextP s) (h1.top hst); generalize atomP ts (nextP s)=r at *; obtain ⟨o,s2⟩:=r
   cases o with
   | none=>exact ⟨(h1.trans0 h2.1).weak (by omega),fun q e=>by cases e⟩
   | some m =>
    have hm:=h2.2 m rfl; unfold sinceM; simp only; split
    ·rename_i hz2
     have h3:=(h1.trans0 h2.1).trans0 (Gr.next (is_lt (by decide) hz2)); have h4:=termP_g ts (nextP s2); generalize termP ts (nextP s2)=r at *; obtain ⟨o,s3⟩:=r
     cases o with
     | none=>exact ⟨(h3.trans0 h4).weak (by omega),fun q e=>by cases e⟩
     | some a =>
      have g1:=newVarP_g ts s3; have g2:=newVarP_g ts (newVarP ts s3).2; have g3:=newVarP_g ts (newVarP ts (newVarP ts s3).2).2; have g4:=newVarP_g ts (newVarP ts (newVarP ts (newVarP ts s3).2).2).2; have g5:=newRelP_g ts (newVarP ts (newVarP ts (newVarP ts (newVarP ts s3).2).2).2).2; have g5':Gr ts.length 0 (newVarP ts (newVarP ts (newVarP ts (newVarP ts s3).2).2).2).2 true (newVarP ts (newVarP ts (newVarP ts (newVarP ts s3).2).2).2).2:=Gr.refl _; have gv:=((g1.trans g2).trans g3).trans g4; refine ⟨(h3.trans0 h4).trans0 ⟨Nat.le_refl _,?_,?_,fun _=>rfl,fun h=>Bool.noConfusion h,fun h=>h⟩,fun q e=>?_⟩
      ·show (newVarP ts (newVarP ts (newVarP ts (newVarP ts s3).2).2).2).2.vars≤s3.vars+4 * (ts.length+1)
       have:=gv.vars; omega
      ·show (newRelP ts (newVarP ts (newVarP ts (newVarP ts (newVarP ts s3).2).2).2).2).2.rels≤s3.rels+_
       have:=(newRelP_rels ts (newVarP ts (newVarP ts (newVarP ts (newVarP ts s3).2).2).2).2).1; have e:(newVarP ts (newVarP ts (newVarP ts (newVarP ts s3).2).2).2).2.rels=s3.rels:=rfl; omega
      ·cases e
       exact sinceF_ok _ _ _ _ _ _ _ _ hl hm
    ·exact ⟨((h1.trans0 h2.1).trans0 (Gr.fail _)).weak (by omega),fun q e=>by cases e⟩
  ·exact ⟨(h.1.trans0 (Gr.fail _)).weak (by omega),fun q e=>by cases e⟩
theorem literalP_g (ts:List Tw) (st:PSt) (hst:st.nx≤ts.length):Gr ts.length (4 * (ts.length+1)) st (literalP ts st).1.isSome (literalP ts st).2∧∀ q,(literalP ts st).1=some q→LOk ts.length q:=by
 have hE:∀ (f:Lt→Lt) (r:Option Lt × PSt) (hf:∀ l,(f l).args=l.args) (h:Gr ts.length 0 st r.1.isSome r.2) (ha:∀ l,r.1=some l→l.args.length≤ts.length+3),Gr ts.length (4 * (ts.length+1)) st (litE f r).1.isSome (litE f r).2∧∀ q,(litE f r).1=some q→LOk ts.length q:=by
  intro f r hf h ha; obtain ⟨o,s⟩:=r
  cases o with
  | none=>exact ⟨h.weak (by omega),fun q e=>by cases e⟩
  | some l =>
   refine ⟨h.weak (by omega),fun q e=>?_⟩; cases e; exact ⟨fun x hx=>by simp at hx; subst hx; rw [hf]; exact ha l rfl,fun r hr=>by cases hr⟩
 unfold literalP; split
 ·rename_i h
  have h0:=Gr.next (L:=ts.length) (a:=st) (is_lt (by decide) h); have g:=atomP_g ts (nextP st) (h0.top hst)
  exact hE neg _ (fun _=>rfl) (h0.trans0 g.1) fun l e=>by have:=g.2 l e; omega
 ·split
  ·rename_i h
   have h0:=Gr.next (L:=ts.length) (a:=st) (is_lt (by decide) h); have g:=onceP_g ts (nextP st) (h0.top hst); generalize onceP ts (nextP st)=r at *; obtain ⟨o,s⟩:=r
   cases o with
   | none=>exact ⟨(h0.trans0 g.1).weak (by omega),fun q e=>by cases e⟩
   | some q=>exact ⟨(h0.trans0 g.1).weak (by omega),fun q2 e=>by cases e; exact g.2 q rfl⟩
  ·split
   ·rename_i h
    have h0:=Gr.next (L:=ts.length) (a:=st) (is_lt (by decide) h); have g:=neverP_g ts (nextP st) (h0.top hst); exact ⟨h0.trans0 g.1,g.2⟩
   ·split
    ·rename_i h
     have h0:=Gr.next (L:=ts.length) (a:=st) (is_lt (by decide) h); have g:=sinceP_g ts (nextP st) (h0.top hst); exact ⟨h0.trans0 g.1,g.2⟩
    ·split
     ·have g:=atomP_g ts st hst
      exact hE id _ (fun _=>rfl) g.1 fun l e=>by have:=g.2 l e; omega
     ·have g:=comparisonP_g ts st
      exact hE id _ (fun _=>rfl) g.1 fun l e=>by have:=g.2 l e; omega
theorem litE_lt {f:Lt→Lt} {r:Option Lt × PSt} {n:Nat} (h:r.1.isSome=true→n < r.2.nx):(litE f r).1.isSome=true→n < (litE f r).2.nx:=by
 obtain ⟨o,s⟩:=r
 cases o with
 | none=>intro e; cases e
 | some l=>intro _; exact h rfl
theorem literalP_lt (ts:List Tw) (st:PSt) (hst:st.nx≤ts.length) (h:(literalP ts st).1.isSome=true):st.nx < (literalP ts st).2.nx:=by
 unfold literalP at h ⊢
 have hn:∀ k s,k≠0→isP ts st k s=true→(nextP st).nx≤ts.length:=fun k s hk hz=>is_lt hk hz
 split
 ·rename_i hz; rw [if_pos hz] at h
  exact litE_lt (fun h=>Nat.lt_trans (Nat.lt_succ_self _) (atomP_lt ts (nextP st) h)) h
 ·rename_i h1; rw [if_neg h1] at h
  split
  ·rename_i hz
   have g:=(onceP_g ts (nextP st) (hn _ _ (by decide) hz)).1.nx; exact Nat.lt_of_lt_of_le (Nat.lt_succ_self _) g
  ·rename_i h2; rw [if_neg h2] at h
   split
   ·rename_i hz
    exact Nat.lt_of_lt_of_le (Nat.lt_succ_self _) (neverP_g ts (nextP st) (hn _ _ (by decide) hz)).1.nx
   ·rename_i h3; rw [if_neg h3] at h
    split
    ·rename_i hz
     exact Nat.lt_of_lt_of_le (Nat.lt_succ_self _) (sinceP_g ts (nextP st) (hn _ _ (by decide) hz)).1.nx
    ·rename_i h4; rw [if_neg h4] at h
     split
     ·rename_i h5; rw [if_pos h5] at h; exact litE_lt (atomP_lt ts st) h
     ·rename_i h5; rw [if_neg h5] at h; exact litE_lt (comparisonP_lt ts st) h
end Go.Proofs.YtffdpoifdahadaaGreatDoor
namespace Go.Proofs.YtffdpoifdahadaaGreatDoor
open Go.RowKit
open Go.Lib (hid itoa)
/-- a rule's body in memory, and what its numbering leaves -/
theorem rules_num {S:Foot} {w:World} {A R:List RuD} {r:RuD} {v:Value} (h:OwnR 27 7 RuR S w (A++r::R) v) (hn:((A++r::R).flatMap RuD.ids).Nodup) :
  ∃ g mc ab cb,v=.slice (some ⟨g,0,none⟩) (A.length+(R.length+1)) mc∧w.cell? ⟨g,A.length * 7+6,none⟩=some (.slice ab r.body.length cb)∧OwnR 24 4 LdR S w r.body (.slice ab r.body.length cb)∧(idsL r.body).Nodup ∧
   ∀ W,Fr (fun q=>q∈idsL r.body∨w.heap.size≤q) w W→OwnR 24 4 LdR S W (numD 0 r.body) (.slice ab r.body.length cb) →
    OwnR 27 7 RuR S W (A++⟨r.head,r.agg,r.at_,r.bb,numD 0 r.body⟩::R) v:=by
 have hlen:(A++r::R).length=A.length+(R.length+1):=by simp
 have hlt:=rules_lt h; obtain ⟨xs,h1,h2,h3⟩:=h; rcases h1.2 with ⟨rfl,h0⟩ | ⟨g,cap,cur,rfl,_,hg,hnc,_,_,_⟩
 ·simp at h0
 ·have hgl:=lt_of_heap hg
  obtain ⟨cs,k1,hv,bv,rfl,e1,ho,e2,hbd⟩:=h3 A.length r (by rw [List.getElem?_append_right (Nat.le_refl _),Nat.sub_self]; rfl); obtain ⟨ab,cb,rfl,-,-⟩:=hbd.slice; rw [List.flatMap_append,List.flatMap_cons,List.nodup_append,List.nodup_append] at hn; obtain ⟨hnA,⟨hnr,hnR,hrR⟩,hAr⟩:=hn; have hnr0:=hnr; unfold RuD.ids at hnr; rw [List.nodup_append,List.nodup_append] at hnr; obtain ⟨hnh,⟨hnb,hni,hbi⟩,hhb⟩:=hnr
  have hidg:∀ k∈idsL r.body,S k∧k≠g:=fun k hk=>⟨(lds_ids hbd k hk).1,fun e=>(lds_ids hbd k hk).2 (by rw [e]; rfl)⟩
  refine ⟨g,cap,ab,cb,by rw [hlen],?_,hbd.mono goodLd fun k _ hk=>hk.1,hni,fun W hf hW=>?_⟩
  ·have hl6:A.length * 7+6 < (A++r::R).length * 7:=by rw [hlen]; omega
   rw [h1.cellAt _ hl6]; exact k1 6 _ rfl
  ·have hgW:W.heap[g]? = w.heap[g]?:=hf.block g hgl (fun e=>by rcases e with e | e; exact (hidg g e).2 rfl; omega)
   have hlen2:(A++(⟨r.head,r.agg,r.at_,r.bb,numD 0 r.body⟩:RuD)::R).length=(A++r::R).length:=by simp
   have hmv:∀ k,(Value.slice (some ⟨g,0,none⟩) (A++r::R).length cap).ownBlock=some k→W.heap[k]? = w.heap[k]?:=fun k hk=>by
    have e0:g=k:=by injection hk
    rw [← e0]; exact hgW
   refine ⟨xs,by rw [hlen2]; exact owns_move h1 hmv (fun _ _=>Nat.zero_le _),h2,fun i x hx=>?_⟩; by_cases e:i=A.length
   ·subst e
    rw [List.getElem?_append_right (Nat.le_refl _),Nat.sub_self] at hx; injection hx with hx; subst hx; refine ⟨_,k1,hv,.slice ab r.body.length cb,rfl,e1,?_,e2,?_⟩
    ·refine (fl_tight ho).move goodFl fun k hk hk2=>⟨hk2.1,hf.block k hk (fun e=>?_)⟩
     rcases e with e | e
     ·exact hhb k (by rw [← e1,hk2.2]; simp) k (List.mem_append.2 (Or.inr e)) rfl
     ·omega
    ·refine (lds_tight hW).mono goodLd fun k hk hk2=>?_
     rcases hk2.2 with e | e
     ·exact ⟨hk2.1,(own_ge hbd e).2⟩
     ·rw [numD_ids] at e
      exact ⟨hk2.1,fun e2=>(hidg k e).2 (by simp [Value.ownBlock] at e2; exact e2.symm)⟩
   ·have hx2:(A++r::R)[i]? = some x:=by
     rcases Nat.lt_or_gt_of_ne e with h | h
     ·rw [List.getElem?_append_left h] at hx ⊢; exact hx
     ·rw [List.getElem?_append_right (by omega)] at hx ⊢
      obtain ⟨m,hm⟩:∃ m,i - A.length=m+1:=⟨i - A.length - 1,by omega⟩; rw [hm] at hx ⊢; exact hx
    obtain ⟨ds,q1,q2⟩:=h3 i x hx2; refine ⟨ds,q1,goodRu.move (ru_tight q2) fun k hk hk2=>⟨hk2.1,hf.block k hk (fun ek=>?_)⟩⟩; rcases ek with ek | ek
    ·have hkr:k∈r.ids:=by unfold RuD.ids; simp [ek]
     rcases Nat.lt_or_gt_of_ne e with h | h
     ·rw [List.getElem?_append_left h] at hx2
      exact hAr k (List.mem_flatMap.2 ⟨x,List.mem_of_getElem? hx2,hk2.2⟩) k (List.mem_append.2 (Or.inl hkr)) rfl
     ·rw [List.getElem?_append_right (by omega)] at hx2
      obtain ⟨m,hm⟩:∃ m,i - A.length=m+1:=⟨i - A.length - 1,by omega⟩; rw [hm] at hx2; exact hrR k hkr k (List.mem_flatMap.2 ⟨x,List.mem_of_getElem? (show R[m]? = some x from hx2),hk2.2⟩) rfl
    ·omega
theorem num_ids (r:RuD):(⟨r.head,r.agg,r.at_,r.bb,numD 0 r.body⟩:RuD).ids=r.ids:=by
 unfold RuD.ids; rw [show (⟨r.head,r.agg,r.at_,r.bb,numD 0 r.body⟩:RuD).body=numD 0 r.body from rfl,numD_ids]
theorem num_ru (r:RuD):(⟨r.head,r.agg,r.at_,r.bb,numD 0 r.body⟩:RuD).ru=numR r.ru:=by
 show (⟨r.head.2,r.agg,r.at_,(numD 0 r.body).map (·.2)⟩:Ru)=⟨r.head.2,r.agg,r.at_,numL 0 (r.body.map (·.2))⟩; rw [numD_snd]
theorem TabN.tabB {pb:Nat} {w0 W:World} (h:TabN pb w0) (hf:Fr (one pb) w0 W):TabB w0.heap.size W:=by
 obtain ⟨g,cs,t,f,h1,h2,h3,h4⟩:=h; exact ⟨g,cs,t,f,h1,lt_of_some h3,(hf.block g (lt_of_some h3) (fun e=>h2 e)).trans h3,h4⟩
theorem sumT_le {l:List (Option Nat × Lt)} {m:Nat} (h:∀ x∈l,x.2.args.length≤m):sumT l≤l.length * m:=by
 unfold sumT
 induction l with
 | nil=>simp
 | cons x l ih =>
  have h1:=h x (by simp)
  have h2:=ih fun y hy=>h y (by simp [hy])
  simp only [List.map_cons,List.sum_cons,List.length_cons,Nat.succ_mul]; omega
/-- a head that was read is a rule made -/
def hdRu (x:Hd):Ru:=⟨⟨0,false,x.rel,x.args⟩,x.agg,x.at_,[]⟩
theorem hm_made {pb rb:Nat} {K:PK} {st:PSt} {x:Hd} {w0 w:World} (h:HM pb rb 0 K st x w0 w):∃ r:RuD,r.ru=hdRu x∧r.ids.Nodup∧r.body=[]∧OwnR 27 7 RuR (from_ w0.heap.size) w [r] (.slice (some ⟨rb,0,none⟩) 1 1):=by
 obtain ⟨a,c,h1,h2⟩:=h.row; have h0:=h.h0; refine ⟨⟨(Value.ownBlock (.slice a x.args.length c),⟨0,false,x.rel,x.args⟩),x.agg,x.at_,none,[]⟩,rfl,?_,rfl,?_⟩
 ·unfold RuD.ids
  show ((Value.ownBlock (.slice a x.args.length c)).toList++([]++[])).Nodup; cases Value.ownBlock (.slice a x.args.length c) <;> simp
 ·refine own_build goodRu (xs:=(rcells x.rel (.slice a x.args.length c) x.agg x.at_ (.slice none 0 0)).toList) h1 rfl rfl (by decide) h0 fun i y hy=>?_
  match i,hy with
  | 0,hy =>
   injection hy with hy; subst hy; refine ⟨(rcells x.rel (.slice a x.args.length c) x.agg x.at_ (.slice none 0 0)).toList,fun j u hu=>by simpa using hu,?_⟩; exact (show ∃ hv bv,_ from ⟨.slice a x.args.length c,.slice none 0 0,rfl,rfl,h2.mono goodFl fun k hk hk2=>⟨by unfold from_; omega,by omega⟩,rfl,OwnR.nil _ _ _ _ _⟩)
abbrev qcells (rv:Value) (op:Int) (nt:Bool) (rel:List UInt8) (av:Value):Array Value:=#[rv,iv op,.bool nt,sv rel,av]
/-- what query answers -/
def PQ (pb:Nat) (K:PK) (w:World) (r:Option Qu × PSt) (e:Ending) (w':World):Prop :=
 PM pb K r.2 w'∧Fr (one pb) w w'∧match r.1 with
 | some q=>∃ rv av zs,e=.returned (.agg (qcells rv q.goal.op q.goal.nt q.goal.rel av))∧OwnR 27 7 RuR (from_ w.heap.size) w' zs rv∧zs.map RuD.ru=q.rules∧OwnR 63 7 FlR (from_ w.heap.size) w' q.goal.args av
 | none=>e=.returned (.agg (qcells (.slice none 0 0) 0 false [] (.slice none 0 0)))
/-- query's memory at the loop's head: the result's block, q with its rules -/
structure QM (pb:Nat) (K:PK) (st:PSt) (w:World) (RB QB:Nat) (zs:List RuD) (wr:World):Prop where
 base:∃ s,PM pb K s w
 pm:PM pb K st wr
 fr:Fr (one pb) w wr
 res:wr.heap[RB]? = some (.cells (qcells (.slice none 0 0) 0 false [] (.slice none 0 0)) 32 (0,0))
 q:∃ a c,wr.heap[QB]? = some (.cells (qcells (.slice a zs.length c) 0 false [] (.slice none 0 0)) 32 (0,0))∧OwnR 27 7 RuR (fun k=>QB < k) wr zs (.slice a zs.length c)
 h0:w.heap.size≤RB
 h1:RB < QB
section
variable {pb RB QB:Nat} {K:PK} {st st':PSt} {w wr w':World} {zs:List RuD}
theorem QM.pbl (h:QM pb K st w RB QB zs wr):pb < w.heap.size:=by obtain ⟨s,hs⟩:=h.base; exact hs.lt
theorem QM.call (h:QM pb K st w RB QB zs wr) (hp:PM pb K st' w') (hf:Fr (one pb) wr w'):QM pb K st' w RB QB zs w':=by
 have e0:=h.pbl; have e1:=h.h0; have e2:=h.h1; obtain ⟨a,c,h3,h4⟩:=h.q; refine ⟨h.base,hp,h.fr.trans hf,(hf.block _ (lt_of_heap h.res) (by unfold one; omega)).trans h.res,⟨a,c,(hf.block _ (lt_of_heap h3) (by unfold one; omega)).trans h3,h4.fr goodRu hf (fun q hq e=>by unfold one at e; omega)⟩,e1,e2⟩
theorem QM.below (h:QM pb K st w RB QB zs wr) (hb:Below wr.heap.size wr w'):QM pb K st w RB QB zs w':=h.call (h.pm.below hb) (Fr.of_below hb (one pb))
/-- the rules made are put behind the query's -/
theorem QM.push (h:QM pb K st w RB QB zs wr) {N0:Nat} {m:List RuD} {vs:Value} (hm:OwnR 27 7 RuR (from_ N0) wr m vs) (hN:QB < N0) (hq:∀ a c,wr.heap[QB]? = some (.cells (qcells (.slice a zs.length c) 0 false [] (.slice none 0 0)) 32 (0,0))→∀ k,(Value.slice a zs.length c).ownBlock=some k→k < N0) (hl:zs.length+m.length≤1048576) :
  ∃ av cv a c W,wr.cell? ⟨QB,0,none⟩=some (.slice av zs.length cv)∧AppRun Tryz.prog 30 30 30 (.slice av zs.length cv) vs (.slice a (zs.length+m.length) c) wr W∧W.frozen? ⟨QB,0,none⟩=false∧(∃ u,W.cell? ⟨QB,0,none⟩=some u)∧(W.setCell ⟨QB,0,none⟩ (.slice a (zs.length+m.length) c)).cell? ⟨QB,0,none⟩=some (.slice a (zs.length+m.length) c) ∧
   QM pb K st w RB QB (zs++m) (W.setCell ⟨QB,0,none⟩ (.slice a (zs.length+m.length) c)):=by
 have e0:=h.pbl; have e1:=h.h0; have e2:=h.h1; obtain ⟨av,cv,h3,h4⟩:=h.q; have hq:=hq av cv h3; have hQl:=lt_of_heap h3; obtain ⟨a,c,W,run,hO,hF,hvv⟩:=rulesPush h4 hm (fun q hq=>by omega) (fun q hq2=>⟨by unfold from_ at hq2; omega,fun e=>by have:=hq q e; unfold from_ at hq2; omega⟩) hl
 have hob:∀ q,(Value.slice av zs.length cv).ownBlock=some q→QB < q:=fun q hq=>own_ge h4 hq
 have hQW:W.heap[QB]? = _:=(hF.block QB hQl (fun e=>by have:=hob QB e; omega)).trans h3; have hset:=heap_setCell_same hQW (i:=0) (.slice a (zs.length+m.length) c); have hFs:Fr (fun q=>QB≤q) wr (W.setCell ⟨QB,0,none⟩ (.slice a (zs.length+m.length) c)):=(hF.mono (fun k hk e=>Nat.le_of_lt (hob k e))).setCell (p:=⟨QB,0,none⟩) (Or.inl (Nat.le_refl QB)) _; have hfw:Fr (one pb) w (W.setCell ⟨QB,0,none⟩ (.slice a (zs.length+m.length) c)):=h.fr.trans' hFs (fun _ x=>x) (fun k hk e=>by omega); obtain ⟨s0,hs0⟩:=h.base; refine ⟨av,cv,a,c,W,(cell_of (i:=0) h3).trans rfl,run,free_of hQW,⟨_,(cell_of (i:=0) hQW).trans rfl⟩,(cell_of (i:=0) hset).trans rfl,h.base,hs0.base hfw h.pm (hFs.block pb h.pm.lt (by omega)),hfw,(hFs.block RB (lt_of_heap h.res) (by omega)).trans h.res,⟨a,c,?_,?_⟩,e1,e2⟩
 ·rw [List.length_append]; exact hset
 ·rw [List.length_append]; exact hO.move goodRu fun k hk hk2=>⟨hk2,heap_setCell_other _ (by omega)⟩
end
theorem PM.setErr {pb:Nat} {K:PK} {st:PSt} {w:World} (h:PM pb K st w) (e:Int) (i:Nat):PM pb K { st with err:=some (e,i) } ((w.setCell ⟨pb,6,none⟩ (iv e)).setCell ⟨pb,7,none⟩ (iv (K.pos i))) :=
 h.turn (fun q hq=>(heap_setCell_other _ hq).trans (heap_setCell_other _ hq)) (by have a0:=heap_setCell_same h.blk (i:=6) (iv e); exact heap_setCell_same a0 (i:=7) (iv (K.pos i))) h.nx
theorem mul_le3 {C a b v v':Nat} (h:v≤C * a) (h1:v'≤v+0) (h2:a≤b):v'≤C * b:=Nat.le_trans h1 (Nat.le_trans h (Nat.mul_le_mul_left C h2))
theorem mul_step {C a b v v':Nat} (h:v≤C * a) (h1:v'≤v+C) (h2:a < b):v'≤C * b:=by
 have h3:C * (a+1)≤C * b:=Nat.mul_le_mul_left C h2; rw [Nat.mul_succ] at h3; omega
theorem HM.start {pb:Nat} {K:PK} {st:PSt} {w:World} (h:PM pb K st w):HM pb w.heap.size 0 K st ⟨[],[],0,0⟩ w (w.alloc (.cells #[.int .i64 0,.bool false,.string ⟨#[]⟩,.slice none 0 0,.int .i64 0,.int .i64 0,.slice none 0 0] 27)):=by
 have b1:=(Below.refl w.heap.size w).alloc (Nat.le_refl _) (.cells #[.int .i64 0,.bool false,.string ⟨#[]⟩,.slice none 0 0,.int .i64 0,.int .i64 0,.slice none 0 0] 27); exact ⟨⟨st,h⟩,h.below b1,Fr.of_below b1 _,⟨none,0,heap_alloc_new' _ _,OwnR.nil _ _ _ _ _⟩,Nat.le_refl _,h.lt⟩
abbrev setG (w:World) (R:Nat) (op:Int) (nt:Bool) (rel:List UInt8) (v:Value):World:=(((w.setCell ⟨R,1,none⟩ (iv op)).setCell ⟨R,2,none⟩ (.bool nt)).setCell ⟨R,3,none⟩ (sv rel)).setCell ⟨R,4,none⟩ v
abbrev setQ (w:World) (R:Nat) (rv:Value) (op:Int) (nt:Bool) (rel:List UInt8) (v:Value):World:=setG (w.setCell ⟨R,0,none⟩ rv) R op nt rel v
theorem q_cells {w:World} {R:Nat} {rv:Value} {op:Int} {nt:Bool} {rel:List UInt8} {v:Value} (h:w.heap[R]? = some (.cells (qcells rv op nt rel v) 32 (0,0))):w.cell? ⟨R,0,none⟩=some rv∧w.cell? ⟨R,1,none⟩=some (iv op)∧w.cell? ⟨R,2,none⟩=some (.bool nt)∧w.cell? ⟨R,3,none⟩=some (sv rel)∧w.cell? ⟨R,4,none⟩=some v∧∀ i,w.frozen? ⟨R,i,none⟩=false :=
 ⟨(cell_of (i:=0) h).trans rfl,(cell_of (i:=1) h).trans rfl,(cell_of (i:=2) h).trans rfl,(cell_of (i:=3) h).trans rfl,(cell_of (i:=4) h).trans rfl,fun i=>free_of h⟩
theorem setG_other {w:World} {R k:Nat} {op:Int} {nt:Bool} {rel:List UInt8} {v:Value} (h:k≠R):(setG w R op nt rel v).heap[k]? = w.heap[k]? :=
 (heap_setCell_other _ h).trans <| (heap_setCell_other _ h).trans <| (heap_setCell_other _ h).trans (heap_setCell_other _ h)
theorem setQ_other {w:World} {R k:Nat} {rv:Value} {op:Int} {nt:Bool} {rel:List UInt8} {v:Value} (h:k≠R):(setQ w R rv op nt rel v).heap[k]? = w.heap[k]?:=(setG_other h).trans (heap_setCell_other _ h)
theorem setG_set {w:World} {R:Nat} {rv:Value} {o0:Int} {n0:Bool} {r0:List UInt8} {v0:Value} (h:w.heap[R]? = some (.cells (qcells rv o0 n0 r0 v0) 32 (0,0))) (op:Int) (nt:Bool) (rel:List UInt8) (v:Value):(setG w R op nt rel v).heap[R]? = some (.cells (qcells rv op nt rel v) 32 (0,0)):=by
 have a0:=heap_setCell_same h (i:=1) (iv op); have a1:=heap_setCell_same a0 (i:=2) (.bool nt); have a2:=heap_setCell_same a1 (i:=3) (sv rel); have a3:=heap_setCell_same a2 (i:=4) v; simpa using a3
theorem setQ_set {w:World} {R:Nat} {rv0:Value} {o0:Int} {n0:Bool} {r0:List UInt8} {v0:Value} (h:w.heap[R]? = some (.cells (qcells rv0 o0 n0 r0 v0) 32 (0,0))) (rv:Value) (op:Int) (nt:Bool) (rel:List UInt8) (v:Value):(setQ w R rv op nt rel v).heap[R]? = some (.cells (qcells rv op nt rel v) 32 (0,0)):=by
 have a0:=heap_setCell_same h (i:=0) rv; exact setG_set (rv:=rv) (by simpa using a0) op nt rel v
theorem Fr.setG {S:Nat→Prop} {a w:World} (h:Fr S a w) {R:Nat} (hR:a.heap.size≤R) (op:Int) (nt:Bool) (rel:List UInt8) (v:Value):Fr S a (setG w R op nt rel v) :=
 (((h.setCell (p:=⟨R,1,none⟩) (Or.inr hR) _).setCell (p:=⟨R,2,none⟩) (Or.inr hR) _).setCell (p:=⟨R,3,none⟩) (Or.inr hR) _).setCell (p:=⟨R,4,none⟩) (Or.inr hR) _
theorem Fr.setQ {S:Nat→Prop} {a w:World} (h:Fr S a w) {R:Nat} (hR:a.heap.size≤R) (rv:Value) (op:Int) (nt:Bool) (rel:List UInt8) (v:Value):Fr S a (setQ w R rv op nt rel v):=(h.setCell (p:=⟨R,0,none⟩) (Or.inr hR) rv).setG hR op nt rel v
/-- the result's block is written -/
theorem QM.fin {pb RB QB:Nat} {K:PK} {st:PSt} {w wr:World} {zs:List RuD} (h:QM pb K st w RB QB zs wr) (rv:Value) (op:Int) (nt:Bool) (rel:List UInt8) (v:Value):PM pb K st (setQ wr RB rv op nt rel v)∧Fr (one pb) w (setQ wr RB rv op nt rel v)∧(setQ wr RB rv op nt rel v).heap[RB]? = some (.cells (qcells rv op nt rel v) 32 (0,0)):=by
 have e0:=h.pbl; have e1:=h.h0; obtain ⟨s0,hs0⟩:=h.base; have hF:=h.fr.setQ e1 rv op nt rel v; exact ⟨hs0.base hF h.pm (setQ_other (by omega)),hF,setQ_set h.res rv op nt rel v⟩
/-- the only literal of a row -/
theorem lds_one {S:Foot} {w:World} {x:Option Nat × Lt} {a:Option Addr} {n c:Nat} (h:OwnR 24 4 LdR S w [x] (.slice a n c)) :
  ∃ gb aa ca,a=some ⟨gb,0,none⟩∧n=1∧gb < w.heap.size∧S gb∧w.cell? ⟨gb,0,none⟩=some (iv x.2.op)∧w.cell? ⟨gb,1,none⟩=some (.bool x.2.nt)∧w.cell? ⟨gb,2,none⟩=some (sv x.2.rel)∧w.cell? ⟨gb,3,none⟩=some (.slice aa x.2.args.length ca)∧OwnR 63 7 FlR S w x.2.args (.slice aa x.2.args.length ca):=by
 obtain ⟨xs,h1,h2,h3⟩:=h; obtain ⟨cs,k1,v1,rfl,ho,hw⟩:=h3 0 x rfl; obtain ⟨aa,ca,rfl,-⟩:=hw.slice; rcases h1.2 with ⟨e,h0⟩ | ⟨gb,capb,curb,e,_,hgb,_,_,_,_⟩
 ·simp at h0
 ·injection e with e1 e2 e3
  subst e1
  have hx:∀ j u,(lcells x.2.op x.2.nt x.2.rel (.slice aa x.2.args.length ca)).toList[j]? = some u→w.cell? ⟨gb,j,none⟩=some u:=by
   intro j u hu; have hj:j < 4:=(List.getElem?_eq_some_iff.1 hu).1
   have hlt:j < [x].length * 4:=by simp; omega
   subst e2; rw [h1.cellAt _ hlt]; have:=k1 j u hu; simpa using this
  exact ⟨gb,aa,ca,rfl,e2,lt_of_heap hgb,h2 gb rfl,hx 0 _ rfl,hx 1 _ rfl,hx 2 _ rfl,hx 3 _ rfl,hw.mono goodFl fun k _ hk=>hk.1⟩
/-- the parser's steps, one by one -/
def queryE (ts:List Tw) (f:Nat) (rules:List Ru) (n:Nat):Option (List Ru) × PSt→Option Qu × PSt
 | (none,s)=>(none,s)
 | (some rs,s)=>if 64 < (rules++rs).length then (none,{ s with err:=some (3,n) }) else queryP ts f s (rules++rs)
theorem queryP_eq (ts:List Tw) (f:Nat) (st:PSt) (rules:List Ru):queryP ts (f+1) st rules=if isP ts st 4 [63]=true then goalE ts rules (atomP ts (nextP st)) else queryE ts f rules st.nx (ruleP ts st):=by
 rw [queryP]; split
 ·rfl
 ·generalize ruleP ts st=r
  obtain ⟨o,s⟩:=r; cases o <;> rfl
def ruleH (ts:List Tw):Option Hd × PSt→Option (List Ru) × PSt
 | (none,s)=>(none,s)
 | (some h,s1)=>ruleE ts h (if isP ts s1 4 [58,45]=true then litsP ts (ts.length+1) (nextP s1) [] [] else (some ([],[]),s1))
theorem ruleP_eq (ts:List Tw) (st:PSt):ruleP ts st=ruleH ts (headP ts st):=by
 unfold ruleP; generalize headP ts st=r; obtain ⟨o,s⟩:=r; cases o <;> rfl
def litsF (ts:List Tw) (f:Nat) (body:List Lt) (aux:List Ru):Option (List Lt × List Ru) × PSt→Option (List Lt × List Ru) × PSt
 | (none,s)=>(none,s)
 | (some (ls,au),s1)=>if isP ts s1 4 [44]=true then litsP ts f (nextP s1) (body++ls) (aux++au) else (some (body++ls,aux++au),s1)
theorem litsP_eq (ts:List Tw) (f:Nat) (st:PSt) (body:List Lt) (aux:List Ru):litsP ts (f+1) st body aux=litsF ts f body aux (literalP ts st):=by
 rw [litsP]; generalize literalP ts st=r; obtain ⟨o,s⟩:=r; cases o <;> rfl
theorem ruleE_eq (ts:List Tw) (h:Hd) (body:List Lt) (aux:List Ru) (s:PSt):ruleE ts h (some (body,aux),s)=if isP ts s 4 [46]=true then (some ((⟨⟨0,false,h.rel,h.args⟩,h.agg,h.at_,body⟩::aux).map numR),nextP s) else (none,failP s):=rfl
end Go.Proofs.YtffdpoifdahadaaGreatDoor
