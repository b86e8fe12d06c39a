/- AskWb: AskWa, AskWb, in one text. -/
import Derived.Test.YtffdpoifdahadaaGreatDoorAskV
import Derived.Test.YtffdpoifdahadaaGreatDoorAskU
set_option linter.unusedVariables false
namespace Go.Proofs.YtffdpoifdahadaaGreatDoor
open Go.RowKit
open Go.Lib (hid itoa)
structure Gr (L c:Nat) (a:PSt) (z:Bool) (b:PSt):Prop where
 nx:a.nx<=b.nx
 vars:b.vars<=a.vars+c
 rels:b.rels<=a.rels+c
 ok:z=true->b.err=a.err
 bad:z=false->∃ i,b.err=some (2,i)
 top:a.nx<=L->b.nx<=L
section
variable {L c d:Nat} {a b e:PSt} {z:Bool}
theorem Gr.trans (h:Gr L c a true b) (k:Gr L d b z e):Gr L (c+d) a z e:=by
 have h1:=h.vars; have h2:=k.vars; have h3:=h.rels; have h4:=k.rels; exact ⟨zV h.nx k.nx,by omega,by omega,fun q=>(k.ok q).trans (h.ok rfl),k.bad,fun q=>k.top (h.top q)⟩
theorem Gr.trans0 (h:Gr L 0 a true b) (k:Gr L d b z e):Gr L d a z e:=by
 have:=h.trans k; rwa [Nat.zero_add] at this
theorem Gr.refl (a:PSt):Gr L 0 a true a:=⟨zM _,zM _,zM _,fun _=>rfl,fun h=>Bool.noConfusion h,fun h=>h⟩
theorem Gr.fail (a:PSt):Gr L 0 a false (bf a):=⟨zM _,zM _,zM _,fun h=>Bool.noConfusion h,fun _=>⟨_,rfl⟩,fun h=>h⟩
theorem Gr.next (h:a.nx < L):Gr L 0 a true (am a):=⟨Nat.le_succ _,zM _,zM _,fun _=>rfl,fun h=>Bool.noConfusion h,fun _=>h⟩
theorem Gr.weak (h:Gr L c a z b) (hc:c<=d):Gr L d a z b:=⟨h.nx,zV h.vars (by omega),zV h.rels (by omega),h.ok,h.bad,h.top⟩
end
theorem eV {ts:List Tw} {i:Nat} (h:(br ts i).kind≠0):i < ts.length:=by
 rcases Nat.lt_or_ge i ts.length with h1 | h1
 ·exact h1
 ·exact absurd (by unfold br; rw [zZ,List.getElem?_eq_none h1]; rfl) h
theorem cT {ts:List Tw} {st:PSt} {k:Int} {s:List UInt8} (hk:k≠0) (h:isP ts st k s=true):st.nx < ts.length:=by
 unfold isP at h; rw [Bool.and_eq_true,beq_iff_eq] at h; exact eV (by rw [h.1]; exact hk)
theorem oM (ts:List Tw) (st:PSt) (s:List UInt8):Gr ts.length 0 st (aW ts st s).1 (aW ts st s).2:=by
 unfold aW; split
 ·rename_i h; exact Gr.next (cT (by decide) h)
 ·exact Gr.fail _
theorem vI (ts:List Tw) (st:PSt):Gr ts.length 0 st (bN ts st).1.2 (bN ts st).2:=by
 unfold bN; split
 ·rename_i h; exact (Gr.next (eV (by rw [h.1]; decide))).trans0 (oM _ _ _)
 ·exact Gr.fail _
theorem vd (ts:List Tw) (st:PSt):Gr ts.length 0 st (eH ts st).1.isSome (eH ts st).2:=by
 unfold eH; split
 ·rename_i h; exact Gr.next (eV (by rw [h.1]; decide))
 ·exact Gr.fail _
theorem gg (ts:List Tw) (st:PSt):Gr ts.length 0 st (aT ts st).1.isSome (aT ts st).2:=by
 unfold aT; split
 ·rename_i h; exact Gr.next (eV (by rw [h]; decide))
 ·split
  ·rename_i h; exact Gr.next (eV (by rw [h]; decide))
  ·split
   ·rename_i h
    have h1:=Gr.next (cT (by decide) h); split
    ·rename_i h2; exact h1.trans0 (Gr.next (eV (by show (br ts (st.nx+1)).kind≠0; rw [h2]; decide)))
    ·exact h1.trans0 (Gr.fail _)
   ·exact vd _ _
theorem zG (ts:List Tw) (st:PSt):Gr ts.length 0 st (fM ts st).1.isSome (fM ts st).2:=by
 unfold fM; split
 ·rename_i h; exact Gr.next (cT (by decide) h)
 ·exact gg _ _
theorem ti (ts:List Tw):∀ (f:Nat) (st:PSt) (acc:List Tm),st.nx<=ts.length->ts.length < f+st.nx->Gr ts.length 0 st (bW ts f st acc).1.isSome (bW ts f st acc).2/\∀ al,(bW ts f st acc).1=some al->al.length<=acc.length+f
 | 0,st,_,h1,h2=>by omega
 | f+1,st,acc,h1,h2=>by
  unfold bW; have h:=zG ts st; have hn:=tl ts st; generalize fM ts st=r at *; obtain ⟨o,s⟩:=r
  cases o with
  | none=>exact ⟨h,fun al e=>by cases e⟩
  | some t =>
   show Gr ts.length 0 st (if isP ts s 4 [44]=true then bW ts f (am s) (acc++[t]) else (some (acc++[t]),s)).1.isSome (if isP ts s 4 [44]=true then bW ts f (am s) (acc++[t]) else (some (acc++[t]),s)).2/\∀ al,(if isP ts s 4 [44]=true then bW ts f (am s) (acc++[t]) else (some (acc++[t]),s)).1=some al->_; have hn':st.nx < s.nx:=hn rfl; split
   ·rename_i h3
    have h4:=cT (by decide) h3; have h5:(am s).nx=s.nx+1:=rfl; obtain ⟨g1,g2⟩:=ti ts f (am s) (acc++[t]) (by omega) (by omega); refine ⟨(h.trans0 (Gr.next h4)).trans0 g1,fun al e=>?_⟩; have:=g2 al e; simp at this; omega
   ·exact ⟨h,fun al e=>by cases e; simp⟩
theorem d8 (ts:List Tw) (st:PSt) (hst:st.nx<=ts.length):Gr ts.length 0 st (aY ts st).1.isSome (aY ts st).2/\∀ l,(aY ts st).1=some l->l.args.length<=ts.length+1:=by
 unfold aY; have h:=vI ts st; split
 ·rename_i h0
  rw [h0] at h; split
  ·rename_i h1; exact ⟨h.trans0 (Gr.next (cT (by decide) h1)),fun l e=>by cases e; exact zW _⟩
  ·have h2:=ti ts (ts.length+1) (bN ts st).2 [] (h.top hst) (by omega)
   generalize bW ts (ts.length+1) (bN ts st).2 []=r at *; obtain ⟨o,s⟩:=r
   cases o with
   | none=>exact ⟨h.trans0 h2.1,fun l e=>by cases e⟩
   | some al =>
    show Gr ts.length 0 st (if isP ts s 4 [41]=true then (some (⟨0,false,(bN ts st).1.1,al⟩:Lt),am s) else (none,bf s)).1.isSome (if isP ts s 4 [41]=true then (some (⟨0,false,(bN ts st).1.1,al⟩:Lt),am s) else (none,bf s)).2/\∀ l,(if isP ts s 4 [41]=true then (some (⟨0,false,(bN ts st).1.1,al⟩:Lt),am s) else (none,bf s)).1=some l->_; split
    ·rename_i h3; exact ⟨(h.trans0 h2.1).trans0 (Gr.next (cT (by decide) h3)),fun l e=>by cases e; have:=h2.2 al rfl; simpa using this⟩
    ·exact ⟨(h.trans0 h2.1).trans0 (Gr.fail _),fun l e=>by cases e⟩
 ·rename_i h0
  rw [Bool.not_eq_true] at h0; rw [h0] at h; exact ⟨h,fun l e=>by cases e⟩
theorem sd (ts:List Tw) (st:PSt) (x:Hd):Gr ts.length 0 st (bV ts st x).1.isSome (bV ts st x).2:=by
 unfold bV; split
 ·rename_i hc
  have h0:=Gr.next (L:=ts.length) (a:=st) (eV (by rw [hc.1]; decide)); have h:=oM ts (am st) [40]; split
  ·rename_i h1
   rw [h1] at h; have h2:=vd ts (aW ts (am st) [40]).2; generalize eH ts (aW ts (am st) [40]).2=r at *; obtain ⟨o,s⟩:=r
   cases o with
   | none=>exact (h0.trans0 h).trans0 h2
   | some t =>
    show Gr ts.length 0 st (if (aW ts s [41]).1=true then (some (⟨x.rel,x.args++[t],ga (br ts st.nx).text,x.args.length⟩:Hd),(aW ts s [41]).2) else (none,(aW ts s [41]).2)).1.isSome (if (aW ts s [41]).1=true then (some (⟨x.rel,x.args++[t],ga (br ts st.nx).text,x.args.length⟩:Hd),(aW ts s [41]).2) else (none,(aW ts s [41]).2)).2; have h3:=oM ts s [41]; split
    ·rename_i h4; rw [h4] at h3; exact ((h0.trans0 h).trans0 h2).trans0 h3
    ·rename_i h4; rw [Bool.not_eq_true] at h4; rw [h4] at h3; exact ((h0.trans0 h).trans0 h2).trans0 h3
  ·rename_i h1; rw [Bool.not_eq_true] at h1; rw [h1] at h; exact h0.trans0 h
 ·have h:=gg ts st
  generalize aT ts st=r at *; obtain ⟨o,s⟩:=r
  cases o with
  | none=>exact h
  | some t=>exact h
theorem qj (ts:List Tw):∀ (f:Nat) (st:PSt) (x:Hd),st.nx<=ts.length->ts.length < f+st.nx->Gr ts.length 0 st (cX ts f st x).1.isSome (cX ts f st x).2
 | 0,st,_,h1,h2=>by omega
 | f+1,st,x,h1,h2=>by
  unfold cX; have h:=sd ts st x
  have hn:=fun y=>kX ts st x y
  generalize bV ts st x=r at *; obtain ⟨o,s⟩:=r
  cases o with
  | none=>exact h
  | some t =>
   show Gr ts.length 0 st (if isP ts s 4 [44]=true then cX ts f (am s) t else (some t,s)).1.isSome (if isP ts s 4 [44]=true then cX ts f (am s) t else (some t,s)).2; have hn':st.nx < s.nx:=(hn t rfl).1; split
   ·rename_i h3
    have h4:=cT (by decide) h3; have h5:(am s).nx=s.nx+1:=rfl; exact (h.trans0 (Gr.next h4)).trans0 (qj ts f (am s) t (by omega) (by omega))
   ·exact h
theorem oW (ts:List Tw) (st:PSt) (hst:st.nx<=ts.length):Gr ts.length 0 st (dC ts st).1.isSome (dC ts st).2/\((dC ts st).1.isSome=true->st.nx < (dC ts st).2.nx):=by
 unfold dC; have h:=vI ts st
 have hlt:(bN ts st).1.2=true->st.nx < (bN ts st).2.nx:=by
  intro h0; unfold bN at h0 ⊢; split at h0
  ·rename_i hc; rw [if_pos hc,iF _ _ _ h0]; show st.nx < st.nx+1+1; omega
  ·cases h0
 split
 ·rename_i h0
  rw [h0] at h; have hlt:=hlt h0; split
  ·rename_i h1; exact ⟨h.trans0 (Gr.next (cT (by decide) h1)),fun _=>Nat.lt_succ_of_lt hlt⟩
  ·have h2:=qj ts (ts.length+1) (bN ts st).2 ⟨(bN ts st).1.1,[],0,0⟩ (h.top hst) (by omega)
   generalize cX ts (ts.length+1) (bN ts st).2 ⟨(bN ts st).1.1,[],0,0⟩=r at *; obtain ⟨o,s⟩:=r
   cases o with
   | none=>exact ⟨h.trans0 h2,fun e=>by cases e⟩
   | some y =>
    show Gr ts.length 0 st (if isP ts s 4 [41]=true then (some y,am s) else (none,bf s)).1.isSome (if isP ts s 4 [41]=true then (some y,am s) else (none,bf s)).2/\((if isP ts s 4 [41]=true then (some y,am s) else (none,bf s)).1.isSome=true->st.nx < (if isP ts s 4 [41]=true then (some y,am s) else (none,bf s)).2.nx); have h6:=h2.nx; split
    ·rename_i h3; exact ⟨(h.trans0 h2).trans0 (Gr.next (cT (by decide) h3)),fun _=>by show st.nx < s.nx+1; simp only at h6; omega⟩
    ·exact ⟨(h.trans0 h2).trans0 (Gr.fail _),fun e=>by cases e⟩
 ·rename_i h0
  rw [Bool.not_eq_true] at h0; rw [h0] at h; exact ⟨h,fun e=>by cases e⟩
theorem ll (ts:List Tw) (st:PSt):Gr ts.length 0 st (cW ts st).1.isSome (cW ts st).2:=by
 have hE:∀ b st,Gr ts.length 0 st (im b (aT ts st)).1.isSome (im b (aT ts st)).2:=by
  intro b st; have h:=gg ts st; generalize aT ts st=r at *; obtain ⟨o,s⟩:=r; cases o <;> exact h
 unfold cW; split
 ·rename_i h; exact (Gr.next (cT (by decide) h)).trans0 (hE _ _)
 ·split
  ·rename_i h; exact (Gr.next (cT (by decide) h)).trans0 (hE _ _)
  ·exact Gr.fail _
theorem e9 (ts:List Tw) (st:PSt):Gr ts.length (ts.length+1) st true (aq ts st).2:=⟨zM _,(bL ts st).1,Nat.le_add_right _ _,fun _=>rfl,fun h=>Bool.noConfusion h,fun h=>h⟩
theorem nT (ts:List Tw) (st:PSt):Gr ts.length (ts.length+1) st true (bg ts st).2:=⟨zM _,Nat.le_add_right _ _,(g9 ts st).1,fun _=>rfl,fun h=>Bool.noConfusion h,fun h=>h⟩
theorem xw (ts:List Tw) (m:Bool) (a b:Tm) (st:PSt):Gr ts.length 0 st (ki m a b (aT ts st)).1.isSome (ki m a b (aT ts st)).2/\∀ l,(ki m a b (aT ts st)).1=some l->l.args.length<=3:=by
 have h:=gg ts st; generalize aT ts st=r at *; obtain ⟨o,s⟩:=r
 cases o with
 | none=>exact ⟨h,fun l e=>by cases e⟩
 | some c=>exact ⟨h,fun l e=>by cases e; cases m <;> exact zM _⟩
theorem xl (ts:List Tw) (op:Int) (sw:Bool) (a:Tm) (st:PSt):Gr ts.length 0 st (lh ts op sw a (aT ts st)).1.isSome (lh ts op sw a (aT ts st)).2/\∀ l,(lh ts op sw a (aT ts st)).1=some l->l.args.length<=3:=by
 have h:=gg ts st; generalize aT ts st=r at *; obtain ⟨o,s⟩:=r
 cases o with
 | none=>exact ⟨h,fun l e=>by cases e⟩
 | some b =>
  unfold lh; simp only; split
  ·rename_i hc
   have g:=xw ts false a b (am s); exact ⟨(h.trans0 (Gr.next (cT (by decide) hc.2))).trans0 g.1,g.2⟩
  ·split
   ·rename_i hc
    have g:=xw ts true a b (am s); exact ⟨(h.trans0 (Gr.next (cT (by decide) hc.2))).trans0 g.1,g.2⟩
   ·refine ⟨h,fun l e=>?_⟩
    simp only [Al] at e; subst e; cases sw <;> exact (by decide:2<=3)
theorem ng (ts:List Tw) (st:PSt):Gr ts.length 0 st (aV ts st).1.isSome (aV ts st).2/\∀ l,(aV ts st).1=some l->l.args.length<=3:=by
 unfold aV; have h:=gg ts st; generalize aT ts st=r at *; obtain ⟨o,s⟩:=r
 cases o with
 | none=>exact ⟨h,fun l e=>by cases e⟩
 | some a =>
  simp only; split
  ·rename_i hk
   have h1:=Gr.next (L:=ts.length) (a:=s) (eV (by rw [hk]; decide)); split
   ·exact ⟨h.trans0 (Gr.fail _),fun l e=>by cases e⟩
   ·rename_i op sw _
    have g:=xl ts op sw a (am s); exact ⟨(h.trans0 h1).trans0 g.1,g.2⟩
  ·exact ⟨h.trans0 (Gr.fail _),fun l e=>by cases e⟩
theorem mQ (ts:List Tw) (st:PSt) (h:(aV ts st).1.isSome=true):st.nx < (aV ts st).2.nx:=by
 unfold aV at h ⊢; have h1:=jO ts st; generalize aT ts st=r at *; obtain ⟨o,s⟩:=r
 cases o with
 | none=>cases h
 | some a =>
  have h2:st.nx < s.nx:=h1 rfl; simp only at h ⊢; split
  ·rename_i hk
   rw [if_pos hk] at h; split
   ·rename_i ho; rw [ho] at h; cases h
   ·rename_i op sw ho
    have h3:=(xl ts op sw a (am s)).1.nx; have:(am s).nx=s.nx+1:=rfl; omega
  ·rename_i hk; rw [if_neg hk] at h; cases h
def LOk (L:Nat) (q:List Lt × List Ru):Prop:=(∀ x∈q.1,x.args.length<=L+3)/\∀ r∈q.2,r.body.length<=5/\∀ x∈r.body,x.args.length<=L+3
theorem kG:∀ (seen:List (List UInt8)) (l:List Tm),(dg seen l).length<=l.length
 | _,[]=>zM _
 | seen,t::l=>by
  unfold dg; split
  ·have:=kG seen l; simp; omega
  ·have:=kG (t.var::seen) l; simp; omega
theorem lJ (rel:List UInt8) (l:Lt) (ts:List Tm):(bq rel l ts).args.length<=ts.length+l.args.length:=by
 show (ts++dg [[],[95]] l.args).length<=_; have:=kG [[],[95]] l.args; rw [zQ]; omega
theorem ui {L:Nat} (y x:Tm) (rel:List UInt8) (l:Lt) (b:Bool) (a:Tm) (h:l.args.length<=L+1):LOk L (eN y x rel l b a):=by
 have h1:=lJ rel l [a]; simp only [zT,z_] at h1; refine ⟨fun q hq=>?_,fun r hr=>?_⟩
 ·simp [eN] at hq; subst hq; show (bq rel l [a]).args.length<=_; omega
 ·simp [eN] at hr; subst hr
  refine ⟨by show 3<=5; decide,fun q hq=>?_⟩; simp at hq; rcases hq with rfl | rfl | rfl
  ·show 2<=L+3; omega
  ·show l.args.length+1<=L+3; omega
  ·cases b <;> (show 2<=L+3; omega)
theorem tN {L:Nat} (x y z w:Tm) (rel:List UInt8) (l m:Lt) (a:Tm) (h:l.args.length<=L+1) (h2:m.args.length<=L+1):LOk L (eJ x y z w rel l m a):=by
 have h1:=lJ rel m [x,a]; simp only [zT,z_] at h1; refine ⟨fun q hq=>?_,fun r hr=>?_⟩
 ·simp [eJ] at hq
  rcases hq with rfl | rfl | rfl
  ·show l.args.length+1<=L+3; omega
  ·show 2<=L+3; omega
  ·show (bq rel m [x,a]).args.length<=_; omega
 ·simp [eJ] at hr; subst hr
  refine ⟨by show 5<=5; decide,fun q hq=>?_⟩; simp at hq; rcases hq with rfl | rfl | rfl | rfl | rfl
  ·show m.args.length+1<=L+3; omega
  all_goals (show 2<=L+3; omega)
theorem qO (ts:List Tw) (st:PSt) (h:(aY ts st).1.isSome=true):st.nx < (aY ts st).2.nx:=by
 unfold aY at h ⊢; by_cases h0:(bN ts st).1.2=true
 ·rw [if_pos h0] at h ⊢
  have hr:st.nx < (bN ts st).2.nx:=by
   unfold bN at h0 ⊢; split at h0
   ·rename_i hc; rw [if_pos hc,iF _ _ _ h0]; show st.nx < st.nx+1+1; omega
   ·cases h0
  by_cases h1:isP ts (bN ts st).2 4 [41]=true
  ·rw [if_pos h1]; exact Nat.lt_succ_of_lt hr
  ·rw [if_neg h1] at h ⊢
   have h2:=jA ts (ts.length+1) (bN ts st).2 []; generalize bW ts (ts.length+1) (bN ts st).2 []=r at *; obtain ⟨o,s⟩:=r
   cases o with
   | none=>cases h
   | some al =>
    have h3:=h2.nx; simp only at h3 h ⊢; split
    ·show st.nx < s.nx+1; omega
    ·show st.nx < s.nx; omega
 ·rw [if_neg h0] at h; cases h
theorem sN (ts:List Tw) (st:PSt) (hst:st.nx<=ts.length):Gr ts.length (ts.length+1) st (eM ts st).1.isSome (eM ts st).2/\∀ q,(eM ts st).1=some q->LOk ts.length (q,[]):=by
 unfold eM; have h:=d8 ts st hst; generalize aY ts st=r at *; obtain ⟨o,s⟩:=r
 cases o with
 | none=>exact ⟨h.1.weak (by omega),fun q e=>by cases e⟩
 | some l =>
  have hl:=h.2 l rfl; have h2:=ll ts s; simp only; generalize cW ts s=r at *; obtain ⟨o,s2⟩:=r
  cases o with
  | none=>exact ⟨(h.1.trans0 h2).weak (by omega),fun q e=>by cases e⟩
  | some x =>
   obtain ⟨b,a⟩:=x; refine ⟨(h.1.trans0 h2).trans0 (e9 ts s2),fun q e=>?_⟩; cases e; refine ⟨fun q hq=>?_,fun r hr=>by cases hr⟩; simp at hq; rcases hq with rfl | rfl
   ·show l.args.length+1<=_; omega
   ·cases b <;> (show 2<=_; omega)
theorem pS (ts:List Tw) (st:PSt) (hst:st.nx<=ts.length):Gr ts.length (4 * (ts.length+1)) st (dN ts st).1.isSome (dN ts st).2/\∀ q,(dN ts st).1=some q->LOk ts.length q:=by
 unfold dN; have h:=d8 ts st hst; generalize aY ts st=r at *; obtain ⟨o,s⟩:=r
 cases o with
 | none=>exact ⟨h.1.weak (by omega),fun q e=>by cases e⟩
 | some l =>
  have hl:=h.2 l rfl; have h2:=ll ts s; simp only; generalize cW ts s=r at *; obtain ⟨o,s2⟩:=r
  cases o with
  | none=>exact ⟨(h.1.trans0 h2).weak (by omega),fun q e=>by cases e⟩
  | some x =>
   obtain ⟨b,a⟩:=x; have g1:=e9 ts s2; have g2:=e9 ts (aq ts s2).2; have g3:=nT ts (aq ts (aq ts s2).2).2; refine ⟨((h.1.trans0 h2).trans0 ((g1.trans g2).trans g3)).weak (by omega),fun q e=>?_⟩; cases e; exact ui _ _ _ _ _ _ hl
theorem px (ts:List Tw) (st:PSt) (hst:st.nx<=ts.length):Gr ts.length (4 * (ts.length+1)) st (dJ ts st).1.isSome (dJ ts st).2/\∀ q,(dJ ts st).1=some q->LOk ts.length q:=by
 unfold dJ; have h:=d8 ts st hst; generalize aY ts st=r at *; obtain ⟨o,s⟩:=r
 cases o with
 | none=>exact ⟨h.1.weak (by omega),fun q e=>by cases e⟩
 | some l =>
  have hl:=h.2 l rfl; simp only; split
  ·rename_i hz
   have h1:=h.1.trans0 (Gr.next (cT (by decide) hz)); have h2:=d8 ts (am s) (h1.top hst); generalize aY ts (am s)=r at *; obtain ⟨o,s2⟩:=r
   cases o with
   | none=>exact ⟨(h1.trans0 h2.1).weak (by omega),fun q e=>by cases e⟩
   | some m =>
    have hm:=h2.2 m rfl; unfold jn; simp only; split
    ·rename_i hz2
     have h3:=(h1.trans0 h2.1).trans0 (Gr.next (cT (by decide) hz2)); have h4:=gg ts (am s2); generalize aT ts (am s2)=r at *; obtain ⟨o,s3⟩:=r
     cases o with
     | none=>exact ⟨(h3.trans0 h4).weak (by omega),fun q e=>by cases e⟩
     | some a =>
      have g1:=e9 ts s3; have g2:=e9 ts (aq ts s3).2; have g3:=e9 ts (aq ts (aq ts s3).2).2; have g4:=e9 ts (aq ts (aq ts (aq ts s3).2).2).2; have g5:=nT ts (aq ts (aq ts (aq ts (aq ts s3).2).2).2).2; have g5':Gr ts.length 0 (aq ts (aq ts (aq ts (aq ts s3).2).2).2).2 true (aq ts (aq ts (aq ts (aq ts s3).2).2).2).2:=Gr.refl _; have gv:=((g1.trans g2).trans g3).trans g4; refine ⟨(h3.trans0 h4).trans0 ⟨zM _,?_,?_,fun _=>rfl,fun h=>Bool.noConfusion h,fun h=>h⟩,fun q e=>?_⟩
      ·show (aq ts (aq ts (aq ts (aq ts s3).2).2).2).2.vars<=s3.vars+4 * (ts.length+1)
       have:=gv.vars; omega
      ·show (bg ts (aq ts (aq ts (aq ts (aq ts s3).2).2).2).2).2.rels<=s3.rels+_
       have:=(g9 ts (aq ts (aq ts (aq ts (aq ts s3).2).2).2).2).1; have e:(aq ts (aq ts (aq ts (aq ts s3).2).2).2).2.rels=s3.rels:=rfl; omega
      ·cases e
       exact tN _ _ _ _ _ _ _ _ hl hm
    ·exact ⟨((h1.trans0 h2.1).trans0 (Gr.fail _)).weak (by omega),fun q e=>by cases e⟩
  ·exact ⟨(h.1.trans0 (Gr.fail _)).weak (by omega),fun q e=>by cases e⟩
theorem js (ts:List Tw) (st:PSt) (hst:st.nx<=ts.length):Gr ts.length (4 * (ts.length+1)) st (bx ts st).1.isSome (bx ts st).2/\∀ q,(bx ts st).1=some q->LOk ts.length q:=by
 have hE:∀ (f:Lt->Lt) (r:Option Lt × PSt) (hf:∀ l,(f l).args=l.args) (h:Gr ts.length 0 st r.1.isSome r.2) (ha:∀ l,r.1=some l->l.args.length<=ts.length+3),Gr ts.length (4 * (ts.length+1)) st (gw f r).1.isSome (gw f r).2/\∀ q,(gw f r).1=some q->LOk ts.length q:=by
  intro f r hf h ha; obtain ⟨o,s⟩:=r
  cases o with
  | none=>exact ⟨h.weak (by omega),fun q e=>by cases e⟩
  | some l =>
   refine ⟨h.weak (by omega),fun q e=>?_⟩; cases e; exact ⟨fun x hx=>by simp at hx; subst hx; rw [hf]; exact ha l rfl,fun r hr=>by cases hr⟩
 unfold bx; split
 ·rename_i h
  have h0:=Gr.next (L:=ts.length) (a:=st) (cT (by decide) h); have g:=d8 ts (am st) (h0.top hst)
  exact hE neg _ (fun _=>rfl) (h0.trans0 g.1) fun l e=>by have:=g.2 l e; omega
 ·split
  ·rename_i h
   have h0:=Gr.next (L:=ts.length) (a:=st) (cT (by decide) h); have g:=sN ts (am st) (h0.top hst); generalize eM ts (am st)=r at *; obtain ⟨o,s⟩:=r
   cases o with
   | none=>exact ⟨(h0.trans0 g.1).weak (by omega),fun q e=>by cases e⟩
   | some q=>exact ⟨(h0.trans0 g.1).weak (by omega),fun q2 e=>by cases e; exact g.2 q rfl⟩
  ·split
   ·rename_i h
    have h0:=Gr.next (L:=ts.length) (a:=st) (cT (by decide) h); have g:=pS ts (am st) (h0.top hst); exact ⟨h0.trans0 g.1,g.2⟩
   ·split
    ·rename_i h
     have h0:=Gr.next (L:=ts.length) (a:=st) (cT (by decide) h); have g:=px ts (am st) (h0.top hst); exact ⟨h0.trans0 g.1,g.2⟩
    ·split
     ·have g:=d8 ts st hst
      exact hE id _ (fun _=>rfl) g.1 fun l e=>by have:=g.2 l e; omega
     ·have g:=ng ts st
      exact hE id _ (fun _=>rfl) g.1 fun l e=>by have:=g.2 l e; omega
theorem oQ {f:Lt->Lt} {r:Option Lt × PSt} {n:Nat} (h:r.1.isSome=true->n < r.2.nx):(gw f r).1.isSome=true->n < (gw f r).2.nx:=by
 obtain ⟨o,s⟩:=r
 cases o with
 | none=>intro e; cases e
 | some l=>intro _; exact h rfl
theorem iG (ts:List Tw) (st:PSt) (hst:st.nx<=ts.length) (h:(bx ts st).1.isSome=true):st.nx < (bx ts st).2.nx:=by
 unfold bx at h ⊢
 have hn:∀ k s,k≠0->isP ts st k s=true->(am st).nx<=ts.length:=fun k s hk hz=>cT hk hz
 split
 ·rename_i hz; rw [if_pos hz] at h
  exact oQ (fun h=>Nat.lt_trans (Ag _) (qO ts (am st) h)) h
 ·rename_i h1; rw [if_neg h1] at h
  split
  ·rename_i hz
   have g:=(sN ts (am st) (hn _ _ (by decide) hz)).1.nx; exact zS (Ag _) g
  ·rename_i h2; rw [if_neg h2] at h
   split
   ·rename_i hz
    exact zS (Ag _) (pS ts (am st) (hn _ _ (by decide) hz)).1.nx
   ·rename_i h3; rw [if_neg h3] at h
    split
    ·rename_i hz
     exact zS (Ag _) (px ts (am st) (hn _ _ (by decide) hz)).1.nx
    ·rename_i h4; rw [if_neg h4] at h
     split
     ·rename_i h5; rw [if_pos h5] at h; exact oQ (qO ts st) h
     ·rename_i h5; rw [if_neg h5] at h; exact oQ (mQ ts st) h
end Go.Proofs.YtffdpoifdahadaaGreatDoor
namespace Go.Proofs.YtffdpoifdahadaaGreatDoor
open Go.RowKit
open Go.Lib (hid itoa)
theorem tR {S:aP} {w:World} {A R:List RuD} {r:RuD} {v:Value} (h:aO 27 7 RuR S w (A++r::R) v) (hn:((A++r::R).flatMap RuD.ids).Nodup) :
  ∃ g mc ab cb,v=.slice (some ⟨g,0,none⟩) (A.length+(R.length+1)) mc/\w.cell? ⟨g,A.length * 7+6,none⟩=some (.slice ab r.body.length cb)/\aO 24 4 LdR S w r.body (.slice ab r.body.length cb)/\(ct r.body).Nodup /\
   ∀ W,Fr (fun q=>q∈ct r.body\/w.heap.size<=q) w W->aO 24 4 LdR S W (fp 0 r.body) (.slice ab r.body.length cb) ->
    aO 27 7 RuR S W (A++⟨r.head,r.agg,r.at_,r.bb,fp 0 r.body⟩::R) v:=by
 have hlen:(A++r::R).length=A.length+(R.length+1):=by simp
 have hlt:=jR h; obtain ⟨xs,h1,h2,h3⟩:=h; rcases h1.2 with ⟨rfl,h0⟩ | ⟨g,cap,cur,rfl,_,hg,hnc,_,_,_⟩
 ·simp at h0
 ·have hgl:=ae hg
  obtain ⟨cs,k1,hv,bv,rfl,e1,ho,e2,hbd⟩:=h3 A.length r (by rw [Ab (zM _),Nat.sub_self]; rfl); obtain ⟨ab,cb,rfl,-,-⟩:=hbd.slice; rw [List.flatMap_append,List.flatMap_cons,List.nodup_append,List.nodup_append] at hn; obtain ⟨hnA,⟨hnr,hnR,hrR⟩,hAr⟩:=hn; have hnr0:=hnr; unfold RuD.ids at hnr; rw [List.nodup_append,List.nodup_append] at hnr; obtain ⟨hnh,⟨hnb,hni,hbi⟩,hhb⟩:=hnr
  have hidg:∀ k∈ct r.body,S k/\k≠g:=fun k hk=>⟨(lm hbd k hk).1,fun e=>(lm hbd k hk).2 (by rw [e]; rfl)⟩
  refine ⟨g,cap,ab,cb,by rw [hlen],?_,hbd.mono df fun k _ hk=>hk.1,hni,fun W hf hW=>?_⟩
  ·have hl6:A.length * 7+6 < (A++r::R).length * 7:=by rw [hlen]; omega
   rw [h1.cellAt _ hl6]; exact k1 6 _ rfl
  ·have hgW:W.heap[g]? = w.heap[g]?:=hf.block g hgl (fun e=>by rcases e with e | e; exact (hidg g e).2 rfl; omega)
   have hlen2:(A++(⟨r.head,r.agg,r.at_,r.bb,fp 0 r.body⟩:RuD)::R).length=(A++r::R).length:=by simp
   have hmv:∀ k,(Value.slice (some ⟨g,0,none⟩) (A++r::R).length cap).ownBlock=some k->W.heap[k]? = w.heap[k]?:=fun k hk=>by
    (have e0:g=k:=by injection hk);rw [← e0]; exact hgW
   refine ⟨xs,by rw [hlen2]; exact aJ h1 hmv (fun _ _=>zW _),h2,fun i x hx=>?_⟩; by_cases e:i=A.length
   ·subst e
    rw [Ab (zM _),Nat.sub_self] at hx; injection hx with hx; subst hx; refine ⟨_,k1,hv,.slice ab r.body.length cb,rfl,e1,?_,e2,?_⟩
    ·refine (ka ho).move aD fun k hk hk2=>⟨hk2.1,hf.block k hk (fun e=>?_)⟩
     rcases e with e | e
     ·exact hhb k (by rw [← e1,hk2.2]; simp) k (List.mem_append.2 (Or.inr e)) rfl
     ·omega
    ·refine (n7 hW).mono df fun k hk hk2=>?_
     rcases hk2.2 with e | e
     ·exact ⟨hk2.1,(fy hbd e).2⟩
     ·rw [mi] at e
      exact ⟨hk2.1,fun e2=>(hidg k e).2 (by simp [Value.ownBlock] at e2; exact e2.symm)⟩
   ·have hx2:(A++r::R)[i]? = some x:=by
     rcases Nat.lt_or_gt_of_ne e with h | h
     ·rw [Aa h] at hx ⊢; exact hx
     ·rw [Ab (by omega)] at hx ⊢
      obtain ⟨m,hm⟩:∃ m,i - A.length=m+1:=⟨i - A.length - 1,by omega⟩; rw [hm] at hx ⊢; exact hx
    obtain ⟨ds,q1,q2⟩:=h3 i x hx2; refine ⟨ds,q1,bS.move (lY q2) fun k hk hk2=>⟨hk2.1,hf.block k hk (fun ek=>?_)⟩⟩; rcases ek with ek | ek
    ·have hkr:k∈r.ids:=by unfold RuD.ids; simp [ek]
     rcases Nat.lt_or_gt_of_ne e with h | h
     ·rw [Aa h] at hx2
      exact hAr k (List.mem_flatMap.2 ⟨x,zU hx2,hk2.2⟩) k (List.mem_append.2 (Or.inl hkr)) rfl
     ·rw [Ab (by omega)] at hx2
      obtain ⟨m,hm⟩:∃ m,i - A.length=m+1:=⟨i - A.length - 1,by omega⟩; rw [hm] at hx2; exact hrR k hkr k (List.mem_flatMap.2 ⟨x,zU (show R[m]? = some x from hx2),hk2.2⟩) rfl
    ·omega
theorem yd (r:RuD):(⟨r.head,r.agg,r.at_,r.bb,fp 0 r.body⟩:RuD).ids=r.ids:=by
 unfold RuD.ids; rw [show (⟨r.head,r.agg,r.at_,r.bb,fp 0 r.body⟩:RuD).body=fp 0 r.body from rfl,mi]
theorem zn (r:RuD):(⟨r.head,r.agg,r.at_,r.bb,fp 0 r.body⟩:RuD).ru=eF r.ru:=by
 show (⟨r.head.2,r.agg,r.at_,(fp 0 r.body).map (·.2)⟩:Ru)=⟨r.head.2,r.agg,r.at_,g7 0 (r.body.map (·.2))⟩; rw [pP]
theorem da.tabB {pb:Nat} {w0 W:World} (h:da pb w0) (hf:Fr (one pb) w0 W):nk w0.heap.size W:=by
 obtain ⟨g,cs,t,f,h1,h2,h3,h4⟩:=h; exact ⟨g,cs,t,f,h1,aL h3,(hf.block g (aL h3) (fun e=>h2 e)).trans h3,h4⟩
theorem xN {l:List (Option Nat × Lt)} {m:Nat} (h:∀ x∈l,x.2.args.length<=m):oz l<=l.length * m:=by
 unfold oz
 induction l with
 | nil=>simp
 | cons x l ih =>
  have h1:=h x (by simp)
  have h2:=ih fun y hy=>h y (by simp [hy])
  simp only [List.map_cons,List.sum_cons,zT,Nat.succ_mul]; omega
def hdRu (x:Hd):Ru:=⟨⟨0,false,x.rel,x.args⟩,x.agg,x.at_,[]⟩
theorem yu {pb rb:Nat} {K:PK} {st:PSt} {x:Hd} {w0 w:World} (h:HM pb rb 0 K st x w0 w):∃ r:RuD,r.ru=hdRu x/\r.ids.Nodup/\r.body=[]/\aO 27 7 RuR (aF w0.heap.size) w [r] (.slice (some ⟨rb,0,none⟩) 1 1):=by
 obtain ⟨a,c,h1,h2⟩:=h.row; have h0:=h.h0; refine ⟨⟨(Value.ownBlock (.slice a x.args.length c),⟨0,false,x.rel,x.args⟩),x.agg,x.at_,none,[]⟩,rfl,?_,rfl,?_⟩
 ·unfold RuD.ids
  show ((Value.ownBlock (.slice a x.args.length c)).toList++([]++[])).Nodup; cases Value.ownBlock (.slice a x.args.length c) <;> simp
 ·refine iZ bS (xs:=(l8 x.rel (.slice a x.args.length c) x.agg x.at_ (.slice none 0 0)).toList) h1 rfl rfl (by decide) h0 fun i y hy=>?_
  match i,hy with
  | 0,hy =>
   injection hy with hy; subst hy; refine ⟨(l8 x.rel (.slice a x.args.length c) x.agg x.at_ (.slice none 0 0)).toList,fun j u hu=>by simpa using hu,?_⟩; exact (show ∃ hv bv,_ from ⟨.slice a x.args.length c,.slice none 0 0,rfl,rfl,h2.mono aD fun k hk hk2=>⟨by unfold aF; omega,by omega⟩,rfl,aO.nil _ _ _ _ _⟩)
abbrev aG (rv:Value) (op:Int) (nt:Bool) (rel:List UInt8) (av:Value):Array Value:=#[rv,iv op,.bool nt,sv rel,av]
def PQ (pb:Nat) (K:PK) (w:World) (r:Option Qu × PSt) (e:Ending) (w':World):Prop :=
 PM pb K r.2 w'/\Fr (one pb) w w'/\match r.1 with
 | some q=>∃ rv av zs,e=.returned (.agg (aG rv q.goal.op q.goal.nt q.goal.rel av))/\aO 27 7 RuR (aF w.heap.size) w' zs rv/\zs.map RuD.ru=q.rules/\aO 63 7 FlR (aF w.heap.size) w' q.goal.args av
 | none=>e=.returned (.agg (aG (.slice none 0 0) 0 false [] (.slice none 0 0)))
structure QM (pb:Nat) (K:PK) (st:PSt) (w:World) (RB QB:Nat) (zs:List RuD) (wr:World):Prop where
 base:∃ s,PM pb K s w
 pm:PM pb K st wr
 fr:Fr (one pb) w wr
 res:wr.heap[RB]? = some (.cells (aG (.slice none 0 0) 0 false [] (.slice none 0 0)) 32 (0,0))
 q:∃ a c,wr.heap[QB]? = some (.cells (aG (.slice a zs.length c) 0 false [] (.slice none 0 0)) 32 (0,0))/\aO 27 7 RuR (fun k=>QB < k) wr zs (.slice a zs.length c)
 h0:w.heap.size<=RB
 h1:RB < QB
section
variable {pb RB QB:Nat} {K:PK} {st st':PSt} {w wr w':World} {zs:List RuD}
theorem QM.pbl (h:QM pb K st w RB QB zs wr):pb < w.heap.size:=by obtain ⟨s,hs⟩:=h.base; exact hs.lt
theorem QM.call (h:QM pb K st w RB QB zs wr) (hp:PM pb K st' w') (hf:Fr (one pb) wr w'):QM pb K st' w RB QB zs w':=by
 have e0:=h.pbl; have e1:=h.h0; have e2:=h.h1; obtain ⟨a,c,h3,h4⟩:=h.q; refine ⟨h.base,hp,h.fr.trans hf,(hf.block _ (ae h.res) (by unfold one; omega)).trans h.res,⟨a,c,(hf.block _ (ae h3) (by unfold one; omega)).trans h3,h4.fr bS hf (fun q hq e=>by unfold one at e; omega)⟩,e1,e2⟩
theorem QM.below (h:QM pb K st w RB QB zs wr) (hb:Below wr.heap.size wr w'):QM pb K st w RB QB zs w':=h.call (h.pm.below hb) (Fr.of_below hb (one pb))
theorem QM.push (h:QM pb K st w RB QB zs wr) {N0:Nat} {m:List RuD} {vs:Value} (hm:aO 27 7 RuR (aF N0) wr m vs) (hN:QB < N0) (hq:∀ a c,wr.heap[QB]? = some (.cells (aG (.slice a zs.length c) 0 false [] (.slice none 0 0)) 32 (0,0))->∀ k,(Value.slice a zs.length c).ownBlock=some k->k < N0) (hl:zs.length+m.length<=1048576) :
  ∃ av cv a c W,wr.cell? ⟨QB,0,none⟩=some (.slice av zs.length cv)/\cH Tryz.prog 30 30 30 (.slice av zs.length cv) vs (.slice a (zs.length+m.length) c) wr W/\W.frozen? ⟨QB,0,none⟩=false/\(∃ u,W.cell? ⟨QB,0,none⟩=some u)/\(W.setCell ⟨QB,0,none⟩ (.slice a (zs.length+m.length) c)).cell? ⟨QB,0,none⟩=some (.slice a (zs.length+m.length) c) /\
   QM pb K st w RB QB (zs++m) (W.setCell ⟨QB,0,none⟩ (.slice a (zs.length+m.length) c)):=by
 have e0:=h.pbl; have e1:=h.h0; have e2:=h.h1; obtain ⟨av,cv,h3,h4⟩:=h.q; have hq:=hq av cv h3; have hQl:=ae h3; obtain ⟨a,c,W,run,hO,hF,hvv⟩:=nG h4 hm (fun q hq=>by omega) (fun q hq2=>⟨by unfold aF at hq2; omega,fun e=>by have:=hq q e; unfold aF at hq2; omega⟩) hl
 have hob:∀ q,(Value.slice av zs.length cv).ownBlock=some q->QB < q:=fun q hq=>fy h4 hq
 have hQW:W.heap[QB]? = _:=(hF.block QB hQl (fun e=>by have:=hob QB e; omega)).trans h3; have hset:=aC hQW (i:=0) (.slice a (zs.length+m.length) c); have hFs:Fr (fun q=>QB<=q) wr (W.setCell ⟨QB,0,none⟩ (.slice a (zs.length+m.length) c)):=(hF.mono (fun k hk e=>Nat.le_of_lt (hob k e))).setCell (p:=⟨QB,0,none⟩) (Or.inl (zM QB)) _; have hfw:Fr (one pb) w (W.setCell ⟨QB,0,none⟩ (.slice a (zs.length+m.length) c)):=h.fr.trans' hFs (fun _ x=>x) (fun k hk e=>by omega); obtain ⟨s0,hs0⟩:=h.base; refine ⟨av,cv,a,c,W,(aj (i:=0) h3).trans rfl,run,bX hQW,⟨_,(aj (i:=0) hQW).trans rfl⟩,(aj (i:=0) hset).trans rfl,h.base,hs0.base hfw h.pm (hFs.block pb h.pm.lt (by omega)),hfw,(hFs.block RB (ae h.res) (by omega)).trans h.res,⟨a,c,?_,?_⟩,e1,e2⟩
 ·rw [zQ]; exact hset
 ·rw [zQ]; exact hO.move bS fun k hk hk2=>⟨hk2,ak _ (by omega)⟩
end
theorem PM.setErr {pb:Nat} {K:PK} {st:PSt} {w:World} (h:PM pb K st w) (e:Int) (i:Nat):PM pb K { st with err:=some (e,i) } ((w.setCell ⟨pb,6,none⟩ (iv e)).setCell ⟨pb,7,none⟩ (iv (K.pos i))) :=
 h.turn (fun q hq=>(ak _ hq).trans (ak _ hq)) (by have a0:=aC h.blk (i:=6) (iv e); exact aC a0 (i:=7) (iv (K.pos i))) h.nx
theorem i7 {C a b v v':Nat} (h:v<=C * a) (h1:v'<=v+0) (h2:a<=b):v'<=C * b:=zV h1 (zV h (Nat.mul_le_mul_left C h2))
theorem pT {C a b v v':Nat} (h:v<=C * a) (h1:v'<=v+C) (h2:a < b):v'<=C * b:=by
 have h3:C * (a+1)<=C * b:=Nat.mul_le_mul_left C h2; rw [Nat.mul_succ] at h3; omega
theorem HM.start {pb:Nat} {K:PK} {st:PSt} {w:World} (h:PM pb K st w):HM pb w.heap.size 0 K st ⟨[],[],0,0⟩ w (w.alloc (.cells #[.int .i64 0,.bool false,.string ⟨#[]⟩,.slice none 0 0,.int .i64 0,.int .i64 0,.slice none 0 0] 27)):=by
 have b1:=(zN w.heap.size w).alloc (zM _) (.cells #[.int .i64 0,.bool false,.string ⟨#[]⟩,.slice none 0 0,.int .i64 0,.int .i64 0,.slice none 0 0] 27); exact ⟨⟨st,h⟩,h.below b1,Fr.of_below b1 _,⟨none,0,af _ _,aO.nil _ _ _ _ _⟩,zM _,h.lt⟩
abbrev setG (w:World) (R:Nat) (op:Int) (nt:Bool) (rel:List UInt8) (v:Value):World:=(((w.setCell ⟨R,1,none⟩ (iv op)).setCell ⟨R,2,none⟩ (.bool nt)).setCell ⟨R,3,none⟩ (sv rel)).setCell ⟨R,4,none⟩ v
abbrev setQ (w:World) (R:Nat) (rv:Value) (op:Int) (nt:Bool) (rel:List UInt8) (v:Value):World:=setG (w.setCell ⟨R,0,none⟩ rv) R op nt rel v
theorem cg {w:World} {R:Nat} {rv:Value} {op:Int} {nt:Bool} {rel:List UInt8} {v:Value} (h:w.heap[R]? = some (.cells (aG rv op nt rel v) 32 (0,0))):w.cell? ⟨R,0,none⟩=some rv/\w.cell? ⟨R,1,none⟩=some (iv op)/\w.cell? ⟨R,2,none⟩=some (.bool nt)/\w.cell? ⟨R,3,none⟩=some (sv rel)/\w.cell? ⟨R,4,none⟩=some v/\∀ i,w.frozen? ⟨R,i,none⟩=false :=
 ⟨(aj (i:=0) h).trans rfl,(aj (i:=1) h).trans rfl,(aj (i:=2) h).trans rfl,(aj (i:=3) h).trans rfl,(aj (i:=4) h).trans rfl,fun i=>bX h⟩
theorem fU {w:World} {R k:Nat} {op:Int} {nt:Bool} {rel:List UInt8} {v:Value} (h:k≠R):(setG w R op nt rel v).heap[k]? = w.heap[k]? :=
 (ak _ h).trans <| (ak _ h).trans <| (ak _ h).trans (ak _ h)
theorem eX {w:World} {R k:Nat} {rv:Value} {op:Int} {nt:Bool} {rel:List UInt8} {v:Value} (h:k≠R):(setQ w R rv op nt rel v).heap[k]? = w.heap[k]?:=(fU h).trans (ak _ h)
theorem pA {w:World} {R:Nat} {rv:Value} {o0:Int} {n0:Bool} {r0:List UInt8} {v0:Value} (h:w.heap[R]? = some (.cells (aG rv o0 n0 r0 v0) 32 (0,0))) (op:Int) (nt:Bool) (rel:List UInt8) (v:Value):(setG w R op nt rel v).heap[R]? = some (.cells (aG rv op nt rel v) 32 (0,0)):=by
 have a0:=aC h (i:=1) (iv op); have a1:=aC a0 (i:=2) (.bool nt); have a2:=aC a1 (i:=3) (sv rel); have a3:=aC a2 (i:=4) v; simpa using a3
theorem iB {w:World} {R:Nat} {rv0:Value} {o0:Int} {n0:Bool} {r0:List UInt8} {v0:Value} (h:w.heap[R]? = some (.cells (aG rv0 o0 n0 r0 v0) 32 (0,0))) (rv:Value) (op:Int) (nt:Bool) (rel:List UInt8) (v:Value):(setQ w R rv op nt rel v).heap[R]? = some (.cells (aG rv op nt rel v) 32 (0,0)):=by
 have a0:=aC h (i:=0) rv; exact pA (rv:=rv) (by simpa using a0) op nt rel v
theorem Fr.setG {S:Nat->Prop} {a w:World} (h:Fr S a w) {R:Nat} (hR:a.heap.size<=R) (op:Int) (nt:Bool) (rel:List UInt8) (v:Value):Fr S a (setG w R op nt rel v) :=
 (((h.setCell (p:=⟨R,1,none⟩) (Or.inr hR) _).setCell (p:=⟨R,2,none⟩) (Or.inr hR) _).setCell (p:=⟨R,3,none⟩) (Or.inr hR) _).setCell (p:=⟨R,4,none⟩) (Or.inr hR) _
theorem Fr.setQ {S:Nat->Prop} {a w:World} (h:Fr S a w) {R:Nat} (hR:a.heap.size<=R) (rv:Value) (op:Int) (nt:Bool) (rel:List UInt8) (v:Value):Fr S a (setQ w R rv op nt rel v):=(h.setCell (p:=⟨R,0,none⟩) (Or.inr hR) rv).setG hR op nt rel v
theorem QM.fin {pb RB QB:Nat} {K:PK} {st:PSt} {w wr:World} {zs:List RuD} (h:QM pb K st w RB QB zs wr) (rv:Value) (op:Int) (nt:Bool) (rel:List UInt8) (v:Value):PM pb K st (setQ wr RB rv op nt rel v)/\Fr (one pb) w (setQ wr RB rv op nt rel v)/\(setQ wr RB rv op nt rel v).heap[RB]? = some (.cells (aG rv op nt rel v) 32 (0,0)):=by
 have e0:=h.pbl; have e1:=h.h0; obtain ⟨s0,hs0⟩:=h.base; have hF:=h.fr.setQ e1 rv op nt rel v; exact ⟨hs0.base hF h.pm (eX (by omega)),hF,iB h.res rv op nt rel v⟩
theorem ym {S:aP} {w:World} {x:Option Nat × Lt} {a:Option Addr} {n c:Nat} (h:aO 24 4 LdR S w [x] (.slice a n c)) :
  ∃ gb aa ca,a=some ⟨gb,0,none⟩/\n=1/\gb < w.heap.size/\S gb/\w.cell? ⟨gb,0,none⟩=some (iv x.2.op)/\w.cell? ⟨gb,1,none⟩=some (.bool x.2.nt)/\w.cell? ⟨gb,2,none⟩=some (sv x.2.rel)/\w.cell? ⟨gb,3,none⟩=some (.slice aa x.2.args.length ca)/\aO 63 7 FlR S w x.2.args (.slice aa x.2.args.length ca):=by
 obtain ⟨xs,h1,h2,h3⟩:=h; obtain ⟨cs,k1,v1,rfl,ho,hw⟩:=h3 0 x rfl; obtain ⟨aa,ca,rfl,-⟩:=hw.slice; rcases h1.2 with ⟨e,h0⟩ | ⟨gb,capb,curb,e,_,hgb,_,_,_,_⟩
 ·simp at h0
 ·injection e with e1 e2 e3
  subst e1
  have hx:∀ j u,(ap x.2.op x.2.nt x.2.rel (.slice aa x.2.args.length ca)).toList[j]? = some u->w.cell? ⟨gb,j,none⟩=some u:=by
   intro j u hu; have hj:j < 4:=(List.getElem?_eq_some_iff.1 hu).1
   have hlt:j < [x].length * 4:=by simp; omega
   subst e2; rw [h1.cellAt _ hlt]; have:=k1 j u hu; simpa using this
  exact ⟨gb,aa,ca,rfl,e2,ae hgb,h2 gb rfl,hx 0 _ rfl,hx 1 _ rfl,hx 2 _ rfl,hx 3 _ rfl,hw.mono aD fun k _ hk=>hk.1⟩
def fw (ts:List Tw) (f:Nat) (rules:List Ru) (n:Nat):Option (List Ru) × PSt->Option Qu × PSt
 | (none,s)=>(none,s)
 | (some rs,s)=>if 64 < (rules++rs).length then (none,{ s with err:=some (3,n) }) else cR ts f s (rules++rs)
theorem kt (ts:List Tw) (f:Nat) (st:PSt) (rules:List Ru):cR ts (f+1) st rules=if isP ts st 4 [63]=true then j7 ts rules (aY ts (am st)) else fw ts f rules st.nx (fC ts st):=by
 rw [cR]; split
 ·rfl
 ·generalize fC ts st=r
  obtain ⟨o,s⟩:=r; cases o <;> rfl
def sH (ts:List Tw):Option Hd × PSt->Option (List Ru) × PSt
 | (none,s)=>(none,s)
 | (some h,s1)=>io ts h (if isP ts s1 4 [58,45]=true then cp ts (ts.length+1) (am s1) [] [] else (some ([],[]),s1))
theorem lW (ts:List Tw) (st:PSt):fC ts st=sH ts (dC ts st):=by
 unfold fC; generalize dC ts st=r; obtain ⟨o,s⟩:=r; cases o <;> rfl
def wB (ts:List Tw) (f:Nat) (body:List Lt) (aux:List Ru):Option (List Lt × List Ru) × PSt->Option (List Lt × List Ru) × PSt
 | (none,s)=>(none,s)
 | (some (ls,au),s1)=>if isP ts s1 4 [44]=true then cp ts f (am s1) (body++ls) (aux++au) else (some (body++ls,aux++au),s1)
theorem mw (ts:List Tw) (f:Nat) (st:PSt) (body:List Lt) (aux:List Ru):cp ts (f+1) st body aux=wB ts f body aux (bx ts st):=by
 rw [cp]; generalize bx ts st=r; obtain ⟨o,s⟩:=r; cases o <;> rfl
theorem lX (ts:List Tw) (h:Hd) (body:List Lt) (aux:List Ru) (s:PSt):io ts h (some (body,aux),s)=if isP ts s 4 [46]=true then (some ((⟨⟨0,false,h.rel,h.args⟩,h.agg,h.at_,body⟩::aux).map eF),am s) else (none,bf s):=rfl
end Go.Proofs.YtffdpoifdahadaaGreatDoor
