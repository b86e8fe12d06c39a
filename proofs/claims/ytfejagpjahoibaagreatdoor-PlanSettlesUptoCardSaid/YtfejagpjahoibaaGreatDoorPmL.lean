/- PmL: PmD, PmL, in one text. -/
import Derived.Test.YtfejagpjahoibaaGreatDoorPmG
import Derived.Test.YtfejagpjahoibaaGreatDoorPmS
import Derived.Test.YtfejagpjahoibaaGreatDoorPmW
import Derived.Test.YtfejagpjahoibaaGreatDoorSlOf
import Derived.ArgAppend
set_option linter.unusedVariables false
set_option linter.unusedSimpArgs false
namespace Go.Proofs.YtfejagpjahoibaaGreatDoor
open Go.RowKit
open Go.Lib (hid)
section
variable {l:List Offer} {undo «do»:List Out} {clock turn:Int} {R:List (List UInt8)}
/-- the plan of Make, as Check gets it -/
noncomputable def madeP (x:Stl) (p:P4):Pln:=⟨p.st,p.re,p.co,listN (x.undo.length+x.do.length) (gN x).rows,listN (x.undo.length+x.do.length) (gN x).cols⟩
theorem best_to {x:Stl} (hB:StlB x):AsgTo x (fstF x).pick x.undo.length:=(asg_iff hB).1 (best_asg hB).1
theorem made_proves {x:Stl} (hN:StlN x) (hB:StlB x) (hn:x.undo.length+x.do.length≤31):ProvesP (g0 x) (weightF x (bestF x)).1 (listN (x.undo.length+x.do.length) (gN x).rows) (listN (x.undo.length+x.do.length) (gN x).cols):=by
 obtain ⟨hG,-⟩:=gN_bound hB hn (Nat.le_refl _); refine ⟨listN_len _ _,listN_len _ _,fun z hz=>?_,fun z hz=>?_,fun r c hr hc hv=>?_,?_⟩
 ·obtain ⟨r,hr,rfl⟩:=List.mem_map.1 hz
  exact hG.rows r
 ·obtain ⟨r,hr,rfl⟩:=List.mem_map.1 hz
  exact hG.cols r (by rw [(gk_ok hB (Nat.le_refl _)).2.1]; exact List.mem_range.1 hr)
 ·have hr':r < x.undo.length+x.do.length:=hr
  have hc':c < x.undo.length+x.do.length:=hc
  rw [listN_getD _ hr',listN_getD _ hc']; have:=(gN_full hB).fea r c (by rw [gN_n hB]; exact hr') (by rw [gN_n hB]; exact hc') (by rw [gN_V hB]; exact hv); rw [gN_V hB] at this; exact this
 ·unfold bestF
  rw [weight_st hN hB (best_to hB),(best_asg hB).2,Pl.sumN_list,Pl.sumN_list]; rfl
/-- Check accepts the plan of Make -/
theorem made_checked (h:prepE l undo «do» = 0) (hn:undo.length+«do».length≤31) {p:P4} (hp:planF (stlF l undo «do» clock turn R) (bestF (stlF l undo «do» clock turn R))=some p):CheckP l undo «do» clock turn R (madeP (stlF l undo «do» clock turn R) p):=by
 have hok:=okArg_of h; have hB:=stlF_b (clock:=clock) (turn:=turn) (R:=R) hok; have hK:=stlF_k (clock:=clock) (turn:=turn) (R:=R) hok; have hN:=stlF_n (l:=l) (undo:=undo) («do»:=«do») (clock:=clock) (turn:=turn) (R:=R); have hD:=stlF_d (clock:=clock) (turn:=turn) (R:=R) hok; have hpk:pickOf (stlF l undo «do» clock turn R) (madeP (stlF l undo «do» clock turn R) p).st=bestF (stlF l undo «do» clock turn R):=plan_picked hK hD (best_to hB) hp; refine ⟨h,p,?_,rfl,rfl,rfl,?_⟩
 ·rw [hpk]; exact hp
 ·rw [hpk]; exact made_proves hN hB hn
/-- what Check accepts is least -/
theorem checked_least {p:Pln} (h:CheckP l undo «do» clock turn R p):(∀ f,Pl.Asg (stlF l undo «do» clock turn R).op f→pWl p.st p.re p.co≤Pl.weightW (stlF l undo «do» clock turn R).op f)∧∃ f,Pl.Asg (stlF l undo «do» clock turn R).op f∧pWl p.st p.re p.co=Pl.weightW (stlF l undo «do» clock turn R).op f:=by
 obtain ⟨h0,q,hq,e1,e2,e3,hpv⟩:=h; have hok:=okArg_of h0; have hB:=stlF_b (clock:=clock) (turn:=turn) (R:=R) hok; have hW:=stlF_w (clock:=clock) (turn:=turn) (R:=R) hok; have hN:=stlF_n (l:=l) (undo:=undo) («do»:=«do») (clock:=clock) (turn:=turn) (R:=R)
 generalize stlF l undo «do» clock turn R=x at *
 obtain ⟨hl,hA⟩:=plan_asg hq
 have hpk:pickOf x p.st=listN x.undo.length fun r=>((pickOf x p.st)[r]?).getD (-1):=(listN_of hl).symm
 have hw:pWl p.st p.re p.co=Pl.weightW x.op fun r=>((pickOf x p.st)[r]?).getD (-1):=by
  have:=plan_w hN hB hW hA (p:=q) (by rw [← hpk]; exact hq); rw [← this,← e1,← e2,← e3]; rfl
 refine ⟨fun f hf=>?_,_,(asg_iff hB).2 hA,hw⟩; obtain ⟨p1,p2,p3,p4,p5,p6⟩:=hpv
 have hwt:(weightF x (pickOf x p.st)).1=pWl p.st p.re p.co:=by
  rw [hw]; rw [show weightF x (pickOf x p.st)=weightF x (listN x.undo.length fun r=>((pickOf x p.st)[r]?).getD (-1)) by rw [← hpk],weight_st hN hB hA]
 rw [← hwt,← p6]; have hge:=Pl.weight_ge (op_ok hB) (rows:=fun r=>p.rows.getD r 0) (cols:=fun c=>p.cols.getD c 0) p5 hf
 have sum_getD:∀ (L:List Int) n,L.length=n→Pl.sumN (fun r=>L.getD r 0) n=Pl.sumL L:=fun L n hn=>by
  rw [Pl.sumN_list]
  congr 1
  apply List.ext_getElem?; intro i; by_cases hi:i < n
  ·rw [List.getElem?_map,List.getElem?_range hi,List.getElem?_eq_getElem (by omega)]
   simp [List.getD_eq_getElem?_getD,List.getElem?_eq_getElem (show i < L.length by omega)]
  ·rw [List.getElem?_eq_none (by simp; omega),List.getElem?_eq_none (by omega)]
 rw [sum_getD p.rows (x.op.m+x.op.k) p1,sum_getD p.cols (x.op.m+x.op.k) p2] at hge; exact hge
end
/- one effect to undo, one to perform -/
theorem weight11 {o:Pl.Op} (hm:o.m=1) (hk:o.k=1) (f:Nat→Int):Pl.weightW o f=(if f 0 = -1 then o.drop 0 else o.amend 0 (f 0).toNat)+(if f 0=0 then 0 else o.give 0):=by
 unfold Pl.weightW; rw [hm,hk]
 have ht:Pl.takenB o f 0=decide (f 0=0):=by
  unfold Pl.takenB; rw [hm]; show (List.any [0] _)=_; simp
 show (0+(if f 0 = -1 then o.drop 0 else o.amend 0 (f 0).toNat))+(0+(if Pl.takenB o f 0=true then (0:Int) else o.give 0))=_; rw [ht]; by_cases e:f 0=0
 ·rw [decide_eq_true e,if_pos rfl,if_pos e]; omega
 ·rw [decide_eq_false e,if_neg (show ¬ (false=true) by simp),if_neg e]; omega
theorem best11 {x:Stl} (hB:StlB x) (hm:x.undo.length=1) (hk:x.do.length=1):bestF x=[(fstF x).pick 0]∧((fstF x).pick 0 = -1∨(fstF x).pick 0=0∧0≤x.op.amend 0 0):=by
 refine ⟨by unfold bestF; rw [hm]; rfl,?_⟩; rcases (best_asg hB).1.rng 0 (by show 0 < x.undo.length; omega) with e | ⟨c,h1,h2,h3⟩
 ·exact Or.inl e
 ·have:c=0:=by have:c < x.do.length:=h1; omega
  subst this; exact Or.inr ⟨h2,h3⟩
theorem best_no {x:Stl} (hB:StlB x) (hm:x.undo.length=1) (hk:x.do.length=1) (ha:x.amend 0 0=none):bestF x=[-1]:=by
 obtain ⟨h1,h2⟩:=best11 hB hm hk; rcases h2 with e | ⟨-,h3⟩
 ·rw [h1,e]
 ·have:=(op_amend_some hB 0 0).1 h3
  rw [ha] at this; cases this
theorem best_yes {x:Stl} (hB:StlB x) (hm:x.undo.length=1) (hk:x.do.length=1) (ha:0≤x.op.amend 0 0) (hlt:x.op.amend 0 0 < x.op.drop 0+x.op.give 0):bestF x=[0]:=by
 obtain ⟨h1,h2⟩:=best11 hB hm hk; rcases h2 with e | ⟨e,-⟩
 ·have hA:Pl.Asg x.op (fun _=>0):=by
   have hm':x.op.m=1:=hm; have hk':x.op.k=1:=hk; refine ⟨fun r hr=>Or.inr ⟨0,by omega,rfl,?_⟩,fun r s hr hs _ _=>by omega⟩
   have:r=0:=by omega
   rw [this]; exact ha
  have:=best_least hB hA; rw [weight11 hm hk,weight11 hm hk,if_pos e,if_neg (by omega),if_neg (by decide),if_pos rfl] at this; have e0:((0:Int)).toNat=0:=rfl; rw [e0] at this; omega
 ·rw [h1,e]
theorem plan11_a {u d:Out} {t:Int} {R:List (List UInt8)} {dr gv:Opt} {A:Nat→Nat→Option Opt} {c:Int} (h:A 0 0=some ⟨4,c,c⟩):planF ⟨[u],[d],t,R,[dr],[gv],A⟩ [0]=some ⟨[cmdF t 4 u d],[],c,[]⟩:=by
 simp [planF,optionsF,optsF,stepO,amG,h,run1,run2,p1,p2,uAt,dAt,Pl.upd]
theorem plan11_u {u d:Out} {t:Int} {R:List (List UInt8)} {a b a' b':Int} {A:Nat→Nat→Option Opt}:planF ⟨[u],[d],t,R,[⟨2,a,b⟩],[⟨1,a',b'⟩],A⟩ [-1]=some ⟨[cmdF t 2 u out0,cmdF t 1 out0 d],[],a+a',[]⟩:=by
 simp [planF,optionsF,optsF,stepO,run1,run2,p1,p2,uAt,dAt]
theorem plan11_n {u d:Out} {t:Int} {R:List (List UInt8)} {A:Nat→Nat→Option Opt}:planF ⟨[u],[d],t,R,[opt0],[opt0],A⟩ [-1]=some ⟨[],[u.key,d.key],0,[]⟩:=by
 simp [planF,optionsF,optsF,stepO,run1,run2,p1,p2,uAt,dAt,opt0]
/- the data of small -/
def intV (n:Int):Val:=.mk 3 [] n 0 [] []
def L45:List Offer:=[⟨[112,97,121],1,2,0,-1,1⟩]
def u45:Out:=⟨[97],[112,97,121],[intV 1],false,0⟩
def d45:Out:=⟨[98],[112,97,121],[intV 2],false,0⟩
theorem cat45:CatOk L45:=⟨by decide,fun o ho=>by rw [show L45=[⟨[112,97,121],1,2,0,-1,1⟩] from rfl,List.mem_singleton] at ho; subst ho; decide,by decide⟩
theorem ok45:okArg L45 [u45] [d45]:=⟨Or.inr cat45,by decide,by decide⟩
theorem okn45:okArg [] [u45] [d45]:=⟨Or.inl rfl,by decide,by decide⟩
theorem bad45:¬ okArg L45 [u45,u45] [d45]:=fun h=>by have:=h.2.1; revert this; decide
theorem prep45:prepE L45 [u45] [d45]=0:=by unfold prepE; rw [if_pos ok45,if_pos (by decide)]
theorem prepn45:prepE [] [u45] [d45]=0:=by unfold prepE; rw [if_pos okn45,if_pos (by decide)]
theorem prepb45:prepE L45 [u45,u45] [d45]=1:=by unfold prepE; rw [if_neg bad45]
theorem can45:canF ⟨[112,97,121],1,2,0,-1,1⟩ 0 5=true:=by decide
theorem allow_nil (t k:Int) (a b:List UInt8):allowF t [] k a b=true:=by simp [allowF]
def x45:Stl:=stlF L45 [u45] [d45] 5 0 []
def xq45:Stl:=stlF L45 [u45] [d45] 5 0 [keyF 0 4 [97] [98]]
def xr45:Stl:=stlF [] [u45] [d45] 5 0 []
theorem drop45 (R:List (List UInt8)) (h:allowF 0 R 2 [97] []=true):dropF 0 R (findF L45 u45.name) u45 5=⟨2,2,2⟩:=by
 show dropF 0 R (some ⟨[112,97,121],1,2,0,-1,1⟩) u45 5=_; unfold dropF; show (if (canF ⟨[112,97,121],1,2,0,-1,1⟩ 0 5 && allowF 0 R 2 [97] [])=true then _ else _)=_; rw [can45,h]; rfl
theorem give45 (R:List (List UInt8)) (h:allowF 0 R 1 [] [98]=true):giveF 0 R (findF L45 d45.name) d45=⟨1,1,1⟩:=by
 show giveF 0 R (some ⟨[112,97,121],1,2,0,-1,1⟩) d45=_; unfold giveF; show (if (decide ((1:Int)≠-1) && allowF 0 R 1 [] [98])=true then _ else _)=_; rw [h]; rfl
theorem amend45 (R:List (List UInt8)):amdF 0 R (findF L45 u45.name) u45 d45=if allowF 0 R 4 [97] [98]=true then some ⟨4,1,1⟩ else none:=by
 show amdF 0 R (some ⟨[112,97,121],1,2,0,-1,1⟩) u45 d45=_; unfold amdF; show (if (decide (([112,97,121]:List UInt8)=[112,97,121]) && decide ((1:Int)≠-1) && allowF 0 R 4 [97] [98])=true then _ else _)=_; simp
theorem x45_d:x45.drop=[⟨2,2,2⟩]:=by
 show [dropF 0 [] (findF L45 u45.name) u45 5]=_; rw [drop45 [] (allow_nil _ _ _ _)]
theorem x45_g:x45.give=[⟨1,1,1⟩]:=by
 show [giveF 0 [] (findF L45 d45.name) d45]=_; rw [give45 [] (allow_nil _ _ _ _)]
theorem x45_eq:x45=⟨[u45],[d45],0,[],[⟨2,2,2⟩],[⟨1,1,1⟩],x45.amend⟩:=by
 have e:x45=⟨[u45],[d45],0,[],x45.drop,x45.give,x45.amend⟩:=rfl; rw [x45_d,x45_g] at e; exact e
theorem x45_a:x45.amend 0 0=some ⟨4,1,1⟩:=by
 show amdF 0 [] (findF L45 u45.name) u45 d45=_; rw [amend45,if_pos (allow_nil _ _ _ _)]
theorem allowq (k:Int) (a b:List UInt8) (h:keyF 0 k a b≠keyF 0 4 [97] [98]):allowF 0 [keyF 0 4 [97] [98]] k a b=true:=by simp [allowF,h]
theorem xq45_d:xq45.drop=[⟨2,2,2⟩]:=by
 show [dropF 0 [keyF 0 4 [97] [98]] (findF L45 u45.name) u45 5]=_; rw [drop45 _ (allowq _ _ _ key45_2)]
theorem xq45_g:xq45.give=[⟨1,1,1⟩]:=by
 show [giveF 0 [keyF 0 4 [97] [98]] (findF L45 d45.name) d45]=_; rw [give45 _ (allowq _ _ _ key45_1)]
theorem xq45_eq:xq45=⟨[u45],[d45],0,[keyF 0 4 [97] [98]],[⟨2,2,2⟩],[⟨1,1,1⟩],xq45.amend⟩:=by
 have e:xq45=⟨[u45],[d45],0,[keyF 0 4 [97] [98]],xq45.drop,xq45.give,xq45.amend⟩:=rfl; rw [xq45_d,xq45_g] at e; exact e
theorem stl_a (R:List (List UInt8)):(stlF L45 [u45] [d45] 5 0 R).amend 0 0=amdF 0 R (findF L45 u45.name) u45 d45:=rfl
theorem allow_self (k:List UInt8):∀ a b c d,keyF a b c d=k→allowF a [k] b c d=false:=fun a b c d h=>by simp [allowF,h]
theorem xq45_a:xq45.amend 0 0=none:=by
 unfold xq45; rw [stl_a,amend45,allow_self _ _ _ _ _ rfl,if_neg (by decide)]
theorem xr45_eq:xr45=⟨[u45],[d45],0,[],[opt0],[opt0],xr45.amend⟩:=rfl
theorem xr45_a:xr45.amend 0 0=none:=rfl
theorem best45:bestF x45=[0]:=by
 refine best_yes (stlF_b ok45) rfl rfl ?_ ?_
 ·show 0≤(match x45.amend 0 0 with | some o=>o.weight | none=>-1)
  rw [x45_a]; decide
 ·show (match x45.amend 0 0 with | some o=>o.weight | none=>-1) < (match x45.drop[0]? with | some o=>o.weight | none=>0)+(match x45.give[0]? with | some o=>o.weight | none=>0)
  rw [x45_a,x45_d,x45_g]
  decide
theorem bestq45:bestF xq45=[-1]:=best_no (stlF_b ok45) rfl rfl xq45_a
theorem bestr45:bestF xr45=[-1]:=best_no (stlF_b okn45) rfl rfl xr45_a
theorem plan45:planF x45 (bestF x45)=some ⟨[cmdF 0 4 u45 d45],[],1,[]⟩:=by
 rw [best45,x45_eq]; exact plan11_a x45_a
theorem planq45:planF xq45 (bestF xq45)=some ⟨[cmdF 0 2 u45 out0,cmdF 0 1 out0 d45],[],3,[]⟩:=by
 rw [bestq45,xq45_eq]; exact plan11_u
theorem planr45:planF xr45 (bestF xr45)=some ⟨[],[[97],[98]],0,[]⟩:=by
 rw [bestr45,xr45_eq]; exact plan11_n
theorem weight45:weightT L45 [u45] [d45] 5 0 [] [-1]=(3,true):=by
 unfold weightT; rw [if_pos prep45]; show weightF x45 [-1]=_; rw [x45_eq]; simp [weightF,optionsF,optsF,stepO,sumO,Pl.sumL,Pl.sumN,giveW]
/-- the plan of a dearer settlement is not accepted -/
theorem checkq45 (rows cols:List Int):¬ CheckP L45 [u45] [d45] 5 0 [] ⟨[cmdF 0 2 u45 out0,cmdF 0 1 out0 d45],[],3,rows,cols⟩:=fun h=>by
 have h1:=(checked_least h).1 _ (best_asg (stlF_b ok45)).1; have h2:=plan_w (stlF_n) (stlF_b ok45) (stlF_w ok45) (best_to (stlF_b ok45)) (p:=⟨[cmdF 0 4 u45 d45],[],1,[]⟩) plan45; rw [← h2] at h1; simp [pWl,pW,cnt3,cmdF] at h1
theorem checkb45 (rows cols:List Int):¬ CheckP L45 [u45] [d45] 5 0 [] ⟨[cmdF 0 4 u45 d45],[],2,rows,cols⟩:=fun h=>by
 obtain ⟨-,q,hq,e1,-⟩:=h; have hpk:pickOf x45 [cmdF 0 4 u45 d45]=bestF x45:=plan_picked (stlF_k ok45) (stlF_d ok45) (best_to (stlF_b ok45)) (p:=⟨[cmdF 0 4 u45 d45],[],1,[]⟩) plan45; replace hq:planF x45 (pickOf x45 [cmdF 0 4 u45 d45])=some q:=hq; rw [hpk,plan45] at hq; injection hq with hq; subst hq; have e1':(1:Int)=2:=e1; omega
end Go.Proofs.YtfejagpjahoibaaGreatDoor
set_option linter.unusedSimpArgs false
namespace Go.Proofs.YtfejagpjahoibaaGreatDoor
open Go.RowKit
open Go.Lib (hid)
abbrev off45:Offer:=⟨[112,97,121],1,2,0,-1,1⟩
abbrev intL (n:Int):List Value:=valCs (intV n) (.slice none 0 0)
theorem int_sl {S:Foot} {W:World} {b:Nat} {n:Int} (h:W.heap[b]? = some (.cells (intL n).toArray 47 (0,0))) (hS:S b):ValsR S W [intV n] (.slice (some ⟨b,0,none⟩) 1 1) :=
 SlR.of_block (css:=[intL n]) rfl (fun cs hc=>by rw [List.mem_singleton.1 hc]; rfl) (by simpa using h) hS (fun i x cs hx hc=>by
  match i,hx,hc with
  | 0,hx,hc=>simp at hx hc; subst hx hc; exact valR_shut (SlR.nil _ _ _ _ _)
  | i+1,hx,_=>simp at hx)
abbrev outL (o:Out) (b:Nat):List Value:=outCs o (.slice (some ⟨b,0,none⟩) 1 1)
/-- small's memory -/
structure Sm45 (n:Nat) (W:World):Prop where
 h0:W.heap[n]? = some (.cells (offCs off45).toArray 45 (0,0))
 h1:W.heap[n+1]? = some (.cells (intL 1).toArray 47 (0,0))
 h2:W.heap[n+1+1]? = some (.cells (outL u45 (n+1)).toArray 37 (0,0))
 h3:W.heap[n+1+1+1]? = some (.cells (intL 2).toArray 47 (0,0))
 h4:W.heap[n+1+1+1+1]? = some (.cells (outL d45 (n+1+1+1)).toArray 37 (0,0))
theorem Sm45.lt {n:Nat} {W:World} (h:Sm45 n W):n+5≤W.heap.size:=lt_of_some h.h4
theorem Sm45.below {n:Nat} {W W':World} (h:Sm45 n W) (hb:Below W.heap.size W W'):Sm45 n W':=by
 have hl:=h.lt; exact ⟨below_keep hb h.h0 (by omega),below_keep hb h.h1 (by omega),below_keep hb h.h2 (by omega),below_keep hb h.h3 (by omega),below_keep hb h.h4 (by omega)⟩
theorem Sm45.l {n:Nat} {W:World} (h:Sm45 n W):SlR 6 OffR (fun _=>True) W L45 (.slice (some ⟨n,0,none⟩) 1 1) :=
 SlR.of_block (css:=[offCs off45]) rfl (fun cs hc=>by rw [List.mem_singleton.1 hc]; rfl) (by simpa using h.h0) trivial (fun i x cs hx hc=>by
  match i,hx,hc with
  | 0,hx,hc=>simp [L45] at hx hc; subst hx hc; rfl
  | i+1,hx,_=>simp [L45] at hx)
theorem out_sl {W:World} {o:Out} {n:Int} {b c:Nat} (ho:o.args=[intV n]) (hv:W.heap[b]? = some (.cells (intL n).toArray 47 (0,0))) (h:W.heap[c]? = some (.cells (outL o b).toArray 37 (0,0))):SlR 5 OutR (fun _=>True) W [o] (.slice (some ⟨c,0,none⟩) 1 1) :=
 SlR.of_block (css:=[outL o b]) rfl (fun cs hc=>by rw [List.mem_singleton.1 hc]; rfl) (by simpa using h) trivial (fun i x cs hx hc=>by
  match i,hx,hc with
  | 0,hx,hc=>simp at hx hc; subst hx hc; exact outR_shut (by rw [ho]; exact int_sl hv trivial)
  | i+1,hx,_=>simp at hx)
theorem Sm45.u {n:Nat} {W:World} (h:Sm45 n W):SlR 5 OutR (fun _=>True) W [u45] (.slice (some ⟨n+1+1,0,none⟩) 1 1):=out_sl rfl h.h1 h.h2
theorem Sm45.d {n:Nat} {W:World} (h:Sm45 n W):SlR 5 OutR (fun _=>True) W [d45] (.slice (some ⟨n+1+1+1+1,0,none⟩) 1 1):=out_sl rfl h.h3 h.h4
theorem intB (n:Int) (h0:-9223372036854775808≤n) (h1:n≤9223372036854775807):ValsB [intV n]:=by
 refine ⟨by show (1:Nat)≤1048576; decide,fun x h=>?_⟩; rw [List.mem_singleton.1 h]; exact ValB.mk _ (by show (0:Nat)≤1048576; decide) (by show (0:Nat)≤1048576; decide) (by show (0:Nat)≤1048576; decide) (fun y h=>by cases h)
theorem pin45 {W:World} {l:List Offer} {u d:List Out} {rf:List (List UInt8)} {vl vu vd vr:Value} (hl1:l.length≤1) (hl2:∀ o∈l,o=off45) (hl:SlR 6 OffR (fun _=>True) W l vl) (hu1:u.length≤2) (hu2:∀ o∈u,o=u45) (hu:SlR 5 OutR (fun _=>True) W u vu) (hd1:d.length≤2) (hd2:∀ o∈d,o=d45) (hd:SlR 5 OutR (fun _=>True) W d vd) (hr1:rf.length≤1) (hr2:∀ s∈rf,s.length≤1000) (hr:SlR 1 StrR (fun _=>True) W rf vr) (ht:Tabs W):PIn (fun _=>True) l u d rf vl vu vd vr W :=
 ⟨by omega,fun o ho=>by rw [hl2 o ho]; exact ⟨by decide,by intro z hz; simp at hz; omega⟩,hl,by omega,fun o ho=>by rw [hu2 o ho]; decide,hu,by omega,fun o ho=>by rw [hd2 o ho]; decide,hd,by omega,fun s hs=>by have:=hr2 s hs; omega,hr,ht⟩
theorem own_ge {w:World} {B:Nat} {E:TypeId} {sz n:Nat} {v:Value} {xs:List Value} (h:w.ownsRow B E sz v n xs) {k:Nat} (hk:v.ownBlock=some k):B≤k:=(h.lt k hk).1
theorem dup45 {n:Nat} {W:World} (h:Sm45 n W) (ty:TypeId) :
  ∃ v' w',AppRun Tryz.prog 23 23 ty (.slice (some ⟨n+1+1,0,none⟩) 1 1) (.slice (some ⟨W.heap.size,0,none⟩) 1 1) v' (W.alloc (.cells (outL u45 (n+1)).toArray 37 (0,0))) w'∧SlR 5 OutR (fun _=>True) w' [u45,u45] v'∧Below W.heap.size W w':=by
 obtain ⟨i0,hi,hz0,hz1,hz2⟩:=info_parts infoOut; have hz:=heap_alloc_new' W (.cells (outL u45 (n+1)).toArray 37 (0,0)); have hb:Below W.heap.size W (W.alloc (.cells (outL u45 (n+1)).toArray 37 (0,0))):=(Below.refl _ _).alloc (Nat.le_refl _) _; have h5:=h.below hb; have hl:=h.lt; have hsz:=hb.size
 obtain ⟨v',w',hrun,hown,hg⟩:=run_append_arg_grows (P:=Tryz.prog) (W.alloc (.cells (outL u45 (n+1)).toArray 37 (0,0))) 23 ty 37 i0 _ 5 72 (by kernel_rfl) hi hz0 hz1 hz2 rfl (by decide) ⟨n+1+1,0,none⟩ 1 1 (outL u45 (n+1)) rfl (fun j u hu=>by rw [Addr.add_lit]; exact (cell_of h5.h2).trans (by simpa using hu)) ⟨W.heap.size,0,none⟩ 1 1 (outL u45 (n+1)) rfl (fun j u hu=>by rw [Addr.add_lit]; exact (cell_of hz).trans (by simpa using hu)) (by decide) (by unfold maxLen; decide) (by decide); have hb2:Below (W.alloc (.cells (outL u45 (n+1)).toArray 37 (0,0))).heap.size (W.alloc (.cells (outL u45 (n+1)).toArray 37 (0,0))) w':=(Below.refl _ _).grown hg (Nat.le_refl _) (fun k e=>by cases e); have h6:=h5.below hb2
 refine ⟨v',w',⟨hrun⟩,OwnR.sl goodOut (E:=37) ⟨_,owns_move hown (fun _ _=>rfl) (fun _ _=>Nat.zero_le _),fun _ _=>trivial,fun i x hx=>?_⟩,hb.trans (hb2.mono hsz)⟩; have hR:OutR (fun k=>True∧v'.ownBlock≠some k) w' u45 (outL u45 (n+1)):=outR_shut (int_sl h6.h1 ⟨trivial,fun e=>by have:=own_ge hown e; omega⟩)
 match i,hx with
 | 0,hx =>
  simp at hx; subst hx; exact ⟨_,fun j u hu=>by rw [List.getElem?_append_left (by have:=(List.getElem?_eq_some_iff.1 hu).1; omega)]; simpa using hu,hR⟩
 | 1,hx =>
  simp at hx; subst hx; exact ⟨_,fun j u hu=>by rw [List.getElem?_append_right (by simp)]; simpa using hu,hR⟩
 | i+2,hx=>simp at hx
/-- a plan in memory -/
structure PlnM (B:Nat) (st:List Cmd) (re:List (List UInt8)) (co:Int) (rows cols:List Int) (vs vr vR vC:Value) (W:World):Prop where
 blk:W.heap[B]? = some (.cells #[vs,vr,iv co,vR,vC] 31 (0,0))
 s:SlR 6 CmdR (fun _=>True) W st vs
 r:SlR 1 StrR (fun _=>True) W re vr
 R:SlR 1 IntR (fun _=>True) W rows vR
 C:SlR 1 IntR (fun _=>True) W cols vC
theorem PlnM.below {B:Nat} {st:List Cmd} {re:List (List UInt8)} {co:Int} {rows cols:List Int} {vs vr vR vC:Value} {W W':World} (h:PlnM B st re co rows cols vs vr vR vC W) (hb:Below W.heap.size W W'):PlnM B st re co rows cols vs vr vR vC W' :=
 ⟨(hb.block B (lt_of_heap h.blk)).trans h.blk,h.s.below goodCmd hb,h.r.below goodStr hb,h.R.below goodInt hb,h.C.below goodInt hb⟩
theorem slice_at {α:Type} {sz:Nat} {R:Rel α} {S:Foot} {w:World} {l:List α} {v:Value} {n:Nat} (h:SlR sz R S w l v) (hl:l.length=n):∃ a c,v=.slice a n c:=by
 obtain ⟨a,c,e,-⟩:=h.slice; exact ⟨a,c,by rw [e,hl]⟩
/-- Make where prepare has nothing against it: the plan laid in a cell of its own -/
theorem makeN {S:Foot} {l:List Offer} {undo «do»:List Out} {clock turn:Int} {rf:List (List UInt8)} {vl vu vd vr:Value} {w:World} (h:PIn S l undo «do» rf vl vu vd vr w) (hn:undo.length+«do».length≤31) (hv:∀ o∈«do»,ValsB o.args) (h0:prepE l undo «do» = 0) {st:List Cmd} {re:List (List UInt8)} {co:Int} {un:List Cmd} (hp:planF (stlF l undo «do» clock turn rf) (bestF (stlF l undo «do» clock turn rf))=some ⟨st,re,co,un⟩) {n1 n2 n3:Nat} (e1:st.length=n1) (e2:re.length=n2) (e3:undo.length+«do».length=n3) {rows cols:List Int} (hr:rows=listN (undo.length+«do».length) (gN (stlF l undo «do» clock turn rf)).rows) (hc:cols=listN (undo.length+«do».length) (gN (stlF l undo «do» clock turn rf)).cols) :
  Calls Tryz.prog 7 #[vl,vu,vd,iv clock,iv turn,vr] w fun e w'=>∃ sa sc ra rc Ra Rc Ca Cc,e=.returned (.tuple #[.agg #[.slice sa n1 sc,.slice ra n2 rc,iv co,.slice Ra n3 Rc,.slice Ca n3 Cc],iv 0])∧Below w.heap.size w w'∧PlnM w'.heap.size st re co rows cols (.slice sa n1 sc) (.slice ra n2 rc) (.slice Ra n3 Rc) (.slice Ca n3 Cc) (w'.alloc (.cells #[.slice sa n1 sc,.slice ra n2 rc,iv co,.slice Ra n3 Rc,.slice Ca n3 Cc] 31 (0,0))):=by
 refine (make_any S l undo «do» clock turn rf vl vu vd vr w h hn hv).mono ?_; rintro e w' ⟨hb,(⟨hne,-⟩ | ⟨-,p',vs,vr',vR,vC,hp',rfl,h1,h2,h3,h4⟩)⟩
 ·exact absurd h0 hne
 ·rw [hp] at hp'
  injection hp' with hp'; subst hp'; rw [← hr] at h3; rw [← hc] at h4; obtain ⟨sa,sc,rfl⟩:=slice_at h1 e1; obtain ⟨ra,rc,rfl⟩:=slice_at h2 e2; obtain ⟨Ra,Rc,rfl⟩:=slice_at h3 (n:=n3) (by rw [hr,listN_len,e3]); obtain ⟨Ca,Cc,rfl⟩:=slice_at h4 (n:=n3) (by rw [hc,listN_len,e3]); have ha:Below w'.heap.size w' (w'.alloc (.cells #[.slice sa n1 sc,.slice ra n2 rc,iv co,.slice Ra n3 Rc,.slice Ca n3 Cc] 31 (0,0))):=(Below.refl _ _).alloc (Nat.le_refl _) _; exact ⟨sa,sc,ra,rc,Ra,Rc,Ca,Cc,rfl,hb,heap_alloc_new' _ _,(h1.mono goodCmd fun _ _ _=>trivial).below goodCmd ha,(h2.mono goodStr fun _ _ _=>trivial).below goodStr ha,(h3.mono goodInt fun _ _ _=>trivial).below goodInt ha,(h4.mono goodInt fun _ _ _=>trivial).below goodInt ha⟩
/-- Make where prepare refuses -/
theorem makeE {S:Foot} {l:List Offer} {undo «do»:List Out} {clock turn:Int} {rf:List (List UInt8)} {vl vu vd vr:Value} {w:World} (h:PIn S l undo «do» rf vl vu vd vr w) (hn:undo.length+«do».length≤31) (hv:∀ o∈«do»,ValsB o.args) {E:Int} (h0:prepE l undo «do» = E) (hE:E≠0) :
  Calls Tryz.prog 7 #[vl,vu,vd,iv clock,iv turn,vr] w fun e w'=>e=.returned (.tuple #[.agg #[.slice none 0 0,.slice none 0 0,iv 0,.slice none 0 0,.slice none 0 0],iv E])∧Below w.heap.size w w':=by
 refine (make_any S l undo «do» clock turn rf vl vu vd vr w h hn hv).mono ?_; rintro e w' ⟨hb,(⟨hne,rfl⟩ | ⟨h1,-⟩)⟩
 ·rw [h0]; exact ⟨rfl,hb⟩
 ·rw [h0] at h1; exact absurd h1 hE
/-- Check's answer, where it is known -/
theorem checkY {l:List Offer} {undo «do»:List Out} {clock turn:Int} {rf:List (List UInt8)} {vl vu vd vr:Value} {w:World} (h:PIn (fun _=>True) l undo «do» rf vl vu vd vr w) (hn:undo.length+«do».length≤31) (hv:∀ o∈«do»,ValsB o.args) {B:Nat} {st:List Cmd} {re:List (List UInt8)} {co:Int} {rows cols:List Int} {vs ve vR vC:Value} (hp:PlnM B st re co rows cols vs ve vR vC w) (hs:st.length≤1000) (he:re.length≤1000) (ha:∀ c∈st,ValsB c.args) {b:Bool} (hb:b=true ↔ CheckP l undo «do» clock turn rf ⟨st,re,co,rows,cols⟩) :
  Calls Tryz.prog 13 #[vl,vu,vd,iv clock,iv turn,vr,.agg #[vs,ve,iv co,vR,vC]] w fun e w'=>e=.returned (.bool b)∧Below w.heap.size w w':=by
 refine (check_any (fun _=>True) l undo «do» clock turn rf vl vu vd vr w h hn hv ⟨st,re,co,rows,cols⟩ (fun _=>True) vs ve vR vC hp.s hp.r hp.R hp.C (by show st.length≤_; omega) (by show re.length≤_; omega) ha).mono ?_; rintro e w' ⟨b',rfl,hb',hB⟩
 have:b'=b:=by
  have:=hb'.trans hb.symm; cases b <;> cases b' <;> simp_all
 rw [this]; exact ⟨rfl,hB⟩
end Go.Proofs.YtfejagpjahoibaaGreatDoor
