/- PlB: PlX, PlB, in one text. -/
import Derived.Test.YtfejagpjahoibaaGreatDoorPlM
import Derived.Test.YtfejagpjahoibaaGreatDoorPlS
set_option linter.unusedVariables false
set_option linter.unusedSimpArgs false
namespace Go.Proofs.YtfejagpjahoibaaGreatDoor
open Go.RowKit
open Go.Lib (hid)
def g0 (x:Stl):Pl.Gr:=⟨x.undo.length+x.do.length,x.op.cell,fun _=>0,fun _=>0,fun _=>-1⟩
def gN (x:Stl):Pl.Gr:=Pl.placed (g0 x) (x.undo.length+x.do.length)
def fstF (x:Stl):Pl.Fst:=Pl.firstF (gN x) x.do.length x.undo.length
def listN (n:Nat) (f:Nat→Int):List Int:=(List.range n).map f
theorem listN_len (n:Nat) (f:Nat→Int):(listN n f).length=n:=by simp [listN]
theorem listN_at {n i:Nat} (f:Nat→Int) (h:i < n):(listN n f)[i]? = some (f i):=by simp [listN,h]
theorem listN_getD {n i:Nat} (f:Nat→Int) (h:i < n):(listN n f).getD i 0=f i:=by rw [List.getD_eq_getElem?_getD,listN_at f h]; rfl
theorem listN_of {p:List Int} {n:Nat} (h:p.length=n):listN n (fun r=>(p[r]?).getD (-1))=p:=by
 apply List.ext_getElem?; intro i; by_cases hi:i < n
 ·rw [listN_at _ hi,List.getElem?_eq_getElem (by omega)]; rfl
 ·rw [List.getElem?_eq_none (by rw [listN_len]; omega),List.getElem?_eq_none (by omega)]
theorem listN_congr {n:Nat} {f g:Nat→Int} (h:∀ i,i < n→f i=g i):listN n f=listN n g:=by
 unfold listN
 exact List.map_congr_left fun i hi=>h i (List.mem_range.1 hi)
def bestF (x:Stl):List Int:=listN x.undo.length (fstF x).pick
section least
variable {x:Stl}
theorem op_drop_le (hB:StlB x) (r:Nat):0≤x.op.drop r∧x.op.drop r≤1099511627776:=by
 show 0≤(match x.drop[r]? with | some o=>o.weight | none=>0)∧(match x.drop[r]? with | some o=>o.weight | none=>0)≤_; rcases h:x.drop[r]? with _ | o
 ·exact ⟨by decide,by decide⟩
 ·have:=hB.d o (List.mem_of_getElem? h); exact ⟨this.1,this.2.1⟩
theorem op_give_le (hB:StlB x) (r:Nat):0≤x.op.give r∧x.op.give r≤1099511627776:=by
 show 0≤(match x.give[r]? with | some o=>o.weight | none=>0)∧(match x.give[r]? with | some o=>o.weight | none=>0)≤_; rcases h:x.give[r]? with _ | o
 ·exact ⟨by decide,by decide⟩
 ·have:=hB.g o (List.mem_of_getElem? h); exact ⟨this.1,this.2.1⟩
theorem op_amend_le (hB:StlB x) (r c:Nat):-1≤x.op.amend r c∧x.op.amend r c≤1099511627776:=by
 show -1≤(match x.amend r c with | some o=>o.weight | none=>-1)∧(match x.amend r c with | some o=>o.weight | none=>-1)≤_; rcases h:x.amend r c with _ | o
 ·exact ⟨by decide,by decide⟩
 ·have:=hB.a r c o h; exact ⟨by have:=this.1; show -1≤o.weight; omega,this.2.1⟩
theorem op_amend_some (hB:StlB x) (r c:Nat):0≤x.op.amend r c ↔ (x.amend r c).isSome=true:=by
 show 0≤(match x.amend r c with | some o=>o.weight | none=>-1) ↔ _; rcases h:x.amend r c with _ | o
 ·exact ⟨fun h=>absurd h (by decide),fun h=>by cases h⟩
 ·exact ⟨fun _=>rfl,fun _=>(hB.a r c o h).1⟩
theorem op_ok (hB:StlB x):x.op.Ok:=⟨fun r _=>(op_drop_le hB r).1,fun c _=>(op_give_le hB c).1⟩
theorem cell_le (hB:StlB x) (r c:Nat):-1≤x.op.cell r c∧x.op.cell r c≤1099511627776:=by
 have h1:=op_drop_le hB r; have h2:=op_give_le hB c; have h3:=op_amend_le hB r c; unfold Pl.Op.cell; split
 ·exact h3
 ·split
  ·omega
  ·split
   ·omega
   ·split <;> omega
theorem nil_asg (x:Stl):Pl.Asg x.op (fun _=>-1):=⟨fun r hr=>Or.inl rfl,fun r s _ _ h _=>absurd h (by decide)⟩
theorem g0_perf (hB:StlB x):Pl.Perf (g0 x) (Pl.whole x.op fun _=>-1) :=
 ⟨fun ρ h=>⟨Pl.whole_lt (nil_asg x) h,Pl.whole_val (op_ok hB) (nil_asg x) h⟩,fun ρ τ h1 h2 e=>Pl.whole_inj (nil_asg x) h1 h2 e⟩
theorem g0_fresh (x:Stl):Pl.Fresh (g0 x):=⟨fun _=>rfl,fun _=>rfl,fun _=>rfl⟩
theorem gk_ok (hB:StlB x) {i:Nat} (hi:i≤x.undo.length+x.do.length):Pl.GI (Pl.placed (g0 x) i) i∧(Pl.placed (g0 x) i).n=x.undo.length+x.do.length∧(Pl.placed (g0 x) i).V=x.op.cell∧Pl.PB (Pl.placed (g0 x) i) (i * ((x.undo.length+x.do.length:Nat) * 1099511627776)) :=
 Pl.placed_ok (g0 x) 1099511627776 (g0_fresh x) (by decide) (fun ρ c _ _=>(cell_le hB ρ c).2) _ (g0_perf hB) i hi
theorem gN_full (hB:StlB x):Pl.Full (gN x):=by
 have h:=gk_ok hB (Nat.le_refl _); have h1:=h.1; apply Pl.GI.full; show Pl.GI (Pl.placed (g0 x) _) (Pl.placed (g0 x) _).n; rw [h.2.1]; exact h1
theorem gN_n (hB:StlB x):(gN x).n=x.undo.length+x.do.length:=(gk_ok hB (Nat.le_refl _)).2.1
theorem gN_V (hB:StlB x):(gN x).V=x.op.cell:=(gk_ok hB (Nat.le_refl _)).2.2.1
theorem gN_row (hB:StlB x):∀ r c,r < x.undo.length→x.do.length≤c→c < (gN x).n→0≤(gN x).V r c→c=x.do.length+r:=fun r c hr hc hn hv=>by
 rw [gN_V hB] at hv; exact Pl.Op.cell_row (o:=x.op) hr hc hv
theorem gN_first (hB:StlB x):Pl.FI (gN x) x.do.length x.undo.length (fstF x):=Pl.first_ok (gN_full hB) (gN_n hB) (gN_row hB) _ (Nat.le_refl _)
theorem best_asg (hB:StlB x):Pl.Asg x.op (fstF x).pick∧Pl.weightW x.op (fstF x).pick=Pl.sumN (gN x).rows (x.undo.length+x.do.length)+Pl.sumN (gN x).cols (x.undo.length+x.do.length) :=
 Pl.first_weight (gN_n hB) (gN_V hB) (gN_first hB)
theorem best_least (hB:StlB x) {f:Nat→Int} (h:Pl.Asg x.op f):Pl.weightW x.op (fstF x).pick≤Pl.weightW x.op f:=by
 rw [(best_asg hB).2]
 exact Pl.weight_ge (op_ok hB) (fun ρ c hr hc hv=>by
  have:=(gN_full hB).fea ρ c (by rw [gN_n hB]; exact hr) (by rw [gN_n hB]; exact hc) (by rw [gN_V hB]; exact hv)
  rw [gN_V hB] at this; exact this) h
theorem gN_bound (hB:StlB x) (hn:x.undo.length+x.do.length≤31) {i:Nat} (hi:i≤x.undo.length+x.do.length):GN (Pl.placed (g0 x) i)∧Pl.PB (Pl.placed (g0 x) i) (i * ((x.undo.length+x.do.length:Nat) * 1099511627776))∧(0:Int)≤i * ((x.undo.length+x.do.length:Nat) * 1099511627776)∧(i:Int) * ((x.undo.length+x.do.length:Nat) * 1099511627776)≤1056630674292736:=by
 obtain ⟨-,h1,h2,h3⟩:=gk_ok hB hi
 have b1:((x.undo.length+x.do.length:Nat):Int) * 1099511627776≤34084860461056:=by omega
 have b0:0≤((x.undo.length+x.do.length:Nat):Int) * 1099511627776:=by omega
 have b2:(i:Int) * ((x.undo.length+x.do.length:Nat) * 1099511627776)≤31 * 34084860461056:=Int.mul_le_mul (by omega) b1 b0 (by decide); have b3:(0:Int)≤i * ((x.undo.length+x.do.length:Nat) * 1099511627776):=Int.mul_nonneg (by omega) b0; refine ⟨⟨by rw [h1]; omega,fun r c _ _=>by rw [h2]; exact cell_le hB r c,fun r=>?_,fun c hc=>?_⟩,h3,b3,by omega⟩
 ·have:=h3.rows r; omega
 ·have:=h3.cols c hc; omega
end least
/- options of a choice -/
def optOf (x:Stl) (f:Nat→Int) (r:Nat):Opt:=if f r = -1 then (x.drop[r]?).getD opt0 else (x.amend r (f r).toNat).getD opt0
def stF (x:Stl) (f:Nat→Int) (i:Nat):OpS:=((List.range i).map (optOf x f),fun c=>(List.range i).any fun r=>decide (f r=(c:Int)))
def AsgTo (x:Stl) (f:Nat→Int) (i:Nat):Prop:=(∀ r,r < i→f r = -1∨∃ c:Nat,c < x.do.length∧f r=c∧(x.amend r c).isSome=true)∧∀ r s,r < i→s < i→0≤f r→f r=f s→r=s
theorem AsgTo.less {x:Stl} {f:Nat→Int} {i j:Nat} (h:AsgTo x f j) (hij:i≤j):AsgTo x f i:=⟨fun r hr=>h.1 r (by omega),fun r s hr hs=>h.2 r s (by omega) (by omega)⟩
theorem any_range {f:Nat→Int} {i c:Nat}:((List.range i).any fun r=>decide (f r=(c:Int)))=true ↔ ∃ r,r < i∧f r=(c:Int):=by
 rw [List.any_eq_true]; exact ⟨fun ⟨r,h1,h2⟩=>⟨r,List.mem_range.1 h1,of_decide_eq_true h2⟩,fun ⟨r,h1,h2⟩=>⟨r,List.mem_range.2 h1,decide_eq_true h2⟩⟩
theorem stF_tk (x:Stl) (f:Nat→Int) (i c:Nat):(stF x f (i+1)).2 c=((stF x f i).2 c || decide (f i=(c:Int))):=by
 show ((List.range (i+1)).any _)=(((List.range i).any _) || _); rw [List.range_succ,List.any_append]; simp
theorem step_st {x:Stl} {f:Nat→Int} {i:Nat} (hi:i < x.undo.length) (h:AsgTo x f i):(AsgTo x f (i+1)→stepO x i (f i) (stF x f i)=some (stF x f (i+1)))∧(¬ AsgTo x f (i+1)→stepO x i (f i) (stF x f i)=none):=by
 have hrow:(stF x f (i+1)).1=(stF x f i).1++[optOf x f i]:=by
  show (List.range (i+1)).map _=_; rw [List.range_succ,List.map_append]; rfl
 by_cases e:f i = -1
 ·have hA:AsgTo x f (i+1):=by
   refine ⟨fun r hr=>?_,fun r s hr hs h0 he=>?_⟩
   ·by_cases q:r=i
    ·subst q; exact Or.inl e
    ·exact h.1 r (by omega)
   ·by_cases q:r=i
    ·subst q; omega
    ·by_cases q2:s=i
     ·subst q2; omega
     ·exact h.2 r s (by omega) (by omega) h0 he
  refine ⟨fun _=>?_,fun hn=>absurd hA hn⟩; unfold stepO; rw [if_pos e]
  congr 1
  refine Prod.ext ?_ ?_
  ·show (stF x f i).1++[(x.drop[i]?).getD opt0]=_
   rw [hrow]; unfold optOf; rw [if_pos e]
  ·funext c
   rw [stF_tk]; have:decide (f i=(c:Int))=false:=decide_eq_false (by omega); rw [this,Bool.or_false]
 ·unfold stepO
  rw [if_neg e]; unfold amG; by_cases hr:0≤(i:Int)∧(i:Int) < (x.undo.length:Int)∧0≤f i∧f i < (x.do.length:Int)
  ·rw [if_pos hr,Int.toNat_natCast]
   obtain ⟨-,-,h0,h1⟩:=hr; obtain ⟨c,hc⟩:∃ c:Nat,f i=c:=⟨(f i).toNat,by omega⟩
   have hct:(f i).toNat=c:=by omega
   rw [hct]
   cases ha:x.amend i c with
   | none =>
    refine ⟨fun hA=>?_,fun _=>rfl⟩; rcases hA.1 i (by omega) with h' | ⟨d,h2,h3,h4⟩
    ·exact absurd h' e
    ·have:d=c:=by omega
     subst this; rw [ha] at h4; cases h4
   | some o =>
    have htk:(stF x f i).2 c=true ↔ ∃ r,r < i∧f r=(c:Int):=any_range; by_cases ht:(stF x f i).2 c=true
    ·refine ⟨fun hA=>?_,fun _=>by show (if (stF x f i).2 c=true then _ else _)=_; rw [if_pos ht]⟩
     obtain ⟨r,h2,h3⟩:=htk.1 ht; have:=hA.2 r i (by omega) (by omega) (by omega) (by omega); omega
    ·have hA:AsgTo x f (i+1):=by
      refine ⟨fun r hr=>?_,fun r s hr hs h0 he=>?_⟩
      ·by_cases q:r=i
       ·subst q; exact Or.inr ⟨c,by omega,hc,by rw [ha]; rfl⟩
       ·exact h.1 r (by omega)
      ·by_cases q:r=i
       ·by_cases q2:s=i
        ·omega
        ·exact absurd (htk.2 ⟨s,by omega,by rw [← he,q,hc]⟩) ht
       ·by_cases q2:s=i
        ·exact absurd (htk.2 ⟨r,by omega,by rw [he,q2,hc]⟩) ht
        ·exact h.2 r s (by omega) (by omega) h0 he
     refine ⟨fun _=>?_,fun hn=>absurd hA hn⟩; show (if (stF x f i).2 c=true then none else some ((stF x f i).1++[o],Pl.upd (stF x f i).2 c true))=_; rw [if_neg ht]
     congr 1
     refine Prod.ext ?_ ?_
     ·show (stF x f i).1++[o]=_
      rw [hrow]; unfold optOf; rw [if_neg e,hct,ha]; rfl
     ·funext d
      rw [stF_tk]; show Pl.upd (stF x f i).2 c true d=_; by_cases q:d=c
      ·subst q; rw [Pl.upd_same,decide_eq_true hc,Bool.or_true]
      ·rw [Pl.upd_other _ _ q,decide_eq_false (by omega),Bool.or_false]
  ·rw [if_neg hr]
   refine ⟨fun hA=>?_,fun _=>rfl⟩; rcases hA.1 i (by omega) with h' | ⟨d,h2,h3,h4⟩
   ·exact absurd h' e
   ·exact absurd ⟨by omega,by omega,by omega,by omega⟩ hr
theorem opts_st {x:Stl} {f:Nat→Int}:∀ n i,i+n=x.undo.length→AsgTo x f i→(AsgTo x f x.undo.length→optsF x i ((List.range' i n).map f) (stF x f i)=some (stF x f x.undo.length))∧(¬ AsgTo x f x.undo.length→optsF x i ((List.range' i n).map f) (stF x f i)=none)
 | 0,i,hi,h=>by
  have:i=x.undo.length:=by omega
  subst this; exact ⟨fun _=>rfl,fun hn=>absurd h hn⟩
 | n+1,i,hi,h=>by
  obtain ⟨s1,s2⟩:=step_st (by omega) h; by_cases hA:AsgTo x f (i+1)
  ·obtain ⟨h1,h2⟩:=opts_st n (i+1) (by omega) hA
   have e:optsF x i ((List.range' i (n+1)).map f) (stF x f i)=optsF x (i+1) ((List.range' (i+1) n).map f) (stF x f (i+1)):=by
    show (match stepO x i (f i) (stF x f i) with | none=>none | some s'=>optsF x (i+1) ((List.range' (i+1) n).map f) s')=_; rw [s1 hA]
   rw [e]; exact ⟨h1,h2⟩
  ·refine ⟨fun hm=>absurd (hm.less (by omega)) hA,fun _=>?_⟩
   show (match stepO x i (f i) (stF x f i) with | none=>none | some s'=>optsF x (i+1) ((List.range' (i+1) n).map f) s')=_; rw [s2 hA]
theorem options_st (x:Stl) (f:Nat→Int):(AsgTo x f x.undo.length→optionsF x (listN x.undo.length f)=some (stF x f x.undo.length))∧(¬ AsgTo x f x.undo.length→optionsF x (listN x.undo.length f)=none):=by
 have h:=opts_st (x:=x) (f:=f) x.undo.length 0 (by omega) ⟨fun r hr=>by omega,fun r s hr=>by omega⟩; unfold optionsF; rw [if_pos (listN_len _ _)]
 have e:listN x.undo.length f=(List.range' 0 x.undo.length).map f:=by unfold listN; rw [List.range_eq_range']
 rw [e]; exact h
theorem asg_iff {x:Stl} (hB:StlB x) {f:Nat→Int}:Pl.Asg x.op f ↔ AsgTo x f x.undo.length:=by
 constructor
 ·intro h
  exact ⟨fun r hr=>by
   rcases h.rng r hr with h' | ⟨c,h1,h2,h3⟩
   ·exact Or.inl h'
   ·exact Or.inr ⟨c,h1,h2,(op_amend_some hB r c).1 h3⟩,fun r s hr hs=>h.inj r s hr hs⟩
 ·intro h
  exact ⟨fun r hr=>by
   rcases h.1 r hr with h' | ⟨c,h1,h2,h3⟩
   ·exact Or.inl h'
   ·exact Or.inr ⟨c,h1,h2,(op_amend_some hB r c).2 h3⟩,fun r s hr hs=>h.2 r s hr hs⟩
structure StlN (x:Stl):Prop where
 d:x.drop.length=x.undo.length
 g:x.give.length=x.do.length
theorem optOf_w {x:Stl} (hN:StlN x) (hB:StlB x) {f:Nat→Int} (h:AsgTo x f x.undo.length) {r:Nat} (hr:r < x.undo.length):(optOf x f r).weight=if f r = -1 then x.op.drop r else x.op.amend r (f r).toNat:=by
 unfold optOf; by_cases e:f r = -1
 ·rw [if_pos e,if_pos e]
  show _=(match x.drop[r]? with | some o=>o.weight | none=>0); rw [List.getElem?_eq_getElem (by rw [hN.d]; exact hr)]; rfl
 ·rw [if_neg e,if_neg e]
  rcases h.1 r hr with h' | ⟨c,h1,h2,h3⟩
  ·exact absurd h' e
  ·have:(f r).toNat=c:=by omega
   rw [this]; show _=(match x.amend r c with | some o=>o.weight | none=>-1); obtain ⟨o,ho⟩:=Option.isSome_iff_exists.1 h3; rw [ho]; rfl
theorem giveW_op {x:Stl} (hN:StlN x) {f:Nat→Int} {c:Nat} (hc:c < x.do.length):giveW x (stF x f x.undo.length).2 c=if Pl.takenB x.op f c then 0 else x.op.give c:=by
 unfold giveW; have e:(stF x f x.undo.length).2 c=Pl.takenB x.op f c:=rfl; rw [e]; split
 ·rfl
 ·show _=(match x.give[c]? with | some o=>o.weight | none=>0)
  rw [List.getElem?_eq_getElem (by rw [hN.g]; exact hc)]; rfl
theorem weight_st {x:Stl} (hN:StlN x) (hB:StlB x) {f:Nat→Int} (h:AsgTo x f x.undo.length):weightF x (listN x.undo.length f)=(Pl.weightW x.op f,true):=by
 unfold weightF; rw [(options_st x f).1 h]; show (sumO ((List.range x.undo.length).map (optOf x f))+Pl.sumN (giveW x (stF x f x.undo.length).2) x.do.length,true)=_
 congr 1
 unfold Pl.weightW sumO; rw [List.map_map,← Pl.sumN_list (Opt.weight ∘ optOf x f)]
 congr 1
 ·exact Pl.sumN_congr _ fun r hr=>optOf_w hN hB h hr
 ·exact Pl.sumN_congr _ fun c hc=>giveW_op hN hc
/- the weight of a plan, as the law counts -/
def cnt3 (l:List Cmd):Nat:=l.countP fun c=>decide (c.kind=3)
def pW (p:P4):Int:=(p.re.length:Int) * 8589934592+p.co+134217728 * (cnt3 p.st:Int)
def pW4 (p:P4):Int:=(p.re.length:Int) * 8589934592+p.co+134217728 * ((cnt3 p.st:Int)+cnt3 p.un)
def OptW (o:Opt):Prop:=o.weight=(if o.kind=0 then 8589934592 else 0)+o.cost+(if o.kind=3 then 134217728 else 0)
structure StlW (x:Stl):Prop where
 d:∀ o∈x.drop,OptW o
 g:∀ o∈x.give,OptW o
 a:∀ r c o,x.amend r c=some o→OptW o
theorem cnt3_one (l:List Cmd) (c:Cmd):cnt3 (l++[c])=cnt3 l+if c.kind=3 then 1 else 0:=by
 unfold cnt3; rw [List.countP_append,List.countP_singleton]; by_cases e:c.kind=3
 ·rw [if_pos e,decide_eq_true e,if_pos rfl]
 ·rw [if_neg e,decide_eq_false e]; rfl
theorem cnt3_app (l m:List Cmd):cnt3 (l++m)=cnt3 l+cnt3 m:=by unfold cnt3; rw [List.countP_append]
theorem p1_w {x:Stl} {pick:List Int} {i:Nat} {o:Opt} {p:P4} (h:OptW o):pW4 (p1 x pick i o p)=pW4 p+o.weight:=by
 unfold OptW at h; unfold p1 pW4; by_cases e0:o.kind=0
 ·rw [if_pos e0]
  rw [if_pos e0,if_neg (by omega)] at h; simp only [List.length_append,List.length_singleton]; omega
 ·rw [if_neg e0]
  rw [if_neg e0] at h; by_cases e4:o.kind=4
  ·rw [if_pos e4]
   rw [if_neg (by omega)] at h; simp only [cnt3_one]; rw [if_neg (show ¬ (cmdF x.turn 4 (uAt x i) (dAt x ((pick[i]?).getD 0))).kind=3 from by show ¬ (4:Int)=3; decide)]; omega
  ·rw [if_neg e4]
   simp only [cnt3_one]; rw [show (cmdF x.turn o.kind (uAt x i) out0).kind=o.kind from rfl]; by_cases e3:o.kind=3
   ·rw [if_pos e3] at h ⊢; omega
   ·rw [if_neg e3] at h ⊢; omega
theorem p2_w {x:Stl} {tk:Nat→Bool} {j:Nat} {o:Opt} {p:P4} (h:OptW o):pW (p2 x tk j o p)=pW p+if tk j then 0 else o.weight:=by
 unfold OptW at h; unfold p2 pW; by_cases et:tk j=true
 ·rw [if_pos et,if_pos et]; omega
 ·rw [if_neg et,if_neg et]
  by_cases e0:o.kind=0
  ·rw [if_pos e0]
   rw [if_pos e0,if_neg (by omega)] at h; simp only [List.length_append,List.length_singleton]; omega
  ·rw [if_neg e0]
   rw [if_neg e0] at h; simp only [cnt3_one]; rw [show (cmdF x.turn o.kind out0 (dAt x j)).kind=o.kind from rfl]; by_cases e3:o.kind=3
   ·rw [if_pos e3] at h ⊢; omega
   ·rw [if_neg e3] at h ⊢; omega
theorem optW0:OptW opt0:=by unfold OptW; decide
theorem getW {l:List Opt} (h:∀ o∈l,OptW o) (i:Nat):OptW ((l[i]?).getD opt0):=by
 rcases e:l[i]? with _ | o
 ·exact optW0
 ·exact h o (List.mem_of_getElem? e)
theorem optOf_ow {x:Stl} (hW:StlW x) (f:Nat→Int) (r:Nat):OptW (optOf x f r):=by
 unfold optOf; split
 ·exact getW hW.d r
 ·rcases e:x.amend r (f r).toNat with _ | o
  ·exact optW0
  ·exact hW.a _ _ o e
theorem stF_at {x:Stl} {f:Nat→Int} {i n:Nat} (h:i < n):((stF x f n).1[i]?).getD opt0=optOf x f i:=by
 show (((List.range n).map (optOf x f))[i]?).getD opt0=_; rw [List.getElem?_map,List.getElem?_range h]; rfl
theorem run1_w {x:Stl} (hW:StlW x) (pick:List Int) (f:Nat→Int) (n:Nat):∀ i,i≤n→pW4 (run1 x pick (stF x f n).1 i)=Pl.sumN (fun r=>(optOf x f r).weight) i
 | 0,_=>by simp [run1,pW4,cnt3,Pl.sumN]
 | i+1,hi=>by
  show pW4 (p1 x pick i (((stF x f n).1[i]?).getD opt0) (run1 x pick (stF x f n).1 i))=Pl.sumN _ i+(optOf x f i).weight; rw [stF_at (by omega),p1_w (optOf_ow hW f i),run1_w hW pick f n i (by omega)]
theorem run2_w {x:Stl} (hW:StlW x) (tk:Nat→Bool) (p:P4):∀ j,pW (run2 x tk p j)=pW4 p+Pl.sumN (giveW x tk) j
 | 0=>by
  show ((p.re.length:Int) * 8589934592+p.co+134217728 * (cnt3 (p.st++p.un):Int))=((p.re.length:Int) * 8589934592+p.co+134217728 * ((cnt3 p.st:Int)+cnt3 p.un))+0; rw [cnt3_app]; omega
 | j+1=>by
  show pW (p2 x tk j ((x.give[j]?).getD opt0) (run2 x tk p j))=pW4 p+(Pl.sumN (giveW x tk) j+giveW x tk j); rw [p2_w (getW hW.g j),run2_w hW tk p j]; unfold giveW; omega
/-- the plan of a choice weighs what the choice weighs -/
theorem plan_w {x:Stl} (hN:StlN x) (hB:StlB x) (hW:StlW x) {f:Nat→Int} (h:AsgTo x f x.undo.length) {p:P4} (hp:planF x (listN x.undo.length f)=some p):pW p=Pl.weightW x.op f:=by
 unfold planF at hp; rw [(options_st x f).1 h] at hp; injection hp with hp; rw [← hp,run2_w hW,run1_w hW _ _ _ _ (Nat.le_refl _)]; unfold Pl.weightW
 congr 1
 ·exact Pl.sumN_congr _ fun r hr=>optOf_w hN hB h hr
 ·exact Pl.sumN_congr _ fun c hc=>giveW_op hN hc
theorem plan_some {x:Stl} {f:Nat→Int} (h:AsgTo x f x.undo.length):∃ p,planF x (listN x.undo.length f)=some p:=by
 unfold planF; rw [(options_st x f).1 h]; exact ⟨_,rfl⟩
theorem plan_asg {x:Stl} {pick:List Int} {p:P4} (hp:planF x pick=some p):pick.length=x.undo.length∧AsgTo x (fun r=>(pick[r]?).getD (-1)) x.undo.length:=by
 unfold planF at hp
 cases e:optionsF x pick with
 | none=>rw [e] at hp; cases hp
 | some s =>
  have hl:pick.length=x.undo.length:=by
   unfold optionsF at e; by_cases q:pick.length=x.undo.length
   ·exact q
   ·rw [if_neg q] at e; cases e
  refine ⟨hl,Classical.byContradiction fun hn=>?_⟩; have:=(options_st x fun r=>(pick[r]?).getD (-1)).2 hn; rw [listN_of hl,e] at this; cases this
/- the choice that a plan's steps tell -/
def pickL (x:Stl) (l:List Cmd) (p:Nat→Int):Nat→Int:=l.foldl (fun q c=>pickS x c q) p
theorem picked_take (x:Stl) (l:List Cmd):∀ n,n≤l.length→pickedF x l n=pickL x (l.take n) (fun _=>-1)
 | 0,_=>rfl
 | n+1,h=>by
  have hn:=List.getElem?_eq_getElem (show n < l.length by omega); show (match l[n]? with | some c=>pickS x c (pickedF x l n) | none=>pickedF x l n)=_; rw [picked_take x l n (by omega),List.take_add_one,hn]; unfold pickL; rw [List.foldl_append]; rfl
theorem picked_all (x:Stl) (l:List Cmd):pickedF x l l.length=pickL x l (fun _=>-1):=by rw [picked_take x l _ (Nat.le_refl _),List.take_length]
theorem pickL_no {x:Stl}:∀ (l:List Cmd) (p:Nat→Int),(∀ c∈l,c.kind≠4)→pickL x l p=p
 | [],p,_=>rfl
 | c::l,p,h=>by
  show pickL x l (pickS x c p)=p
  have:pickS x c p=p:=if_neg fun q=>h c (List.mem_cons_self ..) q.1
  rw [this]; exact pickL_no l p fun d hd=>h d (List.mem_cons_of_mem _ hd)
theorem keyI_at {l:List Out} (hd:(l.map Out.key).Nodup) {i:Nat} {o:Out} (h:l[i]? = some o):keyI l o.key=i:=by
 refine idxF_hit h (decide_eq_true rfl) fun j y hj hy=>decide_eq_false fun e=>?_
 have:=(List.nodup_iff_pairwise_ne.1 hd); rw [List.pairwise_iff_getElem] at this; obtain ⟨h1,h2⟩:=List.getElem?_eq_some_iff.1 h; obtain ⟨h3,h4⟩:=List.getElem?_eq_some_iff.1 hy; have:=this j i (by simpa using h3) (by simpa using h1) hj; simp only [List.getElem_map] at this; rw [h2,h4] at this; exact this e
structure StlD (x:Stl):Prop where
 u:(x.undo.map Out.key).Nodup
 d:(x.do.map Out.key).Nodup
theorem optOf_kind {x:Stl} (hK:StlK x) {f:Nat→Int} {r:Nat} (h:AsgTo x f x.undo.length) (hr:r < x.undo.length):(f r = -1∧((optOf x f r).kind=0∨(optOf x f r).kind=2∨(optOf x f r).kind=3))∨∃ c:Nat,c < x.do.length∧f r=c∧(optOf x f r).kind=4:=by
 unfold optOf; rcases h.1 r hr with e | ⟨c,h1,h2,h3⟩
 ·left
  rw [if_pos e]; refine ⟨e,?_⟩; rcases q:x.drop[r]? with _ | o
  ·left; rfl
  ·exact hK.d o (List.mem_of_getElem? q)
 ·right
  refine ⟨c,h1,h2,?_⟩; rw [if_neg (by omega)]
  have:(f r).toNat=c:=by omega
  rw [this]; obtain ⟨o,ho⟩:=Option.isSome_iff_exists.1 h3; rw [ho]; exact hK.a r c o ho
theorem run1_pick {x:Stl} (hK:StlK x) (hD:StlD x) {f:Nat→Int} (h:AsgTo x f x.undo.length):∀ i,i≤x.undo.length →
  pickL x (run1 x (listN x.undo.length f) (stF x f x.undo.length).1 i).st (fun _=>-1)=(fun r=>if r < i then f r else -1)∧∀ c∈(run1 x (listN x.undo.length f) (stF x f x.undo.length).1 i).un,c.kind≠4
 | 0,_=>⟨by funext r; rw [if_neg (by omega)]; rfl,fun c hc=>by cases hc⟩
 | i+1,hi=>by
  obtain ⟨h1,h2⟩:=run1_pick hK hD h i (by omega); show pickL x (p1 x _ i (((stF x f x.undo.length).1[i]?).getD opt0) (run1 x _ (stF x f x.undo.length).1 i)).st _=_∧∀ c∈(p1 x _ i (((stF x f x.undo.length).1[i]?).getD opt0) (run1 x _ (stF x f x.undo.length).1 i)).un,c.kind≠4; rw [stF_at (by omega)]; generalize run1 x (listN x.undo.length f) (stF x f x.undo.length).1 i=p at *
  have hno:f i = -1→(fun r=>if r < i then f r else -1)=(fun r=>if r < i+1 then f r else -1):=fun e=>by
   funext r
   by_cases q:r=i
   ·subst q; rw [if_neg (by omega),if_pos (by omega),e]
   ·by_cases q2:r < i
    ·rw [if_pos q2,if_pos (by omega)]
    ·rw [if_neg q2,if_neg (by omega)]
  rcases optOf_kind hK h (show i < x.undo.length by omega) with ⟨e,hk⟩ | ⟨c,hc,e,hk⟩
  ·by_cases k0:(optOf x f i).kind=0
   ·unfold p1; rw [if_pos k0]
    exact ⟨h1.trans (hno e),h2⟩
   ·have k4:¬ (optOf x f i).kind=4:=by omega
    unfold p1; rw [if_neg k0,if_neg k4]; refine ⟨h1.trans (hno e),fun c hc=>?_⟩; rcases List.mem_append.1 hc with hc | hc
    ·exact h2 c hc
    ·rw [List.mem_singleton] at hc
     subst hc; exact k4
  ·unfold p1; rw [if_neg (by omega),if_pos hk]
   refine ⟨?_,h2⟩; show pickL x (p.st++[_]) _=_; unfold pickL at h1 ⊢; rw [List.foldl_append,h1]; show pickS x (cmdF x.turn 4 (uAt x i) (dAt x (((listN x.undo.length f)[i]?).getD 0))) _=_; rw [listN_at f (by omega)]; obtain ⟨u,hu⟩:∃ u,x.undo[i]? = some u:=⟨_,List.getElem?_eq_getElem (by omega)⟩
   obtain ⟨d,hd⟩:∃ d,x.do[c]? = some d:=⟨_,List.getElem?_eq_getElem hc⟩
   have e1:uAt x i=u:=by unfold uAt; rw [hu]; rfl
   have e2:dAt x ((some (f i)).getD 0)=d:=by unfold dAt; rw [show ((some (f i)).getD 0).toNat=c from by show (f i).toNat=c; omega,hd]; rfl
   rw [e1,e2]; have k1:=keyI_at hD.u hu; have k2:=keyI_at hD.d hd; unfold pickS; show (if (4:Int)=4∧0≤keyI x.undo u.key∧0≤keyI x.do d.key then Pl.upd _ (keyI x.undo u.key).toNat (keyI x.do d.key) else _)=_; rw [k1,k2,if_pos ⟨rfl,by omega,by omega⟩,Int.toNat_natCast,← e]
   funext r
   by_cases q:r=i
   ·subst q; rw [Pl.upd_same,if_pos (by omega)]
   ·rw [Pl.upd_other _ _ q]
    by_cases q2:r < i
    ·rw [if_pos q2,if_pos (by omega)]
    ·rw [if_neg q2,if_neg (by omega)]
theorem run2_pick {x:Stl} (hK:StlK x) (tk:Nat→Bool) (p:P4) (q:Nat→Int) (hu:∀ c∈p.un,c.kind≠4):∀ j,pickL x (run2 x tk p j).st q=pickL x p.st q
 | 0=>by
  show pickL x (p.st++p.un) q=_; unfold pickL; rw [List.foldl_append]; exact pickL_no p.un _ hu
 | j+1=>by
  rw [← run2_pick hK tk p q hu j]; show pickL x (p2 x tk j ((x.give[j]?).getD opt0) (run2 x tk p j)).st q=_
  have hk:((x.give[j]?).getD opt0).kind=0∨((x.give[j]?).getD opt0).kind=1:=by
   rcases e:x.give[j]? with _ | o
   ·left; rfl
   ·exact hK.g o (List.mem_of_getElem? e)
  generalize (x.give[j]?).getD opt0=o at hk; unfold p2; split
  ·rfl
  ·split
   ·rfl
   ·show pickL x ((run2 x tk p j).st++[_]) q=_
    unfold pickL; rw [List.foldl_append]
    refine pickL_no [_] _ fun c hc=>?_
    rw [List.mem_singleton] at hc; subst hc; show o.kind≠4; omega
/-- what Make chose is what its steps tell -/
theorem plan_picked {x:Stl} (hK:StlK x) (hD:StlD x) {f:Nat→Int} (h:AsgTo x f x.undo.length) {p:P4} (hp:planF x (listN x.undo.length f)=some p):listN x.undo.length (pickedF x p.st p.st.length)=listN x.undo.length f:=by
 unfold planF at hp; rw [(options_st x f).1 h] at hp; injection hp with hp; obtain ⟨h1,h2⟩:=run1_pick hK hD h _ (Nat.le_refl _); rw [picked_all,← hp,run2_pick hK _ _ _ h2,h1]
 exact listN_congr fun i hi=>if_pos hi
/- lighter settlements -/
end Go.Proofs.YtfejagpjahoibaaGreatDoor
set_option linter.unusedSimpArgs false
namespace Go.Proofs.YtfejagpjahoibaaGreatDoor
open Go.RowKit
open Go.Lib (hid)
theorem findF_right {l:List Offer} (h:l=[]∨CatOk l) {name:List UInt8} {o:Offer} (hf:findF l name=some o):rightF o=true:=by
 unfold findF at hf; have hm:=List.mem_of_find?_eq_some hf; rcases h with rfl | h
 ·cases hm
 ·exact h.2.1 o hm
theorem canF_undo {o:Offer} {t c:Int} (h:canF o t c=true):o.undo≠-1:=by
 unfold canF at h; rw [Bool.and_eq_true] at h; exact of_decide_eq_true h.1
/-- what an option of a prepared settlement is -/
def OptG (o:Opt):Prop:=OptB o∧OptW o
theorem optG0:OptG opt0:=⟨optB0,optW0⟩
theorem optG_of {k c w:Int} (hc:-1≤c∧c≤1048576) (hn:c≠-1) (hk:0 < k∧k≤4) (hw:w=if k=3 then 134217728+c else c):OptG ⟨k,c,w⟩:=by
 unfold OptG OptB OptW; show (0≤w∧w≤_∧0≤c∧c≤_∧0≤k∧k≤4)∧w=(if k=0 then _ else 0)+c+(if k=3 then _ else 0); by_cases e:k=3
 ·rw [if_pos e] at hw; rw [if_neg (by omega),if_pos e]; omega
 ·rw [if_neg e] at hw; rw [if_neg (by omega),if_neg e]; omega
theorem dropF_g {l:List Offer} (h:l=[]∨CatOk l) (turn:Int) (R:List (List UInt8)) (u:Out) (clock:Int):OptG (dropF turn R (findF l u.name) u clock)∧((dropF turn R (findF l u.name) u clock).kind=0∨(dropF turn R (findF l u.name) u clock).kind=2∨(dropF turn R (findF l u.name) u clock).kind=3):=by
 unfold dropF
 cases e:findF l u.name with
 | none=>exact ⟨optG0,Or.inl rfl⟩
 | some o =>
  obtain ⟨-,h2,h3,-⟩:=right_parts (findF_right h e); show OptG (if _ then _ else _)∧_; by_cases q:(canF o u.tick clock && allowF turn R 2 u.key [])=true
  ·simp only [if_pos q]
   rw [Bool.and_eq_true] at q; exact ⟨optG_of h2 (canF_undo q.1) ⟨by decide,by decide⟩ rfl,by simp⟩
  ·simp only [if_neg q]
   by_cases q2:(decide (o.part≠-1) && !u.part && allowF turn R 3 u.key [])=true
   ·simp only [if_pos q2]
    rw [Bool.and_eq_true,Bool.and_eq_true] at q2; exact ⟨optG_of h3 (of_decide_eq_true q2.1.1) ⟨by decide,by decide⟩ rfl,by simp⟩
   ·simp only [if_neg q2]
    exact ⟨optG0,Or.inl rfl⟩
theorem giveF_g {l:List Offer} (h:l=[]∨CatOk l) (turn:Int) (R:List (List UInt8)) (d:Out):OptG (giveF turn R (findF l d.name) d)∧((giveF turn R (findF l d.name) d).kind=0∨(giveF turn R (findF l d.name) d).kind=1):=by
 unfold giveF
 cases e:findF l d.name with
 | none=>exact ⟨optG0,Or.inl rfl⟩
 | some o =>
  obtain ⟨h2,-⟩:=right_parts (findF_right h e); show OptG (if _ then _ else _)∧_; by_cases q:(decide (o.do≠-1) && allowF turn R 1 [] d.key)=true
  ·simp only [if_pos q]
   rw [Bool.and_eq_true] at q; exact ⟨optG_of h2 (of_decide_eq_true q.1) ⟨by decide,by decide⟩ rfl,by simp⟩
  ·simp only [if_neg q]
   exact ⟨optG0,Or.inl rfl⟩
theorem amdF_g {l:List Offer} (h:l=[]∨CatOk l) {turn:Int} {R:List (List UInt8)} {u d:Out} {o:Opt} (ha:amdF turn R (findF l u.name) u d=some o):OptG o∧o.kind=4:=by
 unfold amdF at ha
 cases e:findF l u.name with
 | none=>rw [e] at ha; cases ha
 | some f =>
  rw [e] at ha; obtain ⟨-,-,-,h2,-⟩:=right_parts (findF_right h e); by_cases q:(decide (u.name=d.name) && decide (f.amend≠-1) && allowF turn R 4 u.key d.key)=true
  ·simp only [if_pos q] at ha
   injection ha with ha; subst ha; rw [Bool.and_eq_true,Bool.and_eq_true] at q; exact ⟨optG_of h2 (of_decide_eq_true q.1.2) ⟨by decide,by decide⟩ rfl,rfl⟩
  ·simp only [if_neg q] at ha; cases ha
theorem stlF_amend {l:List Offer} {undo «do»:List Out} {clock turn:Int} {R:List (List UInt8)} {r c:Nat} {o:Opt} (h:(stlF l undo «do» clock turn R).amend r c=some o):∃ u d,undo[r]? = some u∧«do»[c]? = some d∧amdF turn R (findF l u.name) u d=some o:=by
 replace h:(match undo[r]?,«do»[c]? with | some u,some d=>amdF turn R (findF l u.name) u d | _,_=>none)=some o:=h
 cases e:undo[r]? with
 | none=>rw [e] at h; cases h
 | some u =>
  cases e2:«do»[c]? with
  | none=>rw [e,e2] at h; cases h
  | some d=>rw [e,e2] at h; exact ⟨u,d,rfl,rfl,h⟩
section
variable {l:List Offer} {undo «do»:List Out} {clock turn:Int} {R:List (List UInt8)}
theorem stlF_b (h:okArg l undo «do»):StlB (stlF l undo «do» clock turn R) :=
 ⟨fun o ho=>by obtain ⟨u,-,rfl⟩:=List.mem_map.1 ho; exact (dropF_g h.1 turn R u clock).1.1,fun o ho=>by obtain ⟨u,-,rfl⟩:=List.mem_map.1 ho; exact (giveF_g h.1 turn R u).1.1,fun r c o ho=>by
  obtain ⟨u,d,-,-,ha⟩:=stlF_amend ho; exact (amdF_g h.1 ha).1.1⟩
theorem stlF_k (h:okArg l undo «do»):StlK (stlF l undo «do» clock turn R) :=
 ⟨fun o ho=>by obtain ⟨u,-,rfl⟩:=List.mem_map.1 ho; exact (dropF_g h.1 turn R u clock).2,fun o ho=>by obtain ⟨u,-,rfl⟩:=List.mem_map.1 ho; exact (giveF_g h.1 turn R u).2,fun r c o ho=>by
  obtain ⟨u,d,-,-,ha⟩:=stlF_amend ho; exact (amdF_g h.1 ha).2⟩
theorem stlF_w (h:okArg l undo «do»):StlW (stlF l undo «do» clock turn R) :=
 ⟨fun o ho=>by obtain ⟨u,-,rfl⟩:=List.mem_map.1 ho; exact (dropF_g h.1 turn R u clock).1.2,fun o ho=>by obtain ⟨u,-,rfl⟩:=List.mem_map.1 ho; exact (giveF_g h.1 turn R u).1.2,fun r c o ho=>by
  obtain ⟨u,d,-,-,ha⟩:=stlF_amend ho; exact (amdF_g h.1 ha).1.2⟩
theorem stlF_n:StlN (stlF l undo «do» clock turn R):=⟨List.length_map ..,List.length_map ..⟩
theorem stlF_d (h:okArg l undo «do»):StlD (stlF l undo «do» clock turn R) :=
 ⟨(List.nodup_cons.1 (of_decide_eq_true h.2.1)).2,(List.nodup_cons.1 (of_decide_eq_true h.2.2)).2⟩
end
/- no step has a refused key -/
section
variable {l:List Offer} {undo «do»:List Out} {clock turn:Int} {R:List (List UInt8)}
end
/- refusing more makes no plan lighter; nor does a cheaper option make one heavier -/
/-- an entry that is at least as cheap -/
structure Cheaper (o p:Offer):Prop where
 d:o.do≠-1→p.do≠-1∧p.do≤o.do
 u:o.undo≠-1→p.undo≠-1∧p.undo≤o.undo
 e:p.due=o.due
 t:p.part=o.part
 a:o.amend≠-1→p.amend≠-1∧p.amend≤o.amend
theorem Cheaper.refl (o:Offer):Cheaper o o:=⟨fun h=>⟨h,Int.le_refl _⟩,fun h=>⟨h,Int.le_refl _⟩,rfl,rfl,fun h=>⟨h,Int.le_refl _⟩⟩
end Go.Proofs.YtfejagpjahoibaaGreatDoor
