/- PlanE: PlanA, PlanB, PlanC, PlanD, PlanE, in one text. -/
import Derived.Below
set_option linter.unusedVariables false
set_option linter.unusedSimpArgs false
namespace Go.Proofs.YtfejagpjahoibaaGreatDoor
namespace Pl
def upd {α:Type} (f:Nat→α) (i:Nat) (v:α):Nat→α:=fun j=>if j=i then v else f j
theorem upd_same {α:Type} (f:Nat→α) (i:Nat) (v:α):upd f i v i=v:=by unfold upd; rw [if_pos rfl]
theorem upd_other {α:Type} (f:Nat→α) {i j:Nat} (v:α) (h:j≠i):upd f i v j=f j:=by unfold upd; rw [if_neg h]
/-- a grid: its side, the cells' values (below zero: none), the prices of rows and columns, the row that owns a column (below zero: none) -/
structure Gr where
 n:Nat
 V:Nat→Nat→Int
 rows:Nat→Int
 cols:Nat→Int
 own:Nat→Int
/-- the length of the path to the column c by the row -/
def red (g:Gr) (row:Nat) (len:Int) (c:Nat):Int:=len+g.V row c - g.rows row - g.cols c
def better (g:Gr) (row:Nat) (len:Int) (dist:Nat→Int) (c:Nat):Bool:=decide (0≤g.V row c) && (decide (dist c < 0) || decide (red g row len c < dist c))
structure Sr where
 dist:Nat→Int
 pre:Nat→Int
 best:Int
/-- one column is looked at -/
def look (g:Gr) (row:Nat) (last len:Int) (D:List Nat) (c:Nat) (s:Sr):Sr :=
 if c∈D then s else
  let d:=if better g row len s.dist c then upd s.dist c (red g row len c) else s.dist
  ⟨d,if better g row len s.dist c then upd s.pre c last else s.pre,if 0≤d c∧(s.best < 0∨d c < d s.best.toNat) then (c:Int) else s.best⟩
def scan (g:Gr) (row:Nat) (last len:Int) (D:List Nat) (s:Sr):Nat→Sr
 | 0=>s
 | k+1=>look g row last len D k (scan g row last len D s k)
def nd (g:Gr) (row:Nat) (len:Int) (dist:Nat→Int) (c:Nat):Int:=if better g row len dist c then red g row len c else dist c
def np (g:Gr) (row:Nat) (last len:Int) (dist pre:Nat→Int) (c:Nat):Int:=if better g row len dist c then last else pre c
theorem scan_spec (g:Gr) (row:Nat) (last len:Int) (D:List Nat) (dist pre:Nat→Int):∀ k,
  (∀ c,(scan g row last len D ⟨dist,pre,-1⟩ k).dist c=if c < k∧c ∉ D then nd g row len dist c else dist c) ∧
  (∀ c,(scan g row last len D ⟨dist,pre,-1⟩ k).pre c=if c < k∧c ∉ D then np g row last len dist pre c else pre c) ∧
  (((scan g row last len D ⟨dist,pre,-1⟩ k).best = -1∧∀ c,c < k→c ∉ D→nd g row len dist c < 0) ∨
   ∃ b:Nat,(scan g row last len D ⟨dist,pre,-1⟩ k).best=b∧b < k∧b ∉ D∧0≤nd g row len dist b∧∀ c,c < k→c ∉ D→0≤nd g row len dist c→nd g row len dist b≤nd g row len dist c)
 | 0=>⟨fun c=>by simp [scan],fun c=>by simp [scan],Or.inl ⟨rfl,fun c hc=>by omega⟩⟩
 | k+1=>by
  obtain ⟨h1,h2,h3⟩:=scan_spec g row last len D dist pre k; show (∀ c,(look g row last len D k (scan g row last len D ⟨dist,pre,-1⟩ k)).dist c=_)∧(∀ c,(look g row last len D k (scan g row last len D ⟨dist,pre,-1⟩ k)).pre c=_)∧(((look g row last len D k (scan g row last len D ⟨dist,pre,-1⟩ k)).best = -1∧_)∨∃ b:Nat,(look g row last len D k (scan g row last len D ⟨dist,pre,-1⟩ k)).best=b∧_); generalize scan g row last len D ⟨dist,pre,-1⟩ k=s at *; by_cases hk:k∈D
  ·have e:look g row last len D k s=s:=by unfold look; rw [if_pos hk]
   rw [e]
   have key:∀ c,(c < k+1∧c ∉ D) ↔ (c < k∧c ∉ D):=fun c=>by
    constructor
    ·rintro ⟨a,b⟩
     refine ⟨?_,b⟩; rcases Nat.lt_succ_iff_lt_or_eq.1 a with h | h
     ·exact h
     ·subst h; exact absurd hk b
    ·rintro ⟨a,b⟩; exact ⟨by omega,b⟩
   refine ⟨fun c=>?_,fun c=>?_,?_⟩
   ·rw [h1 c]; simp only [key c]
   ·rw [h2 c]; simp only [key c]
   ·rcases h3 with ⟨e1,e2⟩ | ⟨b,e1,e2,e3,e4,e5⟩
    ·exact Or.inl ⟨e1,fun c hc hd=>e2 c ((key c).1 ⟨hc,hd⟩).1 hd⟩
    ·exact Or.inr ⟨b,e1,by omega,e3,e4,fun c hc hd=>e5 c ((key c).1 ⟨hc,hd⟩).1 hd⟩
  ·have hsk:s.dist k=dist k:=by rw [h1 k,if_neg (by omega)]
   have hpk:s.pre k=pre k:=by rw [h2 k,if_neg (by omega)]
   have hbt:better g row len s.dist k=better g row len dist k:=by unfold better; rw [hsk]
   have hd:∀ c,(if better g row len s.dist k then upd s.dist k (red g row len k) else s.dist) c=if c < k+1∧c ∉ D then nd g row len dist c else dist c:=fun c=>by
    rw [hbt]; by_cases e:c=k
    ·subst e
     rw [if_pos (show c < c+1∧c ∉ D from ⟨Nat.lt_succ_self _,hk⟩)]; unfold nd
     cases better g row len dist c with
     | true=>simp [upd]
     | false=>simp [hsk]
    ·have e2:(if better g row len dist k then upd s.dist k (red g row len k) else s.dist) c=s.dist c:=by
      split
      ·exact upd_other _ _ e
      ·rfl
     rw [e2,h1 c]
     have:(c < k+1∧c ∉ D) ↔ (c < k∧c ∉ D):=by constructor <;> rintro ⟨a,b⟩ <;> exact ⟨by omega,b⟩
     simp only [this]
   have e:look g row last len D k s=⟨if better g row len s.dist k then upd s.dist k (red g row len k) else s.dist,if better g row len s.dist k then upd s.pre k last else s.pre,if 0≤(if better g row len s.dist k then upd s.dist k (red g row len k) else s.dist) k∧(s.best < 0∨(if better g row len s.dist k then upd s.dist k (red g row len k) else s.dist) k < (if better g row len s.dist k then upd s.dist k (red g row len k) else s.dist) s.best.toNat) then (k:Int) else s.best⟩:=by unfold look; rw [if_neg hk]
   rw [e]; refine ⟨hd,fun c=>?_,?_⟩
   ·show (if better g row len s.dist k then upd s.pre k last else s.pre) c=_
    rw [hbt]; by_cases e:c=k
    ·subst e
     rw [if_pos (show c < c+1∧c ∉ D from ⟨Nat.lt_succ_self _,hk⟩)]; unfold np
     cases better g row len dist c with
     | true=>simp [upd]
     | false=>simp [hpk]
    ·have e2:(if better g row len dist k then upd s.pre k last else s.pre) c=s.pre c:=by
      split
      ·exact upd_other _ _ e
      ·rfl
     rw [e2,h2 c]
     have:(c < k+1∧c ∉ D) ↔ (c < k∧c ∉ D):=by constructor <;> rintro ⟨a,b⟩ <;> exact ⟨by omega,b⟩
     simp only [this]
   ·show ((if 0≤(if better g row len s.dist k then upd s.dist k (red g row len k) else s.dist) k∧(s.best < 0∨(if better g row len s.dist k then upd s.dist k (red g row len k) else s.dist) k < (if better g row len s.dist k then upd s.dist k (red g row len k) else s.dist) s.best.toNat) then (k:Int) else s.best) = -1∧_)∨∃ b:Nat,(if 0≤(if better g row len s.dist k then upd s.dist k (red g row len k) else s.dist) k∧(s.best < 0∨(if better g row len s.dist k then upd s.dist k (red g row len k) else s.dist) k < (if better g row len s.dist k then upd s.dist k (red g row len k) else s.dist) s.best.toNat) then (k:Int) else s.best)=b∧_
    rw [hd k,if_pos (show k < k+1∧k ∉ D from ⟨Nat.lt_succ_self _,hk⟩)]; rcases h3 with ⟨e1,e2⟩ | ⟨b,e1,e2,e3,e4,e5⟩
    ·by_cases h0:0≤nd g row len dist k
     ·right
      refine ⟨k,by rw [if_pos ⟨h0,Or.inl (by omega)⟩],Nat.lt_succ_self _,hk,h0,fun c hc hd2 hn=>?_⟩; rcases Nat.lt_succ_iff_lt_or_eq.1 hc with h | h
      ·have:=e2 c h hd2; omega
      ·subst h; exact Int.le_refl _
     ·left
      refine ⟨by rw [if_neg (fun h=>h0 h.1),e1],fun c hc hd2=>?_⟩; rcases Nat.lt_succ_iff_lt_or_eq.1 hc with h | h
      ·exact e2 c h hd2
      ·subst h; omega
    ·right
     have hb:s.best.toNat=b:=by rw [e1]; rfl
     rw [hb,hd b,if_pos (show b < k+1∧b ∉ D from ⟨by omega,e3⟩)]; by_cases h0:0≤nd g row len dist k∧nd g row len dist k < nd g row len dist b
     ·refine ⟨k,by rw [if_pos ⟨h0.1,Or.inr h0.2⟩],Nat.lt_succ_self _,hk,h0.1,fun c hc hd2 hn=>?_⟩
      rcases Nat.lt_succ_iff_lt_or_eq.1 hc with h | h
      ·have:=e5 c h hd2 hn; omega
      ·subst h; exact Int.le_refl _
     ·refine ⟨b,by rw [if_neg (fun h=>h0 ⟨h.1,by rcases h.2 with h9 | h9 <;> omega⟩),e1],by omega,e3,e4,fun c hc hd2 hn=>?_⟩
      rcases Nat.lt_succ_iff_lt_or_eq.1 hc with h | h
      ·exact e5 c h hd2 hn
      ·subst h; omega
/-- the search: the column without an owner at its end, the columns done (the last one first) -/
def search (g:Gr):Nat→(Nat→Int)→(Nat→Int)→List Nat→Nat→Int→Int→Option ((Nat→Int) × (Nat→Int) × List Nat × Nat)
 | 0,_,_,_,_,_,_=>none
 | k+1,dist,pre,D,row,last,len =>
  let s:=scan g row last len D ⟨dist,pre,-1⟩ g.n
  if s.best < 0 then none
  else if g.own s.best.toNat < 0 then some (s.dist,s.pre,D,s.best.toNat)
  else search g k s.dist s.pre (s.best.toNat::D) (g.own s.best.toNat).toNat s.best (s.dist s.best.toNat)
/-- what the grid keeps while rows are placed: the rows below r are -/
structure GI (g:Gr) (r:Nat):Prop where
 rng:∀ c,c < g.n→g.own c = -1∨∃ ρ:Nat,g.own c=ρ∧ρ < r
 inj:∀ c d,c < g.n→d < g.n→0≤g.own c→g.own c=g.own d→c=d
 cov:∀ ρ,ρ < r→∃ c,c < g.n∧g.own c=(ρ:Int)
 fea:∀ ρ c,ρ < g.n→c < g.n→0≤g.V ρ c→g.rows ρ+g.cols c≤g.V ρ c
 tig:∀ c (ρ:Nat),c < g.n→g.own c=ρ→0≤g.V ρ c∧g.rows ρ+g.cols c=g.V ρ c
 fre:∀ c,c < g.n→g.own c < 0→g.cols c=0
 zer:∀ ρ,r≤ρ→g.rows ρ=0
 len:r≤g.n
/-- a row of the tree: the row r, or the owner of a column done -/
def Tree (g:Gr) (r:Nat) (dist:Nat→Int) (T:List Nat) (ρ:Nat) (L:Int) (lnk:Int):Prop:=(ρ=r∧L=0∧lnk = -1)∨∃ d,d∈T∧g.own d=(ρ:Int)∧L=dist d∧lnk=(d:Int)
theorem Tree.mono {g:Gr} {r:Nat} {dist:Nat→Int} {T T':List Nat} {ρ:Nat} {L lnk:Int} (h:Tree g r dist T ρ L lnk) (hs:∀ d∈T,d∈T'):Tree g r dist T' ρ L lnk:=by
 rcases h with h | ⟨d,hd,h⟩
 ·exact Or.inl h
 ·exact Or.inr ⟨d,hs d hd,h⟩
theorem Tree.congr {g:Gr} {r:Nat} {dist dist':Nat→Int} {T:List Nat} {ρ:Nat} {L lnk:Int} (h:Tree g r dist T ρ L lnk) (he:∀ d∈T,dist' d=dist d):Tree g r dist' T ρ L lnk:=by
 rcases h with h | ⟨d,hd,h1,h2,h3⟩
 ·exact Or.inl h
 ·exact Or.inr ⟨d,hd,h1,by rw [he d hd]; exact h2,h3⟩
/-- the search at its head -/
structure SI (g:Gr) (r:Nat) (M:Int) (dist pre:Nat→Int) (D:List Nat) (row:Nat) (last len:Int):Prop where
 nod:D.Nodup
 lt:∀ c∈D,c < g.n∧0≤g.own c
 cur:(D=[]∧row=r∧last = -1∧len=0)∨∃ d D',D=d::D'∧g.own d=(row:Int)∧last=(d:Int)∧len=dist d
 le:∀ c∈D,0≤dist c∧dist c≤len
 ge:∀ c,c < g.n→c ∉ D→0≤dist c→len≤dist c
 rel:D≠[]→∀ ρ L k,Tree g r dist D.tail ρ L k→∀ c,c < g.n→0≤g.V ρ c→0≤dist c∧dist c≤red g ρ L c
 wit:∀ c,c < g.n→c ∉ D→0≤dist c→D≠[]∧∃ ρ L,Tree g r dist D.tail ρ L (pre c)∧0≤g.V ρ c∧dist c=red g ρ L c
 wid:∀ D1 c D2,D=D1++c::D2→∃ ρ L,Tree g r dist D2 ρ L (pre c)∧0≤g.V ρ c∧dist c=red g ρ L c
 bnd:∀ c,c < g.n→0≤dist c→dist c+g.cols c+g.rows r≤D.length * M
/-- the search at its end -/
structure FS (g:Gr) (r:Nat) (M:Int) (dist pre:Nat→Int) (D:List Nat) (b:Nat):Prop where
 nod:D.Nodup
 lt:∀ c∈D,c < g.n∧0≤g.own c
 bn:b < g.n∧b ∉ D∧g.own b < 0∧0≤dist b
 le:∀ c∈D,0≤dist c∧dist c≤dist b
 ge:∀ c,c < g.n→c ∉ D→0≤dist c→dist b≤dist c
 rel:∀ ρ L k,Tree g r dist D ρ L k→∀ c,c < g.n→0≤g.V ρ c→0≤dist c∧dist c≤red g ρ L c
 wit:∃ ρ L,Tree g r dist D ρ L (pre b)∧0≤g.V ρ b∧dist b=red g ρ L b
 wid:∀ D1 c D2,D=D1++c::D2→∃ ρ L,Tree g r dist D2 ρ L (pre c)∧0≤g.V ρ c∧dist c=red g ρ L c
 bnd:dist b≤(D.length+1) * M
theorem Tree.cases {g:Gr} {r:Nat} {M:Int} {dist pre:Nat→Int} {D:List Nat} {row:Nat} {last len:Int} (h:SI g r M dist pre D row last len) {ρ:Nat} {L k:Int} (ht:Tree g r dist D ρ L k):(ρ=row∧L=len∧k=last)∨(D≠[]∧Tree g r dist D.tail ρ L k):=by
 rcases h.cur with ⟨hD,h1,h2,h3⟩ | ⟨d,D',hD,h1,h2,h3⟩
 ·left
  rcases ht with ⟨e1,e2,e3⟩ | ⟨d,hd,_⟩
  ·exact ⟨by rw [e1,h1],by rw [e2,h3],by rw [e3,h2]⟩
  ·rw [hD] at hd; cases hd
 ·have hne:D≠[]:=by rw [hD]; simp
  rcases ht with e | ⟨d',hd,e1,e2,e3⟩
  ·exact Or.inr ⟨hne,Or.inl e⟩
  ·rw [hD] at hd
   rcases List.mem_cons.1 hd with rfl | hd
   ·left
    rw [h1] at e1; exact ⟨by omega,by rw [e2,h3],by rw [e3,h2]⟩
   ·exact Or.inr ⟨hne,Or.inr ⟨d',by rw [hD]; exact hd,e1,e2,e3⟩⟩
theorem Tree.cur {g:Gr} {r:Nat} {M:Int} {dist pre:Nat→Int} {D:List Nat} {row:Nat} {last len:Int} (h:SI g r M dist pre D row last len):Tree g r dist D row len last:=by
 rcases h.cur with ⟨hD,h1,h2,h3⟩ | ⟨d,D',hD,h1,h2,h3⟩
 ·exact Or.inl ⟨h1,h3,h2⟩
 ·exact Or.inr ⟨d,by rw [hD]; simp,h1,h3,h2⟩
theorem Tree.lt {g:Gr} {r:Nat} (hg:GI g r) (hr:r < g.n) {dist:Nat→Int} {D:List Nat} (hD:∀ c∈D,c < g.n∧0≤g.own c) {ρ:Nat} {L k:Int} (h:Tree g r dist D ρ L k):ρ < g.n:=by
 rcases h with ⟨rfl,_⟩ | ⟨d,hd,e,_⟩
 ·exact hr
 ·rcases hg.rng d (hD d hd).1 with h | ⟨ρ',h,h2⟩
  ·have:=(hD d hd).2; omega
  ·have:=hg.len; omega
theorem SI.len0 {g:Gr} {r:Nat} {M:Int} {dist pre:Nat→Int} {D:List Nat} {row:Nat} {last len:Int} (h:SI g r M dist pre D row last len):0≤len:=by
 rcases h.cur with ⟨_,_,_,h3⟩ | ⟨d,D',hD,_,_,h3⟩
 ·omega
 ·rw [h3]; exact (h.le d (by rw [hD]; simp)).1
theorem si_step (g:Gr) (r:Nat) (M:Int) (hg:GI g r) (hr:r < g.n) (hM0:0≤M) (hM:∀ ρ c,ρ < g.n→c < g.n→g.V ρ c≤M) (σ:Nat→Nat) (hσ:∀ ρ,ρ < g.n→σ ρ < g.n∧0≤g.V ρ (σ ρ)) (hσi:∀ ρ τ,ρ < g.n→τ < g.n→σ ρ=σ τ→ρ=τ)
  {dist pre:Nat→Int} {D:List Nat} {row:Nat} {last len:Int} (h:SI g r M dist pre D row last len) :
  ∃ b:Nat,(scan g row last len D ⟨dist,pre,-1⟩ g.n).best=b∧b < g.n∧b ∉ D∧0≤(scan g row last len D ⟨dist,pre,-1⟩ g.n).dist b ∧
   (g.own b < 0→FS g r M (scan g row last len D ⟨dist,pre,-1⟩ g.n).dist (scan g row last len D ⟨dist,pre,-1⟩ g.n).pre D b) ∧
   (¬ g.own b < 0→SI g r M (scan g row last len D ⟨dist,pre,-1⟩ g.n).dist (scan g row last len D ⟨dist,pre,-1⟩ g.n).pre (b::D) (g.own b).toNat b ((scan g row last len D ⟨dist,pre,-1⟩ g.n).dist b)):=by
 have hrow:row < g.n:=(Tree.cur h).lt hg hr h.lt; have hl0:=h.len0; obtain ⟨s1,s2,s3⟩:=scan_spec g row last len D dist pre g.n; generalize scan g row last len D ⟨dist,pre,-1⟩ g.n=s at *
 have hdD:∀ c,c∈D→s.dist c=dist c:=fun c hc=>by rw [s1 c,if_neg (fun h=>h.2 hc)]
 have hpD:∀ c,c∈D→s.pre c=pre c:=fun c hc=>by rw [s2 c,if_neg (fun h=>h.2 hc)]
 have hdn:∀ c,c < g.n→c ∉ D→s.dist c=nd g row len dist c:=fun c hc hd=>by rw [s1 c,if_pos ⟨hc,hd⟩]
 have hpn:∀ c,c < g.n→c ∉ D→s.pre c=np g row last len dist pre c:=fun c hc hd=>by rw [s2 c,if_pos ⟨hc,hd⟩]
 have hred:∀ c,c < g.n→0≤g.V row c→len≤red g row len c:=fun c hc hv=>by
  have:=hg.fea row c hrow hc hv; unfold red; omega
 have hnb:∀ c,better g row len dist c=true→0≤g.V row c∧(dist c < 0∨red g row len c < dist c):=fun c hb=>by
  unfold better at hb; simp only [Bool.and_eq_true,Bool.or_eq_true,decide_eq_true_eq] at hb; exact hb
 have hnn:∀ c,better g row len dist c=false→0≤g.V row c→0≤dist c∧dist c≤red g row len c:=fun c hb hv=>by
  unfold better at hb; simp only [Bool.and_eq_false_iff,Bool.or_eq_false_iff,decide_eq_false_iff_not] at hb; rcases hb with h9 | ⟨h8,h9⟩ <;> omega
 have A:∀ ρ L k,Tree g r dist D ρ L k→∀ c,c < g.n→0≤g.V ρ c→0≤s.dist c∧s.dist c≤red g ρ L c:=by
  intro ρ L k' ht c hc hv; by_cases hd:c∈D
  ·rw [hdD c hd]
   rcases Tree.cases h ht with ⟨rfl,rfl,-⟩ | ⟨hne,ht2⟩
   ·have:=h.le c hd; have:=hred c hc hv; omega
   ·exact h.rel hne ρ L k' ht2 c hc hv
  ·rw [hdn c hc hd]
   unfold nd
   cases hb:better g row len dist c with
   | true =>
    rw [if_pos rfl]; have h1:=hred c hc (hnb c hb).1; rcases Tree.cases h ht with ⟨rfl,rfl,-⟩ | ⟨hne,ht2⟩
    ·omega
    ·have h2:=h.rel hne ρ L k' ht2 c hc hv
     rcases (hnb c hb).2 with h9 | h9 <;> omega
   | false =>
    rw [if_neg (by simp)]; rcases Tree.cases h ht with ⟨rfl,rfl,-⟩ | ⟨hne,ht2⟩
    ·exact hnn c hb hv
    ·exact h.rel hne ρ L k' ht2 c hc hv
 have B:∀ c,c < g.n→c ∉ D→0≤s.dist c→len≤s.dist c:=by
  intro c hc hd h0; rw [hdn c hc hd] at h0 ⊢; unfold nd at h0 ⊢
  cases hb:better g row len dist c with
  | true=>rw [if_pos rfl]; exact hred c hc (hnb c hb).1
  | false=>rw [hb,if_neg (by simp)] at h0; rw [if_neg (by simp)]; exact h.ge c hc hd h0
 have C:∀ c,c < g.n→c ∉ D→0≤s.dist c→∃ ρ L,Tree g r dist D ρ L (s.pre c)∧0≤g.V ρ c∧s.dist c=red g ρ L c:=by
  intro c hc hd h0; rw [hpn c hc hd]; rw [hdn c hc hd] at h0 ⊢; unfold nd at h0 ⊢; unfold np
  cases hb:better g row len dist c with
  | true=>rw [if_pos rfl,if_pos rfl]; exact ⟨row,len,Tree.cur h,(hnb c hb).1,rfl⟩
  | false =>
   rw [hb,if_neg (by simp)] at h0; rw [if_neg (by simp),if_neg (by simp)]; obtain ⟨hne,ρ,L,h1,h2,h3⟩:=h.wit c hc hd h0; exact ⟨ρ,L,h1.mono fun d hd2=>List.mem_of_mem_tail hd2,h2,h3⟩
 have hDM:(0:Int)≤D.length * M:=Int.mul_nonneg (by omega) hM0
 have hsM:((D.length:Int)+1) * M=D.length * M+M:=by rw [Int.add_mul,Int.one_mul]
 have E:∀ c,c < g.n→0≤s.dist c→s.dist c+g.cols c+g.rows r≤((D.length:Int)+1) * M:=by
  intro c hc h0; by_cases hd:c∈D
  ·rw [hdD c hd] at h0 ⊢
   have:=h.bnd c hc h0; omega
  ·rw [hdn c hc hd] at h0 ⊢
   unfold nd at h0 ⊢
   cases hb:better g row len dist c with
   | true =>
    rw [if_pos rfl]; have h1:=hM row c hrow hc
    have h2:len - g.rows row+g.rows r≤D.length * M:=by
     rcases h.cur with ⟨hD,e1,e2,e3⟩ | ⟨d,D',hD,e1,e2,e3⟩
     ·rw [e1,e3]; omega
     ·have hdm:d∈D:=by rw [hD]; simp
      have h4:=h.bnd d (h.lt d hdm).1 (h.le d hdm).1; have h5:=hg.tig d row (h.lt d hdm).1 e1; omega
    unfold red; omega
   | false =>
    rw [hb,if_neg (by simp)] at h0; rw [if_neg (by simp)]; have:=h.bnd c hc h0; omega
 rcases s3 with ⟨e1,e2⟩ | ⟨b,e1,e2,e3,e4,e5⟩
 ·exfalso
  have hrn:∀ ρ,ρ∈r::D.map (fun c=>(g.own c).toNat)→ρ < g.n∧σ ρ∈D:=by
   intro ρ hρ
   have ht:∃ L k,Tree g r dist D ρ L k:=by
    rcases List.mem_cons.1 hρ with rfl | hρ
    ·exact ⟨0,-1,Or.inl ⟨rfl,rfl,rfl⟩⟩
    ·obtain ⟨c,hc,rfl⟩:=List.mem_map.1 hρ
     have:=(h.lt c hc).2; exact ⟨dist c,c,Or.inr ⟨c,hc,by omega,rfl,rfl⟩⟩
   obtain ⟨L,k',ht⟩:=ht; have hlt:=ht.lt hg hr h.lt; refine ⟨hlt,Classical.byContradiction fun hno=>?_⟩; have h1:=(A ρ L k' ht (σ ρ) (hσ ρ hlt).1 (hσ ρ hlt).2).1; rw [hdn _ (hσ ρ hlt).1 hno] at h1; have:=e2 (σ ρ) (hσ ρ hlt).1 hno; omega
  have hnod:(r::D.map (fun c=>(g.own c).toNat)).Nodup:=by
   rw [List.nodup_cons]; constructor
   ·intro hm
    obtain ⟨c,hc,e⟩:=List.mem_map.1 hm; have:=(h.lt c hc).2; rcases hg.rng c (h.lt c hc).1 with h9 | ⟨ρ',h8,h9⟩ <;> omega
   ·rw [List.nodup_iff_pairwise_ne,List.pairwise_map]
    refine (List.nodup_iff_pairwise_ne.1 h.nod).imp_of_mem fun {a c} ha hc hne e=>hne ?_
    have h1:=h.lt a ha; have h2:=h.lt c hc; exact hg.inj a c h1.1 h2.1 h1.2 (by omega)
  have hnod2:((r::D.map (fun c=>(g.own c).toNat)).map σ).Nodup:=by
   rw [List.nodup_iff_pairwise_ne,List.pairwise_map]
   refine (List.nodup_iff_pairwise_ne.1 hnod).imp_of_mem fun {a c} ha hc hne e=>hne ?_
   exact hσi a c (hrn a ha).1 (hrn c hc).1 e
  have:=List.Nodup.length_le_of_subset hnod2 (l₂:=D) fun y hy=>by
   obtain ⟨ρ,hρ,rfl⟩:=List.mem_map.1 hy; exact (hrn ρ hρ).2
  simp only [List.length_map,List.length_cons] at this; omega
 ·refine ⟨b,e1,e2,e3,by rw [hdn b e2 e3]; exact e4,?_⟩
  have hb0:0≤s.dist b:=by rw [hdn b e2 e3]; exact e4
  have hmin:∀ c,c < g.n→c ∉ D→0≤s.dist c→s.dist b≤s.dist c:=fun c hc hd h0=>by
   rw [hdn c hc hd] at h0 ⊢; rw [hdn b e2 e3]; exact e5 c hc hd h0
  have hwid:∀ D1 c D2,D=D1++c::D2→∃ ρ L,Tree g r s.dist D2 ρ L (s.pre c)∧0≤g.V ρ c∧s.dist c=red g ρ L c:=by
   intro D1 c D2 hD
   have hcm:c∈D:=by rw [hD]; simp
   obtain ⟨ρ,L,h1,h2,h3⟩:=h.wid D1 c D2 hD; rw [hpD c hcm,hdD c hcm]; exact ⟨ρ,L,h1.congr fun d hd=>hdD d (by rw [hD]; simp [hd]),h2,h3⟩
  constructor
  ·intro ho
   refine ⟨h.nod,h.lt,⟨e2,e3,ho,hb0⟩,fun c hc=>?_,hmin,fun ρ L k' ht=>?_,?_,hwid,?_⟩
   ·rw [hdD c hc]
    have:=h.le c hc; have:=B b e2 e3 hb0; omega
   ·exact A ρ L k' (ht.congr fun d hd=>(hdD d hd).symm)
   ·obtain ⟨ρ,L,h1,h2,h3⟩:=C b e2 e3 hb0
    exact ⟨ρ,L,h1.congr fun d hd=>hdD d hd,h2,h3⟩
   ·have h1:=E b e2 hb0
    rw [hg.fre b e2 ho,hg.zer r (Nat.le_refl _)] at h1; omega
  ·intro ho
   refine ⟨List.nodup_cons.2 ⟨e3,h.nod⟩,fun c hc=>?_,Or.inr ⟨b,D,rfl,by omega,rfl,rfl⟩,fun c hc=>?_,fun c hc hd h0=>hmin c hc (fun h9=>hd (List.mem_cons_of_mem _ h9)) h0,fun _ ρ L k' ht=>A ρ L k' (ht.congr fun d hd=>(hdD d hd).symm),fun c hc hd h0=>⟨by simp,?_⟩,fun D1 c D2 hD=>?_,fun c hc h0=>?_⟩
   ·rcases List.mem_cons.1 hc with rfl | hc
    ·exact ⟨e2,by omega⟩
    ·exact h.lt c hc
   ·rcases List.mem_cons.1 hc with rfl | hc
    ·exact ⟨hb0,Int.le_refl _⟩
    ·rw [hdD c hc]
     have:=h.le c hc; have:=B b e2 e3 hb0; omega
   ·obtain ⟨ρ,L,h1,h2,h3⟩:=C c hc (fun h9=>hd (List.mem_cons_of_mem _ h9)) h0
    exact ⟨ρ,L,h1.congr fun d hd=>hdD d hd,h2,h3⟩
   ·cases D1 with
    | nil =>
     injection hD with hc hD2; subst hc hD2; obtain ⟨ρ,L,h1,h2,h3⟩:=C b e2 e3 hb0; exact ⟨ρ,L,h1.congr fun d hd=>hdD d hd,h2,h3⟩
    | cons y D1 =>
     injection hD with hc hD2; exact hwid D1 c D2 hD2
   ·have:=E c hc h0
    rw [List.length_cons]; push_cast; exact this
theorem search_spec (g:Gr) (r:Nat) (M:Int) (hg:GI g r) (hr:r < g.n) (hM0:0≤M) (hM:∀ ρ c,ρ < g.n→c < g.n→g.V ρ c≤M) (σ:Nat→Nat) (hσ:∀ ρ,ρ < g.n→σ ρ < g.n∧0≤g.V ρ (σ ρ)) (hσi:∀ ρ τ,ρ < g.n→τ < g.n→σ ρ=σ τ→ρ=τ) :
  ∀ fuel dist pre D row last len,SI g r M dist pre D row last len→g.n+1≤fuel+D.length→∃ dist' pre' D' b,search g fuel dist pre D row last len=some (dist',pre',D',b)∧FS g r M dist' pre' D' b
 | 0,dist,pre,D,row,last,len,h,hf=>by
  have:=List.Nodup.length_le_of_subset h.nod (l₂:=List.range g.n) fun c hc=>List.mem_range.2 (h.lt c hc).1
  rw [List.length_range] at this; omega
 | k+1,dist,pre,D,row,last,len,h,hf=>by
  obtain ⟨b,e1,e2,e3,e4,e5,e6⟩:=si_step g r M hg hr hM0 hM σ hσ hσi h
  have hbt:(scan g row last len D ⟨dist,pre,-1⟩ g.n).best.toNat=b:=by rw [e1]; rfl
  unfold search
  dsimp only
  rw [hbt,if_neg (by omega)]; by_cases ho:g.own b < 0
  ·rw [if_pos ho]
   exact ⟨_,_,_,_,rfl,e5 ho⟩
  ·rw [if_neg ho,e1]
   exact search_spec g r M hg hr hM0 hM σ hσ hσi k _ _ _ _ _ _ (e6 ho) (by simp; omega)
end Pl
end Go.Proofs.YtfejagpjahoibaaGreatDoor
set_option linter.unusedSimpArgs false
namespace Go.Proofs.YtfejagpjahoibaaGreatDoor
namespace Pl
def price (own dist:Nat→Int) (len:Int) (D:List Nat):Nat→(Nat→Int) × (Nat→Int)→(Nat→Int) × (Nat→Int)
 | 0,s=>s
 | k+1,s=>if k∈D then (upd (price own dist len D k s).1 (own k).toNat ((price own dist len D k s).1 (own k).toNat+(len - dist k)),upd (price own dist len D k s).2 k ((price own dist len D k s).2 k - (len - dist k))) else price own dist len D k s
theorem price_spec (own dist:Nat→Int) (len:Int) (D:List Nat) (n:Nat) (hD:∀ c∈D,c < n∧0≤own c) (hi:∀ c d,c∈D→d∈D→own c=own d→c=d) (rows cols:Nat→Int):∀ k,k≤n →
  (∀ c,c < k→c∈D→(price own dist len D k (rows,cols)).1 (own c).toNat=rows (own c).toNat+(len - dist c)) ∧
  (∀ ρ:Nat,(∀ c,c < k→c∈D→own c≠ρ)→(price own dist len D k (rows,cols)).1 ρ=rows ρ) ∧
  (∀ c,(price own dist len D k (rows,cols)).2 c=if c < k∧c∈D then cols c - (len - dist c) else cols c)
 | 0,_=>⟨fun c hc=>by omega,fun ρ _=>rfl,fun c=>by simp [price]⟩
 | k+1,hk=>by
  obtain ⟨h1,h2,h3⟩:=price_spec own dist len D n hD hi rows cols k (by omega); unfold price; by_cases hd:k∈D
  ·rw [if_pos hd]
   have hk0:=(hD k hd).2
   have hfr:(price own dist len D k (rows,cols)).1 (own k).toNat=rows (own k).toNat:=h2 _ fun c hc hcd e=>by
    have:=hi c k hcd hd (by omega); omega
   refine ⟨fun c hc hcd=>?_,fun ρ hρ=>?_,fun c=>?_⟩
   ·show upd _ _ _ (own c).toNat=_
    by_cases e:c=k
    ·subst e; rw [upd_same,hfr]
    ·have hne:(own c).toNat≠(own k).toNat:=fun e2=>e (hi c k hcd hd (by have:=(hD c hcd).2; omega))
     rw [upd_other _ _ hne]; exact h1 c (by omega) hcd
   ·show upd _ _ _ ρ=_
    have:=hρ k (by omega) hd; rw [upd_other _ _ (by omega)]
    exact h2 ρ fun c hc hcd=>hρ c (by omega) hcd
   ·show upd _ _ _ c=_
    by_cases e:c=k
    ·subst e
     rw [upd_same,h3 c,if_neg (by omega),if_pos ⟨Nat.lt_succ_self _,hd⟩]
    ·rw [upd_other _ _ e,h3 c]
     have:(c < k+1∧c∈D) ↔ (c < k∧c∈D):=by constructor <;> rintro ⟨a,b⟩ <;> exact ⟨by omega,b⟩
     simp only [this]
  ·rw [if_neg hd]
   refine ⟨fun c hc hcd=>h1 c (by rcases Nat.lt_succ_iff_lt_or_eq.1 hc with h | h; exact h; subst h; exact absurd hcd hd) hcd,fun ρ hρ=>h2 ρ fun c hc hcd=>hρ c (by omega) hcd,fun c=>?_⟩; rw [h3 c]
   have:(c < k+1∧c∈D) ↔ (c < k∧c∈D):=by
    constructor
    ·rintro ⟨a,b⟩
     refine ⟨?_,b⟩; rcases Nat.lt_succ_iff_lt_or_eq.1 a with h | h
     ·exact h
     ·subst h; exact absurd b hd
    ·rintro ⟨a,b⟩; exact ⟨by omega,b⟩
   simp only [this]
def aug (pre:Nat→Int) (r:Nat):Nat→(Nat→Int)→Nat→(Nat→Int)
 | 0,own,_=>own
 | k+1,own,p=>if pre p < 0 then upd own p (r:Int) else aug pre r k (upd own p (own (pre p).toNat)) (pre p).toNat
/-- while the owners along the path change: the column p is to get another one -/
structure AI (g:Gr) (r:Nat) (dist pre rows' cols' own:Nat→Int) (p:Nat) (T:List Nat):Prop where
 pn:p < g.n
 rng:∀ c,c < g.n→c≠p→own c = -1∨∃ ρ:Nat,own c=ρ∧ρ < r
 inj:∀ c d,c < g.n→d < g.n→c≠p→d≠p→0≤own c→own c=own d→c=d
 cov:∀ ρ,ρ < r→∃ c,c < g.n∧c≠p∧own c=(ρ:Int)
 tig:∀ c (ρ:Nat),c < g.n→c≠p→own c=ρ→0≤g.V ρ c∧rows' ρ+cols' c=g.V ρ c
 rem:∀ c∈T,c < g.n∧own c=g.own c∧c≠p
 nod:T.Nodup
 wit:∃ ρ L,Tree g r dist T ρ L (pre p)∧0≤g.V ρ p∧rows' ρ+cols' p=g.V ρ p
 wid:∀ T1 c T2,T=T1++c::T2→∃ ρ L,Tree g r dist T2 ρ L (pre c)∧0≤g.V ρ c∧rows' ρ+cols' c=g.V ρ c
 fre:∀ c,c < g.n→c≠p→own c < 0→cols' c=0
theorem aug_step {g:Gr} {r:Nat} {dist pre rows' cols' own:Nat→Int} {p:Nat} {T:List Nat} (h:AI g r dist pre rows' cols' own p T) :
  pre p = -1∨∃ (d:Nat) (T2:List Nat),pre p=(d:Int)∧d < g.n∧T2.length < T.length∧AI g r dist pre rows' cols' (upd own p (own d)) d T2:=by
 obtain ⟨ρ,L,ht,hv,htg⟩:=h.wit; rcases ht with ⟨rfl,-,hp⟩ | ⟨d,hd,hod,-,hp⟩
 ·left; exact hp
 ·right
  obtain ⟨T1,T2,hT⟩:=List.append_of_mem hd; have hdr:=h.rem d hd; have hown:own d=(ρ:Int):=hdr.2.1.trans hod; have hs:upd own p (own d) p=own d:=upd_same _ _ _
  have ho:∀ c,c≠p→upd own p (own d) c=own c:=fun c hc=>upd_other _ _ hc
  have hnd:=h.nod; rw [hT,List.nodup_append] at hnd; have hnd2:=List.nodup_cons.1 hnd.2.1; refine ⟨d,T2,hp,hdr.1,by rw [hT]; simp; omega,hdr.1,fun c hc hcd=>?_,fun c e hc he hcd hed h0 e2=>?_,fun τ hτ=>?_,fun c τ hc hcd e=>?_,fun c hc=>?_,hnd2.2,h.wid T1 d T2 hT,fun S1 c S2 hS=>h.wid (T1++d::S1) c S2 (by rw [hT,hS]; simp),fun c hc hcd h0=>?_⟩
  ·by_cases ec:c=p
   ·subst ec; rw [hs]; exact h.rng d hdr.1 hdr.2.2
   ·rw [ho c ec]; exact h.rng c hc ec
  ·by_cases ec:c=p
   ·by_cases ee:e=p
    ·rw [ec,ee]
    ·subst ec
     rw [hs,ho e ee] at e2; rw [hs] at h0; exact absurd (h.inj d e hdr.1 he hdr.2.2 ee h0 e2).symm hed
   ·by_cases ee:e=p
    ·subst ee
     rw [hs,ho c ec] at e2; rw [ho c ec] at h0; exact absurd (h.inj c d hc hdr.1 ec hdr.2.2 h0 e2) hcd
    ·rw [ho c ec,ho e ee] at e2
     rw [ho c ec] at h0; exact h.inj c e hc he ec ee h0 e2
  ·obtain ⟨c,h1,h2,h3⟩:=h.cov τ hτ
   by_cases ec:c=d
   ·exact ⟨p,h.pn,fun e=>hdr.2.2 e.symm,by rw [hs,← ec]; exact h3⟩
   ·exact ⟨c,h1,ec,by rw [ho c h2]; exact h3⟩
  ·by_cases ec:c=p
   ·subst ec
    rw [hs] at e
    have:τ=ρ:=by omega
    subst this; exact ⟨hv,htg⟩
   ·rw [ho c ec] at e
    exact h.tig c τ hc ec e
  ·have hcT:c∈T:=by rw [hT]; simp [hc]
   have:=h.rem c hcT; refine ⟨this.1,by rw [ho c this.2.2]; exact this.2.1,fun e=>hnd2.1 (e ▸ hc)⟩
  ·by_cases ec:c=p
   ·subst ec; rw [hs,hown] at h0; omega
   ·rw [ho c ec] at h0; exact h.fre c hc ec h0
theorem aug_spec (g:Gr) (r:Nat) (dist pre rows' cols':Nat→Int):∀ (fuel:Nat) (own:Nat→Int) (p:Nat) (T:List Nat),AI g r dist pre rows' cols' own p T→T.length < fuel →
  (∀ c,c < g.n→aug pre r fuel own p c = -1∨∃ ρ:Nat,aug pre r fuel own p c=ρ∧ρ < r+1) ∧
  (∀ c d,c < g.n→d < g.n→0≤aug pre r fuel own p c→aug pre r fuel own p c=aug pre r fuel own p d→c=d) ∧
  (∀ ρ,ρ < r+1→∃ c,c < g.n∧aug pre r fuel own p c=(ρ:Int)) ∧
  (∀ c (ρ:Nat),c < g.n→aug pre r fuel own p c=ρ→0≤g.V ρ c∧rows' ρ+cols' c=g.V ρ c) ∧
  (∀ c,c < g.n→aug pre r fuel own p c < 0→cols' c=0)
 | 0,own,p,T,h,hf=>absurd hf (by omega)
 | k+1,own,p,T,h,hf=>by
  obtain ⟨ρ,L,ht,hv,htg⟩:=h.wit; unfold aug; rcases ht with ⟨rfl,-,hp⟩ | ⟨d,hd,hod,-,hp⟩
  ·rw [if_pos (by omega)]
   have hs:upd own p (ρ:Int) p=(ρ:Int):=upd_same _ _ _
   have ho:∀ c,c≠p→upd own p (ρ:Int) c=own c:=fun c hc=>upd_other _ _ hc
   refine ⟨fun c hc=>?_,fun c d hc hd h0 e=>?_,fun τ hτ=>?_,fun c τ hc e=>?_,fun c hc h0=>?_⟩
   ·by_cases e:c=p
    ·subst e; right; exact ⟨ρ,hs,by omega⟩
    ·rw [ho c e]
     rcases h.rng c hc e with h1 | ⟨τ,h1,h2⟩
     ·exact Or.inl h1
     ·exact Or.inr ⟨τ,h1,by omega⟩
   ·by_cases ec:c=p
    ·by_cases ed:d=p
     ·rw [ec,ed]
     ·subst ec
      rw [hs,ho d ed] at e; rcases h.rng d hd ed with h1 | ⟨τ,h1,h2⟩ <;> omega
    ·by_cases ed:d=p
     ·subst ed
      rw [hs,ho c ec] at e; rcases h.rng c hc ec with h1 | ⟨τ,h1,h2⟩ <;> omega
     ·rw [ho c ec,ho d ed] at e
      rw [ho c ec] at h0; exact h.inj c d hc hd ec ed h0 e
   ·by_cases e:τ < ρ
    ·obtain ⟨c,h1,h2,h3⟩:=h.cov τ e
     exact ⟨c,h1,by rw [ho c h2]; exact h3⟩
    ·exact ⟨p,h.pn,by rw [hs]; omega⟩
   ·by_cases ec:c=p
    ·subst ec
     rw [hs] at e
     have:τ=ρ:=by omega
     subst this; exact ⟨hv,htg⟩
    ·rw [ho c ec] at e
     exact h.tig c τ hc ec e
   ·by_cases ec:c=p
    ·subst ec; rw [hs] at h0; omega
    ·rw [ho c ec] at h0; exact h.fre c hc ec h0
  ·rw [if_neg (by omega)]
   rcases aug_step h with h9 | ⟨d2,T2,e1,e2,e3,e4⟩
   ·omega
   ·rw [show (pre p).toNat=d2 from by rw [e1]; rfl]
    exact aug_spec g r dist pre rows' cols' k _ d2 T2 e4 (by omega)
def placeF (g:Gr) (r:Nat):Gr:=match search g (g.n+1) (fun _=>-1) (fun _=>-1) [] r (-1) 0 with
 | none=>g
 | some (dist,pre,D,b)=>⟨g.n,g.V,(price g.own dist (dist b) D g.n (upd g.rows r (g.rows r+dist b),g.cols)).1,(price g.own dist (dist b) D g.n (upd g.rows r (g.rows r+dist b),g.cols)).2,aug pre r (g.n+1) g.own b⟩
/-- a complete assignment by cells with a value -/
structure Perf (g:Gr) (σ:Nat→Nat):Prop where
 val:∀ ρ,ρ < g.n→σ ρ < g.n∧0≤g.V ρ (σ ρ)
 inj:∀ ρ τ,ρ < g.n→τ < g.n→σ ρ=σ τ→ρ=τ
/-- how large the prices are -/
structure PB (g:Gr) (B:Int):Prop where
 rows:∀ ρ,0≤g.rows ρ∧g.rows ρ≤B
 cols:∀ c,c < g.n→-B≤g.cols c∧g.cols c≤0
theorem start_si (g:Gr) (r:Nat) (M:Int):SI g r M (fun _=>-1) (fun _=>-1) [] r (-1) 0 :=
 ⟨List.nodup_nil,(fun c hc=>by cases hc),Or.inl ⟨rfl,rfl,rfl,rfl⟩,(fun c hc=>by cases hc),(fun c _ _ h=>absurd h (by decide)),(fun h=>absurd rfl h),(fun c _ _ h=>absurd h (by decide)),(fun D1 c D2 h=>by simp at h),(fun c _ h=>absurd h (by decide))⟩
theorem place_ai (g:Gr) (r:Nat) (M:Int) (hg:GI g r) {dist pre:Nat→Int} {D:List Nat} {b:Nat} (h:FS g r M dist pre D b) :
  AI g r dist pre (price g.own dist (dist b) D g.n (upd g.rows r (g.rows r+dist b),g.cols)).1 (price g.own dist (dist b) D g.n (upd g.rows r (g.rows r+dist b),g.cols)).2 g.own b D:=by
 have hDi:∀ c d,c∈D→d∈D→g.own c=g.own d→c=d:=fun c d hc hd e=>hg.inj c d (h.lt c hc).1 (h.lt d hd).1 (h.lt c hc).2 e
 obtain ⟨p1,p2,p3⟩:=price_spec g.own dist (dist b) D g.n h.lt hDi (upd g.rows r (g.rows r+dist b)) g.cols g.n (Nat.le_refl _); obtain ⟨rows',hrows⟩:∃ x,x=(price g.own dist (dist b) D g.n (upd g.rows r (g.rows r+dist b),g.cols)).1:=⟨_,rfl⟩; obtain ⟨cols',hcols⟩:∃ x,x=(price g.own dist (dist b) D g.n (upd g.rows r (g.rows r+dist b),g.cols)).2:=⟨_,rfl⟩; rw [← hrows,← hcols]; rw [← hrows] at p1 p2; rw [← hcols] at p3; have hb0:=h.bn.2.2.2
 have hor:∀ d∈D,∀ ρ:Nat,g.own d=ρ→ρ < r:=fun d hd ρ e=>by
  rcases hg.rng d (h.lt d hd).1 with h1 | ⟨τ,h1,h2⟩ <;> omega
 have nT:∀ ρ L k,Tree g r dist D ρ L k→rows' ρ=g.rows ρ+(dist b - L):=fun ρ L k ht=>by
  rcases ht with ⟨rfl,rfl,-⟩ | ⟨d,hd,e,rfl,-⟩
  ·rw [p2 ρ fun c hc hcd e=>by have:=hor c hcd ρ e; omega,upd_same]; omega
  ·have h1:=p1 d (h.lt d hd).1 hd
   rw [e] at h1; have h2:((ρ:Nat):Int).toNat=ρ:=rfl; rw [h2] at h1; rw [h1,upd_other _ _ (by have:=hor d hd ρ e; omega)]
 have nN:∀ ρ,ρ≠r→(∀ d∈D,g.own d≠(ρ:Int))→rows' ρ=g.rows ρ:=fun ρ h1 h2=>by
  rw [p2 ρ fun c _ hcd=>h2 c hcd,upd_other _ _ h1]
 have tree?:∀ ρ:Nat,(∃ L k,Tree g r dist D ρ L k)∨(ρ≠r∧∀ d∈D,g.own d≠(ρ:Int)):=fun ρ=>by
  by_cases e:ρ=r
  ·exact Or.inl ⟨0,-1,Or.inl ⟨e,rfl,rfl⟩⟩
  ·by_cases h2:∃ d∈D,g.own d=(ρ:Int)
   ·obtain ⟨d,hd,h2⟩:=h2
    exact Or.inl ⟨dist d,d,Or.inr ⟨d,hd,h2,rfl,rfl⟩⟩
   ·exact Or.inr ⟨e,fun d hd h3=>h2 ⟨d,hd,h3⟩⟩
 have hL:∀ ρ L k,Tree g r dist D ρ L k→0≤L∧L≤dist b:=fun ρ L k ht=>by
  rcases ht with ⟨-,rfl,-⟩ | ⟨d,hd,-,rfl,-⟩
  ·exact ⟨Int.le_refl _,hb0⟩
  ·exact h.le d hd
 have cD:∀ c,c∈D→cols' c=g.cols c - (dist b - dist c):=fun c hc=>by rw [p3 c,if_pos ⟨(h.lt c hc).1,hc⟩]
 have cN:∀ c,c ∉ D→cols' c=g.cols c:=fun c hc=>by rw [p3 c,if_neg (fun h=>hc h.2)]
 refine ⟨h.bn.1,fun c hc _=>hg.rng c hc,fun c d hc hd _ _ h0 e=>hg.inj c d hc hd h0 e,fun ρ hρ=>?_,fun c ρ hc hcb e=>?_,fun c hc=>⟨(h.lt c hc).1,rfl,fun e=>h.bn.2.1 (e ▸ hc)⟩,h.nod,?_,fun T1 c T2 hT=>?_,fun c hc hcb h0=>?_⟩
 ·obtain ⟨c,h1,h2⟩:=hg.cov ρ hρ
  exact ⟨c,h1,fun e=>by have:=h.bn.2.2.1; rw [← e] at this; omega,h2⟩
 ·have h1:=hg.tig c ρ hc e
  refine ⟨h1.1,?_⟩; by_cases hcD:c∈D
  ·rw [nT ρ (dist c) c (Or.inr ⟨c,hcD,e,rfl,rfl⟩),cD c hcD]; omega
  ·rw [cN c hcD,nN ρ ?_ fun d hd h2=>hcD ?_]
   ·exact h1.2
   ·rcases hg.rng c hc with h9 | ⟨τ,h9,h8⟩ <;> omega
   ·have:=hg.inj d c (h.lt d hd).1 hc (h.lt d hd).2 (by omega)
    exact this ▸ hd
 ·obtain ⟨ρ,L,ht,hv,e⟩:=h.wit
  refine ⟨ρ,L,ht,hv,?_⟩; rw [nT ρ L _ ht,cN b h.bn.2.1]; unfold red at e; omega
 ·obtain ⟨ρ,L,ht,hv,e⟩:=h.wid T1 c T2 hT
  have hcD:c∈D:=by rw [hT]; simp
  refine ⟨ρ,L,ht,hv,?_⟩; rw [nT ρ L _ (ht.mono fun d hd=>by rw [hT]; simp [hd]),cD c hcD]; unfold red at e; omega
 ·rw [cN c fun hcD=>by have:=(h.lt c hcD).2; omega]
  exact hg.fre c hc h0
theorem place_ok (g:Gr) (r:Nat) (M B:Int) (hg:GI g r) (hr:r < g.n) (hM0:0≤M) (hM:∀ ρ c,ρ < g.n→c < g.n→g.V ρ c≤M) (σ:Nat→Nat) (hσ:Perf g σ) (hB:PB g B) :
  GI (placeF g r) (r+1)∧(placeF g r).n=g.n∧(placeF g r).V=g.V∧PB (placeF g r) (B+g.n * M):=by
 obtain ⟨dist,pre,D,b,hs,h⟩:=search_spec g r M hg hr hM0 hM σ hσ.val hσ.inj (g.n+1) _ _ _ _ _ _ (start_si g r M) (by simp)
 have hpl:placeF g r=⟨g.n,g.V,(price g.own dist (dist b) D g.n (upd g.rows r (g.rows r+dist b),g.cols)).1,(price g.own dist (dist b) D g.n (upd g.rows r (g.rows r+dist b),g.cols)).2,aug pre r (g.n+1) g.own b⟩:=by unfold placeF; rw [hs]
 rw [hpl]
 have hDi:∀ c d,c∈D→d∈D→g.own c=g.own d→c=d:=fun c d hc hd e=>hg.inj c d (h.lt c hc).1 (h.lt d hd).1 (h.lt c hc).2 e
 obtain ⟨p1,p2,p3⟩:=price_spec g.own dist (dist b) D g.n h.lt hDi (upd g.rows r (g.rows r+dist b)) g.cols g.n (Nat.le_refl _); obtain ⟨rows',hrows⟩:∃ x,x=(price g.own dist (dist b) D g.n (upd g.rows r (g.rows r+dist b),g.cols)).1:=⟨_,rfl⟩; obtain ⟨cols',hcols⟩:∃ x,x=(price g.own dist (dist b) D g.n (upd g.rows r (g.rows r+dist b),g.cols)).2:=⟨_,rfl⟩; rw [← hrows,← hcols]; rw [← hrows] at p1 p2; rw [← hcols] at p3; have hb0:=h.bn.2.2.2
 have hor:∀ d∈D,∀ ρ:Nat,g.own d=ρ→ρ < r:=fun d hd ρ e=>by
  rcases hg.rng d (h.lt d hd).1 with h1 | ⟨τ,h1,h2⟩ <;> omega
 have nT:∀ ρ L k,Tree g r dist D ρ L k→rows' ρ=g.rows ρ+(dist b - L):=fun ρ L k ht=>by
  rcases ht with ⟨rfl,rfl,-⟩ | ⟨d,hd,e,rfl,-⟩
  ·rw [p2 ρ fun c hc hcd e=>by have:=hor c hcd ρ e; omega,upd_same]; omega
  ·have h1:=p1 d (h.lt d hd).1 hd
   rw [e] at h1; have h2:((ρ:Nat):Int).toNat=ρ:=rfl; rw [h2] at h1; rw [h1,upd_other _ _ (by have:=hor d hd ρ e; omega)]
 have nN:∀ ρ,ρ≠r→(∀ d∈D,g.own d≠(ρ:Int))→rows' ρ=g.rows ρ:=fun ρ h1 h2=>by
  rw [p2 ρ fun c _ hcd=>h2 c hcd,upd_other _ _ h1]
 have tree?:∀ ρ:Nat,(∃ L k,Tree g r dist D ρ L k)∨(ρ≠r∧∀ d∈D,g.own d≠(ρ:Int)):=fun ρ=>by
  by_cases e:ρ=r
  ·exact Or.inl ⟨0,-1,Or.inl ⟨e,rfl,rfl⟩⟩
  ·by_cases h2:∃ d∈D,g.own d=(ρ:Int)
   ·obtain ⟨d,hd,h2⟩:=h2
    exact Or.inl ⟨dist d,d,Or.inr ⟨d,hd,h2,rfl,rfl⟩⟩
   ·exact Or.inr ⟨e,fun d hd h3=>h2 ⟨d,hd,h3⟩⟩
 have hL:∀ ρ L k,Tree g r dist D ρ L k→0≤L∧L≤dist b:=fun ρ L k ht=>by
  rcases ht with ⟨-,rfl,-⟩ | ⟨d,hd,-,rfl,-⟩
  ·exact ⟨Int.le_refl _,hb0⟩
  ·exact h.le d hd
 have cD:∀ c,c∈D→cols' c=g.cols c - (dist b - dist c):=fun c hc=>by rw [p3 c,if_pos ⟨(h.lt c hc).1,hc⟩]
 have cN:∀ c,c ∉ D→cols' c=g.cols c:=fun c hc=>by rw [p3 c,if_neg (fun h=>hc h.2)]
 have hai:AI g r dist pre rows' cols' g.own b D:=by rw [hrows,hcols]; exact place_ai g r M hg h
 have hDl:D.length+1≤g.n:=by
  have:=List.Nodup.length_le_of_subset (List.nodup_cons.2 ⟨h.bn.2.1,h.nod⟩) (l₂:=List.range g.n) fun c hc=>by
   rcases List.mem_cons.1 hc with rfl | hc
   ·exact List.mem_range.2 h.bn.1
   ·exact List.mem_range.2 (h.lt c hc).1
  rw [List.length_range,List.length_cons] at this; exact this
 obtain ⟨a1,a2,a3,a4,a5⟩:=aug_spec g r dist pre rows' cols' (g.n+1) g.own b D hai (by omega)
 have hlen:dist b≤g.n * M:=by
  have h1:=h.bnd; have h2:((D.length:Int)+1) * M≤(g.n:Int) * M:=Int.mul_le_mul_of_nonneg_right (by omega) hM0; omega
 refine ⟨⟨a1,a2,a3,fun ρ c hρ hc hv=>?_,a4,a5,fun ρ hρ=>?_,by show r+1≤g.n; omega⟩,rfl,rfl,⟨fun ρ=>?_,fun c hc=>?_⟩⟩
 ·show rows' ρ+cols' c≤g.V ρ c
  have h0:=hg.fea ρ c hρ hc hv; rcases tree? ρ with ⟨L,k,ht⟩ | ⟨h1,h2⟩
  ·have h3:=h.rel ρ L k ht c hc hv
   rw [nT ρ L k ht]; unfold red at h3; by_cases hcD:c∈D
   ·rw [cD c hcD]; omega
   ·rw [cN c hcD]
    have:=h.ge c hc hcD h3.1; omega
  ·rw [nN ρ h1 h2]
   by_cases hcD:c∈D
   ·rw [cD c hcD]
    have:=h.le c hcD; omega
   ·rw [cN c hcD]; exact h0
 ·show rows' ρ=0
  rw [nN ρ (by omega) fun d hd e=>by have:=hor d hd ρ e; omega]; exact hg.zer ρ (by omega)
 ·show 0≤rows' ρ∧rows' ρ≤B+g.n * M
  have h0:=hB.rows ρ; have h9:(0:Int)≤g.n * M:=Int.mul_nonneg (by omega) hM0; rcases tree? ρ with ⟨L,k,ht⟩ | ⟨h1,h2⟩
  ·rw [nT ρ L k ht]
   have:=hL ρ L k ht; omega
  ·rw [nN ρ h1 h2]; omega
 ·show -(B+g.n * M)≤cols' c∧cols' c≤0
  have h0:=hB.cols c hc; have h9:(0:Int)≤g.n * M:=Int.mul_nonneg (by omega) hM0; by_cases hcD:c∈D
  ·rw [cD c hcD]
   have:=h.le c hcD; omega
  ·rw [cN c hcD]; omega
end Pl
end Go.Proofs.YtfejagpjahoibaaGreatDoor
set_option linter.unusedSimpArgs false
namespace Go.Proofs.YtfejagpjahoibaaGreatDoor
namespace Pl
def placed (g:Gr):Nat→Gr
 | 0=>g
 | k+1=>placeF (placed g k) k
/-- nothing is assigned -/
structure Fresh (g:Gr):Prop where
 own:∀ c,g.own c = -1
 rows:∀ ρ,g.rows ρ=0
 cols:∀ c,g.cols c=0
theorem Fresh.gi {g:Gr} (h:Fresh g):GI g 0 :=
 ⟨fun c _=>Or.inl (h.own c),fun c d _ _ h0 _=>by rw [h.own c] at h0; omega,fun ρ hρ=>by omega,fun ρ c _ _ hv=>by rw [h.rows,h.cols]; omega,fun c ρ _ e=>by rw [h.own c] at e; omega,fun c _ _=>h.cols c,fun ρ _=>h.rows ρ,Nat.zero_le _⟩
theorem placed_ok (g:Gr) (M:Int) (h:Fresh g) (hM0:0≤M) (hM:∀ ρ c,ρ < g.n→c < g.n→g.V ρ c≤M) (σ:Nat→Nat) (hσ:Perf g σ):∀ k,k≤g.n→GI (placed g k) k∧(placed g k).n=g.n∧(placed g k).V=g.V∧PB (placed g k) (k * (g.n * M))
 | 0,_=>⟨h.gi,rfl,rfl,⟨fun ρ=>by rw [show (placed g 0).rows ρ=0 from h.rows ρ]; omega,fun c _=>by rw [show (placed g 0).cols c=0 from h.cols c]; omega⟩⟩
 | k+1,hk=>by
  obtain ⟨h1,h2,h3,h4⟩:=placed_ok g M h hM0 hM σ hσ k (by omega); have h5:=place_ok (placed g k) k M (k * (g.n * M)) h1 (by rw [h2]; omega) hM0 (by rw [h2,h3]; exact hM) σ ⟨by rw [h2,h3]; exact hσ.val,by rw [h2]; exact hσ.inj⟩ h4; show GI (placeF (placed g k) k) (k+1)∧_; refine ⟨h5.1,h5.2.1.trans h2,h5.2.2.1.trans h3,?_⟩; have h6:=h5.2.2.2; rw [h2] at h6
  have e:((k+1:Nat):Int) * (g.n * M)=k * (g.n * M)+g.n * M:=by push_cast; rw [Int.add_mul,Int.one_mul]
  rw [e]; exact h6
/-- a complete assignment by tight cells -/
structure Full (g:Gr):Prop where
 rng:∀ c,c < g.n→∃ ρ:Nat,g.own c=ρ∧ρ < g.n
 inj:∀ c d,c < g.n→d < g.n→g.own c=g.own d→c=d
 tig:∀ c (ρ:Nat),c < g.n→g.own c=ρ→0≤g.V ρ c∧g.rows ρ+g.cols c=g.V ρ c
 fea:∀ ρ c,ρ < g.n→c < g.n→0≤g.V ρ c→g.rows ρ+g.cols c≤g.V ρ c
theorem Full.cov {g:Gr} (h:Full g) {ρ:Nat} (hρ:ρ < g.n):∃ c,c < g.n∧g.own c=(ρ:Int):=by
 refine Classical.byContradiction fun hno=>?_
 have hnod:(ρ::(List.range g.n).map fun c=>(g.own c).toNat).Nodup:=by
  rw [List.nodup_cons]; constructor
  ·intro hm
   obtain ⟨c,hc,e⟩:=List.mem_map.1 hm; have hc:=List.mem_range.1 hc; obtain ⟨τ,h1,h2⟩:=h.rng c hc; exact hno ⟨c,hc,by omega⟩
  ·rw [List.nodup_iff_pairwise_ne,List.pairwise_map]
   refine (List.nodup_iff_pairwise_ne.1 List.nodup_range).imp_of_mem fun {a b} ha hb hne e=>hne ?_
   have ha:=List.mem_range.1 ha; have hb:=List.mem_range.1 hb; obtain ⟨τ,h1,h2⟩:=h.rng a ha; obtain ⟨τ',h3,h4⟩:=h.rng b hb; exact h.inj a b ha hb (by omega)
 have:=List.Nodup.length_le_of_subset hnod (l₂:=List.range g.n) fun y hy=>by
  rcases List.mem_cons.1 hy with rfl | hy
  ·exact List.mem_range.2 hρ
  ·obtain ⟨c,hc,rfl⟩:=List.mem_map.1 hy
   obtain ⟨τ,h1,h2⟩:=h.rng c (List.mem_range.1 hc); exact List.mem_range.2 (by omega)
 simp only [List.length_cons,List.length_map,List.length_range] at this; omega
theorem GI.full {g:Gr} (h:GI g g.n):Full g:=by
 have hr:∀ c,c < g.n→∃ ρ:Nat,g.own c=ρ∧ρ < g.n:=by
  -- every row is covered,so every column has an owner
  intro c hc; rcases h.rng c hc with h1 | h1
  ·exfalso
   have hch:∀ ρ,∃ c,ρ < g.n→c < g.n∧g.own c=(ρ:Int):=fun ρ=>by
    by_cases e:ρ < g.n
    ·obtain ⟨c,h2⟩:=h.cov ρ e; exact ⟨c,fun _=>h2⟩
    ·exact ⟨0,fun h2=>absurd h2 e⟩
   obtain ⟨f,hf⟩:=Classical.axiomOfChoice hch
   have hnod:(c::(List.range g.n).map f).Nodup:=by
    rw [List.nodup_cons]; constructor
    ·intro hm
     obtain ⟨ρ,hρ,e⟩:=List.mem_map.1 hm; have:=(hf ρ (List.mem_range.1 hρ)).2; rw [e,h1] at this; omega
    ·rw [List.nodup_iff_pairwise_ne,List.pairwise_map]
     refine (List.nodup_iff_pairwise_ne.1 List.nodup_range).imp_of_mem fun {a b} ha hb hne e=>hne ?_
     have h2:=(hf a (List.mem_range.1 ha)).2; have h3:=(hf b (List.mem_range.1 hb)).2; rw [e,h3] at h2; omega
   have:=List.Nodup.length_le_of_subset hnod (l₂:=List.range g.n) fun y hy=>by
    rcases List.mem_cons.1 hy with rfl | hy
    ·exact List.mem_range.2 hc
    ·obtain ⟨ρ,hρ,rfl⟩:=List.mem_map.1 hy
     exact List.mem_range.2 (hf ρ (List.mem_range.1 hρ)).1
   simp only [List.length_cons,List.length_map,List.length_range] at this; omega
  ·exact h1
 exact ⟨hr,fun c d hc hd e=>h.inj c d hc hd (by obtain ⟨ρ,h1,_⟩:=hr c hc; omega) e,h.tig,h.fea⟩
def tightB (g:Gr) (ρ c:Nat):Bool:=decide (0≤g.V ρ c) && decide (g.rows ρ+g.cols c=g.V ρ c)
theorem tightB_iff {g:Gr} {ρ c:Nat}:tightB g ρ c=true ↔ 0≤g.V ρ c∧g.rows ρ+g.cols c=g.V ρ c:=by
 unfold tightB; rw [Bool.and_eq_true,decide_eq_true_eq,decide_eq_true_eq]
/-- the state of turn's search: the columns before, the columns found (the last first), the queue, the end -/
structure Bs where
 pre:Nat→Int
 T:List Nat
 Q:List Nat
 last:Int
def inn (g:Gr) (r c:Nat) (fx:Nat→Bool) (a:Nat):Nat→Bs→Bs
 | 0,s=>s
 | k+1,s =>
  if 0≤(inn g r c fx a k s).last then inn g r c fx a k s
  else if k∈(inn g r c fx a k s).T∨k=c∨fx k=true∨tightB g (g.own a).toNat k=false then inn g r c fx a k s
  else if g.own k=(r:Int) then ⟨upd (inn g r c fx a k s).pre k a,k::(inn g r c fx a k s).T,(inn g r c fx a k s).Q,k⟩
  else ⟨upd (inn g r c fx a k s).pre k a,k::(inn g r c fx a k s).T,(inn g r c fx a k s).Q++[k],(inn g r c fx a k s).last⟩
def bfs (g:Gr) (r c:Nat) (fx:Nat→Bool):Nat→Bs→Bs
 | 0,s=>s
 | f+1,s=>match s.Q with
  | []=>s
  | a::q=>if 0≤(inn g r c fx a g.n ⟨s.pre,s.T,q,s.last⟩).last then inn g r c fx a g.n ⟨s.pre,s.T,q,s.last⟩ else bfs g r c fx f (inn g r c fx a g.n ⟨s.pre,s.T,q,s.last⟩)
theorem inn_stop {g:Gr} {r c:Nat} {fx:Nat→Bool} {a:Nat} {s:Bs} {k:Nat} (h:0≤(inn g r c fx a k s).last):∀ m,inn g r c fx a (k+m) s=inn g r c fx a k s
 | 0=>rfl
 | m+1=>by
  have h1:=inn_stop h m; show (if 0≤(inn g r c fx a (k+m) s).last then inn g r c fx a (k+m) s else _)=_; rw [h1,if_pos h]
theorem inn_len {g:Gr} {r c:Nat} {fx:Nat→Bool} {a:Nat} (s:Bs):∀ k,(inn g r c fx a k s).Q.length+s.T.length≤s.Q.length+(inn g r c fx a k s).T.length
 | 0=>Nat.le_refl _
 | k+1=>by
  have h:=inn_len (r:=r) (c:=c) (fx:=fx) (a:=a) (g:=g) s k
  show (if 0≤(inn g r c fx a k s).last then inn g r c fx a k s
  else if k∈(inn g r c fx a k s).T∨k=c∨fx k=true∨tightB g (g.own a).toNat k=false then inn g r c fx a k s
  else if g.own k=(r:Int) then ⟨upd (inn g r c fx a k s).pre k a,k::(inn g r c fx a k s).T,(inn g r c fx a k s).Q,k⟩
  else ⟨upd (inn g r c fx a k s).pre k a,k::(inn g r c fx a k s).T,(inn g r c fx a k s).Q++[k],(inn g r c fx a k s).last⟩:Bs).Q.length+s.T.length≤s.Q.length+(if 0≤(inn g r c fx a k s).last then inn g r c fx a k s
  else if k∈(inn g r c fx a k s).T∨k=c∨fx k=true∨tightB g (g.own a).toNat k=false then inn g r c fx a k s
  else if g.own k=(r:Int) then ⟨upd (inn g r c fx a k s).pre k a,k::(inn g r c fx a k s).T,(inn g r c fx a k s).Q,k⟩
  else ⟨upd (inn g r c fx a k s).pre k a,k::(inn g r c fx a k s).T,(inn g r c fx a k s).Q++[k],(inn g r c fx a k s).last⟩:Bs).T.length
  generalize inn g r c fx a k s=t at *; split
  ·exact h
  ·split
   ·exact h
   ·split
    ·simp; omega
    ·simp; omega
structure BI (g:Gr) (r c:Nat) (fx:Nat→Bool) (s:Bs):Prop where
 nod:s.T.Nodup
 lt:∀ x∈s.T,x < g.n∧x≠c∧fx x=false
 que:∀ x∈s.Q,x∈s.T∨x=c
 wit:∀ T1 x T2,s.T=T1++x::T2→∃ d:Nat,s.pre x=d∧(d∈T2∨d=c)∧tightB g (g.own d).toNat x=true
 las:s.last = -1∨∃ (x:Nat) (T2:List Nat),s.last=(x:Int)∧s.T=x::T2∧g.own x=(r:Int)
theorem inn_ok {g:Gr} {r c:Nat} {fx:Nat→Bool} {a:Nat}:∀ (k:Nat) (s:Bs),k≤g.n→BI g r c fx s→(a∈s.T∨a=c)→BI g r c fx (inn g r c fx a k s)∧(a∈(inn g r c fx a k s).T∨a=c)
 | 0,s,_,h,ha=>⟨h,ha⟩
 | k+1,s,hk,h,ha=>by
  obtain ⟨h1,h2⟩:=inn_ok k s (by omega) h ha
  show BI g r c fx (if 0≤(inn g r c fx a k s).last then inn g r c fx a k s
  else if k∈(inn g r c fx a k s).T∨k=c∨fx k=true∨tightB g (g.own a).toNat k=false then inn g r c fx a k s
  else if g.own k=(r:Int) then ⟨upd (inn g r c fx a k s).pre k a,k::(inn g r c fx a k s).T,(inn g r c fx a k s).Q,k⟩
  else ⟨upd (inn g r c fx a k s).pre k a,k::(inn g r c fx a k s).T,(inn g r c fx a k s).Q++[k],(inn g r c fx a k s).last⟩)∧(a∈(if 0≤(inn g r c fx a k s).last then inn g r c fx a k s
  else if k∈(inn g r c fx a k s).T∨k=c∨fx k=true∨tightB g (g.own a).toNat k=false then inn g r c fx a k s
  else if g.own k=(r:Int) then ⟨upd (inn g r c fx a k s).pre k a,k::(inn g r c fx a k s).T,(inn g r c fx a k s).Q,k⟩
  else ⟨upd (inn g r c fx a k s).pre k a,k::(inn g r c fx a k s).T,(inn g r c fx a k s).Q++[k],(inn g r c fx a k s).last⟩).T∨a=c)
  generalize inn g r c fx a k s=t at *; by_cases hl:0≤t.last
  ·rw [if_pos hl]; exact ⟨h1,h2⟩
  ·rw [if_neg hl]
   by_cases hc:k∈t.T∨k=c∨fx k=true∨tightB g (g.own a).toNat k=false
   ·rw [if_pos hc]; exact ⟨h1,h2⟩
   ·rw [if_neg hc]
    simp only [not_or,Bool.not_eq_true,Bool.not_eq_false] at hc; obtain ⟨c1,c2,c3,c4⟩:=hc; have hnod:(k::t.T).Nodup:=List.nodup_cons.2 ⟨c1,h1.nod⟩
    have hlt:∀ x∈k::t.T,x < g.n∧x≠c∧fx x=false:=fun x hx=>by
     rcases List.mem_cons.1 hx with rfl | hx
     ·exact ⟨by omega,c2,c3⟩
     ·exact h1.lt x hx
    have hwit:∀ T1 x T2,k::t.T=T1++x::T2→∃ d:Nat,upd t.pre k (a:Int) x=d∧(d∈T2∨d=c)∧tightB g (g.own d).toNat x=true:=by
     intro T1 x T2 hT
     cases T1 with
     | nil =>
      injection hT with e1 e2; subst e1 e2; exact ⟨a,upd_same _ _ _,h2,c4⟩
     | cons z T1 =>
      injection hT with e1 e2; obtain ⟨d,d1,d2,d3⟩:=h1.wit T1 x T2 e2
      have hxk:x≠k:=fun e=>c1 (by rw [e2,← e]; simp)
      exact ⟨d,by rw [upd_other _ _ hxk]; exact d1,d2,d3⟩
    have hin:a∈k::t.T∨a=c:=h2.imp (fun h=>List.mem_cons_of_mem _ h) id; by_cases ho:g.own k=(r:Int)
    ·rw [if_pos ho]
     exact ⟨⟨hnod,hlt,fun x hx=>(h1.que x hx).imp (fun h=>List.mem_cons_of_mem _ h) id,hwit,Or.inr ⟨k,t.T,rfl,rfl,ho⟩⟩,hin⟩
    ·rw [if_neg ho]
     refine ⟨⟨hnod,hlt,fun x hx=>?_,hwit,?_⟩,hin⟩
     ·rcases List.mem_append.1 hx with hx | hx
      ·exact (h1.que x hx).imp (fun h=>List.mem_cons_of_mem _ h) id
      ·left; rw [List.mem_singleton.1 hx]; exact List.mem_cons_self
     ·rcases h1.las with e | ⟨x,T2,e,_⟩
      ·exact Or.inl e
      ·rw [e] at hl; omega
theorem bfs_ok {g:Gr} {r c:Nat} {fx:Nat→Bool}:∀ (f:Nat) (s:Bs),BI g r c fx s→BI g r c fx (bfs g r c fx f s)
 | 0,s,h=>h
 | f+1,s,h=>by
  unfold bfs
  cases hQ:s.Q with
  | nil=>exact h
  | cons a q =>
   have h0:BI g r c fx ⟨s.pre,s.T,q,s.last⟩:=⟨h.nod,h.lt,fun x hx=>h.que x (by rw [hQ]; simp [hx]),h.wit,h.las⟩; have h1:=(inn_ok (a:=a) g.n ⟨s.pre,s.T,q,s.last⟩ (Nat.le_refl _) h0 (h.que a (by rw [hQ]; simp))).1; show BI g r c fx (if 0≤(inn g r c fx a g.n ⟨s.pre,s.T,q,s.last⟩).last then inn g r c fx a g.n ⟨s.pre,s.T,q,s.last⟩ else bfs g r c fx f (inn g r c fx a g.n ⟨s.pre,s.T,q,s.last⟩)); split
   ·exact h1
   ·exact bfs_ok f _ h1
/-- the owners along the path change, up to the column c -/
def rot (pre:Nat→Int) (c:Nat):Nat→(Nat→Int)→Nat→(Nat→Int)
 | 0,own,_=>own
 | k+1,own,p=>if p=c then own else rot pre c k (upd own p (own (pre p).toNat)) (pre p).toNat
structure TI (g:Gr) (r c:Nat) (pre own:Nat→Int) (p:Nat) (T:List Nat):Prop where
 pn:p < g.n
 cn:c < g.n
 rng:∀ d,d < g.n→d≠p→∃ ρ:Nat,own d=ρ∧ρ < g.n∧ρ≠r
 inj:∀ d e,d < g.n→e < g.n→d≠p→e≠p→own d=own e→d=e
 tig:∀ d (ρ:Nat),d < g.n→d≠p→own d=ρ→0≤g.V ρ d∧g.rows ρ+g.cols d=g.V ρ d
 rem:∀ d∈T,d < g.n∧own d=g.own d∧d≠p∧d≠c
 nod:T.Nodup
 cow:p≠c→own c=g.own c
 wit:p≠c→∃ d:Nat,pre p=d∧(d∈T∨d=c)∧tightB g (g.own d).toNat p=true
 wid:∀ T1 x T2,T=T1++x::T2→∃ d:Nat,pre x=d∧(d∈T2∨d=c)∧tightB g (g.own d).toNat x=true
theorem rot_step {g:Gr} {r c:Nat} {pre own:Nat→Int} {p:Nat} {T:List Nat} (h:TI g r c pre own p T) (hp:p≠c) :
  ∃ (d:Nat) (T2:List Nat),pre p=(d:Int)∧d < g.n∧(d∈T∨d=c)∧(∀ x∈T2,x∈T)∧TI g r c pre (upd own p (own d)) d T2∧T2.length+(if d=c then 0 else 1) < T.length+1:=by
 obtain ⟨d,hd1,hd2,hd3⟩:=h.wit hp; have hs:upd own p (own d) p=own d:=upd_same _ _ _
 have ho:∀ x,x≠p→upd own p (own d) x=own x:=fun x hx=>upd_other _ _ hx
 have hdn:d < g.n∧d≠p∧own d=g.own d:=by
  rcases hd2 with hd2 | rfl
  ·have:=h.rem d hd2; exact ⟨this.1,this.2.2.1,this.2.1⟩
  ·exact ⟨h.cn,fun e=>hp e.symm,h.cow hp⟩
 obtain ⟨ρ0,hρ0,hρn,hρr⟩:=h.rng d hdn.1 hdn.2.1
 have htp:0≤g.V ρ0 p∧g.rows ρ0+g.cols p=g.V ρ0 p:=by
  rw [← hdn.2.2,hρ0] at hd3; exact tightB_iff.1 hd3
 have key:∀ T2,(∀ x∈T2,x∈T∧x≠d)→T2.Nodup→(d≠c→∃ e:Nat,pre d=e∧(e∈T2∨e=c)∧tightB g (g.own e).toNat d=true)→(∀ T1 x T3,T2=T1++x::T3→∃ e:Nat,pre x=e∧(e∈T3∨e=c)∧tightB g (g.own e).toNat x=true)→TI g r c pre (upd own p (own d)) d T2:=by
  intro T2 hsub hnd2 hw hw2; refine ⟨hdn.1,h.cn,fun x hx hxd=>?_,fun x e hx he hxd hed e2=>?_,fun x ρ hx hxd e=>?_,fun x hx=>?_,hnd2,fun hdc=>?_,hw,hw2⟩
  ·by_cases ex:x=p
   ·rw [ex,hs]; exact ⟨ρ0,hρ0,hρn,hρr⟩
   ·rw [ho x ex]; exact h.rng x hx ex
  ·by_cases ex:x=p
   ·by_cases ee:e=p
    ·rw [ex,ee]
    ·rw [ex,hs,ho e ee] at e2
     exact absurd (h.inj d e hdn.1 he hdn.2.1 ee e2).symm hed
   ·by_cases ee:e=p
    ·rw [ee,hs,ho x ex] at e2
     exact absurd (h.inj x d hx hdn.1 ex hdn.2.1 e2) hxd
    ·rw [ho x ex,ho e ee] at e2
     exact h.inj x e hx he ex ee e2
  ·by_cases ex:x=p
   ·rw [ex,hs] at e
    have:ρ=ρ0:=by omega
    rw [ex,this]; exact htp
   ·rw [ho x ex] at e; exact h.tig x ρ hx ex e
  ·have h1:=h.rem x (hsub x hx).1
   exact ⟨h1.1,by rw [ho x h1.2.2.1]; exact h1.2.1,(hsub x hx).2,h1.2.2.2⟩
  ·rw [ho c (fun e=>hp e.symm)]; exact h.cow hp
 rcases hd2 with hd2 | hdc
 ·obtain ⟨T1,T2,hT⟩:=List.append_of_mem hd2
  have hnd:=h.nod; rw [hT,List.nodup_append] at hnd; have hnd2:=List.nodup_cons.1 hnd.2.1; have hk:=key T2 (fun x hx=>⟨by rw [hT]; simp [hx],fun e=>hnd2.1 (e ▸ hx)⟩) hnd2.2 (fun _=>h.wid T1 d T2 hT) (fun S1 x S2 hS=>h.wid (T1++d::S1) x S2 (by rw [hT,hS]; simp)); exact ⟨d,T2,hd1,hdn.1,Or.inl hd2,fun x hx=>by rw [hT]; simp [hx],hk,by rw [hT]; simp; split <;> omega⟩
 ·exact ⟨d,[],hd1,hdn.1,Or.inr hdc,(fun x hx=>by cases hx),key [] (fun x hx=>by cases hx) List.nodup_nil (fun e=>absurd hdc e) (fun T1 x T3 e=>by simp at e),by rw [if_pos hdc]; simp⟩
theorem rot_ok {g:Gr} {r c:Nat} {pre:Nat→Int} (hg:Full g) (hrn:r < g.n) (hrc:0≤g.V r c∧g.rows r+g.cols c=g.V r c):∀ (fuel:Nat) (own:Nat→Int) (p:Nat) (T:List Nat),TI g r c pre own p T→T.length+(if p=c then 0 else 1) < fuel →
  Full ⟨g.n,g.V,g.rows,g.cols,upd (rot pre c fuel own p) c (r:Int)⟩∧∀ d,d≠p→d ∉ T→d≠c→rot pre c fuel own p d=own d
 | 0,own,p,T,h,hf=>absurd hf (by omega)
 | k+1,own,p,T,h,hf=>by
  unfold rot; by_cases hp:p=c
  ·rw [if_pos hp]
   subst hp; have hs:upd own p (r:Int) p=(r:Int):=upd_same _ _ _
   have ho:∀ d,d≠p→upd own p (r:Int) d=own d:=fun d hd=>upd_other _ _ hd
   refine ⟨⟨fun d hd=>?_,fun d e hd he e2=>?_,fun d ρ hd e=>?_,hg.fea⟩,fun d _ _ _=>rfl⟩
   ·show ∃ ρ:Nat,upd own p (r:Int) d=ρ∧ρ < g.n
    by_cases ed:d=p
    ·rw [ed,hs]; exact ⟨r,rfl,hrn⟩
    ·rw [ho d ed]
     obtain ⟨ρ,h1,h2,_⟩:=h.rng d hd ed; exact ⟨ρ,h1,h2⟩
   ·replace e2:upd own p (r:Int) d=upd own p (r:Int) e:=e2
    by_cases ed:d=p
    ·by_cases ee:e=p
     ·rw [ed,ee]
     ·rw [ed,hs,ho e ee] at e2
      obtain ⟨ρ,h1,h2,h3⟩:=h.rng e he ee; omega
    ·by_cases ee:e=p
     ·rw [ee,hs,ho d ed] at e2
      obtain ⟨ρ,h1,h2,h3⟩:=h.rng d hd ed; omega
     ·rw [ho d ed,ho e ee] at e2
      exact h.inj d e hd he ed ee e2
   ·replace e:upd own p (r:Int) d=ρ:=e
    by_cases ed:d=p
    ·rw [ed,hs] at e
     have:ρ=r:=by omega
     rw [this,ed]; exact hrc
    ·rw [ho d ed] at e
     exact h.tig d ρ hd ed e
  ·rw [if_neg hp]
   obtain ⟨d,T2,hd1,hdn,hd2,hsub,hk,hlt⟩:=rot_step h hp; rw [show (pre p).toNat=d from by rw [hd1]; rfl]; obtain ⟨r1,r2⟩:=rot_ok hg hrn hrc k (upd own p (own d)) d T2 hk (by rw [if_neg hp] at hf; omega); refine ⟨r1,fun x hxp hxT hxc=>?_⟩; rw [r2 x (fun e=>by rcases hd2 with h9 | h9; exact hxT (e ▸ h9); exact hxc (e.trans h9)) (fun hx=>hxT (hsub x hx)) hxc,upd_other _ _ hxp]
theorem ti_start {g:Gr} {r c:Nat} {fx:Nat→Bool} (hg:Full g) (hc:c < g.n) {s:Bs} (hb:BI g r c fx s) {x:Nat} {T2:List Nat} (e2:s.T=x::T2) (e3:g.own x=(r:Int)) :
  TI g r c s.pre g.own x T2∧x < g.n∧x≠c∧fx x=false∧T2.length+1≤g.n:=by
 have hxT:x∈s.T:=by rw [e2]; simp
 have hxl:=hb.lt x hxT; have hnd:=hb.nod; rw [e2] at hnd; have hnd2:=List.nodup_cons.1 hnd; refine ⟨⟨hxl.1,hc,fun d hd hdx=>?_,fun d e hd he _ _ e9=>hg.inj d e hd he e9,fun d ρ hd _ e9=>hg.tig d ρ hd e9,fun d hd=>?_,hnd2.2,fun _=>rfl,fun _=>hb.wit [] x T2 e2,fun T1 z T3 hz=>hb.wit (x::T1) z T3 (by rw [e2,hz]; rfl)⟩,hxl.1,hxl.2.1,hxl.2.2,?_⟩
 ·obtain ⟨ρ,h1,h2⟩:=hg.rng d hd
  refine ⟨ρ,h1,h2,fun e9=>hdx (hg.inj d x hd hxl.1 ?_)⟩; rw [h1,e3,e9]
 ·have h1:=hb.lt d (by rw [e2]; simp [hd])
  exact ⟨h1.1,rfl,fun e9=>hnd2.1 (e9 ▸ hd),h1.2.1⟩
 ·have:=List.Nodup.length_le_of_subset hb.nod (l₂:=List.range g.n) fun z hz=>List.mem_range.2 (hb.lt z hz).1
  rw [List.length_range,e2,List.length_cons] at this; exact this
theorem bi_start {g:Gr} {r c:Nat} {fx:Nat→Bool}:BI g r c fx ⟨fun _=>0,[],[c],-1⟩:=⟨List.nodup_nil,(fun x hx=>by cases hx),(fun x hx=>Or.inr (List.mem_singleton.1 hx)),(fun T1 x T2 e=>by simp at e),Or.inl rfl⟩
theorem bi_pop {g:Gr} {r c:Nat} {fx:Nat→Bool} {s:Bs} {a:Nat} {q:List Nat} (h:BI g r c fx s) (hQ:s.Q=a::q):BI g r c fx ⟨s.pre,s.T,q,s.last⟩∧(a∈s.T∨a=c):=⟨⟨h.nod,h.lt,fun x hx=>h.que x (by rw [hQ]; simp [hx]),h.wit,h.las⟩,h.que a (by rw [hQ]; simp)⟩
theorem bi_tl {g:Gr} {r c:Nat} {fx:Nat→Bool} {s:Bs} (h:BI g r c fx s) (hc:c < g.n):s.T.length+1≤g.n:=by
 have:=List.Nodup.length_le_of_subset (List.nodup_cons.2 ⟨fun hx=>(h.lt c hx).2.1 rfl,h.nod⟩) (l₂:=List.range g.n) fun z hz=>by
  rcases List.mem_cons.1 hz with rfl | hz
  ·exact List.mem_range.2 hc
  ·exact List.mem_range.2 (h.lt z hz).1
 rw [List.length_range,List.length_cons] at this; exact this
/-- turn: whether it went, the owners -/
def turnF (g:Gr) (r c:Nat) (fx:Nat→Bool):Bool × (Nat→Int) :=
 if g.own c=(r:Int) then (true,g.own) else
  let s:=bfs g r c fx (g.n+1) ⟨fun _=>0,[],[c],-1⟩
  if s.last < 0 then (false,g.own) else (true,upd (rot s.pre c (g.n+2) g.own s.last.toNat) c (r:Int))
def withOwn (g:Gr) (own:Nat→Int):Gr:=⟨g.n,g.V,g.rows,g.cols,own⟩
theorem turn_ok {g:Gr} {r c:Nat} {fx:Nat→Bool} (hg:Full g) (hr:r < g.n) (hc:c < g.n) (hfx:fx c=false) (ht:tightB g r c=true) (h:(turnF g r c fx).1=true) :
  Full (withOwn g (turnF g r c fx).2)∧(turnF g r c fx).2 c=(r:Int)∧∀ d,fx d=true→(turnF g r c fx).2 d=g.own d:=by
 unfold turnF at h ⊢; by_cases ho:g.own c=(r:Int)
 ·rw [if_pos ho]
  exact ⟨⟨hg.rng,hg.inj,hg.tig,hg.fea⟩,ho,fun d _=>rfl⟩
 ·rw [if_neg ho] at h ⊢
  have h0:BI g r c fx ⟨fun _=>0,[],[c],-1⟩:=⟨List.nodup_nil,(fun x hx=>by cases hx),(fun x hx=>Or.inr (List.mem_singleton.1 hx)),(fun T1 x T2 e=>by simp at e),Or.inl rfl⟩; have hb:=bfs_ok (g.n+1) _ h0; generalize bfs g r c fx (g.n+1) ⟨fun _=>0,[],[c],-1⟩=s at *; by_cases hl:s.last < 0
  ·replace h:(if s.last < 0 then (false,g.own) else (true,upd (rot s.pre c (g.n+2) g.own s.last.toNat) c (r:Int))).1=true:=h
   rw [if_pos hl] at h; cases h
  ·show Full (withOwn g (if s.last < 0 then (false,g.own) else (true,upd (rot s.pre c (g.n+2) g.own s.last.toNat) c (r:Int))).2)∧(if s.last < 0 then (false,g.own) else (true,upd (rot s.pre c (g.n+2) g.own s.last.toNat) c (r:Int))).2 c=(r:Int)∧∀ d,fx d=true→(if s.last < 0 then (false,g.own) else (true,upd (rot s.pre c (g.n+2) g.own s.last.toNat) c (r:Int))).2 d=g.own d
   rw [if_neg hl]; rcases hb.las with e | ⟨x,T2,e1,e2,e3⟩
   ·omega
   ·have hx:s.last.toNat=x:=by rw [e1]; rfl
    rw [hx]
    have hxT:x∈s.T:=by rw [e2]; simp
    have hxl:=hb.lt x hxT; have hnd:=hb.nod; rw [e2] at hnd; have hnd2:=List.nodup_cons.1 hnd
    have hti:TI g r c s.pre g.own x T2:=by
     refine ⟨hxl.1,hc,fun d hd hdx=>?_,fun d e hd he _ _ e9=>hg.inj d e hd he e9,fun d ρ hd _ e9=>hg.tig d ρ hd e9,fun d hd=>?_,hnd2.2,fun _=>rfl,fun _=>hb.wit [] x T2 e2,fun T1 z T3 hz=>hb.wit (x::T1) z T3 (by rw [e2,hz]; rfl)⟩
     ·obtain ⟨ρ,h1,h2⟩:=hg.rng d hd
      refine ⟨ρ,h1,h2,fun e9=>hdx (hg.inj d x hd hxl.1 ?_)⟩; rw [h1,e3,e9]
     ·have h1:=hb.lt d (by rw [e2]; simp [hd])
      exact ⟨h1.1,rfl,fun e9=>hnd2.1 (e9 ▸ hd),h1.2.1⟩
    have hlen:T2.length+1≤g.n:=by
     have:=List.Nodup.length_le_of_subset hb.nod (l₂:=List.range g.n) fun z hz=>List.mem_range.2 (hb.lt z hz).1
     rw [List.length_range,e2,List.length_cons] at this; exact this
    obtain ⟨r1,r2⟩:=rot_ok hg hr (tightB_iff.1 ht) (g.n+2) g.own x T2 hti (by split <;> omega); refine ⟨r1,upd_same _ _ _,fun d hd=>?_⟩
    have hdc:d≠c:=fun e9=>by rw [e9,hfx] at hd; cases hd
    show upd (rot s.pre c (g.n+2) g.own x) c (r:Int) d=g.own d; rw [upd_other _ _ hdc]; exact r2 d (fun e9=>by rw [e9,hxl.2.2] at hd; cases hd) (fun hz=>by have:=(hb.lt d (by rw [e2]; simp [hz])).2.2; rw [this] at hd; cases hd) hdc
end Pl
end Go.Proofs.YtfejagpjahoibaaGreatDoor
set_option linter.unusedSimpArgs false
namespace Go.Proofs.YtfejagpjahoibaaGreatDoor
namespace Pl
def tryC (g:Gr) (r:Nat) (fx:Nat→Bool):Nat→(Nat→Int) × Int
 | 0=>(g.own,-1)
 | c+1=>if 0≤(tryC g r fx c).2 then tryC g r fx c
  else if (!fx c && tightB g r c && (turnF (withOwn g (tryC g r fx c).1) r c fx).1)=true then ((turnF (withOwn g (tryC g r fx c).1) r c fx).2,(c:Int))
  else tryC g r fx c
theorem tryC_stop {g:Gr} {r:Nat} {fx:Nat→Bool} {c:Nat} (h:0≤(tryC g r fx c).2):∀ m,tryC g r fx (c+m)=tryC g r fx c
 | 0=>rfl
 | m+1=>by
  have h1:=tryC_stop h m; show (if 0≤(tryC g r fx (c+m)).2 then tryC g r fx (c+m) else _)=_; rw [h1,if_pos h]
theorem turn_no {g:Gr} {r c:Nat} {fx:Nat→Bool} (h:(turnF g r c fx).1=false):(turnF g r c fx).2=g.own:=by
 unfold turnF at h ⊢; by_cases ho:g.own c=(r:Int)
 ·rw [if_pos ho] at h; cases h
 ·rw [if_neg ho] at h ⊢
  by_cases hl:(bfs g r c fx (g.n+1) ⟨fun _=>0,[],[c],-1⟩).last < 0
  ·show (if (bfs g r c fx (g.n+1) ⟨fun _=>0,[],[c],-1⟩).last < 0 then (false,g.own) else _).2=_
   rw [if_pos hl]
  ·replace h:(if (bfs g r c fx (g.n+1) ⟨fun _=>0,[],[c],-1⟩).last < 0 then (false,g.own) else (true,_)).1=false:=h
   rw [if_neg hl] at h; cases h
theorem tryC_spec (g:Gr) (r:Nat) (fx:Nat→Bool):∀ c,
  ((tryC g r fx c).2 = -1∧(tryC g r fx c).1=g.own∧∀ d,d < c→(!fx d && tightB g r d && (turnF g r d fx).1)=false) ∨
  ∃ d:Nat,d < c∧(tryC g r fx c).2=d∧fx d=false∧tightB g r d=true∧(turnF g r d fx).1=true∧(tryC g r fx c).1=(turnF g r d fx).2
 | 0=>Or.inl ⟨rfl,rfl,fun d hd=>by omega⟩
 | c+1=>by
  unfold tryC; rcases tryC_spec g r fx c with ⟨h1,h2,h3⟩ | ⟨d,h1,h2,h3⟩
  ·rw [if_neg (by omega),h2]
   have e:withOwn g g.own=g:=rfl; rw [e]; by_cases hc:(!fx c && tightB g r c && (turnF g r c fx).1)=true
   ·rw [if_pos hc]
    simp only [Bool.and_eq_true,Bool.not_eq_true'] at hc; exact Or.inr ⟨c,Nat.lt_succ_self _,rfl,hc.1.1,hc.1.2,hc.2,rfl⟩
   ·rw [if_neg hc]
    refine Or.inl ⟨h1,h2,fun d hd=>?_⟩; rcases Nat.lt_succ_iff_lt_or_eq.1 hd with h | h
    ·exact h3 d h
    ·subst h; exact Bool.eq_false_iff.2 hc
  ·rw [if_pos (by omega)]
   exact Or.inr ⟨d,by omega,h2,h3⟩
structure Fst where
 own:Nat→Int
 pick:Nat→Int
 fx:Nat→Bool
def firstF (g:Gr) (k:Nat):Nat→Fst
 | 0=>⟨g.own,fun _=>0,fun _=>false⟩
 | r+1=>⟨(tryC (withOwn g (firstF g k r).own) r (firstF g k r).fx k).1,upd (firstF g k r).pick r (tryC (withOwn g (firstF g k r).own) r (firstF g k r).fx k).2,
   if 0≤(tryC (withOwn g (firstF g k r).own) r (firstF g k r).fx k).2 then upd (firstF g k r).fx (tryC (withOwn g (firstF g k r).own) r (firstF g k r).fx k).2.toNat true else upd (firstF g k r).fx (k+r) true⟩
structure FI (g:Gr) (k r:Nat) (s:Fst):Prop where
 ful:Full (withOwn g s.own)
 row:∀ ρ,ρ < r→(s.pick ρ = -1∧s.own (k+ρ)=(ρ:Int)∧s.fx (k+ρ)=true)∨∃ c:Nat,c < k∧s.pick ρ=c∧s.own c=(ρ:Int)∧s.fx c=true
 fix:∀ d,d < g.n→s.fx d=true→∃ ρ:Nat,ρ < r∧s.own d=ρ
theorem first_ok {g:Gr} {m k:Nat} (hg:Full g) (hn:g.n=m+k) (hV:∀ r c,r < m→k≤c→c < g.n→0≤g.V r c→c=k+r):∀ r,r≤m→FI g k r (firstF g k r)
 | 0,_=>⟨⟨hg.rng,hg.inj,hg.tig,hg.fea⟩,fun ρ hρ=>by omega,fun d _ h=>by cases h⟩
 | r+1,hr=>by
  have h:=first_ok hg hn hV r (by omega)
  show FI g k (r+1) ⟨(tryC (withOwn g (firstF g k r).own) r (firstF g k r).fx k).1,upd (firstF g k r).pick r (tryC (withOwn g (firstF g k r).own) r (firstF g k r).fx k).2,
   if 0≤(tryC (withOwn g (firstF g k r).own) r (firstF g k r).fx k).2 then upd (firstF g k r).fx (tryC (withOwn g (firstF g k r).own) r (firstF g k r).fx k).2.toNat true else upd (firstF g k r).fx (k+r) true⟩
  generalize firstF g k r=s at *; have hG:withOwn (withOwn g s.own) s.own=withOwn g s.own:=rfl; rcases tryC_spec (withOwn g s.own) r s.fx k with ⟨h1,h2,h3⟩ | ⟨c,hc,h1,h2,h3,h4,h5⟩
  ·generalize tryC (withOwn g s.own) r s.fx k=t at *
   replace h2:t.1=s.own:=h2; obtain ⟨c0,hc0,ho⟩:=h.ful.cov (show r < (withOwn g s.own).n from by show r < g.n; omega); replace hc0:c0 < g.n:=hc0; replace ho:s.own c0=(r:Int):=ho; have htg:=h.ful.tig c0 r hc0 ho
   have hck:c0=k+r:=by
    by_cases hlt:c0 < k
    ·exfalso
     have hf:s.fx c0=false:=by
      cases e:s.fx c0 with
      | false=>rfl
      | true=>obtain ⟨ρ,h8,h9⟩:=h.fix c0 hc0 e; omega
     have:=h3 c0 hlt; have h6:tightB (withOwn g s.own) r c0=true:=tightB_iff.2 htg
     have h7:(turnF (withOwn g s.own) r c0 s.fx).1=true:=by
      have h8:(withOwn g s.own).own c0=(r:Int):=ho; unfold turnF; rw [if_pos h8]
     rw [hf,h6,h7] at this; cases this
    ·exact hV r c0 (by omega) (by omega) hc0 htg.1
   rw [h1,if_neg (by decide),h2]; subst hck; have hpr:upd s.pick r (-1) r = -1:=upd_same _ _ _; refine ⟨h.ful,fun ρ hρ=>?_,fun d hd hf=>?_⟩
   ·rcases Nat.lt_succ_iff_lt_or_eq.1 hρ with hlt | rfl
    ·show (upd s.pick r (-1) ρ = -1∧s.own (k+ρ)=(ρ:Int)∧upd s.fx (k+r) true (k+ρ)=true)∨∃ c:Nat,c < k∧upd s.pick r (-1) ρ=c∧s.own c=(ρ:Int)∧upd s.fx (k+r) true c=true
     rw [upd_other _ _ (by omega),upd_other s.fx _ (show k+ρ≠k+r by omega)]; rcases h.row ρ hlt with h8 | ⟨c,g1,g2,g3,g4⟩
     ·exact Or.inl h8
     ·exact Or.inr ⟨c,g1,g2,g3,by rw [upd_other _ _ (by omega)]; exact g4⟩
    ·exact Or.inl ⟨hpr,ho,upd_same _ _ _⟩
   ·by_cases e:d=k+r
    ·subst e; exact ⟨r,Nat.lt_succ_self _,ho⟩
    ·replace hf:upd s.fx (k+r) true d=true:=hf
     rw [upd_other _ _ e] at hf; obtain ⟨ρ,h8,h9⟩:=h.fix d hd hf; exact ⟨ρ,by omega,h9⟩
  ·have hcn:c < (withOwn g s.own).n:=by show c < g.n; omega
   obtain ⟨t1,t2,t3⟩:=turn_ok h.ful (show r < (withOwn g s.own).n from by show r < g.n; omega) hcn h2 h3 h4; rw [← h5] at t1 t2 t3; generalize tryC (withOwn g s.own) r s.fx k=t at *; rw [h1,if_pos (by omega),show ((c:Nat):Int).toNat=c from rfl]; refine ⟨t1,fun ρ hρ=>?_,fun d hd hf=>?_⟩
   ·rcases Nat.lt_succ_iff_lt_or_eq.1 hρ with hlt | rfl
    ·show (upd s.pick r (c:Int) ρ = -1∧t.1 (k+ρ)=(ρ:Int)∧upd s.fx c true (k+ρ)=true)∨∃ e:Nat,e < k∧upd s.pick r (c:Int) ρ=e∧t.1 e=(ρ:Int)∧upd s.fx c true e=true
     rw [upd_other s.pick _ (by omega)]; rcases h.row ρ hlt with ⟨g1,g2,g3⟩ | ⟨e,g1,g2,g3,g4⟩
     ·exact Or.inl ⟨g1,by rw [t3 _ g3]; exact g2,by rw [upd_other _ _ (by omega)]; exact g3⟩
     ·refine Or.inr ⟨e,g1,g2,by rw [t3 _ g4]; exact g3,?_⟩
      by_cases ee:e=c
      ·rw [ee]; exact upd_same _ _ _
      ·rw [upd_other _ _ ee]; exact g4
    ·exact Or.inr ⟨c,hc,upd_same _ _ _,t2,upd_same _ _ _⟩
   ·by_cases e:d=c
    ·subst e; exact ⟨r,Nat.lt_succ_self _,t2⟩
    ·replace hf:upd s.fx c true d=true:=hf
     rw [upd_other _ _ e] at hf; obtain ⟨ρ,h8,h9⟩:=h.fix d hd hf; exact ⟨ρ,by omega,by show t.1 d=_; rw [t3 d hf]; exact h9⟩
end Pl
end Go.Proofs.YtfejagpjahoibaaGreatDoor
set_option linter.unusedSimpArgs false
namespace Go.Proofs.YtfejagpjahoibaaGreatDoor
namespace Pl
def sumN (f:Nat→Int):Nat→Int
 | 0=>0
 | n+1=>sumN f n+f n
theorem sumN_congr {f g:Nat→Int}:∀ n,(∀ i,i < n→f i=g i)→sumN f n=sumN g n
 | 0,_=>rfl
 | n+1,h=>by
  show sumN f n+f n=sumN g n+g n; rw [sumN_congr n fun i hi=>h i (by omega),h n (by omega)]
theorem sumN_le {f g:Nat→Int}:∀ n,(∀ i,i < n→f i≤g i)→sumN f n≤sumN g n
 | 0,_=>Int.le_refl _
 | n+1,h=>by
  show sumN f n+f n≤sumN g n+g n
  have:=sumN_le n fun i hi=>h i (by omega)
  have:=h n (by omega); omega
theorem sumN_add (f g:Nat→Int):∀ n,sumN (fun i=>f i+g i) n=sumN f n+sumN g n
 | 0=>rfl
 | n+1=>by
  show sumN (fun i=>f i+g i) n+(f n+g n)=sumN f n+f n+(sumN g n+g n); rw [sumN_add f g n]; omega
theorem sumN_split (f:Nat→Int) (m:Nat):∀ k,sumN f (m+k)=sumN f m+sumN (fun i=>f (m+i)) k
 | 0=>by show sumN f m=sumN f m+0; omega
 | k+1=>by
  show sumN f (m+k)+f (m+k)=sumN f m+(sumN (fun i=>f (m+i)) k+f (m+k)); rw [sumN_split f m k]; omega
def sumL:List Int→Int
 | []=>0
 | x::l=>x+sumL l
theorem sumL_perm {l m:List Int} (h:l.Perm m):sumL l=sumL m:=by
 induction h with
 | nil=>rfl
 | cons x _ ih=>show _+_=_+_; rw [ih]
 | swap x y l=>show y+(x+sumL l)=x+(y+sumL l); omega
 | trans _ _ h1 h2=>rw [h1,h2]
theorem sumL_append (l m:List Int):sumL (l++m)=sumL l+sumL m:=by
 induction l with
 | nil=>show sumL m=0+sumL m; omega
 | cons x l ih=>show x+sumL (l++m)=x+sumL l+sumL m; rw [ih]; omega
theorem sumN_list (f:Nat→Int):∀ n,sumN f n=sumL ((List.range n).map f)
 | 0=>rfl
 | n+1=>by
  show sumN f n+f n=_; rw [List.range_succ,List.map_append,sumL_append,sumN_list f n]; show _=_+(f n+0); omega
theorem perm_range {o:List Nat} {n:Nat} (hn:o.Nodup) (hr:∀ i∈o,i < n) (hl:o.length=n):o.Perm (List.range n):=by
 refine (List.perm_ext_iff_of_nodup hn List.nodup_range).2 fun a=>?_
 rw [List.mem_range]; refine ⟨hr a,fun h=>Classical.byContradiction fun hno=>?_⟩
 have:=List.Nodup.length_le_of_subset (List.nodup_cons.2 ⟨hno,hn⟩) (l₂:=List.range n) fun x hx=>by
  rcases List.mem_cons.1 hx with rfl | hx
  ·exact List.mem_range.2 h
  ·exact List.mem_range.2 (hr x hx)
 rw [List.length_range,List.length_cons] at this; omega
theorem sumN_turn (f:Nat→Int) (n:Nat) (σ:Nat→Nat) (h:∀ i,i < n→σ i < n) (hi:∀ i j,i < n→j < n→σ i=σ j→i=j):sumN (fun i=>f (σ i)) n=sumN f n:=by
 rw [sumN_list,sumN_list]
 have hp:((List.range n).map σ).Perm (List.range n):=by
  refine perm_range ?_ (fun i hm=>?_) (by rw [List.length_map,List.length_range])
  ·rw [List.nodup_iff_pairwise_ne,List.pairwise_map]
   refine (List.nodup_iff_pairwise_ne.1 List.nodup_range).imp_of_mem fun {a b} ha hb hne e=>hne (hi a b (List.mem_range.1 ha) (List.mem_range.1 hb) e)
  ·obtain ⟨j,hj,rfl⟩:=List.mem_map.1 hm
   exact h j (List.mem_range.1 hj)
 have:=sumL_perm (hp.map f); rw [List.map_map] at this; exact this
/-- the options of a settlement: m effects to undo, k to perform; weights (amend: below zero for none) -/
structure Op where
 m:Nat
 k:Nat
 drop:Nat→Int
 give:Nat→Int
 amend:Nat→Nat→Int
def Op.cell (o:Op) (r c:Nat):Int :=
 if r < o.m∧c < o.k then o.amend r c
 else if r < o.m∧c=o.k+r then o.drop r
 else if c < o.k∧r=o.m+c then o.give c
 else if o.m≤r∧o.k≤c then 0
 else -1
structure Op.Ok (o:Op):Prop where
 drop:∀ r,r < o.m→0≤o.drop r
 give:∀ c,c < o.k→0≤o.give c
theorem Op.cell_a {o:Op} {r c:Nat} (hr:r < o.m) (hc:c < o.k):o.cell r c=o.amend r c:=by unfold Op.cell; rw [if_pos ⟨hr,hc⟩]
theorem Op.cell_d {o:Op} {r:Nat} (hr:r < o.m):o.cell r (o.k+r)=o.drop r:=by unfold Op.cell; rw [if_neg (by omega),if_pos ⟨hr,rfl⟩]
theorem Op.cell_g {o:Op} {c:Nat} (hc:c < o.k):o.cell (o.m+c) c=o.give c:=by unfold Op.cell; rw [if_neg (by omega),if_neg (by omega),if_pos ⟨hc,rfl⟩]
theorem Op.cell_z {o:Op} {r c:Nat} (hr:o.m≤r) (hc:o.k≤c):o.cell r c=0:=by unfold Op.cell; rw [if_neg (by omega),if_neg (by omega),if_neg (by omega),if_pos ⟨hr,hc⟩]
theorem Op.cell_row {o:Op} {r c:Nat} (hr:r < o.m) (hc:o.k≤c) (h:0≤o.cell r c):c=o.k+r:=by
 unfold Op.cell at h; rw [if_neg (by omega)] at h; split at h
 ·rename_i h1; exact h1.2
 ·rw [if_neg (by omega),if_neg (by omega)] at h; omega
theorem Op.cell_col {o:Op} {r c:Nat} (hr:o.m≤r) (hc:c < o.k) (h:0≤o.cell r c):r=o.m+c:=by
 unfold Op.cell at h; rw [if_neg (by omega),if_neg (by omega)] at h; split at h
 ·rename_i h1; exact h1.2
 ·rw [if_neg (by omega)] at h; omega
/-- an assignment -/
structure Asg (o:Op) (pick:Nat→Int):Prop where
 rng:∀ r,r < o.m→pick r = -1∨∃ c:Nat,c < o.k∧pick r=c∧0≤o.amend r c
 inj:∀ r s,r < o.m→s < o.m→0≤pick r→pick r=pick s→r=s
def takenB (o:Op) (pick:Nat→Int) (c:Nat):Bool:=(List.range o.m).any fun r=>decide (pick r=(c:Int))
theorem taken_iff {o:Op} {pick:Nat→Int} {c:Nat}:takenB o pick c=true ↔ ∃ r,r < o.m∧pick r=(c:Int):=by
 unfold takenB; rw [List.any_eq_true]; exact ⟨fun ⟨r,h1,h2⟩=>⟨r,List.mem_range.1 h1,of_decide_eq_true h2⟩,fun ⟨r,h1,h2⟩=>⟨r,List.mem_range.2 h1,decide_eq_true h2⟩⟩
def weightW (o:Op) (pick:Nat→Int):Int:=sumN (fun r=>if pick r = -1 then o.drop r else o.amend r (pick r).toNat) o.m+sumN (fun c=>if takenB o pick c then 0 else o.give c) o.k
/-- the row that takes a column -/
def taker (o:Op) (pick:Nat→Int) (c:Nat):Nat:=((List.range o.m).find? fun r=>decide (pick r=(c:Int))).getD 0
theorem taker_ok {o:Op} {pick:Nat→Int} {c:Nat} (h:takenB o pick c=true):taker o pick c < o.m∧pick (taker o pick c)=(c:Int):=by
 obtain ⟨r,h1,h2⟩:=taken_iff.1 h; unfold taker
 cases e:(List.range o.m).find? fun r=>decide (pick r=(c:Int)) with
 | none=>rw [List.find?_eq_none] at e; exact absurd (decide_eq_true h2) (by simpa using e r (List.mem_range.2 h1))
 | some s=>exact ⟨List.mem_range.1 (List.mem_of_find?_eq_some e),by simpa using List.find?_some e⟩
/-- the complete assignment of an assignment -/
def whole (o:Op) (pick:Nat→Int) (ρ:Nat):Nat :=
 if ρ < o.m then (if pick ρ = -1 then o.k+ρ else (pick ρ).toNat)
 else if takenB o pick (ρ - o.m) then o.k+taker o pick (ρ - o.m) else ρ - o.m
theorem whole_lt {o:Op} {pick:Nat→Int} (h:Asg o pick) {ρ:Nat} (hρ:ρ < o.m+o.k):whole o pick ρ < o.m+o.k:=by
 unfold whole; by_cases hm:ρ < o.m
 ·rw [if_pos hm]
  rcases h.rng ρ hm with e | ⟨c,h1,h2,_⟩
  ·rw [if_pos e]; omega
  ·rw [if_neg (by omega),h2]; omega
 ·rw [if_neg hm]
  cases e:takenB o pick (ρ - o.m) with
  | true=>have:=(taker_ok e).1; simp; omega
  | false=>simp; omega
theorem whole_inj {o:Op} {pick:Nat→Int} (h:Asg o pick) {ρ τ:Nat} (hρ:ρ < o.m+o.k) (hτ:τ < o.m+o.k) (he:whole o pick ρ=whole o pick τ):ρ=τ:=by
 have key:∀ ρ,ρ < o.m+o.k→(ρ < o.m∧pick ρ = -1∧whole o pick ρ=o.k+ρ)∨(ρ < o.m∧∃ c:Nat,c < o.k∧pick ρ=c∧whole o pick ρ=c)∨(o.m≤ρ∧takenB o pick (ρ - o.m)=true∧whole o pick ρ=o.k+taker o pick (ρ - o.m))∨(o.m≤ρ∧takenB o pick (ρ - o.m)=false∧whole o pick ρ=ρ - o.m):=by
  intro ρ hρ; unfold whole; by_cases hm:ρ < o.m
  ·rw [if_pos hm]
   rcases h.rng ρ hm with e | ⟨c,h1,h2,_⟩
   ·exact Or.inl ⟨hm,e,by rw [if_pos e]⟩
   ·exact Or.inr (Or.inl ⟨hm,c,h1,h2,by rw [if_neg (by omega),h2]; rfl⟩)
  ·rw [if_neg hm]
   cases e:takenB o pick (ρ - o.m) with
   | true=>exact Or.inr (Or.inr (Or.inl ⟨by omega,rfl,by simp⟩))
   | false=>exact Or.inr (Or.inr (Or.inr ⟨by omega,rfl,by simp⟩))
 have tk:∀ ρ,takenB o pick (ρ - o.m)=true→taker o pick (ρ - o.m) < o.m∧pick (taker o pick (ρ - o.m))=((ρ - o.m:Nat):Int):=fun ρ h=>taker_ok h
 rcases key ρ hρ with ⟨a1,a2,a3⟩ | ⟨a1,c,a2,a3,a4⟩ | ⟨a1,a2,a3⟩ | ⟨a1,a2,a3⟩ <;> rcases key τ hτ with ⟨b1,b2,b3⟩ | ⟨b1,d,b2,b3,b4⟩ | ⟨b1,b2,b3⟩ | ⟨b1,b2,b3⟩
 ·omega
 ·omega
 ·have:=tk τ b2
  have e:taker o pick (τ - o.m)=ρ:=by omega
  rw [e,a2] at this; omega
 ·omega
 ·omega
 ·exact h.inj ρ τ a1 b1 (by omega) (by omega)
 ·have:=tk τ b2; omega
 ·have:takenB o pick (τ - o.m)=true:=taken_iff.2 ⟨ρ,a1,by omega⟩
  rw [b2] at this; cases this
 ·have:=tk ρ a2
  have e:taker o pick (ρ - o.m)=τ:=by omega
  rw [e,b2] at this; omega
 ·have:=tk ρ a2; omega
 ·have h1:=tk ρ a2
  have h2:=tk τ b2
  have e:taker o pick (ρ - o.m)=taker o pick (τ - o.m):=by omega
  rw [e] at h1; omega
 ·have:=tk ρ a2; omega
 ·omega
 ·have:takenB o pick (ρ - o.m)=true:=taken_iff.2 ⟨τ,b1,by omega⟩
  rw [a2] at this; cases this
 ·have:=tk τ b2; omega
 ·omega
theorem whole_val {o:Op} (ho:o.Ok) {pick:Nat→Int} (h:Asg o pick) {ρ:Nat} (hρ:ρ < o.m+o.k):0≤o.cell ρ (whole o pick ρ):=by
 unfold whole; by_cases hm:ρ < o.m
 ·rw [if_pos hm]
  rcases h.rng ρ hm with e | ⟨c,h1,h2,h3⟩
  ·rw [if_pos e,Op.cell_d hm]; exact ho.drop ρ hm
  ·rw [if_neg (by omega),h2,show ((c:Nat):Int).toNat=c from rfl,Op.cell_a hm h1]; exact h3
 ·rw [if_neg hm]
  cases e:takenB o pick (ρ - o.m) with
  | true=>rw [if_pos rfl,Op.cell_z (by omega) (by omega)]; exact Int.le_refl _
  | false =>
   rw [if_neg (by simp)]; have h9:=Op.cell_g (o:=o) (c:=ρ - o.m) (by omega); rw [show o.m+(ρ - o.m)=ρ by omega] at h9; rw [h9]; exact ho.give _ (by omega)
theorem weight_whole {o:Op} {pick:Nat→Int} (h:Asg o pick):weightW o pick=sumN (fun ρ=>o.cell ρ (whole o pick ρ)) (o.m+o.k):=by
 rw [sumN_split]; unfold weightW
 congr 1
 ·refine sumN_congr _ fun r hr=>?_
  unfold whole; rw [if_pos hr]; rcases h.rng r hr with e | ⟨c,h1,h2,h3⟩
  ·rw [if_pos e,if_pos e,Op.cell_d hr]
  ·rw [if_neg (by omega),if_neg (by omega),h2,show ((c:Nat):Int).toNat=c from rfl,Op.cell_a hr h1]
 ·refine sumN_congr _ fun c hc=>?_
  have hnm:¬ (o.m+c < o.m):=by omega
  unfold whole; rw [if_neg hnm,show o.m+c - o.m=c by omega]
  cases e:takenB o pick c with
  | true=>rw [if_pos rfl,if_pos rfl,Op.cell_z (by omega) (by omega)]
  | false=>rw [if_neg (by simp),if_neg (by simp),Op.cell_g hc]
/-- every assignment weighs at least what the prices sum to -/
theorem weight_ge {o:Op} (ho:o.Ok) {rows cols:Nat→Int} (hf:∀ ρ c,ρ < o.m+o.k→c < o.m+o.k→0≤o.cell ρ c→rows ρ+cols c≤o.cell ρ c) {pick:Nat→Int} (h:Asg o pick):sumN rows (o.m+o.k)+sumN cols (o.m+o.k)≤weightW o pick:=by
 rw [weight_whole h,← sumN_turn cols (o.m+o.k) (whole o pick) (fun i hi=>whole_lt h hi) (fun i j hi hj e=>whole_inj h hi hj e),← sumN_add]
 exact sumN_le _ fun i hi=>hf i _ hi (whole_lt h hi) (whole_val ho h hi)
/-- the first choices are an assignment, and weigh what the prices sum to -/
theorem first_weight {o:Op} {g:Gr} (hn:g.n=o.m+o.k) (hV:g.V=o.cell) {s:Fst} (h:FI g o.k o.m s):Asg o s.pick∧weightW o s.pick=sumN g.rows (o.m+o.k)+sumN g.cols (o.m+o.k):=by
 have hfl:=h.ful
 have tg:∀ c (ρ:Nat),c < g.n→s.own c=ρ→0≤o.cell ρ c∧g.rows ρ+g.cols c=o.cell ρ c:=fun c ρ hc e=>by
  have:=hfl.tig c ρ hc e; rw [← hV]; exact this
 have inj:∀ c d,c < g.n→d < g.n→s.own c=s.own d→c=d:=hfl.inj
 have hA:Asg o s.pick:=by
  refine ⟨fun r hr=>?_,fun r t hr ht h0 e=>?_⟩
  ·rcases h.row r hr with ⟨h1,_⟩ | ⟨c,h1,h2,h3,_⟩
   ·exact Or.inl h1
   ·refine Or.inr ⟨c,h1,h2,?_⟩
    have:=(tg c r (by omega) h3).1; rw [Op.cell_a hr h1] at this; exact this
  ·rcases h.row r hr with ⟨h1,_⟩ | ⟨c,h1,h2,h3,_⟩
   ·omega
   ·rcases h.row t ht with ⟨g1,_⟩ | ⟨d,g1,g2,g3,_⟩
    ·omega
    ·have:c=d:=by omega
     subst this; omega
 refine ⟨hA,?_⟩
 have hch:∀ ρ,∃ c,ρ < g.n→c < g.n∧s.own c=(ρ:Int):=fun ρ=>by
  by_cases e:ρ < g.n
  ·obtain ⟨c,h1,h2⟩:=hfl.cov (show ρ < (withOwn g s.own).n from e)
   exact ⟨c,fun _=>⟨h1,h2⟩⟩
  ·exact ⟨0,fun h=>absurd h e⟩
 obtain ⟨τ,hτ⟩:=Classical.axiomOfChoice hch
 have e1:sumN (fun ρ=>o.cell ρ (whole o s.pick ρ)) (o.m+o.k)=sumN (fun ρ=>g.rows ρ+g.cols (τ ρ)) (o.m+o.k):=by
  refine sumN_congr _ fun ρ hρ=>?_
  obtain ⟨t1,t2⟩:=hτ ρ (by omega); have t3:=tg (τ ρ) ρ t1 t2; rw [t3.2]; unfold whole; by_cases hm:ρ < o.m
  ·rw [if_pos hm]
   rcases h.row ρ hm with ⟨h1,h2,_⟩ | ⟨c,h1,h2,h3,_⟩
   ·rw [if_pos h1,inj (τ ρ) (o.k+ρ) t1 (by omega) (by rw [t2,h2])]
   ·rw [if_neg (by omega),h2,inj (τ ρ) c t1 (by omega) (by rw [t2,h3])]; rfl
  ·rw [if_neg hm]
   cases e:takenB o s.pick (ρ - o.m) with
   | true =>
    rw [if_pos rfl,Op.cell_z (by omega) (by omega)]; by_cases hk:τ ρ < o.k
    ·exfalso
     have h9:=Op.cell_col (by omega) hk t3.1; obtain ⟨r,hr1,hr2⟩:=taken_iff.1 e; rcases h.row r hr1 with ⟨g1,_⟩ | ⟨d,g1,g2,g3,_⟩
     ·omega
     ·have:d=τ ρ:=by omega
      rw [this,t2] at g3; omega
    ·rw [Op.cell_z (by omega) (by omega)]
   | false =>
    rw [if_neg (by simp)]; obtain ⟨ρ',h8,h9⟩:=hfl.rng (ρ - o.m) (show ρ - o.m < (withOwn g s.own).n from by show ρ - o.m < g.n; omega); replace h8:s.own (ρ - o.m)=(ρ':Int):=h8
    have hρ':ρ'=ρ:=by
     by_cases hlt:ρ' < o.m
     ·exfalso
      rcases h.row ρ' hlt with ⟨g1,g2,_⟩ | ⟨d,g1,g2,g3,_⟩
      ·have:=inj (ρ - o.m) (o.k+ρ') (by omega) (by omega) (by rw [h8,g2]); omega
      ·have:=inj (ρ - o.m) d (by omega) (by omega) (by rw [h8,g3])
       have h7:takenB o s.pick (ρ - o.m)=true:=taken_iff.2 ⟨ρ',hlt,by rw [this]; exact g2⟩; rw [e] at h7; cases h7
     ·have:=Op.cell_col (by omega) (by omega) (tg (ρ - o.m) ρ' (by omega) h8).1
      omega
    rw [hρ'] at h8; rw [inj (τ ρ) (ρ - o.m) t1 (by omega) (by rw [t2,h8])]
 rw [weight_whole hA,e1,sumN_add]
 have:=sumN_turn g.cols (o.m+o.k) τ (fun i hi=>by have:=(hτ i (by omega)).1; omega) fun i j hi hj e=>by
  have h1:=(hτ i (by omega)).2; have h2:=(hτ j (by omega)).2; rw [e,h2] at h1; omega
 rw [this]
end Pl
end Go.Proofs.YtfejagpjahoibaaGreatDoor
