/- StrI: StrA, StrB, StrD, StrE, StrF, StrC, StrG, StrI, in one text. -/
import Derived.Test.YtffdpoifdahadaaGreatDoorAskYe
import Derived.Lib.SlicesCompact
set_option linter.unusedVariables false
set_option linter.unusedSimpArgs false
namespace Go.Proofs.YtffdpoifdahadaaGreatDoor
def fk (t:Tg):Bool:=!decide (t.var=[]) && !eT t.var
def el (x:Lg):List (List UInt8):=(x.args.filter fk).map Tg.var
def dL (bd:List (List UInt8)) (x:Lg):Nat:=((el x).filter fun v=>!decide (v∈bd)).length
def eK (x:Lg) (n:Nat):Bool :=
 if x.op=0 then !x.nt || decide (n=0)
 else if x.op=1 then decide (x.args.length=2) && decide (n<=1)
 else if x.op=2\/x.op=3\/x.op=4 then decide (x.args.length=2) && decide (n=0)
 else if x.op=5 then decide (x.args.length=3) && decide (n<=1)
 else false
def kJ (x:Lg):Bool:=!(decide (x.op=0) && x.nt)
def k7 (bd:List (List UInt8)) (x:Lg):List (List UInt8):=if kJ x=true then bd++el x else bd
def lit0:Lg:=⟨0,false,[],[]⟩
def aZ (body:List Lg) (i:Nat):Lg:=body.getD i lit0
def yD (body:List Lg) (bd:List (List UInt8)) (tk:List Nat) (i:Nat):Bool:=!decide (i∈tk) && eK (aZ body i) (dL bd (aZ body i))
def l_ (body:List Lg) (bd:List (List UInt8)) (tk:List Nat):Option Nat:=(List.range body.length).find? (yD body bd tk)
def eL (body:List Lg):Nat->List (List UInt8)->List Nat->List Nat × List (List UInt8)
 | 0,bd,tk=>(tk,bd)
 | f+1,bd,tk=>match l_ body bd tk with
  | none=>(tk,bd)
  | some i=>eL body f (k7 bd (aZ body i)) (tk++[i])
def ey (head:Lg) (body:List Lg):Option (List Nat) :=
 if (eL body body.length [] []).1.length < body.length then none
 else if (el head).all (fun v=>decide (v∈(eL body body.length [] []).2))=true then some (eL body body.length [] []).1 else none
/-! what is bound grows, what is open shrinks -/
theorem sM {a b:List (List UInt8)} (h:∀ v∈a,v∈b) (x:Lg):dL b x<=dL a x:=by
 unfold dL
 induction el x with
 | nil=>exact zM _
 | cons v l ih =>
  rw [List.filter_cons,List.filter_cons]; by_cases hb:v∈b
  ·rw [if_neg (by simp [hb])]
   split
   ·rw [zT]; omega
   ·exact ih
  ·rw [if_pos (by simp [hb]),if_pos (by simp; exact fun ha=>hb (h v ha))]
   rw [zT,zT]; omega
theorem vJ {x:Lg} {m n:Nat} (h:eK x n=true) (hm:m<=n):eK x m=true:=by
 unfold eK at h ⊢; split
 ·rename_i h1
  rw [if_pos h1] at h; simp only [Bool.or_eq_true,decide_eq_true_eq] at h ⊢; rcases h with h | h
  ·exact Or.inl h
  ·exact Or.inr (by omega)
 ·rename_i h1
  rw [if_neg h1] at h; split
  ·rename_i h2
   rw [if_pos h2] at h; simp only [Bool.and_eq_true,decide_eq_true_eq] at h ⊢; omega
  ·rename_i h2
   rw [if_neg h2] at h; split
   ·rename_i h3
    rw [if_pos h3] at h; simp only [Bool.and_eq_true,decide_eq_true_eq] at h ⊢; omega
   ·rename_i h3
    rw [if_neg h3] at h; split
    ·rename_i h4
     rw [if_pos h4] at h; simp only [Bool.and_eq_true,decide_eq_true_eq] at h ⊢; omega
    ·rename_i h4
     rw [if_neg h4] at h; cases h
end Go.Proofs.YtffdpoifdahadaaGreatDoor
set_option linter.unusedSimpArgs false
namespace Go.Proofs.YtffdpoifdahadaaGreatDoor
abbrev Nm:=List UInt8
def aI (rs:List Rg):List Nm:=rs.map fun r=>r.head.rel
def dd {α:Type} [DecidableEq α]:List α->List α
 | []=>[]
 | a::l=>if a∈l then dd l else a::dd l
theorem fb {α:Type} [DecidableEq α]:∀ (l:List α) (x:α),x∈dd l ↔ x∈l
 | [],x=>Iff.rfl
 | a::l,x=>by
  unfold dd; split
  ·rename_i h
   rw [fb l,Ae]; exact ⟨Or.inr,fun h2=>by rcases h2 with rfl | h2; exact h; exact h2⟩
  ·rw [Ae,Ae,fb l]
theorem f9 {α:Type} [DecidableEq α]:∀ l:List α,(dd l).Nodup
 | []=>List.nodup_nil
 | a::l=>by
  unfold dd; split
  ·exact f9 l
  ·rename_i h
   exact List.nodup_cons.2 ⟨fun h2=>h ((fb l a).1 h2),f9 l⟩
def dB (r:Rg) (x:Lg):Nat:=if x.nt=true\/r.agg≠0 then 1 else 0
def eD (hs:List Nm) (x:Lg):Bool:=decide (x.op=0) && decide (x.rel∈hs)
def gx (hs:List Nm) (lv:Nm->Nat) (r:Rg):Nat:=(r.body.filter (eD hs)).foldl (fun m x=>max m (lv x.rel+dB r x)) (lv r.head.rel)
def ld (lv:Nm->Nat) (n:Nm) (k:Nat):Nm->Nat:=fun m=>if m=n then k else lv m
def fD (hs:List Nm) (N:Nat):List Rg->(Nm->Nat)->Bool->Option ((Nm->Nat) × Bool)
 | [],lv,ch=>some (lv,ch)
 | r::rs,lv,ch =>
  if N<=gx hs lv r then none
  else if lv r.head.rel < gx hs lv r then fD hs N rs (ld lv r.head.rel (gx hs lv r)) true
  else fD hs N rs lv ch
def ia (rs:List Rg):Nat->(Nm->Nat)->Option (Nm->Nat)
 | 0,_=>none
 | f+1,lv=>match fD (aI rs) (dd (aI rs)).length rs lv false with
  | none=>none
  | some (lv',ch)=>if ch=true then ia rs f lv' else some lv'
def qt (rs:List Rg):Nat:=rs.length * (dd (aI rs)).length+1
def dn (rs:List Rg):Option (Nm->Nat):=ia rs (qt rs) fun _=>0
def gc (rs:List Rg) (lv:Nm->Nat):Prop:=∀ r∈rs,∀ x∈r.body,eD (aI rs) x=true->lv x.rel+dB r x<=lv r.head.rel
theorem j_ {α:Type} (f:α->Nat):∀ (l:List α) (m b:Nat),l.foldl (fun m x=>max m (f x)) m<=b ↔ m<=b/\∀ x∈l,f x<=b
 | [],m,b=>by simp
 | a::l,m,b=>by
  rw [List.foldl_cons,j_ f l]; simp only [Ae,forall_eq_or_imp]; constructor
  ·rintro ⟨h1,h2⟩; exact ⟨by omega,by omega,h2⟩
  ·rintro ⟨h1,h2,h3⟩; exact ⟨by omega,h3⟩
theorem mB {hs:List Nm} {lv:Nm->Nat} {r:Rg} {b:Nat}:gx hs lv r<=b ↔ lv r.head.rel<=b/\∀ x∈r.body,eD hs x=true->lv x.rel+dB r x<=b:=by
 unfold gx; rw [j_ (fun x=>lv x.rel+dB r x)]; simp only [List.mem_filter,and_imp]
theorem p8 (hs:List Nm) (lv:Nm->Nat) (r:Rg):lv r.head.rel<=gx hs lv r:=(mB.1 (zM _)).1
theorem jq {all:List Rg} {nu:Nm->Nat} (hv:gc all nu) {N:Nat}:∀ (rs:List Rg) (lv:Nm->Nat) (ch:Bool) (q:(Nm->Nat) × Bool),(∀ r∈rs,r∈all)->(∀ m,lv m<=nu m)->fD (aI all) N rs lv ch=some q->∀ m,q.1 m<=nu m
 | [],lv,ch,q,_,h,e=>by cases e; exact h
 | r::rs,lv,ch,q,hs,h,e=>by
  have hle:gx (aI all) lv r<=nu r.head.rel:=mB.2 ⟨h _,fun x hx hu=>by
   have:=hv r (hs r (by simp)) x hx hu; have:=h x.rel
   omega⟩
  unfold fD at e; split at e
  ·cases e
  ·split at e
   ·refine jq hv rs _ _ q (fun r hr=>hs r (by simp [hr])) (fun m=>?_) e
    unfold ld; split
    ·rename_i hm; subst hm; exact hle
    ·exact h m
   ·exact jq hv rs _ _ q (fun r hr=>hs r (by simp [hr])) h e
theorem gF {hs:List Nm} {N:Nat}:∀ (rs:List Rg) (lv:Nm->Nat) (ch:Bool) (q:(Nm->Nat) × Bool),fD hs N rs lv ch=some q ->
  (∀ m,lv m<=q.1 m)/\(ch=true->q.2=true)/\(q.2=false->q.1=lv/\∀ r∈rs,gx hs lv r<=lv r.head.rel)/\(∀ r∈rs,lv r.head.rel < N)/\((∀ m,lv m=q.1 m)\/∃ r∈rs,lv r.head.rel < q.1 r.head.rel)
 | [],lv,ch,q,e=>by
  cases e; exact ⟨fun _=>zM _,fun h=>h,fun _=>⟨rfl,fun r hr=>(by cases hr)⟩,fun r hr=>(by cases hr),Or.inl fun _=>rfl⟩
 | r::rs,lv,ch,q,e=>by
  unfold fD at e; have hge:=p8 hs lv r; split at e
  ·cases e
  ·rename_i hlt
   split at e
   ·rename_i hc
    obtain ⟨g1,g2,g3,g4,g5⟩:=gF rs _ _ q e
    have hmono:∀ m,lv m<=ld lv r.head.rel (gx hs lv r) m:=fun m=>by
     unfold ld; split
     ·rename_i h; subst h; exact hge
     ·exact zM _
    refine ⟨fun m=>zV (hmono m) (g1 m),fun _=>g2 rfl,fun h=>(by rw [g2 rfl] at h; cases h),fun s hs'=>?_,Or.inr ⟨r,by simp,?_⟩⟩
    ·rcases List.mem_cons.1 hs' with rfl | hs'
     ·omega
     ·exact Nat.lt_of_le_of_lt (hmono _) (g4 s hs')
    ·have:=g1 r.head.rel
     unfold ld at this; rw [if_pos rfl] at this; omega
   ·rename_i hc
    obtain ⟨g1,g2,g3,g4,g5⟩:=gF rs lv ch q e; refine ⟨g1,g2,fun h=>⟨(g3 h).1,fun s hs'=>?_⟩,fun s hs'=>?_,?_⟩
    ·rcases List.mem_cons.1 hs' with rfl | hs'
     ·omega
     ·exact (g3 h).2 s hs'
    ·rcases List.mem_cons.1 hs' with rfl | hs'
     ·omega
     ·exact g4 s hs'
    ·rcases g5 with g5 | ⟨s,h1,h2⟩
     ·exact Or.inl g5
     ·exact Or.inr ⟨s,by simp [h1],h2⟩
theorem jU {hs:List Nm} {N:Nat}:∀ (rs:List Rg) (lv:Nm->Nat) (ch:Bool) (q:(Nm->Nat) × Bool),fD hs N rs lv ch=some q->q.2=true->ch=true\/∃ r∈rs,lv r.head.rel < q.1 r.head.rel
 | [],lv,ch,q,e,h=>by cases e; exact Or.inl h
 | r::rs,lv,ch,q,e,h=>by
  unfold fD at e; have hge:=p8 hs lv r; split at e
  ·cases e
  ·split at e
   ·rename_i hc
    have g1:=(gF rs _ _ q e).1 r.head.rel; unfold ld at g1; rw [if_pos rfl] at g1; exact Or.inr ⟨r,by simp,by omega⟩
   ·rcases jU rs lv ch q e h with h | ⟨s,h1,h2⟩
    ·exact Or.inl h
    ·exact Or.inr ⟨s,by simp [h1],h2⟩
def m7 (ns:List Nm) (lv:Nm->Nat):Nat:=(ns.map lv).sum
theorem zc {ns:List Nm} {a b:Nm->Nat} (h:∀ m∈ns,a m<=b m):m7 ns a<=m7 ns b:=by
 unfold m7
 induction ns with
 | nil=>exact zM _
 | cons n ns ih =>
  simp only [List.map_cons,List.sum_cons]; have:=h n (by simp)
  have:=ih fun m hm=>h m (by simp [hm])
  omega
theorem zb {ns:List Nm} {a b:Nm->Nat} (h:∀ m∈ns,a m<=b m) {n:Nm} (hn:n∈ns) (hlt:a n < b n):m7 ns a < m7 ns b:=by
 unfold m7
 induction ns with
 | nil=>cases hn
 | cons k ns ih =>
  simp only [List.map_cons,List.sum_cons]; have h1:=h k (by simp); rcases List.mem_cons.1 hn with rfl | hn
  ·have:=zc (ns:=ns) (a:=a) (b:=b) fun m hm=>h m (by simp [hm])
   unfold m7 at this; omega
  ·have:=ih (fun m hm=>h m (by simp [hm])) hn
   omega
theorem xM {ns:List Nm} {a:Nm->Nat} {N:Nat} (h:∀ m∈ns,a m < N):m7 ns a<=ns.length * N:=by
 unfold m7
 induction ns with
 | nil=>exact zW _
 | cons k ns ih =>
  simp only [List.map_cons,List.sum_cons,zT,Nat.succ_mul]; have h1:=h k (by simp)
  have:=ih fun m hm=>h m (by simp [hm])
  omega
theorem jY (rs:List Rg):∀ (f:Nat) (lv lv':Nm->Nat),ia rs f lv=some lv'->gc rs lv'/\∀ nu,gc rs nu->(∀ m,lv m<=nu m)->∀ m,lv' m<=nu m
 | 0,lv,lv',e=>by cases e
 | f+1,lv,lv',e=>by
  unfold ia at e
  cases hp:fD (aI rs) (dd (aI rs)).length rs lv false with
  | none=>rw [hp] at e; cases e
  | some q =>
   obtain ⟨lv1,ch⟩:=q; rw [hp] at e; simp only at e
   have hb:=fun nu (hv:gc rs nu) h=>jq hv rs lv false _ (fun r hr=>hr) h hp
   split at e
   ·obtain ⟨h1,h2⟩:=jY rs f lv1 lv' e
    exact ⟨h1,fun nu hv h=>h2 nu hv (hb nu hv h)⟩
   ·rename_i hch
    injection e with e; subst e; rw [Bool.not_eq_true] at hch; obtain ⟨-,-,g3,-,-⟩:=gF rs lv false _ hp; obtain ⟨e1,e2⟩:=g3 hch; simp only at e1; refine ⟨fun r hr x hx hu=>?_,fun nu hv h=>hb nu hv h⟩; rw [e1]; exact (mB.1 (e2 r hr)).2 x hx hu
/-! a valid numbering pressed together -/
def jf (D:List Nat) (v:Nat):Nat:=(D.filter fun u=>decide (u < v)).length
theorem nI (D:List Nat) {v w:Nat} (h:v<=w):jf D v<=jf D w:=by
 unfold jf
 induction D with
 | nil=>exact zM _
 | cons a D ih =>
  rw [List.filter_cons,List.filter_cons]; split
  ·rename_i h1
   rw [decide_eq_true_eq] at h1; rw [if_pos (by rw [decide_eq_true_eq]; omega),zT,zT]; omega
  ·split
   ·rw [zT]; omega
   ·exact ih
theorem kN {D:List Nat} {v w:Nat} (hv:v∈D) (h:v < w):jf D v < jf D w:=by
 unfold jf
 induction D with
 | nil=>cases hv
 | cons a D ih =>
  rw [List.filter_cons,List.filter_cons]; rcases List.mem_cons.1 hv with rfl | hv
  ·rw [if_neg (by rw [decide_eq_true_eq]; omega),if_pos (by rw [decide_eq_true_eq]; exact h),zT]
   have:=nI D (Nat.le_of_lt h); unfold jf at this; omega
  ·have:=ih hv
   split
   ·rename_i h1
    rw [decide_eq_true_eq] at h1; rw [if_pos (by rw [decide_eq_true_eq]; omega),zT,zT]; omega
   ·split
    ·rw [zT]; omega
    ·exact this
theorem xZ {D:List Nat} {v:Nat} (hv:v∈D):jf D v < D.length:=by
 have h1:=kN hv (show v < v+1 by omega); have h2:jf D (v+1)<=D.length:=List.length_filter_le _ _; omega
def oD (rs:List Rg) (nu:Nm->Nat):Nm->Nat:=fun m=>jf (dd ((aI rs).map nu)) (nu m)
theorem pD {rs:List Rg} {nu:Nm->Nat} (hv:gc rs nu):gc rs (oD rs nu)/\∀ r∈rs,oD rs nu r.head.rel < (dd (aI rs)).length:=by
 constructor
 ·intro r hr x hx hu
  have h:=hv r hr x hx hu
  have hm:x.rel∈aI rs:=by
   unfold eD at hu; simp only [Bool.and_eq_true,decide_eq_true_eq] at hu; exact hu.2
  have hD:nu x.rel∈dd ((aI rs).map nu):=(fb _ _).2 (List.mem_map.2 ⟨_,hm,rfl⟩); unfold oD; unfold dB at h ⊢; split
  ·rename_i hc
   rw [if_pos hc] at h; have:=kN hD (show nu x.rel < nu r.head.rel by omega); omega
  ·rename_i hc
   rw [if_neg hc] at h; exact nI _ (by omega)
 ·intro r hr
  have hD:nu r.head.rel∈dd ((aI rs).map nu):=(fb _ _).2 (List.mem_map.2 ⟨_,List.mem_map.2 ⟨r,hr,rfl⟩,rfl⟩); have h1:=xZ hD
  have h2:=ky (f9 ((aI rs).map nu)) (m:=(dd (aI rs)).map nu) fun v hv=>by
   obtain ⟨n,hn,rfl⟩:=List.mem_map.1 ((fb _ _).1 hv); exact List.mem_map.2 ⟨n,(fb _ _).2 hn,rfl⟩
  rw [zY] at h2; unfold oD; omega
theorem kT {rs:List Rg} {lv:Nm->Nat} (h:dn rs=some lv):gc rs lv/\∀ nu,gc rs nu->∀ m,lv m<=nu m:=by
 obtain ⟨h1,h2⟩:=jY rs _ _ _ h; exact ⟨h1,fun nu hv=>h2 nu hv fun m=>zW _⟩
theorem oR {rs:List Rg} {lv:Nm->Nat} (h:dn rs=some lv) {k:Nat}:∀ {r:Rg},r∈rs->lv r.head.rel=k+1->∃ s∈rs,lv s.head.rel=k:=by
 intro r hr hk; obtain ⟨h1,h2⟩:=kT h; apply Classical.byContradiction; intro hno
 have hno':∀ s∈rs,lv s.head.rel≠k:=fun s hs e=>hno ⟨s,hs,e⟩
 have hv:gc rs fun m=>if k < lv m then lv m - 1 else lv m:=by
  intro s hs x hx hu; have h3:=h1 s hs x hx hu
  have hm:x.rel∈aI rs:=by
   unfold eD at hu; simp only [Bool.and_eq_true,decide_eq_true_eq] at hu; exact hu.2
  obtain ⟨t,ht,he⟩:=List.mem_map.1 hm; have h4:=hno' t ht; rw [he] at h4; have h5:=hno' s hs
  have h6:dB s x<=1:=by unfold dB; split <;> decide
  simp only; split <;> split <;> omega
 have:=h2 _ hv r.head.rel
 try simp only at this
 rw [if_pos (by omega)] at this; omega
end Go.Proofs.YtffdpoifdahadaaGreatDoor
set_option linter.unusedSimpArgs false
namespace Go.Proofs.YtffdpoifdahadaaGreatDoor
def fE (S:List (List Nat)) (k:Nat):List (List Nat):=S++List.replicate (k+1 - S.length) []
def qT (S:List (List Nat)) (k i:Nat):List (List Nat):=(fE S k).modify k (·++[i])
def bO (f:Nat->Nat):Nat->List (List Nat)
 | 0=>[]
 | i+1=>qT (bO f i) (f i) i
theorem kA (S:List (List Nat)) (k:Nat):(fE S k).length=max S.length (k+1):=by
 unfold fE; rw [zQ,List.length_replicate]; omega
theorem nX (S:List (List Nat)) (k n:Nat):(fE S k).getD n []=S.getD n []:=by
 unfold fE; rw [zZ,zZ]; by_cases h:n < S.length
 ·rw [Aa h]
 ·rw [Ab (by omega),List.getElem?_eq_none (l:=S) (by omega),List.getElem?_replicate]
  split <;> rfl
theorem qS (S:List (List Nat)) (k i:Nat):(qT S k i).length=max S.length (k+1):=by
 unfold qT; rw [List.length_modify,kA]
theorem xu (S:List (List Nat)) (k i n:Nat):(qT S k i).getD n []=if n=k then S.getD n []++[i] else S.getD n []:=by
 unfold qT; rw [zZ,List.getElem?_modify]; have h0:=nX S k n; rw [zZ] at h0; by_cases h:n=k
 ·subst h
  have hl:n < (fE S n).length:=by rw [kA]; omega
  rw [zR hl] at h0 ⊢; rw [if_pos rfl,← h0]; simp
 ·rw [if_neg h,← h0]
  have h2:¬ k=n:=fun e=>h e.symm
  simp [h2]
theorem gi (f:Nat->Nat):∀ (i n:Nat),(bO f i).getD n []=(List.range i).filter fun k=>decide (f k=n)
 | 0,n=>rfl
 | i+1,n=>by
  unfold bO; rw [xu,gi f i n,List.range_succ,List.filter_append]; by_cases h:n=f i
  ·rw [if_pos h,List.filter_cons_of_pos (by simp [h]),List.filter_nil]
  ·rw [if_neg h,List.filter_cons_of_neg (by simp; exact fun e=>h e.symm),List.filter_nil,List.append_nil]
theorem jm (f:Nat->Nat):∀ (i k:Nat),k < i->f k < (bO f i).length
 | i+1,k,h=>by
  unfold bO; rw [qS]; by_cases e:k=i
  ·subst e; omega
  ·have:=jm f i k (by omega); omega
theorem gS (f:Nat->Nat):∀ (i n:Nat),n < (bO f i).length->∃ k,k < i/\n<=f k
 | 0,n,h=>absurd h (by simp [bO])
 | i+1,n,h=>by
  unfold bO at h; rw [qS] at h; by_cases e:n<=f i
  ·exact ⟨i,by omega,e⟩
  ·obtain ⟨k,hk,h2⟩:=gS f i n (by omega)
   exact ⟨k,by omega,h2⟩
theorem gn {f:Nat->Nat} {i n k:Nat}:k∈(bO f i).getD n [] ↔ k < i/\f k=n:=by
 rw [gi,List.mem_filter,List.mem_range,decide_eq_true_eq]
theorem pp {f:Nat->Nat} {i n:Nat}:((bO f i).getD n []).Pairwise (· < ·):=by
 rw [gi]; exact (List.pairwise_lt_range).filter _
def dG (S:List (List Nat)):Nat:=(S.map List.length).sum
theorem tG (a b:List (List Nat)):dG (a++b)=dG a+dG b:=by unfold dG; rw [List.map_append,List.sum_append]
theorem tF (n:Nat):dG (List.replicate n [])=0:=by
 unfold dG
 induction n with
 | zero=>rfl
 | succ n ih=>rw [List.replicate_succ,List.map_cons,List.sum_cons,ih]; rfl
theorem jM:∀ (S:List (List Nat)) (k i:Nat),k < S.length->dG (S.modify k (·++[i]))=dG S+1
 | a::S,0,i,_=>by
  rw [List.modify_zero_cons]; unfold dG; rw [List.map_cons,List.sum_cons,List.map_cons,List.sum_cons,zQ]; simp only [List.length_singleton]; omega
 | a::S,k+1,i,h=>by
  rw [List.modify_succ_cons]; have:=jM S k i (by simpa using h); unfold dG at this ⊢; rw [List.map_cons,List.sum_cons,List.map_cons,List.sum_cons]; omega
theorem je (f:Nat->Nat):∀ i,dG (bO f i)=i
 | 0=>rfl
 | i+1=>by
  unfold bO qT; rw [jM _ _ _ (by rw [kA]; omega)]; unfold fE; rw [tG,tF,je f i]
def jc (rs:List Rg) (k:Nat):Nm:=((rs.map fun r=>r.head.rel)[k]?).getD []
theorem iE {rs:List Rg} {k:Nat} (h:k < rs.length):jc rs k=rs[k].head.rel:=by
 unfold jc; rw [Ai,zR h]; rfl
theorem iD {rs:List Rg} {n:Nm}:n∈aI rs ↔ ∃ k,k < rs.length/\jc rs k=n:=by
 unfold aI; rw [List.mem_map]; constructor
 ·rintro ⟨r,hr,e⟩
  obtain ⟨k,hk,e2⟩:=List.getElem_of_mem hr; exact ⟨k,hk,by rw [iE hk,e2,e]⟩
 ·rintro ⟨k,hk,e⟩
  exact ⟨rs[k],List.getElem_mem hk,by rw [← e,iE hk]⟩
def cD (rs:List Rg) (lv:Nm->Nat):List (List Nat):=bO (fun k=>lv (jc rs k)) rs.length
theorem pq {rs:List Rg} {lv:Nm->Nat} (h:dn rs=some lv) {n:Nat} (hn:n < (cD rs lv).length):(cD rs lv).getD n []≠[]:=by
 obtain ⟨k,hk,hle⟩:=gS _ _ _ hn
 have down:∀ d m,lv (jc rs m)=n+d->m < rs.length->∃ j,j < rs.length/\lv (jc rs j)=n:=by
  intro d
  induction d with
  | zero=>intro m e hm; exact ⟨m,hm,e⟩
  | succ d ih =>
   intro m e hm
   have e2:lv (rs[m].head.rel)=(n+d)+1:=by rw [← iE hm]; exact e
   obtain ⟨s,hs,e3⟩:=oR h (List.getElem_mem hm) e2; obtain ⟨j,hj,rfl⟩:=List.getElem_of_mem hs; exact ih j (by rw [iE hj]; exact e3) hj
 obtain ⟨j,hj,e⟩:=down (lv (jc rs k) - n) k (by omega) hk; intro e0; have:j∈(cD rs lv).getD n []:=gn.2 ⟨hj,e⟩; rw [e0] at this; cases this
def yv (rs:List Rg) (S:List (List Nat)) (rel:Nm) (n:Nat):Bool:=(S.getD n []).any fun k=>decide (k < rs.length) && decide (jc rs k=rel)
def r7 (rs:List Rg) (S:List (List Nat)) (rel:Nm):Int:=match (List.range S.length).find? (yv rs S rel) with
 | some n=>(n:Int)
 | none=>-1
theorem qn {rs:List Rg} {lv:Nm->Nat} {rel:Nm} {n:Nat}:yv rs (cD rs lv) rel n=true ↔ rel∈aI rs/\lv rel=n:=by
 unfold yv; rw [List.any_eq_true,iD]; constructor
 ·rintro ⟨k,hk,h⟩
  obtain ⟨h1,h2⟩:=gn.1 hk; simp only [Bool.and_eq_true,decide_eq_true_eq] at h; exact ⟨⟨k,h1,h.2⟩,by rw [← h.2]; exact h2⟩
 ·rintro ⟨⟨k,h1,h2⟩,e⟩
  exact ⟨k,gn.2 ⟨h1,by show lv (jc rs k)=n; rw [h2,e]⟩,by simp [h1,h2]⟩
theorem wG {rs:List Rg} {lv:Nm->Nat} {rel:Nm} (h:rel∈aI rs):r7 rs (cD rs lv) rel=(lv rel:Int):=by
 unfold r7
 have hlt:lv rel < (cD rs lv).length:=by
  obtain ⟨k,hk,e⟩:=iD.1 h; rw [← e]; exact jm (fun k=>lv (jc rs k)) rs.length k hk
 cases e:(List.range (cD rs lv).length).find? (yv rs (cD rs lv) rel) with
 | none =>
  rw [List.find?_eq_none] at e; exact absurd (qn.2 ⟨h,rfl⟩) (e _ (List.mem_range.2 hlt))
 | some n =>
  have:=List.find?_some e; rw [(qn.1 this).2]
end Go.Proofs.YtffdpoifdahadaaGreatDoor
set_option linter.unusedSimpArgs false
namespace Go.Proofs.YtffdpoifdahadaaGreatDoor
open Go.Lib (keeps compactUpTo compact)
theorem uu (a b c:Nm) (h:decide (a<=b)=true) (h2:decide (b<=c)=true):decide (a<=c)=true:=by
 rw [decide_eq_true_eq] at *; exact List.le_trans h h2
theorem uw (a b:Nm):(decide (a<=b) || decide (b<=a))=true:=by
 rw [Bool.or_eq_true,decide_eq_true_eq,decide_eq_true_eq]; exact List.le_total a b
theorem tK (ss:List Nm):(ss.mergeSort fun x y=>decide (x<=y)).Pairwise (·<=·):=by
 have:=List.pairwise_mergeSort (le:=fun x y:Nm=>decide (x<=y)) uu uw ss
 exact this.imp fun h=>of_decide_eq_true h
theorem qJ {zs:List Nm} {x:Nm}:x∈compact zs ↔ x∈zs:=by
 unfold compact compactUpTo; rw [List.mem_map]; constructor
 ·rintro ⟨j,hj,rfl⟩
  have hj:=List.mem_range.1 (List.mem_filter.1 hj).1
  have hs:j < zs.toArray.size:=by simpa using hj
  rw [getElem!_pos _ j hs]; simp
 ·intro h
  obtain ⟨j,hj,rfl⟩:=List.getElem_of_mem h
  induction j with
  | zero=>exact ⟨0,by simp [keeps,hj],by rw [getElem!_pos _ 0 (by simpa using hj)]; simp⟩
  | succ j ih =>
   by_cases hk:keeps zs.toArray (j+1)=true
   ·exact ⟨j+1,List.mem_filter.2 ⟨List.mem_range.2 hj,hk⟩,by rw [getElem!_pos _ (j+1) (by simpa using hj)]; simp⟩
   ·obtain ⟨i,hi,e⟩:=ih (by omega) (List.getElem_mem _)
    refine ⟨i,hi,?_⟩; rw [e]; unfold keeps at hk; simp only [decide_eq_true_eq,not_or,ne_eq,Classical.not_not] at hk; have h2:=hk.2; rw [getElem!_pos _ (j+1) (by simpa using hj),Nat.add_sub_cancel,getElem!_pos _ j (by simp; omega)] at h2; simpa using h2.symm
theorem nh {zs:List Nm} (hs:zs.Pairwise (·<=·)):(compact zs).Nodup:=by
 unfold compact compactUpTo; rw [List.nodup_iff_pairwise_ne,List.pairwise_map]; have hp:((List.range zs.length).filter (keeps zs.toArray)).Pairwise (· < ·):=List.pairwise_lt_range.filter _
 refine hp.imp_of_mem fun {i j} hi hj hlt=>?_
 have hj1:=List.mem_range.1 (List.mem_filter.1 hj).1; have hj2:=(List.mem_filter.1 hj).2; have hi1:=List.mem_range.1 (List.mem_filter.1 hi).1; unfold keeps at hj2; rw [decide_eq_true_eq] at hj2; have h2:=hj2.resolve_left (by omega); rw [getElem!_pos _ j (by simpa using hj1),getElem!_pos _ (j - 1) (by simp; omega)] at h2; rw [getElem!_pos _ i (by simpa using hi1),getElem!_pos _ j (by simpa using hj1)]; simp only [List.getElem_toArray] at h2 ⊢
 have h3:∀ (a b:Nat) (ha:a < zs.length) (hb:b < zs.length),a<=b->zs[a]<=zs[b]:=fun a b ha hb hab=>by
  by_cases e:a=b
  ·subst e; exact List.le_refl _
  ·exact List.pairwise_iff_getElem.1 hs a b ha hb (by omega)
 intro e; apply h2; refine List.le_antisymm ?_ (h3 (j - 1) j (by omega) hj1 (by omega)); rw [← e]; exact h3 i (j - 1) hi1 (by omega) (by omega)
def dR (rs:List Rg):List Nm:=compact ((aI rs).mergeSort fun x y=>decide (x<=y))
theorem kY {rs:List Rg} {n:Nm}:n∈dR rs ↔ n∈aI rs:=by
 unfold dR; rw [qJ,List.mem_mergeSort]
theorem jg (rs:List Rg):(dR rs).Nodup:=nh (tK _)
theorem qF (rs:List Rg):(dR rs).length<=rs.length:=by
 have h:=List.Nodup.length_le_of_subset (jg rs) (l₂:=aI rs) fun x hx=>kY.1 hx
 unfold aI at h; simpa using h
end Go.Proofs.YtffdpoifdahadaaGreatDoor
set_option linter.unusedSimpArgs false
namespace Go.Proofs.YtffdpoifdahadaaGreatDoor
def fh (names:List Nm) (lv:List Int) (rel:Nm):Int:=match (List.range (min names.length lv.length)).find? (fun i=>decide (names.getD i []=rel)) with
 | some i=>lv.getD i 0
 | none=>-1
theorem ub {names:List Nm} {lv:List Int} (hn:names.Nodup) (hl:lv.length=names.length) {i:Nat} (hi:i < names.length):fh names lv (names.getD i [])=lv.getD i 0:=by
 unfold fh
 cases e:(List.range (min names.length lv.length)).find? (fun j=>decide (names.getD j []=names.getD i [])) with
 | none =>
  rw [List.find?_eq_none] at e; exact absurd (e i (List.mem_range.2 (by omega))) (by simp)
 | some j =>
  have h1:=List.find?_some e; have h2:=List.mem_range.1 (List.mem_of_find?_eq_some e); rw [decide_eq_true_eq] at h1
  have hj:j < names.length:=by omega
  rw [zZ,zZ,zR hj,zR hi,Option.getD_some,Option.getD_some] at h1
  have:j=i:=by
   have hp:=List.pairwise_iff_getElem.1 (List.nodup_iff_pairwise_ne.1 hn); rcases Nat.lt_trichotomy j i with h | h | h
   ·exact absurd h1 (hp j i hj hi h)
   ·exact h
   ·exact absurd h1.symm (hp i j hi hj h)
  rw [this]
end Go.Proofs.YtffdpoifdahadaaGreatDoor
set_option linter.unusedSimpArgs false
namespace Go.Proofs.YtffdpoifdahadaaGreatDoor
end Go.Proofs.YtffdpoifdahadaaGreatDoor
set_option linter.unusedSimpArgs false
namespace Go.Proofs.YtffdpoifdahadaaGreatDoor
def fu (rs:List Rg) (rel:Nm):Option Nat:=(rs.reverse.find? fun r=>decide (r.head.rel=rel)).map fun r=>r.head.args.length
def eQ (ar:Nm->Nat) (done:List Rg) (r:Rg):Bool:=(match fu done r.head.rel with | some n=>!decide (n=r.head.args.length) | none=>false) || decide (0 < ar r.head.rel)
def gq (ar:Nm->Nat):List Rg->List Rg->Bool
 | _,[]=>true
 | done,r::rs=>if eQ ar done r=true then false else gq ar (done++[r]) rs
def bI (ar:Nm->Nat) (rs:List Rg) (x:Lg):Bool :=
 if x.op≠0 then true
 else if 0 < ar x.rel then decide (x.args.length=ar x.rel)
 else decide (fu rs x.rel=some x.args.length)
def fA (ar:Nm->Nat) (q:Qg):Bool:=gq ar [] q.rules && (q.rules.all fun r=>r.body.all (bI ar q.rules)) && bI ar q.rules q.goal
def ce (ar:Nm->Nat) (q:Qg) (right:Bool):Int × List (List Nat) :=
 if right=false then (1,[])
 else if fA ar q=false then (8,[])
 else if (q.rules.all fun r=>(ey r.head r.body).isSome)=false then (18,[])
 else match dn q.rules with
  | none=>(19,[])
  | some lv=>(0,cD q.rules lv)
def gd (ar:Nm->Nat) (rs:List Rg):Prop:=(∀ r∈rs,ar r.head.rel=0)/\∀ r∈rs,∀ s∈rs,r.head.rel=s.head.rel->r.head.args.length=s.head.args.length
theorem uU (ar:Nm->Nat):gd ar []:=⟨(by intro _ h; cases h),(by intro _ h; cases h)⟩
theorem i_ {rs:List Rg} {rel:Nm} {n:Nat} (h:fu rs rel=some n):∃ r∈rs,r.head.rel=rel/\r.head.args.length=n:=by
 unfold fu at h; rw [Option.map_eq_some_iff] at h; obtain ⟨r,h1,h2⟩:=h; exact ⟨r,List.mem_reverse.1 (List.mem_of_find?_eq_some h1),by simpa using List.find?_some h1,h2⟩
theorem uS {rs:List Rg} {rel:Nm} (h:fu rs rel=none):∀ r∈rs,r.head.rel≠rel:=by
 unfold fu at h; rw [Option.map_eq_none_iff,List.find?_eq_none] at h; intro r hr; have:=h r (List.mem_reverse.2 hr); simpa using this
theorem qR {rs:List Rg} {ar:Nm->Nat} (h:gd ar rs) {r:Rg} (hr:r∈rs):fu rs r.head.rel=some r.head.args.length:=by
 cases e:fu rs r.head.rel with
 | none=>exact absurd rfl (uS e r hr)
 | some n =>
  obtain ⟨s,h1,h2,h3⟩:=i_ e; rw [← h3,h.2 s h1 r hr h2]
theorem mr {ar:Nm->Nat}:∀ (rs done:List Rg),gd ar done->(gq ar done rs=true ↔ gd ar (done++rs))
 | [],done,hd=>by simp [gq,hd]
 | r::rs,done,hd=>by
  unfold gq
  have key:eQ ar done r=false ↔ gd ar (done++[r]):=by
   unfold eQ; rw [Bool.or_eq_false_iff]; constructor
   ·rintro ⟨h1,h2⟩
    have h2:ar r.head.rel=0:=by rw [decide_eq_false_iff_not] at h2; omega
    have h3:∀ s∈done,s.head.rel=r.head.rel->s.head.args.length=r.head.args.length:=fun s hs e=>by
     have:=qR hd hs; rw [e] at this; rw [this] at h1; simpa using h1
    refine ⟨fun s hs=>?_,fun s hs t ht e=>?_⟩
    ·rcases List.mem_append.1 hs with hs | hs
     ·exact hd.1 s hs
     ·rw [List.mem_singleton.1 hs]; exact h2
    ·rcases List.mem_append.1 hs with hs | hs <;> rcases List.mem_append.1 ht with ht | ht
     ·exact hd.2 s hs t ht e
     ·rw [List.mem_singleton.1 ht] at e ⊢; exact h3 s hs e
     ·rw [List.mem_singleton.1 hs] at e ⊢; exact (h3 t ht e.symm).symm
     ·rw [List.mem_singleton.1 hs,List.mem_singleton.1 ht]
   ·intro h
    refine ⟨?_,by rw [h.1 r (by simp)]; rfl⟩
    cases e:fu done r.head.rel with
    | none=>rfl
    | some n =>
     obtain ⟨s,h1,h2,h3⟩:=i_ e; have:=h.2 s (by simp [h1]) r (by simp) h2; show (!decide (n=r.head.args.length))=false; rw [← h3,this]; simp
  cases e:eQ ar done r with
  | true =>
   rw [if_pos rfl]; constructor
   ·intro h; cases h
   ·intro h
    have:eQ ar done r=false:=key.2 ⟨fun s hs=>h.1 s (by rcases List.mem_append.1 hs with hs | hs <;> simp_all),fun s hs t ht=>h.2 s (by rcases List.mem_append.1 hs with hs | hs <;> simp_all) t (by rcases List.mem_append.1 ht with hs | hs <;> simp_all)⟩; rw [e] at this; cases this
  | false =>
   rw [if_neg (by simp),mr rs (done++[r]) (key.1 e),Ad]; rfl
theorem nV {ar:Nm->Nat} {q:Qg}:fA ar q=true ↔ gd ar q.rules/\(∀ r∈q.rules,∀ x∈r.body,bI ar q.rules x=true)/\bI ar q.rules q.goal=true:=by
 unfold fA; rw [Bool.and_eq_true,Bool.and_eq_true,mr _ _ (uU ar),List.nil_append]; simp only [List.all_eq_true]; exact ⟨fun h=>⟨h.1.1,h.1.2,h.2⟩,fun h=>⟨⟨h.1,h.2.1⟩,h.2.2⟩⟩
structure Sub (rs ts:List Rg):Prop where
 of:∀ r∈rs,∃ t∈ts,t.head=r.head/\t.agg=r.agg/\t.body.Perm r.body
def ij (rs ts:List Rg):Prop:=Sub rs ts/\Sub ts rs
theorem Sub.heads {rs ts:List Rg} (h:Sub rs ts) {m:Nm} (hm:m∈aI rs):m∈aI ts:=by
 obtain ⟨r,hr,rfl⟩:=List.mem_map.1 hm; obtain ⟨t,ht,e,_⟩:=h.of r hr; exact List.mem_map.2 ⟨t,ht,by rw [e]⟩
theorem Sub.agree {ar:Nm->Nat} {rs ts:List Rg} (h:Sub rs ts) (ha:gd ar ts):gd ar rs:=by
 refine ⟨fun r hr=>?_,fun r hr s hs e=>?_⟩
 ·obtain ⟨t,ht,e,_⟩:=h.of r hr
  rw [← e]; exact ha.1 t ht
 ·obtain ⟨t,ht,e1,_⟩:=h.of r hr
  obtain ⟨u,hu,e2,_⟩:=h.of s hs; rw [← e1,← e2] at e ⊢; exact ha.2 t ht u hu e
theorem Sub.ar {ar:Nm->Nat} {rs ts:List Rg} (h:Sub rs ts) (ha:gd ar ts) {m:Nm} {n:Nat} (he:fu rs m=some n):fu ts m=some n:=by
 obtain ⟨r,hr,e1,e2⟩:=i_ he; obtain ⟨t,ht,e,_⟩:=h.of r hr; have:=qR ha ht; rw [e,e1,e2] at this; exact this
theorem Sub.right {ar:Nm->Nat} {rs ts:List Rg} (h:Sub rs ts) (ha:gd ar ts) {x:Lg} (hx:bI ar rs x=true):bI ar ts x=true:=by
 unfold bI at hx ⊢; split at hx
 ·rename_i h0; rw [if_pos h0]
 ·rename_i h0
  rw [if_neg h0]; split at hx
  ·rename_i h1; rw [if_pos h1]; exact hx
  ·rename_i h1; rw [if_neg h1]
   rw [decide_eq_true_eq] at hx ⊢; exact h.ar ha hx
theorem ij.named {ar:Nm->Nat} {rs ts:List Rg} {g:Lg} (h:ij rs ts) (hn:fA ar ⟨rs,g⟩=true):fA ar ⟨ts,g⟩=true:=by
 rw [nV] at hn ⊢; obtain ⟨h1,h2,h3⟩:=hn; have ha:gd ar ts:=h.2.agree h1; refine ⟨ha,fun t ht x hx=>?_,h.1.right ha h3⟩; obtain ⟨r,hr,_,_,hp⟩:=h.2.of t ht; exact h.1.right ha (h2 r hr x (hp.mem_iff.2 hx))
theorem ij.valid {rs ts:List Rg} (h:ij rs ts) {nu:Nm->Nat} (hv:gc rs nu):gc ts nu:=by
 intro t ht x hx hu; obtain ⟨r,hr,e,e2,hp⟩:=h.2.of t ht
 have h1:=hv r hr x (hp.mem_iff.2 hx) (by
  unfold eD at hu ⊢; simp only [Bool.and_eq_true,decide_eq_true_eq] at hu ⊢
  exact ⟨hu.1,h.2.heads hu.2⟩)
 unfold dB at h1 ⊢; rw [← e,← e2]; exact h1
theorem ij.symm {rs ts:List Rg} (h:ij rs ts):ij ts rs:=⟨h.2,h.1⟩
theorem ij.strata {rs ts:List Rg} (h:ij rs ts) (lv:Nm->Nat):(cD rs lv).length=(cD ts lv).length:=by
 have key:∀ {a b:List Rg},Sub a b->(cD a lv).length<=(cD b lv).length:=fun {a b} hs=>by
  refine Nat.le_of_not_lt fun hlt=>?_
  obtain ⟨k,hk,hle⟩:=gS _ _ _ hlt; obtain ⟨j,hj,e⟩:=iD.1 (hs.heads (iD.2 ⟨k,hk,rfl⟩)); have:=jm (fun k=>lv (jc b k)) b.length j hj; have hle:(cD b lv).length<=lv (jc a k):=hle; have this:lv (jc b j) < (cD b lv).length:=this; rw [e] at this; omega
 exact Nat.le_antisymm (key h.1) (key h.2)
end Go.Proofs.YtffdpoifdahadaaGreatDoor
set_option linter.unusedSimpArgs false
namespace Go.Proofs.YtffdpoifdahadaaGreatDoor
theorem pG {ar:Nm->Nat} {q:Qg} (h:fA ar q=true) {r:Rg} (hr:r∈q.rules) {x:Lg} (hx:x∈r.body) (h0:x.op=0) (hne:ar x.rel≠x.args.length) :
  ar x.rel=0/\fh (dR q.rules) (List.replicate (dR q.rules).length 0) x.rel=0:=by
 obtain ⟨h1,h2,h3⟩:=nV.1 h; have:=h2 r hr x hx; unfold bI at this; rw [if_neg (by simp [h0])] at this; split at this
 ·rw [decide_eq_true_eq] at this; exact absurd this.symm hne
 ·rw [decide_eq_true_eq] at this
  obtain ⟨s,hs,e,_⟩:=i_ this; have hm:x.rel∈dR q.rules:=kY.2 (List.mem_map.2 ⟨s,hs,e⟩); obtain ⟨i,hi,e2⟩:=List.getElem_of_mem hm; have h5:=ub (jg q.rules) (lv:=List.replicate (dR q.rules).length 0) (by rw [List.length_replicate]) hi
  have e3:(dR q.rules).getD i []=x.rel:=by rw [zZ,zR hi,Option.getD_some,e2]
  rw [e3] at h5; refine ⟨by omega,?_⟩; rw [h5,zZ,List.getElem?_replicate]; split <;> rfl
theorem uJ {ar:Nm->Nat} {q:Qg}:(ce ar q true).1≠1:=by
 unfold ce; simp only [Bool.true_eq_false,↓reduceIte]; split
 ·decide
 ·split
  ·decide
  ·split <;> simp
theorem qK {ar:Nm->Nat} {q:Qg} {b:Bool} (h:(ce ar q b).1=0):b=true/\fA ar q=true/\∃ lv,dn q.rules=some lv/\(ce ar q b).2=cD q.rules lv:=by
 unfold ce at h ⊢
 cases b with
 | false=>simp at h
 | true =>
  simp only [Bool.true_eq_false,↓reduceIte] at h ⊢
  cases e:fA ar q with
  | false=>rw [e] at h; simp at h
  | true =>
   rw [e] at h; simp only [Bool.true_eq_false,↓reduceIte] at h ⊢; split at h
   ·simp at h
   ·rename_i hs
    rw [if_neg hs]
    cases e2:dn q.rules with
    | none=>rw [e2] at h; simp at h
    | some lv=>exact ⟨trivial,trivial,lv,rfl,rfl⟩
theorem uI {ar:Nm->Nat} {q:Qg} {b:Bool} (h:(ce ar q b).1≠0):(ce ar q b).2=[]:=by
 unfold ce at h ⊢; split
 ·rfl
 ·rename_i h1; rw [if_neg h1] at h
  split
  ·rfl
  ·rename_i h2; rw [if_neg h2] at h
   split
   ·rfl
   ·rename_i h3; rw [if_neg h3] at h
    cases e:dn q.rules with
    | none=>rfl
    | some lv=>rw [e] at h; exact absurd rfl h
def jd (acc:List Nm) (v:Nm):List Nm:=if v∈acc then acc else acc++[v]
def yQ (l:List Nm):List Nm:=l.foldl jd []
def kL (x:Lg):List Nm:=yQ (el x)
theorem qE:∀ (l acc:List Nm),acc.Nodup->(l.foldl jd acc).Nodup/\∀ v,v∈l.foldl jd acc ↔ v∈acc\/v∈l
 | [],acc,h=>⟨h,fun v=>by simp⟩
 | a::l,acc,h=>by
  have h1:(jd acc a).Nodup:=by
   unfold jd; split
   ·exact h
   ·rename_i hn
    rw [List.nodup_append]; exact ⟨h,by simp,fun x hx y hy e=>hn (by rw [← List.mem_singleton.1 hy,← e]; exact hx)⟩
  obtain ⟨h2,h3⟩:=qE l (jd acc a) h1; refine ⟨h2,fun v=>?_⟩; rw [List.foldl_cons,h3]
  have:v∈jd acc a ↔ v∈acc\/v=a:=by
   unfold jd; split
   ·rename_i hm; exact ⟨Or.inl,fun h=>h.elim id fun e=>e ▸ hm⟩
   ·rw [z8,List.mem_singleton]
  rw [this,Ae,or_assoc]
theorem lK {x:Lg} {v:Nm}:v∈kL x ↔ v∈el x:=by
 have:=(qE (el x) [] List.nodup_nil).2 v; unfold kL yQ; rw [this]; simp
end Go.Proofs.YtffdpoifdahadaaGreatDoor
