/- StrW7: StrW0, StrW1, StrW2, StrH, StrW3, StrW4, StrW6, StrW5, StrW7, in one text. -/
import Derived.Test.YtffdpoifdahadaaGreatDoorRel
import Derived.Test.YtffdpoifdahadaaGreatDoorProg
import Derived.Test.YtffdpoifdahadaaGreatDoorAskD
set_option linter.unusedVariables false
set_option linter.unusedSimpArgs false
set_option maxHeartbeats 40000000
set_option maxRecDepth 100000
namespace Go.Proofs.YtffdpoifdahadaaGreatDoor
open Go.RowKit
open Go.Lib (hid)
theorem sP (f : Nat) (a : Addr) (w : World) : (nilAhead (f + 1) 78 (.pointer (some a)) "Len").run Tryz.prog w = .ok (some false) w := by kernel_rfl
theorem gG (f : Nat) (a : Addr) (w : World) : (nilAhead (f + 1) 78 (.pointer (some a)) "Less").run Tryz.prog w = .ok (some false) w := by kernel_rfl
theorem fq (f : Nat) (a : Addr) (w : World) : (nilAhead (f + 1) 78 (.pointer (some a)) "Swap").run Tryz.prog w = .ok (some false) w := by kernel_rfl
theorem vZ (f : Nat) (a : Addr) (w : World) : (nilAhead (f + 1) 78 (.pointer (some a)) "Push").run Tryz.prog w = .ok (some false) w := by kernel_rfl
theorem yf (f : Nat) (a : Addr) (w : World) : (nilAhead (f + 1) 78 (.pointer (some a)) "Pop").run Tryz.prog w = .ok (some false) w := by kernel_rfl
theorem wk (f : Nat) (a : Addr) (w : World) : (method (f + 1) 78 (.pointer (some a)) "Push").run Tryz.prog w = .ok (160, .pointer (some a)) w := by kernel_rfl
theorem yj (f : Nat) (a : Addr) (w : World) : (method (f + 1) 78 (.pointer (some a)) "Pop").run Tryz.prog w = .ok (159, .pointer (some a)) w := by kernel_rfl
theorem sR (f B o : Nat) (v : Value) (w : World) (h : w.cell? ⟨B, o, none⟩ = some v) : (method (f + 1) 78 (.pointer (some ⟨B, o, none⟩)) "Len").run Tryz.prog w = .ok (27, v) w := by
 have e : (method (f + 1) 78 (.pointer (some ⟨B, o, none⟩)) "Len").run Tryz.prog w = (load ⟨B, o, none⟩ >>= fun v => (pure (27, v) : Sem (FuncId × Value))).run Tryz.prog w := by kernel_rfl
 rw [e]; simp [h]
theorem gI (f B o : Nat) (v : Value) (w : World) (h : w.cell? ⟨B, o, none⟩ = some v) : (method (f + 1) 78 (.pointer (some ⟨B, o, none⟩)) "Less").run Tryz.prog w = .ok (156, v) w := by
 have e : (method (f + 1) 78 (.pointer (some ⟨B, o, none⟩)) "Less").run Tryz.prog w = (load ⟨B, o, none⟩ >>= fun v => (pure (156, v) : Sem (FuncId × Value))).run Tryz.prog w := by kernel_rfl
 rw [e]; simp [h]
theorem fs (f B o : Nat) (v : Value) (w : World) (h : w.cell? ⟨B, o, none⟩ = some v) : (method (f + 1) 78 (.pointer (some ⟨B, o, none⟩)) "Swap").run Tryz.prog w = .ok (158, v) w := by
 have e : (method (f + 1) 78 (.pointer (some ⟨B, o, none⟩)) "Swap").run Tryz.prog w = (load ⟨B, o, none⟩ >>= fun v => (pure (158, v) : Sem (FuncId × Value))).run Tryz.prog w := by kernel_rfl
 rw [e]; simp [h]
end Go.Proofs.YtffdpoifdahadaaGreatDoor
namespace Go.Proofs.YtffdpoifdahadaaGreatDoor
open Go.RowKit
open Go.Lib (hid)
theorem wP {S:aP} {w:World} {l:List Int} {a:Option Addr} {n cap i:Nat} {x:Int} {P:Program} {t:TypeId} (h:SlR 1 sr S w l (.slice a n cap)) (ht:P.underlying t=some (.slice (P.elem t))) (hz:∀ w,(sizeOf (P.elem t)).run P w=.ok 1 w) (hi:l[i]? = some x) :
  ∃ g o,(∀ kd W,(Instr.indexAt t (.slice a n cap) (.int kd i)).run P W=.ok (.pointer (some ⟨g,o,none⟩)) W)/\S g/\g < w.heap.size/\w.cell? ⟨g,o,none⟩=some (iv x):=by
 obtain ⟨g,o,cs,h1,h2,h3,h4,h5⟩:=h.at ht hz hi; refine ⟨g,o,h1,h2,h3,?_⟩; have:=h4 0 (iv x) (by rw [show cs=[iv x] from h5]; rfl); simpa using this
theorem ic (n c:Nat) (a:Option Addr) (w:World):Calls Tryz.prog 27 #[.slice a n c] w fun e w'=>e=.returned (iv n)/\w'=w:=by
 go_enter Tryz.func27,Tryz.ntmps27
 go_wp2_with fail
 go_ret; exact ⟨rfl,rfl⟩
theorem kV (l:List Int) (n c:Nat) (a:Option Addr) (S:aP) (w:World) (h:SlR 1 sr S w l (.slice a n c)) (i j:Nat) (x y:Int) (hi:l[i]? = some x) (hj:l[j]? = some y) :
  Calls Tryz.prog 156 #[.slice a n c,iv i,iv j] w fun e w'=>e=.returned (.bool (decide (x < y)))/\Below w.heap.size w w':=by
 obtain ⟨g1,o1,q1,-,-,c1⟩:=wP h (P:=Tryz.prog) (t:=70) (by kernel_rfl) (fun _=>by kernel_rfl) hi; obtain ⟨g2,o2,q2,-,-,c2⟩:=wP h (P:=Tryz.prog) (t:=70) (by kernel_rfl) (fun _=>by kernel_rfl) hj; have hA:=hid (zN w.heap.size w); clear h hi hj
 go_enter Tryz.func156,Tryz.ntmps156
 go_wp2_with fail
 go_region
 all_goals go_wp2_with fail
 all_goals go_ret
 all_goals refine ⟨rfl,?_⟩
 all_goals first
  | exact hA.out
  | exact hA.out.drew
  | trace_state
abbrev IO (w:World) (l:List Int) (v:Value):Prop:=w.ownsRow 0 3 1 v l.length (l.map iv)
theorem fi {w:World} {l:List Int} {v:Value} (h:IO w l v) (hl:0 < l.length) :
  ∃ g cap,v=.slice (some ⟨g,0,none⟩) l.length cap/\l.length<=cap/\g < w.heap.size/\(∀ i x,l[i]? = some x->w.cell? ⟨g,i,none⟩=some (iv x))/\∀ i,w.frozen? ⟨g,i,none⟩=false:=by
 obtain ⟨hlen,h3⟩:=h; rcases h3 with ⟨-,h0⟩ | ⟨g,cap,cur,rfl,-,hg,hn,hm,hs,ht⟩
 ·omega
 ·refine ⟨g,cap,rfl,hn,aL hg,fun i x hx=>(aj hg).trans ?_,fun i=>bX hg⟩
  have hi:=(List.getElem?_eq_some_iff.1 hx).1
  have e:(l.map iv)[i]? = some (iv x):=by rw [Ai,hx]; rfl
  rw [← ht,List.getElem?_take_of_lt (by omega)] at e; rw [← Array.getElem?_toList]; exact e
theorem wM {w:World} {l:List Int} {g cap i:Nat} (h:IO w l (.slice (some ⟨g,0,none⟩) l.length cap)) (hi:i < l.length) (x:Int):IO (w.setCell ⟨g,i,none⟩ (iv x)) (l.set i x) (.slice (some ⟨g,0,none⟩) l.length cap):=by
 have h1:=eh [iv x] w (l.map iv) i h (by simp; omega); show World.ownsRow _ _ _ _ _ (l.set i x).length _; rw [List.length_set,List.map_set]; exact h1
theorem oT {P:Program} {t:TypeId} {g n cap i:Nat} (hi:i < n) (ht:P.underlying t=some (.slice (P.elem t))) (hz:∀ w,(sizeOf (P.elem t)).run P w=.ok 1 w) (kd:IntKind) (W:World) :
  (Instr.indexAt t (.slice (some ⟨g,0,none⟩) n cap) (.int kd i)).run P W=.ok (.pointer (some ⟨g,i,none⟩)) W:=by
 have:=gm (b:=g) (off:=0) (a:=some ⟨g,0,none⟩) ht hz rfl n cap i hi kd W; simpa using this
theorem iL (l:List Int) (g c:Nat) (w:World) (h:IO w l (.slice (some ⟨g,0,none⟩) l.length c)) (i j:Nat) (hi:i < l.length) (hj:j < l.length) :
  Calls Tryz.prog 158 #[.slice (some ⟨g,0,none⟩) l.length c,iv i,iv j] w fun e w'=>e=.returned (.tuple #[])/\∃ n,w'=(((w.drewN n).setCell ⟨g,i,none⟩ (iv (l.getD j 0))).setCell ⟨g,j,none⟩ (iv (l.getD i 0))):=by
 obtain ⟨g',c',e,hc,hg,hcell,hfr⟩:=fi h (by omega); simp only [Value.slice.injEq,Al,Addr.mk.injEq] at e; obtain ⟨⟨rfl,-,-⟩,-,rfl⟩:=e; have q1:=oT (P:=Tryz.prog) (t:=70) (g:=g) (cap:=c) hi (by kernel_rfl) (fun _=>by kernel_rfl); have q2:=oT (P:=Tryz.prog) (t:=70) (g:=g) (cap:=c) hj (by kernel_rfl) (fun _=>by kernel_rfl); have c1:w.cell? ⟨g,i,none⟩=some (iv (l.getD i 0)):=hcell i _ (by rw [zZ,zR hi]; rfl); have c2:w.cell? ⟨g,j,none⟩=some (iv (l.getD j 0)):=hcell j _ (by rw [zZ,zR hj]; rfl); have f1:=hfr i; have f2:=hfr j; generalize l.getD i 0=x at *; generalize l.getD j 0=y at *
 have c3:∃ z,(w.setCell ⟨g,i,none⟩ (iv y)).cell? ⟨g,j,none⟩=some z:=by
  by_cases e:i=j
  ·subst e; exact ⟨_,World.cell?_setCell_same' _ _ _ (by rw [c1]; rfl)⟩
  ·exact ⟨_,(World.cell?_setCell_other _ _ _ _ (fun h=>e (by injection h))).trans c2⟩
 obtain ⟨z,c3⟩:=c3; generalize l.length=n at *; clear h hcell hfr
 go_enter Tryz.func158,Tryz.ntmps158
 go_wp2_with fail
 go_region
 all_goals go_wp2_with fail
 all_goals refine bodyPost_end (results_none (by rfl) _ _ _) rfl ⟨rfl,1,rfl⟩
end Go.Proofs.YtffdpoifdahadaaGreatDoor
namespace Go.Proofs.YtffdpoifdahadaaGreatDoor
open Go.RowKit
open Go.Lib (hid)
abbrev ed (a0 a1 a2 a3 a4 v:Value):Array Value:=#[a0,a1,a2,a3,a4,v]
theorem sb (B:Nat) (a0 a1 a2 a3 a4 v:Value) (l:List Int) (w:World) (hB:w.heap[B]? = some (.cells (ed a0 a1 a2 a3 a4 v) 74 (0,0))) (h:IO w l v) (h0:0 < l.length) (hl:l.length<=140737488355328) :
  Calls Tryz.prog 159 #[.pointer (some ⟨B,5,none⟩)] w fun e w'=>e=.returned (.iface 3 (iv (l.getD (l.length - 1) 0)))/\∃ g c n,v=.slice (some ⟨g,0,none⟩) l.length c/\w'=(w.drewN n).setCell ⟨B,5,none⟩ (.slice (some ⟨g,0,none⟩) (l.length - 1:Nat) c):=by
 obtain ⟨g,c,rfl,hc,hg,hcell,hfr⟩:=fi h h0; obtain ⟨m,hm⟩:∃ m,l.length=m+1:=⟨l.length - 1,by omega⟩; have q1:=oT (P:=Tryz.prog) (t:=70) (g:=g) (cap:=c) (show m < l.length by omega) (by kernel_rfl) (fun _=>by kernel_rfl); have c1:w.cell? ⟨g,m,none⟩=some (iv (l.getD m 0)):=hcell m _ (by rw [zZ,zR (by omega)]; rfl); have c5:w.cell? ⟨B,5,none⟩=some (.slice (some ⟨g,0,none⟩) l.length c):=(aj hB).trans rfl; have f5:w.frozen? ⟨B,5,none⟩=false:=bX hB
 have e1:IntKind.i64.wrap ((l.length:Int) - 1)=(m:Int):=by rw [zX]; omega
 have e2:l.length - 1=m:=by omega
 rw [e2]; have hlen:=hid (fun n c a W=>ic n c a W)
 have hmc:m<=c:=by omega
 have hmn:m < l.length:=by omega
 generalize l.getD m 0=x at *; generalize l.length=n at *; clear h hcell hfr hm e2
 go_enter Tryz.func159,Tryz.ntmps159
 go_wp2_with fail
 refine (hlen.out _ _ _ _).mono ?_; rintro e w1 ⟨rfl,rfl⟩
 all_goals go_wp2_with fail
 go_ret; exact ⟨rfl,g,c,0,rfl,rfl⟩
theorem gJ:(Tryz.prog.info? 3).map (fun i=>(i.zero,i.size,i.bytes))=some (some (.int .i64 0),1,8):=by kernel_rfl
theorem qh (B:Nat) (a0 a1 a2 a3 a4 v:Value) (l:List Int) (x:Int) (w:World) (hB:w.heap[B]? = some (.cells (ed a0 a1 a2 a3 a4 v) 74 (0,0))) (h:IO w l v) (hl:l.length<=10000000000000) (hown:∀ k,v.ownBlock=some k->k≠B) :
  Calls Tryz.prog 160 #[.pointer (some ⟨B,5,none⟩),.iface 3 (iv x)] w fun e w'=>e=.returned (.tuple #[])/\∃ v',w'.heap[B]? = some (.cells (ed a0 a1 a2 a3 a4 v') 74 (0,0))/\IO w' (l++[x]) v'/\(v'.ownBlock=v.ownBlock\/∃ k,v'.ownBlock=some k/\w.heap.size<=k)/\Fr (fun k=>k=B\/v.ownBlock=some k) w w':=by
 have c5:w.cell? ⟨B,5,none⟩=some v:=(aj hB).trans rfl; have f5:w.frozen? ⟨B,5,none⟩=false:=bX hB
 have ta:∀ W,(Instr.typeAssert (.iface 3 (iv x)) 20 3 true).run Tryz.prog W=.ok (.tuple #[iv x,.bool true]) W:=fun _=>by kernel_rfl
 obtain ⟨i0,hi,hz0,hz1,hz2⟩:=info_parts gJ; have hlt0:=ae hB; have g4a:(w.alloc (.cells #[iv x] 3)).ownsRow 0 3 1 v l.length (l.map iv):=World.ownsRow.alloc h _; have g3a:(w.alloc (.cells #[iv x] 3)).heap[B]? = some (.cells (ed a0 a1 a2 a3 a4 v) 74 (0,0)):=(z7 _ _ _ hlt0).trans hB; obtain ⟨v',w2,hrun,hown',hgrow,-,hor⟩:=run_append_own_at (P:=Tryz.prog) (w.alloc (.cells #[iv x] 3)) 0 70 70 3 i0 (.int .i64 0) 1 8 Tryz.underlying70 hi hz0 hz1 hz2 rfl (by decide) v l.length (l.map iv) g4a ⟨w.heap.size,0,none⟩ 1 1 [iv x] rfl (nU _ _ _) (m8 rfl) (by unfold maxLen; omega) (by omega) (zW _); have hlt:=ae g3a
 have hb2:w2.heap[B]? = some (.cells (ed a0 a1 a2 a3 a4 v) 74 (0,0)):=(hgrow.block B hlt (fun e=>hown B e.symm rfl)).trans g3a; have d5:w2.cell? ⟨B,5,none⟩=some v:=(aj hb2).trans rfl; have g5:w2.frozen? ⟨B,5,none⟩=false:=bX hb2
 have hown2:IO w2 (l++[x]) v':=by
  show World.ownsRow _ _ _ _ _ _ _; rw [zQ,List.map_append]; exact hown'
 have hbk:Fr (fun k=>k=B\/v.ownBlock=some k) w w2:=((Fr.refl _ w).alloc _).grown hgrow fun k hk=>Or.inl (Or.inr hk)
 have hneB:v'.ownBlock≠some B:=Lib.ownBlock_ne hown2 hb2 (by decide)
 have hor2:v'.ownBlock=v.ownBlock\/∃ k,v'.ownBlock=some k/\w.heap.size<=k:=hor.imp id fun e=>⟨_,e,by simp⟩
 have hset:=aC (i:=5) hb2 v'; obtain ⟨ao,cap,hv',-,-⟩:=bp hown2; obtain ⟨lx,hlx⟩:∃ n,n=(l++[x]).length:=⟨_,rfl⟩; rw [← hlx] at hv'; subst hv'; replace hlx:=hid hlx; have hap:=hid (show cH Tryz.prog _ _ _ _ _ _ _ _ from ⟨hrun⟩); clear hrun hown' hor g4a g3a; replace hown2:=hid hown2; replace hbk:=hid hbk; replace hset:=hid hset; replace hgrow:=hid hgrow; replace hb2:=hid hb2; replace hB:=hid hB; replace h:=hid h; replace hown:=hid hown; replace hor2:=hid hor2; replace hneB:=hid hneB
 go_enter Tryz.func160,Tryz.ntmps160
 go_wp2_with (at_builtin; refine aU rfl (.tmp 16) (.tmp 18) rfl rfl rfl hap.out ?_)
 refine bodyPost_end (results_none (by rfl) _ _ _) rfl ⟨rfl,_,hset.out,?_,hor2.out,hbk.out.setCell (Or.inl (Or.inl rfl)) _⟩
 exact aJ hown2.out (fun k hk=>ak _ fun e=>hneB.out (by rw [hk,e])) fun k hk=>zW _
end Go.Proofs.YtffdpoifdahadaaGreatDoor
namespace Go.Proofs.YtffdpoifdahadaaGreatDoor
abbrev gt (l:List Int) (k:Nat):Int:=l.getD k 0
def sw (l:List Int) (i j:Nat):List Int:=(l.set i (gt l j)).set j (gt l i)
theorem dy (l:List Int) (i j:Nat):(sw l i j).length=l.length:=by unfold sw; simp
theorem sg (l:List Int) (i k:Nat) (v:Int) (hi:i < l.length):gt (l.set i v) k=if k=i then v else gt l k:=by
 unfold gt; rw [zZ,zZ,List.getElem?_set]; by_cases h:i=k
 ·subst h
  rw [if_pos rfl,if_pos hi,if_pos rfl]; rfl
 ·rw [if_neg h,if_neg (fun e=>h e.symm)]
theorem vm {l:List Int} {i j:Nat} (hi:i < l.length) (hj:j < l.length) (k:Nat):gt (sw l i j) k=if k=j then gt l i else if k=i then gt l j else gt l k:=by
 unfold sw; rw [sg _ _ _ _ (by simpa using hj),sg _ _ _ _ hi]
theorem mO (l:List Int) (i:Nat) (v b:Int) (hi:i < l.length):(l.set i v).count b+(if gt l i=b then 1 else 0)=l.count b+(if v=b then 1 else 0):=by
 induction l generalizing i with
 | nil=>simp at hi
 | cons a l ih =>
  cases i with
  | zero =>
   show (v::l).count b+(if a=b then 1 else 0)=(a::l).count b+_; rw [List.count_cons,List.count_cons]; simp only [beq_iff_eq]; omega
  | succ i =>
   have:=ih i (by simpa using hi); show (a::l.set i v).count b+(if gt l i=b then 1 else 0)=(a::l).count b+_; rw [List.count_cons,List.count_cons]; omega
theorem ow {l:List Int} {i j:Nat} (hi:i < l.length) (hj:j < l.length):(sw l i j).Perm l:=by
 rw [List.perm_iff_count]; intro b; unfold sw; have h1:=mO (l.set i (gt l j)) j (gt l i) b (by simpa using hj); have h2:=mO l i (gt l j) b hi; rw [sg _ _ _ _ hi] at h1; by_cases h:j=i
 ·subst h
  rw [if_pos rfl] at h1; omega
 ·rw [if_neg h] at h1
  omega
def upF:Nat->List Int->Nat->List Int
 | 0,l,_=>l
 | f+1,l,j=>if (j - 1) / 2=j\/¬ gt l j < gt l ((j - 1) / 2) then l else upF f (sw l ((j - 1) / 2) j) ((j - 1) / 2)
def gM:Nat->List Int->Nat->Nat->List Int
 | 0,l,_,_=>l
 | f+1,l,i,n =>
  if n<=2 * i+1 then l
  else if ¬ gt l (if 2 * i+2 < n/\gt l (2 * i+2) < gt l (2 * i+1) then 2 * i+2 else 2 * i+1) < gt l i then l
  else gM f (sw l i (if 2 * i+2 < n/\gt l (2 * i+2) < gt l (2 * i+1) then 2 * i+2 else 2 * i+1)) (if 2 * i+2 < n/\gt l (2 * i+2) < gt l (2 * i+1) then 2 * i+2 else 2 * i+1) n
def k9 (l:List Int) (n:Nat):Prop:=∀ k,0 < k->k < n->gt l ((k - 1) / 2)<=gt l k
theorem wU {l:List Int} {n:Nat} (h:k9 l n):∀ k,k < n->gt l 0<=gt l k:=by
 intro k
 induction k using Nat.strongRecOn with
 | _ k ih =>
  intro hk; by_cases h0:k=0
  ·subst h0; exact Int.le_refl _
  ·have h1:=h k (by omega) hk
   have h2:=ih ((k - 1) / 2) (by omega) (by omega); omega
def UpI (l:List Int) (j n:Nat):Prop:=(∀ k,0 < k->k < n->k≠j->gt l ((k - 1) / 2)<=gt l k)/\∀ k,0 < k->k < n->(k - 1) / 2=j->0 < j->gt l ((j - 1) / 2)<=gt l k
theorem yK:∀ (f:Nat) (l:List Int) (j:Nat),j < l.length->j < f->UpI l j l.length->k9 (upF f l j) l.length/\(upF f l j).Perm l
 | 0,l,j,_,hf,_=>by omega
 | f+1,l,j,hj,hf,hI=>by
  unfold upF; split
  ·rename_i hc
   refine ⟨fun k h0 hk=>?_,List.Perm.refl _⟩; by_cases h:k=j
   ·subst h
    rcases hc with hc | hc
    ·omega
    ·omega
   ·exact hI.1 k h0 hk h
  ·rename_i hc
   simp only [not_or,Decidable.not_not] at hc; obtain ⟨hne,hlt⟩:=hc
   have hp:(j - 1) / 2 < l.length:=by omega
   have hg:=vm (l:=l) hp hj
   have hI2:UpI (sw l ((j - 1) / 2) j) ((j - 1) / 2) (sw l ((j - 1) / 2) j).length:=by
    rw [dy]; refine ⟨fun k h0 hk hkp=>?_,fun k h0 hk hkp hpp=>?_⟩
    ·rw [hg,hg]
     by_cases h1:k=j
     ·subst h1
      rw [if_neg (by omega),if_pos rfl,if_pos rfl]; omega
     ·rw [if_neg h1,if_neg hkp]
      by_cases h2:(k - 1) / 2=j
      ·rw [if_pos h2]
       exact hI.2 k h0 hk h2 (by omega)
      ·rw [if_neg h2]
       by_cases h3:(k - 1) / 2=(j - 1) / 2
       ·rw [if_pos h3]
        have:=hI.1 k h0 hk h1; rw [h3] at this; omega
       ·rw [if_neg h3]
        exact hI.1 k h0 hk h1
    ·have hpn:(j - 1) / 2≠j:=hne
     have h4:=hI.1 ((j - 1) / 2) hpp hp hpn; rw [hg,hg,if_neg (by omega),if_neg (by omega)]; by_cases h1:k=j
     ·rw [if_pos h1]; exact h4
     ·rw [if_neg h1,if_neg (by omega)]
      have:=hI.1 k h0 hk h1; rw [hkp] at this; omega
   obtain ⟨r1,r2⟩:=yK f (sw l ((j - 1) / 2) j) ((j - 1) / 2) (by rw [dy]; exact hp) (by omega) hI2; rw [dy] at r1; exact ⟨r1,r2.trans (ow hp hj)⟩
def DnI (l:List Int) (i n:Nat):Prop:=(∀ k,0 < k->k < n->(k - 1) / 2≠i->gt l ((k - 1) / 2)<=gt l k)/\∀ k,0 < k->k < n->(k - 1) / 2=i->0 < i->gt l ((i - 1) / 2)<=gt l k
theorem s9:∀ (f:Nat) (l:List Int) (i n:Nat),n<=l.length->n<=f+i->DnI l i n->k9 (gM f l i n) n/\(gM f l i n).Perm l/\∀ k,n<=k->gt (gM f l i n) k=gt l k
 | 0,l,i,n,hn,hf,hI=>by
  refine ⟨fun k h0 hk=>?_,List.Perm.refl _,fun _ _=>rfl⟩; exact hI.1 k h0 hk (by omega)
 | f+1,l,i,n,hn,hf,hI=>by
  unfold gM; split
  ·refine ⟨fun k h0 hk=>hI.1 k h0 hk (by omega),List.Perm.refl _,fun _ _=>rfl⟩
  ·rename_i hc
   obtain ⟨j,hj⟩:∃ j,j=(if 2 * i+2 < n/\gt l (2 * i+2) < gt l (2 * i+1) then 2 * i+2 else 2 * i+1):=⟨_,rfl⟩; rw [← hj]
   have hjc:(j=2 * i+1\/j=2 * i+2)/\j < n/\gt l j<=gt l (2 * i+1)/\(2 * i+2 < n->gt l j<=gt l (2 * i+2)):=by
    rw [hj]; split
    ·rename_i h; exact ⟨Or.inr rfl,h.1,by omega,fun _=>Int.le_refl _⟩
    ·rename_i h
     refine ⟨Or.inl rfl,by omega,Int.le_refl _,fun h2=>?_⟩; apply Classical.byContradiction; intro h3; exact h ⟨h2,by omega⟩
   obtain ⟨j1,j2,j3,j4⟩:=hjc; clear hj
   have hmin:∀ k,0 < k->k < n->(k - 1) / 2=i->gt l j<=gt l k:=fun k h0 hk hp=>by
    have:k=2 * i+1\/k=2 * i+2:=by omega
    rcases this with h | h
    ·rw [h]; exact j3
    ·rw [h]; exact j4 (by omega)
   have hjp:(j - 1) / 2=i:=by omega
   split
   ·rename_i hlt
    refine ⟨fun k h0 hk=>?_,List.Perm.refl _,fun _ _=>rfl⟩; by_cases h:(k - 1) / 2=i
    ·have:=hmin k h0 hk h
     rw [h]; omega
    ·exact hI.1 k h0 hk h
   ·rename_i hlt
    rw [Decidable.not_not] at hlt;(have hil:i < l.length:=by omega);(have hjl:j < l.length:=by omega);have hg:=vm (l:=l) hil hjl
    have hI2:DnI (sw l i j) j n:=by
     refine ⟨fun k h0 hk hkp=>?_,fun k h0 hk hkp hpp=>?_⟩
     ·rw [hg,hg,if_neg hkp]
      by_cases h1:(k - 1) / 2=i
      ·rw [if_pos h1]
       by_cases h2:k=j
       ·rw [if_pos h2]; omega
       ·rw [if_neg h2,if_neg (by omega)]
        exact hmin k h0 hk h1
      ·rw [if_neg h1,if_neg (by intro e; subst e; exact h1 hjp)]
       by_cases h3:k=i
       ·rw [if_pos h3]
        subst h3; exact hI.2 j (by omega) j2 hjp h0
       ·rw [if_neg h3]
        exact hI.1 k h0 hk h1
     ·rw [hg,hg,hjp,if_neg (by omega),if_pos rfl,if_neg (by omega),if_neg (by omega)]
      have:=hI.1 k h0 hk (by omega); rw [hkp] at this; exact this
    obtain ⟨r1,r2,r3⟩:=s9 f (sw l i j) j n (by rw [dy]; exact hn) (by omega) hI2; refine ⟨r1,r2.trans (ow hil hjl),fun k hk=>?_⟩; rw [r3 k hk,hg,if_neg (by omega),if_neg (by omega)]
def nK (l:List Int) (x:Int):List Int:=upF (l.length+1) (l++[x]) l.length
theorem x8 {l:List Int} (h:k9 l l.length) (x:Int):k9 (nK l x) (l.length+1)/\(nK l x).Perm (l++[x]):=by
 have hlen:(l++[x]).length=l.length+1:=by simp
 have hlow:∀ k,k < l.length->gt (l++[x]) k=gt l k:=fun k hk=>by
  unfold gt; rw [zZ,zZ,Aa hk]
 have:=yK (l.length+1) (l++[x]) l.length (by omega) (by omega) (by
  rw [hlen]; refine ⟨fun k h0 hk hne=>?_,fun k h0 hk hp hpp=>?_⟩
  ·rw [hlow k (by omega),hlow _ (by omega)]
   exact h k h0 (by omega)
  ·omega)
 rw [hlen] at this; exact this
def fx (l:List Int):List Int:=gM l.length (sw l 0 (l.length - 1)) 0 (l.length - 1)
theorem vP {l:List Int} (h:k9 l l.length) (h0:l≠[]):k9 (fx l) (l.length - 1)/\(fx l).Perm l/\gt (fx l) (l.length - 1)=gt l 0/\∀ k,k < l.length->gt l 0<=gt l k:=by
 have hl:=List.length_pos_iff.2 h0; have hg:=vm (l:=l) (i:=0) (j:=l.length - 1) hl (by omega)
 obtain ⟨r1,r2,r3⟩:=s9 l.length (sw l 0 (l.length - 1)) 0 (l.length - 1) (by rw [dy]; omega) (by omega) (by
  refine ⟨fun k h0 hk hp=>?_,fun k h0 hk hp hpp=>by omega⟩; rw [hg,hg,if_neg (by omega),if_neg (by omega),if_neg (by omega),if_neg (by omega)]
  exact h k h0 (by omega))
 refine ⟨r1,r2.trans (ow hl (by omega)),?_,fun k hk=>wU h k hk⟩; unfold fx; rw [r3 _ (zM _),hg,if_pos rfl]
end Go.Proofs.YtffdpoifdahadaaGreatDoor
namespace Go.Proofs.YtffdpoifdahadaaGreatDoor
open Go.RowKit
open Go.Lib (hid)
theorem yP {w:World} {l:List Int} {g c:Nat} (h:IO w l (.slice (some ⟨g,0,none⟩) l.length c)) (h0:0 < l.length):SlR 1 sr (fun k=>k=g) w l (.slice (some ⟨g,0,none⟩) l.length c):=by
 obtain ⟨g',c',e,hc,hg,hcell,hfr⟩:=fi h h0; simp only [Value.slice.injEq,Al,Addr.mk.injEq] at e; obtain ⟨⟨rfl,-,-⟩,-,rfl⟩:=e; refine ⟨some ⟨g,0,none⟩,c,g,0,fun i=>[iv (l.getD i 0)],rfl,hc,fun _=>⟨rfl,rfl,hg⟩,fun i hi j u hu=>?_,fun i x hx=>?_⟩
 ·have hj:j=0:=by
   have:=(List.getElem?_eq_some_iff.1 hu).1; simp at this; omega
  subst hj; simp at hu; subst hu; have:=hcell i (l.getD i 0) (by rw [zZ,zR hi]; rfl); simpa using this
 ·show [iv (l.getD i 0)]=[iv x]
  rw [zZ,hx]; rfl
theorem qd {w:World} {l:List Int} {g c n i j:Nat} (h:IO w l (.slice (some ⟨g,0,none⟩) l.length c)) (hi:i < l.length) (hj:j < l.length) :
  IO (((w.drewN n).setCell ⟨g,i,none⟩ (iv (l.getD j 0))).setCell ⟨g,j,none⟩ (iv (l.getD i 0))) (sw l i j) (.slice (some ⟨g,0,none⟩) (sw l i j).length c):=by
 have h0:IO (w.drewN n) l (.slice (some ⟨g,0,none⟩) l.length c):=aJ h (fun _ _=>rfl) (fun _ _=>zW _); have h1:=wM h0 hi (l.getD j 0); have e:(l.set i (l.getD j 0)).length=l.length:=List.length_set
 have h2:IO ((w.drewN n).setCell ⟨g,i,none⟩ (iv (l.getD j 0))) (l.set i (l.getD j 0)) (.slice (some ⟨g,0,none⟩) (l.set i (l.getD j 0)).length c):=by rw [e]; exact h1
 have h3:=wM h2 (i:=j) (by rw [e]; exact hj) (l.getD i 0); rw [e] at h3; rw [dy]; exact h3
theorem sc (B:Nat) (a0 a1 a2 a3 a4:Value) (g c:Nat) (l:List Int) (j:Nat) (w:World) (hB:w.heap[B]? = some (.cells (ed a0 a1 a2 a3 a4 (.slice (some ⟨g,0,none⟩) l.length c)) 74 (0,0))) (h:IO w l (.slice (some ⟨g,0,none⟩) l.length c)) (hgB:g≠B) (hj:j < l.length) (hl:l.length<=10000000000000) :
  Calls Tryz.prog 99 #[.iface 78 (.pointer (some ⟨B,5,none⟩)),iv j] w fun e w'=>e=.returned (.tuple #[])/\IO w' (upF (j+1) l j) (.slice (some ⟨g,0,none⟩) l.length c)/\Fr (fun k=>k=g) w w':=by
 obtain ⟨R,hR⟩:∃ R,R=upF (j+1) l j:=⟨_,rfl⟩; obtain ⟨N,hN⟩:∃ N,N=l.length:=⟨_,rfl⟩; rw [← hR]; have hF:=hid (Fr.refl (fun k=>k=g) w)
 have h0:Hid (IO w l (.slice (some ⟨g,0,none⟩) N c)):=by rw [hN]; exact hid h
 rw [← hN] at hB hj hl ⊢; have hB0:=hid hB; replace hR:=hid hR.symm; replace hN:=hid hN.symm; clear h hB
 go_enter Tryz.func99,Tryz.ntmps99
 go_wp2_with fail
 go_loopg [1] (j+1) (fun f jv wr=>∃ (k:Nat) (lr:List Int),jv=iv k/\k < f/\k < N/\Hid (upF f lr k=R)/\Hid (lr.length=N)/\Hid (IO wr lr (.slice (some ⟨g,0,none⟩) N c))/\Hid (Fr (fun k=>k=g) w wr))
 case atStart=>exact ⟨j,l,rfl,by omega,by omega,hR,hN,h0,hF⟩
 case round =>
  obtain ⟨k,lr,rfl,hkf,hkN,hR2,hN2,h2,hF2⟩:=hrel; have hBr:wr.heap[B]? = some (.cells (ed a0 a1 a2 a3 a4 (.slice (some ⟨g,0,none⟩) N c)) 74 (0,0)):=hF2.out.keep hB0.out (fun e=>hgB e.symm); have c5:wr.cell? ⟨B,5,none⟩=some (.slice (some ⟨g,0,none⟩) N c):=(aj hBr).trans rfl; obtain ⟨f,rfl⟩:∃ f,gk=f+1:=⟨gk - 1,by omega⟩
  have e1:IntKind.i64.wrap ((k:Int) - 1)=(k:Int) - 1:=by rw [zX]; omega
  by_cases hk0:k=0
  ·subst hk0
   have hRl:lr=R:=by
    have:=hR2.out; unfold upF at this; rw [if_pos (Or.inl rfl)] at this; exact this
   rw [hRl] at h2
   go_wp2_with fail
   exact bodyPost_end (results_none (by rfl) _ _ _) rfl ⟨rfl,h2.out,hF2.out⟩
  ·obtain ⟨p,hp⟩:∃ p,p=(k - 1) / 2:=⟨_,rfl⟩
   have e2:IntKind.i64.wrap (((k:Int) - 1).tdiv 2)=(p:Int):=by
    rw [zX,Int.tdiv_eq_ediv_of_nonneg (by omega)]; omega
   have hpk:p < k:=by omega
   have b1:decide ((p:Int)=(k:Int))=false:=zO (by omega)
   have b2:((p:Int) == (k:Int))=false:=by simp; omega
   have hR3:=hR2.out; unfold upF at hR3; rw [← hp] at hR3; replace hR3:=hid hR3
   have hkl:k < lr.length:=by rw [hN2.out]; exact hkN
   have hpl:p < lr.length:=by omega
   have h2':IO wr lr (.slice (some ⟨g,0,none⟩) lr.length c):=by rw [hN2.out]; exact h2.out
   have hgl:g < wr.heap.size:=by
    obtain ⟨g',c',e',-,hgl,-,-⟩:=fi h2' (by omega); simp only [Value.slice.injEq,Al,Addr.mk.injEq] at e'; rw [e'.1.1]; exact hgl
   have hBl:=ae hBr
   have hsw:∀ W,IO W lr (.slice (some ⟨g,0,none⟩) N c)->Calls Tryz.prog 158 #[.slice (some ⟨g,0,none⟩) N c,iv p,iv k] W fun e w'=>e=.returned (.tuple #[])/\∃ n,w'=(((W.drewN n).setCell ⟨g,p,none⟩ (iv (lr.getD k 0))).setCell ⟨g,k,none⟩ (iv (lr.getD p 0))):=fun W hW=>by
    (have hW':IO W lr (.slice (some ⟨g,0,none⟩) lr.length c):=by rw [hN2.out]; exact hW);have:=iL lr g c W hW' p k hpl hkl; rw [hN2.out] at this; exact this
   replace hsw:=hid hsw
   have hkx:lr[k]? = some (lr.getD k 0):=by rw [zZ,zR hkl]; rfl
   have hpx:lr[p]? = some (lr.getD p 0):=by rw [zZ,zR hpl]; rfl
   have hless:=hid (kV lr N c (some ⟨g,0,none⟩) (fun k=>k=g) wr (by rw [← hN2.out]; exact yP h2' (by omega)) k p _ _ hkx hpx); have m1:=gI 317 B 5 _ wr c5; have n1:=gG 317 ⟨B,5,none⟩ wr; clear hkx hpx; replace hp:=hid hp; replace h2':=hid h2'; replace hkl:=hid hkl; replace hpl:=hid hpl; by_cases hlt:lr.getD k 0 < lr.getD p 0
   ·replace hR3:=hid (hR3.out.symm.trans (if_neg (by rintro (h | h); omega; exact h hlt)))
    have bl:decide (lr.getD k 0 < lr.getD p 0)=true:=zP hlt; rw [bl] at hless; clear hlt bl
    go_wp2_with first
     | (go_at_call 156; refine hless.out.mono ?_; rintro e w1 ⟨rfl,hb1⟩; have c6:=(Af (a:=⟨B,5,none⟩) (hb1.block B hBl)).trans c5; have m2:=fs 317 B 5 _ w1 c6; have n2:=fq 317 ⟨B,5,none⟩ w1; have h3:=hid (aJ h2.out (fun k hk=>hb1.block k (by injection hk with hk; subst hk; exact hgl)) (fun _ _=>zW _):IO w1 lr (.slice (some ⟨g,0,none⟩) N c)))
     | (go_at_call 158; refine (hsw.out _ h3.out).mono ?_; rintro e w2 ⟨rfl,hw2⟩; replace hw2:=hid hw2)
    go_roundg f
    case measure=>omega
    case rel =>
     obtain ⟨n,rfl⟩:=hw2.out; have h4:=qd (n:=n) (show IO w1 lr (.slice (some ⟨g,0,none⟩) lr.length c) by rw [hN2.out]; exact h3.out) hpl.out hkl.out; rw [dy,hN2.out] at h4; exact ⟨p,sw lr p k,rfl,by omega,by omega,hid hR3.out.symm,hid (by rw [dy]; exact hN2.out),hid h4,hid (((hF2.out.trans (Fr.of_below hb1 _)).drewN n).setCell (Or.inl rfl) _ |>.setCell (Or.inl rfl) _)⟩
   ·have hRl:lr=R:=by
     have:=hR3.out; rw [if_pos (Or.inr hlt)] at this; exact this
    have bl:decide (lr.getD k 0 < lr.getD p 0)=false:=zO hlt; rw [bl] at hless; rw [hRl] at h2; clear hlt bl;go_wp2_with (go_at_call 156; refine hless.out.mono ?_; rintro e w1 ⟨rfl,hb1⟩);exact bodyPost_end (results_none (by rfl) _ _ _) rfl ⟨rfl,aJ h2.out (fun k hk=>hb1.block k (by injection hk with hk; subst hk; exact hgl)) (fun _ _=>zW _),hF2.out.trans (Fr.of_below hb1 _)⟩
end Go.Proofs.YtffdpoifdahadaaGreatDoor
namespace Go.Proofs.YtffdpoifdahadaaGreatDoor
open Go.RowKit
open Go.Lib (hid)
theorem oU (B:Nat) (a0 a1 a2 a3 a4 v:Value) (l:List Int) (x:Int) (w:World) (hB:w.heap[B]? = some (.cells (ed a0 a1 a2 a3 a4 v) 74 (0,0))) (h:IO w l v) (hown:∀ k,v.ownBlock=some k->k≠B) (hl:l.length<=1000000000000) :
  Calls Tryz.prog 66 #[.iface 78 (.pointer (some ⟨B,5,none⟩)),.iface 3 (iv x)] w fun e w'=>e=.returned (.tuple #[])/\∃ v',w'.heap[B]? = some (.cells (ed a0 a1 a2 a3 a4 v') 74 (0,0))/\IO w' (nK l x) v'/\(∀ k,v'.ownBlock=some k->k≠B)/\(v'.ownBlock=v.ownBlock\/∃ k,v'.ownBlock=some k/\w.heap.size<=k)/\Fr (fun k=>k=B\/v.ownBlock=some k) w w':=by
 have hp:=hid (qh B a0 a1 a2 a3 a4 v l x w hB h (by omega) hown); have m1:=wk 317 ⟨B,5,none⟩ w; have n1:=vZ 317 ⟨B,5,none⟩ w; have hlen:=hid (fun n c a W=>ic n c a W); replace hB:=hid hB; replace h:=hid h; replace hown:=hid hown; obtain ⟨L,hL⟩:∃ L,L=l++[x]:=⟨_,rfl⟩
 have hLn:L.length=l.length+1:=by rw [hL]; simp
 have e1:IntKind.i64.wrap ((L.length:Int) - 1)=(l.length:Int):=by rw [zX]; omega
 rw [← hL] at hp; unfold nK; rw [← hL]; replace hL:=hid hL; replace hLn:=hid hLn
 go_enter Tryz.func66,Tryz.ntmps66
 go_wp2_with first
  | (go_at_call 160; refine hp.out.mono ?_; rintro e w1 ⟨rfl,v',hB1,h1,hor,hF⟩; obtain ⟨g,c,rfl,-,hgl,-,-⟩:=fi h1 (by have:=hLn.out; omega); have c5:w1.cell? ⟨B,5,none⟩=some (.slice (some ⟨g,0,none⟩) L.length c):=(aj hB1).trans rfl; have m2:=sR 317 B 5 _ w1 c5; have n2:=sP 317 ⟨B,5,none⟩ w1; have hgB:g≠B:=fun e=>Lib.ownBlock_ne h1 hB1 (by decide) (by rw [← e]; rfl); have hup:=hid (sc B a0 a1 a2 a3 a4 g c L l.length w1 hB1 h1 hgB (by have:=hLn.out; omega) (by have:=hLn.out; omega)); replace hB1:=hid hB1; replace h1:=hid h1; replace hor:=hid hor; replace hF:=hid hF; replace hgl:=hid hgl; replace hgB:=hid hgB)
  | (go_at_call 27; refine (hlen.out _ _ _ _).mono ?_; rintro e w9 ⟨rfl,rfl⟩)
  | (go_at_call 99; refine hup.out.mono ?_; rintro e w2 ⟨rfl,h2,hF2⟩; replace h2:=hid h2; replace hF2:=hid hF2)
 refine bodyPost_end (results_none (by rfl) _ _ _) rfl ⟨rfl,_,hF2.out.keep hB1.out (fun e=>hgB.out e.symm),h2.out,fun k hk=>by injection hk with hk; subst hk; exact hgB.out,hor.out,?_⟩; refine ⟨hF2.out.os.trans hF.out.os,hF2.out.tape.trans hF.out.tape,hF2.out.output.trans hF.out.output,zV hF.out.size hF2.out.size,fun k hk hn=>?_⟩; refine (hF2.out.block k (zS hk hF.out.size) fun e=>?_).trans (hF.out.block k hk hn); subst e; rcases hor.out with e | ⟨q,e,hq⟩
 ·exact hn (Or.inr e.symm)
 ·injection e with e; subst e; exact absurd hk (Nat.not_lt.2 hq)
end Go.Proofs.YtffdpoifdahadaaGreatDoor
namespace Go.Proofs.YtffdpoifdahadaaGreatDoor
open Go.RowKit
open Go.Lib (hid)
def vK (op:Int) (nt:Bool) (k n:Nat):Bool :=
 if op=0 then !nt || decide (n=0)
 else if op=1 then decide (k=2) && decide (n<=1)
 else if op=2\/op=3\/op=4 then decide (k=2) && decide (n=0)
 else if op=5 then decide (k=3) && decide (n<=1)
 else false
theorem p_ (op:Int) (nt:Bool) (rel:List UInt8) (a:Option Addr) (k c n:Nat) (w:World) :
  Calls Tryz.prog 65 #[.agg #[iv op,.bool nt,sv rel,.slice a k c],iv n] w fun e w'=>e=.returned (.bool (vK op nt k n))/\Below w.heap.size w w':=by
 have hA:=hid ((zN w.heap.size w).alloc (zM _) (.cells #[iv op,.bool nt,sv rel,.slice a k c] 24)); unfold vK; by_cases h0:op=0
 ·rw [if_pos h0]
  subst h0; cases nt
  ·go_enter Tryz.func65,Tryz.ntmps65
   go_wp2_with fail
   all_goals go_ret
   all_goals refine ⟨?_,hA.out⟩
   all_goals first
    | rfl
    | (simp_all; done)
    | (simp_all; omega)
    | (refine congrArg (fun b=>Ending.returned (Value.bool b)) (?_:(_:Bool)=_); rw [Bool.eq_iff_iff]; simp_all; done)
    | (refine congrArg (fun b=>Ending.returned (Value.bool b)) (?_:(_:Bool)=_); rw [Bool.eq_iff_iff]; simp_all; omega)
    | (refine congrArg (fun b=>Ending.returned (Value.bool b)) (?_:(_:Bool)=_); trace_state)
  ·go_enter Tryz.func65,Tryz.ntmps65
   go_wp2_with fail
   all_goals go_ret
   all_goals refine ⟨?_,hA.out⟩
   all_goals first
    | rfl
    | (simp_all; done)
    | (simp_all; omega)
    | (refine congrArg (fun b=>Ending.returned (Value.bool b)) (?_:(_:Bool)=_); rw [Bool.eq_iff_iff]; simp_all; done)
    | (refine congrArg (fun b=>Ending.returned (Value.bool b)) (?_:(_:Bool)=_); rw [Bool.eq_iff_iff]; simp_all; omega)
    | (refine congrArg (fun b=>Ending.returned (Value.bool b)) (?_:(_:Bool)=_); trace_state)
 rw [if_neg h0]; by_cases h1:op=1
 ·subst h1
  clear h0
  go_enter Tryz.func65,Tryz.ntmps65
  go_wp2_with fail
  all_goals go_ret
  all_goals refine ⟨?_,hA.out⟩
  all_goals first
   | rfl
   | (simp_all; done)
   | (simp_all; omega)
   | (refine congrArg (fun b=>Ending.returned (Value.bool b)) (?_:(_:Bool)=_); rw [Bool.eq_iff_iff]; simp_all; done)
   | (refine congrArg (fun b=>Ending.returned (Value.bool b)) (?_:(_:Bool)=_); rw [Bool.eq_iff_iff]; simp_all; omega)
   | (refine congrArg (fun b=>Ending.returned (Value.bool b)) (?_:(_:Bool)=_); trace_state)
 by_cases h2:op=2
 ·subst h2
  clear h0
  go_enter Tryz.func65,Tryz.ntmps65
  go_wp2_with fail
  all_goals go_ret
  all_goals refine ⟨?_,hA.out⟩
  all_goals first
   | rfl
   | (simp_all; done)
   | (simp_all; omega)
   | (refine congrArg (fun b=>Ending.returned (Value.bool b)) (?_:(_:Bool)=_); rw [Bool.eq_iff_iff]; simp_all; done)
   | (refine congrArg (fun b=>Ending.returned (Value.bool b)) (?_:(_:Bool)=_); rw [Bool.eq_iff_iff]; simp_all; omega)
   | (refine congrArg (fun b=>Ending.returned (Value.bool b)) (?_:(_:Bool)=_); trace_state)
 by_cases h3:op=3
 ·subst h3
  clear h0
  go_enter Tryz.func65,Tryz.ntmps65
  go_wp2_with fail
  all_goals go_ret
  all_goals refine ⟨?_,hA.out⟩
  all_goals first
   | rfl
   | (simp_all; done)
   | (simp_all; omega)
   | (refine congrArg (fun b=>Ending.returned (Value.bool b)) (?_:(_:Bool)=_); rw [Bool.eq_iff_iff]; simp_all; done)
   | (refine congrArg (fun b=>Ending.returned (Value.bool b)) (?_:(_:Bool)=_); rw [Bool.eq_iff_iff]; simp_all; omega)
   | (refine congrArg (fun b=>Ending.returned (Value.bool b)) (?_:(_:Bool)=_); trace_state)
 by_cases h4:op=4
 ·subst h4
  clear h0
  go_enter Tryz.func65,Tryz.ntmps65
  go_wp2_with fail
  all_goals go_ret
  all_goals refine ⟨?_,hA.out⟩
  all_goals first
   | rfl
   | (simp_all; done)
   | (simp_all; omega)
   | (refine congrArg (fun b=>Ending.returned (Value.bool b)) (?_:(_:Bool)=_); rw [Bool.eq_iff_iff]; simp_all; done)
   | (refine congrArg (fun b=>Ending.returned (Value.bool b)) (?_:(_:Bool)=_); rw [Bool.eq_iff_iff]; simp_all; omega)
   | (refine congrArg (fun b=>Ending.returned (Value.bool b)) (?_:(_:Bool)=_); trace_state)
 by_cases h5:op=5
 ·subst h5
  clear h0
  go_enter Tryz.func65,Tryz.ntmps65
  go_wp2_with fail
  all_goals go_ret
  all_goals refine ⟨?_,hA.out⟩
  all_goals first
   | rfl
   | (simp_all; done)
   | (simp_all; omega)
   | (refine congrArg (fun b=>Ending.returned (Value.bool b)) (?_:(_:Bool)=_); rw [Bool.eq_iff_iff]; simp_all; done)
   | (refine congrArg (fun b=>Ending.returned (Value.bool b)) (?_:(_:Bool)=_); rw [Bool.eq_iff_iff]; simp_all; omega)
   | (refine congrArg (fun b=>Ending.returned (Value.bool b)) (?_:(_:Bool)=_); trace_state)
 rw [if_neg h1,if_neg (by rintro (h | h | h) <;> contradiction),if_neg h5]
 have b0:(op == 0)=false:=by simpa using h0
 have b1:(op == 1)=false:=by simpa using h1
 have b2:(op == 2)=false:=by simpa using h2
 have b3:(op == 3)=false:=by simpa using h3
 have b4:(op == 4)=false:=by simpa using h4
 have b5:(op == 5)=false:=by simpa using h5
 go_enter Tryz.func65,Tryz.ntmps65
 go_wp2_with fail
 all_goals go_ret
 all_goals exact ⟨rfl,hA.out⟩
end Go.Proofs.YtffdpoifdahadaaGreatDoor
namespace Go.Proofs.YtffdpoifdahadaaGreatDoor
open Go.RowKit
open Go.Lib (hid)
def AnyB (e:Ending):Prop:=∃ b,e=.returned (.bool b)
theorem oV (B:Nat) (a0 a1 a2 a3 a4:Value) (g c:Nat) (l:List Int) (i0 n:Nat) (w:World) (hB:w.heap[B]? = some (.cells (ed a0 a1 a2 a3 a4 (.slice (some ⟨g,0,none⟩) l.length c)) 74 (0,0))) (h:IO w l (.slice (some ⟨g,0,none⟩) l.length c)) (hgB:g≠B) (hi:i0 < l.length) (hn:n<=l.length) (hl:l.length<=10000000000000) :
  Calls Tryz.prog 39 #[.iface 78 (.pointer (some ⟨B,5,none⟩)),iv i0,iv n] w fun e w'=>AnyB e/\IO w' (gM l.length l i0 n) (.slice (some ⟨g,0,none⟩) l.length c)/\Fr (fun k=>k=g) w w':=by
 obtain ⟨R,hR⟩:∃ R,R=gM l.length l i0 n:=⟨_,rfl⟩; obtain ⟨N,hN⟩:∃ N,N=l.length:=⟨_,rfl⟩; rw [← hR]; have hF:=hid (Fr.refl (fun k=>k=g) w)
 have h0:Hid (IO w l (.slice (some ⟨g,0,none⟩) N c)):=by rw [hN]; exact hid h
 rw [← hN] at hB hi hl hn hR ⊢; have hB0:=hid hB; replace hR:=hid hR.symm; replace hN:=hid hN.symm; clear h hB
 go_enter Tryz.func39,Tryz.ntmps39
 go_wp2_with fail
 go_loopg [7] (N+1) (fun f iv' wr=>∃ (k:Nat) (lr:List Int),iv'=iv k/\N < f+k/\k < N/\Hid (∃ m,N<=m+k/\gM m lr k n=R)/\Hid (lr.length=N)/\Hid (IO wr lr (.slice (some ⟨g,0,none⟩) N c))/\Hid (Fr (fun k=>k=g) w wr))
 case atStart=>exact ⟨i0,l,rfl,by omega,by omega,hid ⟨N,by omega,hR.out⟩,hN,h0,hF⟩
 case round =>
  obtain ⟨k,lr,rfl,hkf,hkN,hR2,hN2,h2,hF2⟩:=hrel; have hBr:wr.heap[B]? = some (.cells (ed a0 a1 a2 a3 a4 (.slice (some ⟨g,0,none⟩) N c)) 74 (0,0)):=hF2.out.keep hB0.out (fun e=>hgB e.symm); have c5:wr.cell? ⟨B,5,none⟩=some (.slice (some ⟨g,0,none⟩) N c):=(aj hBr).trans rfl; have hlN:lr.length=N:=hN2.out
  have hio:IO wr lr (.slice (some ⟨g,0,none⟩) lr.length c):=by rw [hlN]; exact h2.out
  have hgl:g < wr.heap.size:=by
   obtain ⟨g',c',e',-,hgl,-,-⟩:=fi hio (by omega); simp only [Value.slice.injEq,Al,Addr.mk.injEq] at e'; rw [e'.1.1]; exact hgl
  have hBl:=ae hBr
  have hless:Hid (∀ (W:World) (a b:Nat),IO W lr (.slice (some ⟨g,0,none⟩) N c)->a < N->b < N->Calls Tryz.prog 156 #[.slice (some ⟨g,0,none⟩) N c,iv a,iv b] W fun e w'=>e=.returned (.bool (decide (lr.getD a 0 < lr.getD b 0)))/\Below W.heap.size W w'):=by
   refine hid fun W a b hW ha hb=>?_
   have hW':IO W lr (.slice (some ⟨g,0,none⟩) lr.length c):=by rw [hlN]; exact hW
   exact kV lr N c (some ⟨g,0,none⟩) (fun k=>k=g) W (by rw [← hlN]; exact yP hW' (by omega)) a b _ _ (by rw [zZ,zR (by omega)]; rfl) (by rw [zZ,zR (by omega)]; rfl)
  have hsw:Hid (∀ (W:World) (a b:Nat),IO W lr (.slice (some ⟨g,0,none⟩) N c)->a < N->b < N->Calls Tryz.prog 158 #[.slice (some ⟨g,0,none⟩) N c,iv a,iv b] W fun e w'=>e=.returned (.tuple #[])/\∃ n,w'=(((W.drewN n).setCell ⟨g,a,none⟩ (iv (lr.getD b 0))).setCell ⟨g,b,none⟩ (iv (lr.getD a 0)))):=by
   refine hid fun W a b hW ha hb=>?_
   have hW':IO W lr (.slice (some ⟨g,0,none⟩) lr.length c):=by rw [hlN]; exact hW
   have:=iL lr g c W hW' a b (by omega) (by omega); rw [hlN] at this; exact this
  have m1:=gI 317 B 5 _ wr c5; have n1:=gG 317 ⟨B,5,none⟩ wr; have s1:=fs 317 B 5 _ wr c5; have r1:=fq 317 ⟨B,5,none⟩ wr; replace hio:=hid hio; replace hlN:=hid hlN; obtain ⟨j1,hj1⟩:∃ j1,j1=2 * k+1:=⟨_,rfl⟩; obtain ⟨j2,hj2⟩:∃ j2,j2=2 * k+2:=⟨_,rfl⟩
  have e1:IntKind.i64.wrap (2 * (k:Int))=2 * (k:Int):=by rw [zX]; omega
  have e2:IntKind.i64.wrap (2 * (k:Int)+1)=(j1:Int):=by rw [zX]; omega
  have e3:IntKind.i64.wrap ((j1:Int)+1)=(j2:Int):=by rw [zX]; omega
  have bB:decide ((j1:Int) < 0)=false:=zO (by omega)
  have nB:¬ ((j1:Int) < 0):=by omega
  have hkj:k < j1:=by omega
  obtain ⟨m,hm,hR3⟩:=hR2.out; obtain ⟨m,rfl⟩:∃ m',m=m'+1:=⟨m - 1,by omega⟩; unfold gM at hR3; rw [← hj1,← hj2] at hR3; by_cases hA:n<=j1
  ·have bA:decide (n<=j1)=true:=zP hA
   rw [if_pos hA] at hR3; rw [hR3] at h2; replace hj1:=hid hj1; replace hj2:=hid hj2
   go_wp2_with fail
   go_ret; exact ⟨⟨_,rfl⟩,h2.out,hF2.out⟩
  ·have bA:decide (n<=j1)=false:=zO hA
   rw [if_neg hA] at hR3; have hj1N:=hid (show j1 < N by omega); by_cases hC:j2 < n
   ·have bC:decide (j2 < n)=true:=zP hC
    have hj2N:=hid (show j2 < N by omega);(have hkj2:k < j2:=by omega);replace hj1:=hid hj1; replace hj2:=hid hj2; by_cases hE:lr.getD j2 0 < lr.getD j1 0
    ·have bE:decide (lr.getD j2 0 < lr.getD j1 0)=true:=zP hE
     have hJ:(if j2 < n/\gt lr j2 < gt lr j1 then j2 else j1)=j2:=if_pos ⟨hC,hE⟩; rw [hJ] at hR3; clear hJ; have hL0:=hless.out wr j2 j1 h2.out hj2N.out hj1N.out; rw [bE] at hL0; replace hL0:=hid hL0; clear bE; replace hE:=hid hE; by_cases hD:lr.getD j2 0 < lr.getD k 0
     ·have bD:decide (lr.getD j2 0 < lr.getD k 0)=true:=zP hD
      rw [if_neg (fun h=>h hD)] at hR3; replace hR3:=hid hR3; replace hD:=hid hD; replace bD:=hid bD
      go_wp2_with first
       | (go_at_call 156; (with_reducible refine hL0.out.mono ?_); rintro e w1 ⟨rfl,hb1⟩; have hgl1:g < w1.heap.size:=zS hgl hb1.size; have hBl1:B < w1.heap.size:=zS hBl hb1.size; have c6:=(Af (a:=⟨B,5,none⟩) (hb1.block B hBl)).trans c5; have m2:=gI 317 B 5 _ w1 c6; have n2:=gG 317 ⟨B,5,none⟩ w1; have h3:=hid (aJ h2.out (fun k hk=>hb1.block k (by injection hk with hk; subst hk; exact hgl)) (fun _ _=>zW _):IO w1 lr (.slice (some ⟨g,0,none⟩) N c)); have hL1:=hless.out w1 j2 k h3.out hj2N.out hkN; rw [bD.out] at hL1; replace hL1:=hid hL1; replace hb1:=hid hb1)
       | (go_at_call 156; (with_reducible refine hL1.out.mono ?_); rintro e w2 ⟨rfl,hb2⟩; have c7:=(Af (a:=⟨B,5,none⟩) (hb2.block B hBl1)).trans c6; have m3:=fs 317 B 5 _ w2 c7; have n3:=fq 317 ⟨B,5,none⟩ w2; have h4:=hid (aJ h3.out (fun k hk=>hb2.block k (by injection hk with hk; subst hk; exact hgl1)) (fun _ _=>zW _):IO w2 lr (.slice (some ⟨g,0,none⟩) N c)); replace hb2:=hid hb2)
       | (go_at_call 158; (with_reducible refine (hsw.out _ k j2 h4.out hkN hj2N.out).mono ?_); rintro e w3 ⟨rfl,hw3⟩; replace hw3:=hid hw3)
      go_roundg (gk - 1)
      case measure=>omega
      case rel =>
       obtain ⟨q,rfl⟩:=hw3.out; have h5:=qd (n:=q) (i:=k) (j:=j2) (show IO w2 lr (.slice (some ⟨g,0,none⟩) lr.length c) by rw [hN2.out]; exact h4.out) (by rw [hN2.out]; exact hkN) (by rw [hN2.out]; exact hj2N.out); rw [dy,hN2.out] at h5; exact ⟨j2,sw lr k j2,rfl,by omega,hj2N.out,hid ⟨m,by omega,hR3.out⟩,hid (by rw [dy]; exact hN2.out),hid h5,hid ((((hF2.out.trans (Fr.of_below hb1.out _)).trans (Fr.of_below hb2.out _)).drewN q).setCell (Or.inl rfl) _ |>.setCell (Or.inl rfl) _)⟩
     ·have bD:decide (lr.getD j2 0 < lr.getD k 0)=false:=zO hD
      rw [if_pos hD] at hR3; replace hR3:=hid hR3; replace hD:=hid hD; replace bD:=hid bD
      go_wp2_with first
       | (go_at_call 156; (with_reducible refine hL0.out.mono ?_); rintro e w1 ⟨rfl,hb1⟩; have hgl1:g < w1.heap.size:=zS hgl hb1.size; have hBl1:B < w1.heap.size:=zS hBl hb1.size; have c6:=(Af (a:=⟨B,5,none⟩) (hb1.block B hBl)).trans c5; have m2:=gI 317 B 5 _ w1 c6; have n2:=gG 317 ⟨B,5,none⟩ w1; have h3:=hid (aJ h2.out (fun k hk=>hb1.block k (by injection hk with hk; subst hk; exact hgl)) (fun _ _=>zW _):IO w1 lr (.slice (some ⟨g,0,none⟩) N c)); have hL1:=hless.out w1 j2 k h3.out hj2N.out hkN; rw [bD.out] at hL1; replace hL1:=hid hL1; replace hb1:=hid hb1)
       | (go_at_call 156; (with_reducible refine hL1.out.mono ?_); rintro e w2 ⟨rfl,hb2⟩; have c7:=(Af (a:=⟨B,5,none⟩) (hb2.block B hBl1)).trans c6; have m3:=fs 317 B 5 _ w2 c7; have n3:=fq 317 ⟨B,5,none⟩ w2; have h4:=hid (aJ h3.out (fun k hk=>hb2.block k (by injection hk with hk; subst hk; exact hgl1)) (fun _ _=>zW _):IO w2 lr (.slice (some ⟨g,0,none⟩) N c)); replace hb2:=hid hb2)
      go_ret; exact ⟨⟨_,rfl⟩,by have:=h4.out; rw [hR3.out] at this; exact this,(hF2.out.trans (Fr.of_below hb1.out _)).trans (Fr.of_below hb2.out _)⟩
    ·have bE:decide (lr.getD j2 0 < lr.getD j1 0)=false:=zO hE
     have hJ:(if j2 < n/\gt lr j2 < gt lr j1 then j2 else j1)=j1:=if_neg (fun h=>hE h.2); rw [hJ] at hR3; clear hJ; have hL0:=hless.out wr j2 j1 h2.out hj2N.out hj1N.out; rw [bE] at hL0; replace hL0:=hid hL0; clear bE; replace hE:=hid hE; by_cases hD:lr.getD j1 0 < lr.getD k 0
     ·have bD:decide (lr.getD j1 0 < lr.getD k 0)=true:=zP hD
      rw [if_neg (fun h=>h hD)] at hR3; replace hR3:=hid hR3; replace hD:=hid hD; replace bD:=hid bD
      go_wp2_with first
       | (go_at_call 156; (with_reducible refine hL0.out.mono ?_); rintro e w1 ⟨rfl,hb1⟩; have hgl1:g < w1.heap.size:=zS hgl hb1.size; have hBl1:B < w1.heap.size:=zS hBl hb1.size; have c6:=(Af (a:=⟨B,5,none⟩) (hb1.block B hBl)).trans c5; have m2:=gI 317 B 5 _ w1 c6; have n2:=gG 317 ⟨B,5,none⟩ w1; have h3:=hid (aJ h2.out (fun k hk=>hb1.block k (by injection hk with hk; subst hk; exact hgl)) (fun _ _=>zW _):IO w1 lr (.slice (some ⟨g,0,none⟩) N c)); have hL1:=hless.out w1 j1 k h3.out hj1N.out hkN; rw [bD.out] at hL1; replace hL1:=hid hL1; replace hb1:=hid hb1)
       | (go_at_call 156; (with_reducible refine hL1.out.mono ?_); rintro e w2 ⟨rfl,hb2⟩; have c7:=(Af (a:=⟨B,5,none⟩) (hb2.block B hBl1)).trans c6; have m3:=fs 317 B 5 _ w2 c7; have n3:=fq 317 ⟨B,5,none⟩ w2; have h4:=hid (aJ h3.out (fun k hk=>hb2.block k (by injection hk with hk; subst hk; exact hgl1)) (fun _ _=>zW _):IO w2 lr (.slice (some ⟨g,0,none⟩) N c)); replace hb2:=hid hb2)
       | (go_at_call 158; (with_reducible refine (hsw.out _ k j1 h4.out hkN hj1N.out).mono ?_); rintro e w3 ⟨rfl,hw3⟩; replace hw3:=hid hw3)
      go_roundg (gk - 1)
      case measure=>omega
      case rel =>
       obtain ⟨q,rfl⟩:=hw3.out; have h5:=qd (n:=q) (i:=k) (j:=j1) (show IO w2 lr (.slice (some ⟨g,0,none⟩) lr.length c) by rw [hN2.out]; exact h4.out) (by rw [hN2.out]; exact hkN) (by rw [hN2.out]; exact hj1N.out); rw [dy,hN2.out] at h5; exact ⟨j1,sw lr k j1,rfl,by omega,hj1N.out,hid ⟨m,by omega,hR3.out⟩,hid (by rw [dy]; exact hN2.out),hid h5,hid ((((hF2.out.trans (Fr.of_below hb1.out _)).trans (Fr.of_below hb2.out _)).drewN q).setCell (Or.inl rfl) _ |>.setCell (Or.inl rfl) _)⟩
     ·have bD:decide (lr.getD j1 0 < lr.getD k 0)=false:=zO hD
      rw [if_pos hD] at hR3; replace hR3:=hid hR3; replace hD:=hid hD; replace bD:=hid bD
      go_wp2_with first
       | (go_at_call 156; (with_reducible refine hL0.out.mono ?_); rintro e w1 ⟨rfl,hb1⟩; have hgl1:g < w1.heap.size:=zS hgl hb1.size; have hBl1:B < w1.heap.size:=zS hBl hb1.size; have c6:=(Af (a:=⟨B,5,none⟩) (hb1.block B hBl)).trans c5; have m2:=gI 317 B 5 _ w1 c6; have n2:=gG 317 ⟨B,5,none⟩ w1; have h3:=hid (aJ h2.out (fun k hk=>hb1.block k (by injection hk with hk; subst hk; exact hgl)) (fun _ _=>zW _):IO w1 lr (.slice (some ⟨g,0,none⟩) N c)); have hL1:=hless.out w1 j1 k h3.out hj1N.out hkN; rw [bD.out] at hL1; replace hL1:=hid hL1; replace hb1:=hid hb1)
       | (go_at_call 156; (with_reducible refine hL1.out.mono ?_); rintro e w2 ⟨rfl,hb2⟩; have c7:=(Af (a:=⟨B,5,none⟩) (hb2.block B hBl1)).trans c6; have m3:=fs 317 B 5 _ w2 c7; have n3:=fq 317 ⟨B,5,none⟩ w2; have h4:=hid (aJ h3.out (fun k hk=>hb2.block k (by injection hk with hk; subst hk; exact hgl1)) (fun _ _=>zW _):IO w2 lr (.slice (some ⟨g,0,none⟩) N c)); replace hb2:=hid hb2)
      go_ret; exact ⟨⟨_,rfl⟩,by have:=h4.out; rw [hR3.out] at this; exact this,(hF2.out.trans (Fr.of_below hb1.out _)).trans (Fr.of_below hb2.out _)⟩
   ·have bC:decide (j2 < n)=false:=zO hC
    have hJ:(if j2 < n/\gt lr j2 < gt lr j1 then j2 else j1)=j1:=if_neg (fun h=>hC h.1); rw [hJ] at hR3; clear hJ; replace hj1:=hid hj1; replace hj2:=hid hj2; by_cases hD:lr.getD j1 0 < lr.getD k 0
    ·have bD:decide (lr.getD j1 0 < lr.getD k 0)=true:=zP hD
     rw [if_neg (fun h=>h hD)] at hR3; replace hR3:=hid hR3; replace hD:=hid hD; have hL1:=hless.out wr j1 k h2.out hj1N.out hkN; rw [bD] at hL1; replace hL1:=hid hL1; clear bD
     go_wp2_with first
      | (go_at_call 156; (with_reducible refine hL1.out.mono ?_); rintro e w1 ⟨rfl,hb1⟩; have c6:=(Af (a:=⟨B,5,none⟩) (hb1.block B hBl)).trans c5; have m2:=fs 317 B 5 _ w1 c6; have n2:=fq 317 ⟨B,5,none⟩ w1; have h3:=hid (aJ h2.out (fun k hk=>hb1.block k (by injection hk with hk; subst hk; exact hgl)) (fun _ _=>zW _):IO w1 lr (.slice (some ⟨g,0,none⟩) N c)); replace hb1:=hid hb1)
      | (go_at_call 158; (with_reducible refine (hsw.out _ k j1 h3.out hkN hj1N.out).mono ?_); rintro e w2 ⟨rfl,hw2⟩; replace hw2:=hid hw2)
     go_roundg (gk - 1)
     case measure=>omega
     case rel =>
      obtain ⟨q,rfl⟩:=hw2.out; have h4:=qd (n:=q) (i:=k) (j:=j1) (show IO w1 lr (.slice (some ⟨g,0,none⟩) lr.length c) by rw [hN2.out]; exact h3.out) (by rw [hN2.out]; exact hkN) (by rw [hN2.out]; exact hj1N.out); rw [dy,hN2.out] at h4; exact ⟨j1,sw lr k j1,rfl,by omega,hj1N.out,hid ⟨m,by omega,hR3.out⟩,hid (by rw [dy]; exact hN2.out),hid h4,hid (((hF2.out.trans (Fr.of_below hb1.out _)).drewN q).setCell (Or.inl rfl) _ |>.setCell (Or.inl rfl) _)⟩
    ·have bD:decide (lr.getD j1 0 < lr.getD k 0)=false:=zO hD
     rw [if_pos hD] at hR3; rw [hR3] at h2; replace hD:=hid hD; have hL1:=hless.out wr j1 k (by rw [hR3]; exact h2.out) hj1N.out hkN; rw [bD] at hL1; replace hL1:=hid hL1; clear bD;go_wp2_with (go_at_call 156; (with_reducible refine hL1.out.mono ?_); rintro e w1 ⟨rfl,hb1⟩; replace hb1:=hid hb1);go_ret; exact ⟨⟨_,rfl⟩,aJ h2.out (fun k hk=>hb1.out.block k (by injection hk with hk; subst hk; exact hgl)) (fun _ _=>zW _),hF2.out.trans (Fr.of_below hb1.out _)⟩
end Go.Proofs.YtffdpoifdahadaaGreatDoor
namespace Go.Proofs.YtffdpoifdahadaaGreatDoor
open Go.RowKit
open Go.Lib (hid)
theorem yq {w:World} {l:List Int} {g c m:Nat} (h:IO w l (.slice (some ⟨g,0,none⟩) l.length c)) (hm:m<=l.length):IO w (l.take m) (.slice (some ⟨g,0,none⟩) m c):=by
 obtain ⟨hlen,h3⟩:=h
 have e:(l.take m).length=m:=by rw [Ah]; omega
 show w.ownsRow 0 _ 1 _ (l.take m).length ((l.take m).map iv); rw [e]; refine ⟨by rw [zY,e]; omega,?_⟩; rcases h3 with ⟨h,-⟩ | ⟨g',cap,cur,h,-,hg,hn,hx,hs,ht⟩
 ·cases h
 ·simp only [Value.slice.injEq,Al,Addr.mk.injEq] at h
  obtain ⟨⟨rfl,-,-⟩,-,rfl⟩:=h; refine Or.inr ⟨g,c,cur,rfl,zW _,hg,by omega,hx,hs,?_⟩; rw [List.map_take,← ht,List.take_take]
  congr 1
  omega
theorem qi (B:Nat) (a0 a1 a2 a3 a4:Value) (g c:Nat) (l:List Int) (w:World) (hB:w.heap[B]? = some (.cells (ed a0 a1 a2 a3 a4 (.slice (some ⟨g,0,none⟩) l.length c)) 74 (0,0))) (h:IO w l (.slice (some ⟨g,0,none⟩) l.length c)) (hgB:g≠B) (h0:0 < l.length) (hl:l.length<=1000000000000) :
  Calls Tryz.prog 28 #[.iface 78 (.pointer (some ⟨B,5,none⟩))] w fun e w'=>e=.returned (.iface 3 (iv (gt (fx l) (l.length - 1))))/\w'.heap[B]? = some (.cells (ed a0 a1 a2 a3 a4 (.slice (some ⟨g,0,none⟩) (l.length - 1:Nat) c)) 74 (0,0))/\IO w' ((fx l).take (l.length - 1)) (.slice (some ⟨g,0,none⟩) (l.length - 1:Nat) c)/\Fr (fun k=>k=B\/k=g) w w':=by
 have c5:w.cell? ⟨B,5,none⟩=some (.slice (some ⟨g,0,none⟩) l.length c):=(aj hB).trans rfl; have m1:=sR 317 B 5 _ w c5; have n1:=sP 317 ⟨B,5,none⟩ w; have m2:=fs 317 B 5 _ w c5; have n2:=fq 317 ⟨B,5,none⟩ w; have hlen:=hid (fun n c a W=>ic n c a W); obtain ⟨N,hN⟩:∃ N,N=l.length - 1:=⟨_,rfl⟩
 have e1:IntKind.i64.wrap ((l.length:Int) - 1)=(N:Int):=by rw [zX]; omega
 have hsw:Calls Tryz.prog 158 #[.slice (some ⟨g,0,none⟩) l.length c,iv 0,iv N] w fun e w'=>e=.returned (.tuple #[])/\∃ n,w'=(((w.drewN n).setCell ⟨g,0,none⟩ (iv (l.getD N 0))).setCell ⟨g,N,none⟩ (iv (l.getD 0 0))):=iL l g c w h 0 N h0 (by omega)
 have hsl:=dy l 0 N; have hsw2:=hid (show ∀ n,IO (((w.drewN n).setCell ⟨g,0,none⟩ (iv (l.getD N 0))).setCell ⟨g,N,none⟩ (iv (l.getD 0 0))) (sw l 0 N) (.slice (some ⟨g,0,none⟩) (sw l 0 N).length c) from fun n=>qd h h0 (by omega))
 have hP:fx l=gM (sw l 0 N).length (sw l 0 N) 0 N:=by unfold fx; rw [← hN,dy]
 have hpl:(fx l).length=l.length:=by
  have:∀ (f:Nat) (l:List Int) (i n:Nat),(gM f l i n).length=l.length:=by
   intro f
   induction f with
   | zero=>intro l i n; rfl
   | succ f ih =>
    intro l i n; unfold gM
    repeat' split
    all_goals first
     | rfl
     | (rw [ih,dy])
  rw [hP,this,dy]
 rw [← hN]; obtain ⟨s,hs⟩:∃ s,s=sw l 0 N:=⟨_,rfl⟩; rw [← hs] at hsw2 hsl hP; rw [← hsl] at c5 hB m1 m2 e1 hsw hpl h0 hl
 have hNs:N < s.length:=by omega
 obtain ⟨p,hp⟩:∃ p,p=fx l:=⟨_,rfl⟩; rw [← hp] at hP hpl ⊢; replace hs:=hid hs; replace hp:=hid hp; replace hP:=hid hP; replace hpl:=hid hpl; replace hsl:=hid hsl; replace h:=hid h; replace hB:=hid hB; replace hsw:=hid hsw; replace hN:=hid hN
 have hgl:g < w.heap.size:=by
  obtain ⟨g',c',e',-,hgl,-,-⟩:=fi h.out (by have:=hsl.out; omega); simp only [Value.slice.injEq,Al,Addr.mk.injEq] at e'; rw [e'.1.1]; exact hgl
 have hF0:=hid (Fr.refl (fun k=>k=B\/k=g) w)
 go_enter Tryz.func28,Tryz.ntmps28
 go_wp2_with (go_at_call 27; refine (hlen.out _ _ _ _).mono ?_; rintro e w9 ⟨rfl,rfl⟩)
 refine hsw.out.mono ?_; rintro e w1 ⟨rfl,n,hw1⟩
 have hB1:w1.heap[B]? = some (.cells (ed a0 a1 a2 a3 a4 (.slice (some ⟨g,0,none⟩) s.length c)) 74 (0,0)):=by
  rw [hw1]; exact (ak _ (fun e=>hgB e.symm)).trans ((ak _ (fun e=>hgB e.symm)).trans hB.out)
 have h1:=hsw2.out n; rw [← hw1] at h1; have hF1:=hid (show Fr (fun k=>k=B\/k=g) w9 w1 by rw [hw1]; exact ((hF0.out.drewN n).setCell (Or.inl (Or.inr rfl)) _).setCell (Or.inl (Or.inr rfl)) _); have hdn:=hid (oV B a0 a1 a2 a3 a4 g c s 0 N w1 hB1 h1 hgB h0 (by omega) (by omega)); rw [← hP.out] at hdn; replace hB1:=hid hB1; replace h1:=hid h1; replace hw1:=hid hw1
 go_wp2_with fail
 refine hdn.out.mono ?_; rintro e w2 ⟨⟨bb,rfl⟩,h2,hF2⟩; have hB2:=hid (hF2.keep hB1.out (fun e=>hgB e.symm))
 have h2':IO w2 p (.slice (some ⟨g,0,none⟩) p.length c):=by rw [hpl.out]; exact h2
 have hpp:=hid (sb B a0 a1 a2 a3 a4 _ p w2 (by rw [hpl.out]; exact hB2.out) h2' (by have:=hpl.out; omega) (by have:=hpl.out; omega))
 have hpN:p.length - 1=N:=by have:=hpl.out; have:=hsl.out; have:=hN.out; omega
 rw [hpN] at hpp; replace hF2:=hid hF2; replace h2:=hid h2; replace h2':=hid h2'; have m3:=yj 317 ⟨B,5,none⟩ w2; have n3:=yf 317 ⟨B,5,none⟩ w2; replace hpN:=hid hpN
 go_wp2_with fail
 refine hpp.out.mono ?_; rintro e w3 ⟨rfl,g3,c3,n3,e3,hw3⟩; simp only [Value.slice.injEq,Al,Addr.mk.injEq] at e3; obtain ⟨⟨rfl,-,-⟩,-,rfl⟩:=e3; replace hw3:=hid hw3
 go_wp2_with fail
 go_ret; refine ⟨rfl,?_,?_,?_⟩
 ·rw [hw3.out]
  have:=aC (i:=5) (show (w2.drewN n3).heap[B]? = _ from hB2.out) (.slice (some ⟨g,0,none⟩) (N:Nat) c); exact this
 ·rw [hw3.out]
  refine aJ (yq h2'.out (by have:=hpl.out; omega)) (fun k hk=>?_) (fun _ _=>zW _); injection hk with hk; subst hk; exact ak _ hgB
 ·rw [hw3.out]
  exact ((hF1.out.trans (hF2.out.mono fun k _ hk=>Or.inr hk)).drewN n3).setCell (Or.inl (Or.inl rfl)) _
end Go.Proofs.YtffdpoifdahadaaGreatDoor
