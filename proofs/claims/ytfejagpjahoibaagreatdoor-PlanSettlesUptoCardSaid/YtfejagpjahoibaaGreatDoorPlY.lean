/- PlY: PlU, PlY, in one text. -/
import Derived.Test.YtfejagpjahoibaaGreatDoorPlR
import Derived.Deep.LoopGhost
import Derived.Deep.RegionHeld3
import Derived.Test.YtfejagpjahoibaaGreatDoorPlE
set_option linter.unusedVariables false
set_option linter.unusedSimpArgs false
namespace Go.Proofs.YtfejagpjahoibaaGreatDoor
open Go.RowKit
open Go.Lib (hid)
abbrev OpS:=List Opt × (Nat→Bool)
/-- one choice -/
def stepO (x:Stl) (i:Nat) (j:Int) (s:OpS):Option OpS :=
 if j = -1 then some (s.1++[(x.drop[i]?).getD opt0],s.2)
 else match amG x.amend x.undo.length x.do.length i j with
  | none=>none
  | some o=>if s.2 j.toNat then none else some (s.1++[o],Pl.upd s.2 j.toNat true)
def optsF (x:Stl):Nat→List Int→OpS→Option OpS
 | _,[],s=>some s
 | i,j::r,s=>match stepO x i j s with
  | none=>none
  | some s'=>optsF x (i+1) r s'
def optionsF (x:Stl) (pick:List Int):Option OpS:=if pick.length=x.undo.length then optsF x 0 pick ([],fun _=>false) else none
/-- options' memory -/
structure OM (w0:World) (tb k:Nat) (s:OpS) (va:Value) (w:World):Prop where
 row:OO w s.1 va
 tk:BB tb k s.2 w
 bel:Below w0.heap.size w0 w
 ge:w0.heap.size≤tb
 own:∀ q,va.ownBlock=some q→w0.heap.size≤q∧q≠tb
section
variable {w0 w w':World} {tb k:Nat} {s:OpS} {va:Value}
theorem OM.below (h:OM w0 tb k s va w) (hb:Below w.heap.size w w'):OM w0 tb k s va w' :=
 ⟨h.row.keep fun q hq=>hb.block q (h.row.lt hq),h.tk.below hb,h.bel.trans (hb.mono h.bel.size),h.ge,h.own⟩
theorem OM.set (h:OM w0 tb k s va w) {i:Nat} (hi:i < k):OM w0 tb k (s.1,Pl.upd s.2 i true) va (w.setCell ⟨tb,i,none⟩ (.bool true)) :=
 ⟨h.row.keep fun q hq=>heap_setCell_other _ (h.own q hq).2,h.tk.set hi true,below_set h.bel h.ge _,h.ge,h.own⟩
theorem OM.push (h:OM w0 tb k s va w) (o:Opt) (hl:s.1.length≤1048576) (ty:Nat) {b:Nat} (hb:b=w.heap.size) :
  ∃ v' w2,AppRun Tryz.prog 96 96 ty va (.slice (some ⟨b,0,none⟩) 1 1) v' (w.alloc (.cells #[iv o.kind,iv o.cost,iv o.weight] 102 (0,0))) w2∧OM w0 tb k (s.1++[o],s.2) v' w2:=by
 subst hb; obtain ⟨v',w2,hap,hO,hown,hf⟩:=h.row.push o hl ty; have hbs:=h.bel.size; have htb:=h.tk.lt; refine ⟨v',w2,hap,hO,h.tk.keep (hf.block tb htb fun e=>(h.own _ e).2 rfl),h.bel.trans (hf.to_below hbs fun q hq e=>by have:=(h.own q e).1; omega),h.ge,fun q hq=>?_⟩; rcases hown q hq with e | e
 ·exact h.own q e
 ·exact ⟨by omega,by omega⟩
end
def OPost (x:Stl) (pick:List Int) (w:World) (e:Ending) (w':World):Prop :=
 (optionsF x pick=none∧e=.returned (.tuple #[.slice none 0 0,.slice none 0 0,.bool false])∧Below w.heap.size w w') ∨
  ∃ s va tb,optionsF x pick=some s∧e=.returned (.tuple #[va,.slice (some ⟨tb,0,none⟩) x.do.length x.do.length,.bool true])∧OM w tb x.do.length s va w'
theorem amG_some {A:Nat→Nat→Option Opt} {m k:Nat} {r c:Int} {o:Opt} (h:amG A m k r c=some o):0≤r∧r < m∧0≤c∧c < k:=by
 unfold amG at h; by_cases e:0≤r∧r < m∧0≤c∧c < k
 ·exact e
 ·rw [if_neg e] at h; cases h
theorem StM.dropAt {X:XB} {x:Stl} {w:World} (h:StM X x w) {r:Nat} (hr:r < x.undo.length) :
  ∃ g o y,x.drop[r]? = some y∧(∀ kd W,(Instr.indexAt 96 (.slice X.pa x.undo.length X.pc) (.int kd r)).run Tryz.prog W=.ok (.pointer (some ⟨g,o,none⟩)) W)∧w.cell? ⟨g,o,none⟩=some (iv y.kind)∧w.cell? ⟨g,o+1,none⟩=some (iv y.cost)∧w.cell? ⟨g,o+2,none⟩=some (iv y.weight):=by
 obtain ⟨y,hy⟩:∃ y,x.drop[r]? = some y:=⟨_,List.getElem?_eq_getElem (by have:=h.dl; omega)⟩; obtain ⟨g,o,cs,h1,h2,h3,h4,h5⟩:=h.drop.at (P:=Tryz.prog) (t:=96) (by kernel_rfl) (fun _=>by kernel_rfl) hy; have hcs:cs=optCs y:=h5; subst hcs; exact ⟨g,o,y,hy,h1,h4 0 _ rfl,h4 1 _ rfl,h4 2 _ rfl⟩
theorem StM.giveAt {X:XB} {x:Stl} {w:World} (h:StM X x w) {r:Nat} (hr:r < x.do.length) :
  ∃ g o y,x.give[r]? = some y∧(∀ kd W,(Instr.indexAt 96 (.slice X.ga x.do.length X.gc) (.int kd r)).run Tryz.prog W=.ok (.pointer (some ⟨g,o,none⟩)) W)∧w.cell? ⟨g,o,none⟩=some (iv y.kind)∧w.cell? ⟨g,o+1,none⟩=some (iv y.cost)∧w.cell? ⟨g,o+2,none⟩=some (iv y.weight):=by
 obtain ⟨y,hy⟩:∃ y,x.give[r]? = some y:=⟨_,List.getElem?_eq_getElem (by have:=h.gl; omega)⟩; obtain ⟨g,o,cs,h1,h2,h3,h4,h5⟩:=h.give.at (P:=Tryz.prog) (t:=96) (by kernel_rfl) (fun _=>by kernel_rfl) hy; have hcs:cs=optCs y:=h5; subst hcs; exact ⟨g,o,y,hy,h1,h4 0 _ rfl,h4 1 _ rfl,h4 2 _ rfl⟩
set_option maxHeartbeats 40000000 in
set_option maxRecDepth 100000 in
theorem options_any (X:XB) (x:Stl) (pick:List Int) (S:Foot) (v:Value) (w:World) (h:StM X x w) (hp:SlR 1 IntR S w pick v) (hpl:pick.length≤1048576) (hpr:∀ j∈pick,I64 j) :
  Calls Tryz.prog 47 #[pt X.xb,v] w (OPost x pick w):=by
 obtain ⟨pa,pc,rfl,-⟩:=hp.slice; obtain ⟨f0,f1,f2,f3,f4,f5,f6⟩:=h.fields; have hul:=h.ul; have hkl:=h.kl; obtain ⟨m,hm⟩:∃ m,m=x.undo.length:=⟨_,rfl⟩
 obtain ⟨k,hk⟩:∃ k,k=x.do.length:=⟨_,rfl⟩
 rw [← hm] at f0 f4 hul; rw [← hk] at f1 f5 hkl; generalize hPQ:OPost x pick w=PQ; replace hPQ:=hid hPQ; by_cases hpm:pick.length=m
 ·subst hpm
  have hof:optionsF x pick=optsF x 0 pick ([],fun _=>false):=if_pos (by omega); have m1:=pmkBools k (by omega) w; have hb1:Below w.heap.size w (w.alloc (.cells (Array.replicate k (.bool false)) 4 (0,0))):=(Below.refl _ w).alloc (Nat.le_refl _) _; have i1:=bb_made w k; obtain ⟨W1,hW1⟩:∃ W,W=w.alloc (.cells (Array.replicate k (.bool false)) 4 (0,0)):=⟨_,rfl⟩; rw [← hW1] at hb1 i1 m1; obtain ⟨tb,htb⟩:∃ t,t=w.heap.size:=⟨_,rfl⟩; rw [← htb] at m1 i1; have hOM:Hid (OM w tb k ([],fun _=>false) (.slice none 0 0) W1):=hid ⟨OO.nil _,i1,hb1,by omega,fun q hq=>by simp [Value.ownBlock] at hq⟩; obtain ⟨n,hn⟩:∃ n,n=pick.length:=⟨_,rfl⟩; replace hof:=hid hof; replace h:=hid h; replace hp:=hid hp; replace hm:=hid hm; replace hk:=hid hk; replace hpr:=hid hpr; replace hW1:=hid hW1
  replace htb:=hid htb; clear hb1 i1
  go_enter Tryz.func47,Tryz.ntmps47
  go_wp2_with fail
  go_loopg [4,5,27] pick.length (fun f v4 v5 v27 wr=>∃ (i:Nat) (s:OpS),v5=.slice (some ⟨tb,0,none⟩) k k∧v27=iv i∧i+f=pick.length∧Hid (OM w tb k s v4 wr)∧Hid (optionsF x pick=optsF x i (pick.drop i) s)∧Hid (s.1.length=i))
  case atStart=>exact ⟨0,_,rfl,rfl,by omega,hOM,hid hof.out,hid rfl⟩
  case round =>
   obtain ⟨i,s,rfl,rfl,hif,hO,hE,hsl⟩:=hrel; clear hOM m1; by_cases hin:i < pick.length
   ·have q1:decide ((i:Int) < (pick.length:Int))=true:=decide_eq_true (by omega)
    have q1':decide (i < pick.length)=true:=decide_eq_true hin; obtain ⟨j,hj⟩:∃ j,pick[i]? = some j:=⟨_,List.getElem?_eq_getElem hin⟩; have hjr:=hpr.out j (List.mem_of_getElem? hj); obtain ⟨g,o,cs,hidx,hS',hg,hc,hRj⟩:=(hp.out.below goodInt hO.out.bel).at (P:=Tryz.prog) (t:=29) (by kernel_rfl) (fun _=>by kernel_rfl) hj; have hcs:cs=[iv j]:=hRj; subst hcs; have c0:=hc 0 _ rfl; rw [Nat.add_zero] at c0
    have hE2:optionsF x pick=match stepO x i j s with | none=>none | some s'=>optsF x (i+1) (pick.drop (i+1)) s':=by
     rw [hE.out,List.drop_eq_getElem_cons hin]
     have:pick[i]=j:=by rw [List.getElem?_eq_getElem hin] at hj; injection hj
     rw [this]; rfl
    have hX:=h.out.below hO.out.bel; obtain ⟨e0,e1,e2,e3,e4,e5,e6⟩:=hX.fields; rw [← hm.out] at e0 e4; rw [← hk.out] at e1 e5; replace hE2:=hid hE2; clear hc hRj hS' hg hj hE; by_cases hj1:j = -1
    ·subst hj1
     obtain ⟨dg,dO,y,hy,hdi,y0,y1,y2⟩:=hX.dropAt (r:=i) (by have:=hm.out; omega); rw [← hm.out] at hdi; obtain ⟨v',w2,hap,hO2⟩:=hO.out.push y (by have:=hsl.out; omega) 96 rfl; have hE3:=hid (show optionsF x pick=optsF x (i+1) (pick.drop (i+1)) (s.1++[y],s.2) from by rw [hE2.out]; unfold stepO; rw [if_pos rfl,hy]; rfl); have hsl2:=hid (show (s.1++[y]).length=i+1 by rw [List.length_append,hsl.out]; rfl); replace hap:=hid hap; replace hO2:=hid hO2; clear hX hE2 e0 e1 e2 e3 e5 e6 hy
     go_wp2_with (first | (at_builtin; refine wpList_append_shut rfl (.tmp 34) (.tmp 42) rfl rfl rfl hap.out ?_))
     go_roundg (pick.length - (i+1))
     case measure=>omega
     case rel=>exact ⟨i+1,_,rfl,by go_num,by omega,hO2,hE3,hsl2⟩
    ·have hlk:=hX.am.look (r:=(i:Int)) (c:=j) (i64n (by omega)) hjr
     have hjb:(j == -1)=false:=by simpa using hj1
     cases ha:amG x.amend x.undo.length x.do.length (i:Int) j with
     | none =>
      rw [ha] at hlk; replace hlk:(Instr.lookup 95 (.map (some X.mb)) (.agg #[iv i,iv j]) true).run Tryz.prog wr=.ok (.tuple #[.agg #[iv 0,iv 0,iv 0],.bool false]) wr:=hlk
      have hfin:Hid (∀ W,Below w.heap.size w W→PQ (.returned (.tuple #[.slice none 0 0,.slice none 0 0,.bool false])) W):=hid fun W hW=>by
       rw [← hPQ.out]; exact Or.inl ⟨by rw [hE2.out]; unfold stepO; rw [if_neg hj1,ha],rfl,hW⟩
      have hbz:=hid (hO.out.bel); clear hX hE2 e0 e1 e2 e3 e4 e5 ha
      go_wp2_with fail
      go_ret3
      exact hfin.out _ (hbz.out.alloc hbz.out.size _)
     | some oo =>
      obtain ⟨-,-,hj0,hjk⟩:=amG_some ha; obtain ⟨c,rfl⟩:∃ c:Nat,j=c:=⟨j.toNat,by omega⟩
      have hck:c < k:=by have:=hk.out; omega
      rw [ha] at hlk; replace hlk:(Instr.lookup 95 (.map (some X.mb)) (.agg #[iv i,iv c]) true).run Tryz.prog wr=.ok (.tuple #[.agg #[iv oo.kind,iv oo.cost,iv oo.weight],.bool true]) wr:=hlk; have hba:Below wr.heap.size wr (wr.alloc (.cells #[iv oo.kind,iv oo.cost,iv oo.weight] 102 (0,0))):=(Below.refl _ wr).alloc (Nat.le_refl _) _; have hOa:=hO.out.below hba; have rowa:=heap_alloc_new' wr (.cells #[iv oo.kind,iv oo.cost,iv oo.weight] 102 (0,0)); have b0:=hOa.tk.cell hck; have bz:=hOa.tk.free c
      have bi:=fun kd W=>bb_idx (g:=tb) (n:=k) (cap:=k) hck kd W
      have hst:stepO x i (c:Int) s=if s.2 c then none else some (s.1++[oo],Pl.upd s.2 c true):=by unfold stepO; rw [if_neg hj1,ha]; rfl
      rw [hst] at hE2
      cases hsc:s.2 c with
      | true =>
       have hfin:Hid (∀ W,Below w.heap.size w W→PQ (.returned (.tuple #[.slice none 0 0,.slice none 0 0,.bool false])) W):=hid fun W hW=>by
        rw [← hPQ.out]; exact Or.inl ⟨by rw [hE2.out,hsc]; rfl,rfl,hW⟩
       rw [hsc] at b0; have hbz:=hid hOa.bel; clear hX hE2 e0 e1 e2 e3 e4 e5 ha hst hOa rowa hba
       go_wp2_with fail
       go_ret3
       exact hfin.out _ hbz.out
      | false =>
       rw [hsc] at b0
       have hne:wr.heap.size≠tb:=by have:=hO.out.tk.lt; omega
       have hOs:=hOa.set hck; have hrow2:((wr.alloc (.cells #[iv oo.kind,iv oo.cost,iv oo.weight] 102 (0,0))).setCell ⟨tb,c,none⟩ (.bool true)).heap[wr.heap.size]? = some (.cells #[iv oo.kind,iv oo.cost,iv oo.weight] 102 (0,0)):=(heap_setCell_other _ hne).trans rowa; have z0:=(cell_of (i:=0) hrow2).trans rfl; have z1:=(cell_of (i:=1) hrow2).trans rfl; have z2:=(cell_of (i:=2) hrow2).trans rfl; obtain ⟨v',w2,hap,hO2⟩:=hOs.push oo (by have:=hsl.out; show s.1.length≤_; omega) 96 (b:=wr.heap.size+1) (by simp); have hE3:=hid (show optionsF x pick=optsF x (i+1) (pick.drop (i+1)) (s.1++[oo],Pl.upd s.2 c true) from by rw [hE2.out,hsc]; rfl); have hsl2:=hid (show (s.1++[oo]).length=i+1 by rw [List.length_append,hsl.out]; rfl); replace hap:=hid hap; replace hO2:=hid hO2
       clear hX hE2 e0 e1 e2 e3 e4 e5 ha hst hOa rowa hba hOs hrow2
       go_wp2_with (first | (at_builtin; refine wpList_append_shut rfl (.tmp 66) (.tmp 68) rfl rfl rfl hap.out ?_))
       go_roundg (pick.length - (i+1))
       case measure=>omega
       case rel=>exact ⟨i+1,_,rfl,by go_num,by omega,hO2,hE3,hsl2⟩
   ·have q1:decide ((i:Int) < (pick.length:Int))=false:=decide_eq_false (by omega)
    have q1':decide (i < pick.length)=false:=decide_eq_false hin
    have hE4:optionsF x pick=some s:=by rw [hE.out,List.drop_eq_nil_of_le (by omega)]; rfl
    have hfin:Hid (PQ (.returned (.tuple #[u4,.slice (some ⟨tb,0,none⟩) k k,.bool true])) wr):=hid (by rw [← hPQ.out]; exact Or.inr ⟨s,_,tb,hE4,by rw [hk.out],hk.out ▸ hO.out⟩); clear hE4
    go_wp2_with fail
    go_ret3
    exact hfin.out
 ·have q0:((pick.length:Int) == (m:Int))=false:=by simp; omega
  have q0':(pick.length == m)=false:=by simp; omega
  have q0'':¬ (pick.length:Int)=(m:Int):=by omega
  have hfin:Hid (PQ (.returned (.tuple #[.slice none 0 0,.slice none 0 0,.bool false])) w):=hid (by rw [← hPQ.out]; exact Or.inl ⟨if_neg (by omega),rfl,Below.refl _ _⟩); replace h:=hid h
  go_enter Tryz.func47,Tryz.ntmps47
  go_wp2_with fail
  go_ret3
  exact hfin.out
end Go.Proofs.YtfejagpjahoibaaGreatDoor
set_option linter.unusedSimpArgs false
namespace Go.Proofs.YtfejagpjahoibaaGreatDoor
open Go.RowKit
open Go.Lib (hid)
def OptB (o:Opt):Prop:=0≤o.weight∧o.weight≤1099511627776∧0≤o.cost∧o.cost≤1048576∧0≤o.kind∧o.kind≤4
/-- options of sizes that a machine can add -/
structure StlB (x:Stl):Prop where
 d:∀ o∈x.drop,OptB o
 g:∀ o∈x.give,OptB o
 a:∀ r c o,x.amend r c=some o→OptB o
theorem optB0:OptB opt0:=⟨by decide,by decide,by decide,by decide,by decide,by decide⟩
theorem stepO_ok {x:Stl} (hB:StlB x) {i:Nat} {j:Int} {s t:OpS} (h:stepO x i j s=some t) (hs:∀ o∈s.1,OptB o):(∀ o∈t.1,OptB o)∧t.1.length=s.1.length+1:=by
 unfold stepO at h; by_cases hj:j = -1
 ·rw [if_pos hj] at h
  injection h with h; subst h; refine ⟨fun o ho=>?_,by simp⟩; rcases List.mem_append.1 ho with ho | ho
  ·exact hs o ho
  ·rw [List.mem_singleton] at ho
   subst ho; rcases hd:x.drop[i]? with _ | y
   ·exact optB0
   ·exact hB.d y (List.mem_of_getElem? hd)
 ·rw [if_neg hj] at h
  cases ha:amG x.amend x.undo.length x.do.length i j with
  | none=>rw [ha] at h; cases h
  | some o =>
   rw [ha] at h; replace h:(if s.2 j.toNat then none else some (s.1++[o],Pl.upd s.2 j.toNat true))=some t:=h; by_cases ht:s.2 j.toNat=true
   ·rw [if_pos ht] at h; cases h
   ·rw [if_neg ht] at h
    injection h with h; subst h; refine ⟨fun o' ho=>?_,by simp⟩; rcases List.mem_append.1 ho with ho | ho
    ·exact hs o' ho
    ·rw [List.mem_singleton] at ho
     subst ho; unfold amG at ha; split at ha
     ·exact hB.a _ _ _ ha
     ·cases ha
theorem optsF_ok {x:Stl} (hB:StlB x):∀ (pick:List Int) (i:Nat) (s t:OpS),optsF x i pick s=some t→(∀ o∈s.1,OptB o)→(∀ o∈t.1,OptB o)∧t.1.length=s.1.length+pick.length
 | [],i,s,t,h,hs=>by
  injection h with h; subst h; exact ⟨hs,rfl⟩
 | j::r,i,s,t,h,hs=>by
  replace h:(match stepO x i j s with | none=>none | some s'=>optsF x (i+1) r s')=some t:=h
  cases e:stepO x i j s with
  | none=>rw [e] at h; cases h
  | some s' =>
   rw [e] at h; obtain ⟨h1,h2⟩:=stepO_ok hB e hs; obtain ⟨h3,h4⟩:=optsF_ok hB r (i+1) s' t h h1; exact ⟨h3,by rw [h4,h2,List.length_cons]; omega⟩
theorem optionsF_ok {x:Stl} (hB:StlB x) {pick:List Int} {s:OpS} (h:optionsF x pick=some s):(∀ o∈s.1,OptB o)∧s.1.length=x.undo.length∧pick.length=x.undo.length:=by
 unfold optionsF at h; by_cases e:pick.length=x.undo.length
 ·rw [if_pos e] at h
  obtain ⟨h1,h2⟩:=optsF_ok hB pick 0 _ s h (fun o ho=>by cases ho); exact ⟨h1,by rw [h2,e]; simp,e⟩
 ·rw [if_neg e] at h; cases h
def sumO (l:List Opt):Int:=Pl.sumL (l.map Opt.weight)
def giveW (x:Stl) (tk:Nat→Bool) (j:Nat):Int:=if tk j then 0 else ((x.give[j]?).getD opt0).weight
def weightF (x:Stl) (pick:List Int):Int × Bool:=match optionsF x pick with
 | none=>(0,false)
 | some s=>(sumO s.1+Pl.sumN (giveW x s.2) x.do.length,true)
theorem sumO_next {l:List Opt} {i:Nat} {o:Opt} (h:l[i]? = some o):sumO (l.take (i+1))=sumO (l.take i)+o.weight:=by
 unfold sumO; rw [List.take_add_one,h,List.map_append,Pl.sumL_append]; show _+(o.weight+0)=_; omega
theorem sumO_le:∀ (l:List Opt),(∀ o∈l,OptB o)→0≤sumO l∧sumO l≤l.length * 1099511627776
 | [],_=>⟨Int.le_refl _,by simp [sumO,Pl.sumL]⟩
 | a::l,h=>by
  obtain ⟨h1,h2⟩:=sumO_le l fun o ho=>h o (List.mem_cons_of_mem _ ho)
  obtain ⟨h3,h4,-⟩:=h a (List.mem_cons_self ..); show 0≤a.weight+sumO l∧a.weight+sumO l≤((l.length+1:Nat):Int) * 1099511627776; omega
theorem giveW_le {x:Stl} (hB:StlB x) (tk:Nat→Bool) (j:Nat):0≤giveW x tk j∧giveW x tk j≤1099511627776:=by
 unfold giveW; split
 ·exact ⟨by decide,by decide⟩
 ·rcases hd:x.give[j]? with _ | y
  ·exact ⟨by decide,by decide⟩
  ·have:=hB.g y (List.mem_of_getElem? hd); exact ⟨this.1,this.2.1⟩
theorem sumG_le {x:Stl} (hB:StlB x) (tk:Nat→Bool):∀ n:Nat,0≤Pl.sumN (giveW x tk) n∧Pl.sumN (giveW x tk) n≤n * 1099511627776
 | 0=>⟨Int.le_refl _,by simp [Pl.sumN]⟩
 | n+1=>by
  have h1:=sumG_le hB tk n; have h2:=giveW_le hB tk n; show 0≤Pl.sumN (giveW x tk) n+giveW x tk n∧Pl.sumN (giveW x tk) n+giveW x tk n≤((n+1:Nat):Int) * 1099511627776; omega
set_option maxHeartbeats 40000000 in
set_option maxRecDepth 100000 in
theorem weight_any (X:XB) (x:Stl) (pick:List Int) (S:Foot) (v:Value) (w:World) (h:StM X x w) (hB:StlB x) (hp:SlR 1 IntR S w pick v) (hpl:pick.length≤1048576) (hpr:∀ j∈pick,I64 j) :
  Calls Tryz.prog 31 #[pt X.xb,v] w fun e w'=>e=.returned (.tuple #[iv (weightF x pick).1,.bool (weightF x pick).2])∧Below w.heap.size w w':=by
 have ho:=hid (options_any X x pick S v w h hp hpl hpr); have hul:=h.ul; have hkl:=h.kl; obtain ⟨pa,pc,rfl,-⟩:=hp.slice; obtain ⟨R1,hR1⟩:∃ r,r=(weightF x pick).1:=⟨_,rfl⟩; obtain ⟨R2,hR2⟩:∃ r,r=(weightF x pick).2:=⟨_,rfl⟩; rw [← hR1,← hR2]; replace hR1:=hid hR1; replace hR2:=hid hR2; replace h:=hid h; replace hB:=hid hB; clear hp hpr
 go_enter Tryz.func31,Tryz.ntmps31
 go_wp2_with fail
 refine ho.out.mono ?_; rintro e w1 (⟨hn,rfl,hb⟩ | ⟨s,va,tb,hs,rfl,hM⟩)
 ·have e1:R1=0:=by rw [hR1.out]; unfold weightF; rw [hn]
  have e2:R2=false:=by rw [hR2.out]; unfold weightF; rw [hn]
  subst e1 e2; replace hb:=hid hb; replace hn:=hid hn; clear ho
  go_wp2_with fail
  go_loopg [9,23] 0 (fun f v9 v23 wr=>v9=iv 0∧v23=iv 0∧wr=w1)
  case atStart=>exact ⟨rfl,rfl,rfl⟩
  case round =>
   obtain ⟨rfl,rfl,rfl⟩:=hrel
   go_wp2_with fail
   go_loopg [9,34] 0 (fun f v9 v34 wr2=>v9=iv 0∧v34=iv 0∧wr2=wr)
   case atStart=>exact ⟨rfl,rfl,rfl⟩
   case round =>
    obtain ⟨rfl,rfl,rfl⟩:=hrel
    go_wp2_with fail
    go_ret2
    exact ⟨rfl,hb.out⟩
 ·obtain ⟨hsb,hsl,-⟩:=optionsF_ok hB.out hs
  have e1:R1=sumO s.1+Pl.sumN (giveW x s.2) x.do.length:=by rw [hR1.out]; unfold weightF; rw [hs]
  have e2:R2=true:=by rw [hR2.out]; unfold weightF; rw [hs]
  subst e2; obtain ⟨va',vc,hva,-⟩:=OwnR.slice hM.row; subst hva; have hrow:=hM.row.sl (S:=fun _=>True) (fun _ _=>trivial); obtain ⟨n,hn⟩:∃ n,n=s.1.length:=⟨_,rfl⟩
  have hn32:n≤32:=by omega
  rw [← hn]; rw [← hn] at hrow
  obtain ⟨k,hk⟩:∃ k,k=x.do.length:=⟨_,rfl⟩
  rw [← hk] at e1 hM hkl ⊢; have hw1:=hid hM.bel; have htk:=hid hM.tk; have hsle:=sumO_le s.1 hsb; rw [← hn] at hsle; replace e1:=hid e1; replace hs:=hid hs; replace hsb:=hid hsb; replace hrow:=hid hrow; replace hn:=hid hn; replace hk:=hid hk; clear ho hM hsl
  go_wp2_with fail
  go_loopg [9,23] n (fun f v9 v23 wr=>∃ i:Nat,v9=iv (sumO (s.1.take i))∧v23=iv i∧i+f=n∧Hid (Below w1.heap.size w1 wr))
  case atStart=>exact ⟨0,rfl,rfl,by omega,hid (Below.refl _ _)⟩
  case round =>
   obtain ⟨i,rfl,rfl,hif,hb⟩:=hrel; have hti:=sumO_le (s.1.take i) (fun o ho=>hsb.out o (List.mem_of_mem_take ho))
   have htl:(s.1.take i).length=i:=by rw [List.length_take,← hn.out]; omega
   rw [htl] at hti; by_cases hin:i < n
   ·have q1:decide ((i:Int) < (n:Int))=true:=decide_eq_true (by omega)
    have q1':decide (i < n)=true:=decide_eq_true hin; obtain ⟨y,hy⟩:∃ y,s.1[i]? = some y:=⟨_,List.getElem?_eq_getElem (by rw [← hn.out]; exact hin)⟩; have hyb:=hsb.out y (List.mem_of_getElem? hy); obtain ⟨g,o,cs,hidx,hS',hg,hc,hRy⟩:=(hrow.out.below goodOpt hb.out).at (P:=Tryz.prog) (t:=96) (by kernel_rfl) (fun _=>by kernel_rfl) hy; have hcs:cs=optCs y:=hRy; subst hcs; have c0:=hc 0 _ rfl; have c1:=hc 1 _ rfl; have c2:=hc 2 _ rfl; rw [Nat.add_zero] at c0; have hnx:=sumO_next hy; have hw:IntKind.i64.wrap (sumO (s.1.take i)+y.weight)=sumO (s.1.take i)+y.weight:=wrapI (by have:=hyb.1; omega) (by have:=hyb.2.1; omega); have hb2:=hid (hb.out.alloc hb.out.size (.cells #[iv y.kind,iv y.cost,iv y.weight] 102 (0,0))); replace hnx:=hid hnx; replace hy:=hid hy; clear hc hRy hS' hg hti htl
    go_wp2_with fail
    go_roundg (n - (i+1))
    case measure=>omega
    case rel=>exact ⟨i+1,by rw [hnx.out],by go_num,by omega,hb2⟩
   ·have q1:decide ((i:Int) < (n:Int))=false:=decide_eq_false (by omega)
    have q1':decide (i < n)=false:=decide_eq_false hin; have hfull:s.1.take i=s.1:=List.take_of_length_le (by rw [← hn.out]; omega); rw [hfull]; rw [hfull] at hti; obtain ⟨T,hT⟩:∃ T,T=sumO s.1:=⟨_,rfl⟩; rw [← hT] at e1 hsle ⊢; replace hT:=hid hT
    have hin2:i=n:=by omega
    subst hin2; clear hti hfull htl
    go_wp2_with fail
    go_loopg [9,34] k (fun f v9 v34 wr2=>∃ j:Nat,v9=iv (T+Pl.sumN (giveW x s.2) j)∧v34=iv j∧j+f=k∧Hid (Below w1.heap.size w1 wr2))
    case atStart=>exact ⟨0,by show iv T=iv (T+0); rw [Int.add_zero],rfl,by omega,hb⟩
    case round =>
     obtain ⟨j,rfl,rfl,hjf,hb2⟩:=hrel; clear hb; have hG:=sumG_le hB.out s.2 j; by_cases hjk:j < k
     ·have q2:decide ((j:Int) < (k:Int))=true:=decide_eq_true (by omega)
      have q2':decide (j < k)=true:=decide_eq_true hjk; have t0:=(htk.out.below hb2.out).cell hjk
      have tz:=fun kd W=>bb_idx (g:=tb) (n:=k) (cap:=k) hjk kd W
      have hX:=h.out.below (hw1.out.trans (hb2.out.mono hw1.out.size)); obtain ⟨f0,f1,f2,f3,f4,f5,f6⟩:=hX.fields; rw [← hk.out] at f5; obtain ⟨gg,go,y,hy,hgi,y0,y1,y2⟩:=hX.giveAt (r:=j) (by rw [← hk.out]; exact hjk); rw [← hk.out] at hgi; have hyb:=hB.out.g y (List.mem_of_getElem? hy)
      have hnx:∀ b,s.2 j=b→Pl.sumN (giveW x s.2) (j+1)=Pl.sumN (giveW x s.2) j+if b then 0 else y.weight:=fun b hbv=>by
       show Pl.sumN (giveW x s.2) j+giveW x s.2 j=_; unfold giveW; rw [hbv,hy]; rfl
      have hw:IntKind.i64.wrap (T+Pl.sumN (giveW x s.2) j+y.weight)=T+Pl.sumN (giveW x s.2) j+y.weight:=wrapI (by have:=hyb.1; omega) (by have:=hyb.2.1; omega)
      cases hsj:s.2 j with
      | true =>
       rw [hsj] at t0; have hn2:=hid (show T+Pl.sumN (giveW x s.2) (j+1)=T+Pl.sumN (giveW x s.2) j by rw [hnx true hsj]; simp); clear hnx hX f0 f1 f2 f3 f4 f6 hy hyb hG hsj
       go_wp2_with fail
       go_roundg (k - (j+1))
       case measure=>omega
       case rel=>exact ⟨j+1,by rw [hn2.out],by go_num,by omega,hb2⟩
      | false =>
       rw [hsj] at t0; have hn2:=hid (show T+Pl.sumN (giveW x s.2) (j+1)=T+Pl.sumN (giveW x s.2) j+y.weight by rw [hnx false hsj]; simp; omega); clear hnx hX f0 f1 f2 f3 f4 f6 hy hyb hG hsj
       go_wp2_with fail
       go_roundg (k - (j+1))
       case measure=>omega
       case rel=>exact ⟨j+1,by rw [hn2.out],by go_num,by omega,hb2⟩
     ·have q2:decide ((j:Int) < (k:Int))=false:=decide_eq_false (by omega)
      have q2':decide (j < k)=false:=decide_eq_false hjk
      have hjk2:j=k:=by omega
      subst hjk2; have hbf:=hid (hw1.out.trans (hb2.out.mono hw1.out.size))
      go_wp2_with fail
      go_ret2
      exact ⟨by rw [e1.out]; rfl,hbf.out⟩
end Go.Proofs.YtfejagpjahoibaaGreatDoor
