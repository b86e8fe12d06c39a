/- EfA: NetFold, EfA, in one text. -/
import Derived.Test.YtfejagpjahoibaaGreatDoorNetS
set_option linter.unusedVariables false
namespace Go.Proofs.YtfejagpjahoibaaGreatDoor
open Go.RowKit
open Go.Lib (hid)
def foldF:List Out→List Cmd→Int × List Out
 | l,[]=>(0,l)
 | l,c::r=>if (stepF l c).1=0 then foldF (stepF l c).2 r else ((stepF l c).1,[])
theorem foldF_append:∀ (l:List Out) (a b:List Cmd),foldF l (a++b)=if (foldF l a).1=0 then foldF (foldF l a).2 b else foldF l a
 | l,[],b=>by simp [foldF]
 | l,c::r,b=>by
  by_cases h:(stepF l c).1=0
  ·have e1:foldF l (c::r)=foldF (stepF l c).2 r:=by simp [foldF,h]
   have e2:foldF l (c::(r++b))=foldF (stepF l c).2 (r++b):=by simp [foldF,h]
   rw [List.cons_append,e1,e2]; exact foldF_append _ r b
  ·have e1:foldF l (c::r)=((stepF l c).1,[]):=by simp [foldF,h]
   have e2:foldF l (c::(r++b))=((stepF l c).1,[]):=by simp [foldF,h]
   rw [List.cons_append,e1,e2,if_neg h]
theorem foldF_one (l:List Out) (c:Cmd):foldF l [c]=if (stepF l c).1=0 then (0,(stepF l c).2) else ((stepF l c).1,[]):=by simp [foldF]
def OutsB (l:List Out):Prop:=∀ o∈l,ValsB o.args
theorem stepF_len (l:List Out) (c:Cmd):(stepF l c).2.length≤l.length+1:=by
 unfold stepF
 repeat' split
 all_goals simp
 all_goals (have:=List.length_eraseIdx_le l (findO l c.of).toNat; omega)
theorem stepF_ok {l:List Out} {c:Cmd} (hl:OutsB l) (hc:ValsB c.args):OutsB (stepF l c).2:=by
 have hnil:OutsB []:=fun o h=>by simp at h
 have hnew:ValsB (outOf c).args:=hc; unfold stepF; split
 ·split
  ·exact hnil
  ·exact fun o h=>hl o (List.mem_of_mem_eraseIdx h)
 ·split
  ·split
   ·exact hnil
   ·split
    ·exact hnil
    ·intro o h
     obtain ⟨i,hi⟩:=List.mem_iff_getElem?.1 h; rw [List.getElem?_modify] at hi; rcases hx:l[i]? with _ | y
     ·rw [hx] at hi; simp at hi
     ·rw [hx] at hi
      simp only [Option.map_eq_map,Option.map_some,Option.some.injEq] at hi; have hy:=hl y (List.mem_of_getElem? hx); rw [← hi]; split
      ·exact hy
      ·exact hy
  ·split
   ·split
    ·exact hnil
    ·split
     ·exact hnil
     ·split
      ·exact hnil
      ·intro o h
       rcases List.mem_or_eq_of_mem_set h with h | h
       ·exact hl o h
       ·rw [h]; exact hnew
   ·split
    ·split
     ·exact hnil
     ·split
      ·exact hnil
      ·intro o h
       rcases List.mem_append.1 h with h | h
       ·exact hl o h
       ·rw [List.mem_singleton.1 h]; exact hnew
    ·exact hnil
theorem foldF_len:∀ (l:List Out) (cs:List Cmd),(foldF l cs).2.length≤l.length+cs.length
 | l,[]=>by simp [foldF]
 | l,c::r=>by
  simp only [foldF]; split
  ·have h1:=foldF_len (stepF l c).2 r
   have h2:=stepF_len l c; simp only [List.length_cons]; omega
  ·simp
theorem foldF_ok:∀ (l:List Out) (cs:List Cmd),OutsB l→(∀ c∈cs,ValsB c.args)→OutsB (foldF l cs).2
 | l,[],h,_=>h
 | l,c::r,h,hc=>by
  simp only [foldF]; split
  ·exact foldF_ok _ r (stepF_ok h (hc c (by simp))) (fun x hx=>hc x (by simp [hx]))
  ·exact fun o h=>by simp at h
theorem foldF_step {l lk:List Out} {cs:List Cmd} {k:Nat} {c:Cmd} (h:foldF l (cs.take k)=(0,lk)) (hc:cs[k]? = some c):foldF l (cs.take (k+1))=if (stepF lk c).1=0 then (0,(stepF lk c).2) else ((stepF lk c).1,[]):=by
 rw [List.take_add_one,hc,Option.toList_some,foldF_append,h,if_pos rfl,foldF_one]
theorem foldF_fail {l lk:List Out} {cs:List Cmd} {k:Nat} {c:Cmd} (h:foldF l (cs.take k)=(0,lk)) (hc:cs[k]? = some c) (he:(stepF lk c).1≠0):foldF l cs=((stepF lk c).1,[]):=by
 have h1:=foldF_step h hc; rw [if_neg he] at h1; have h2:=foldF_append l (cs.take (k+1)) (cs.drop (k+1)); rw [List.take_append_drop,h1,if_neg he] at h2; exact h2
set_option maxHeartbeats 4000000 in
set_option maxRecDepth 100000 in
theorem fold_any (l:List Out) (cs:List Cmd) (hlen:l.length+cs.length≤1048576) (hlo:OutsB l) (hcs:∀ c∈cs,ValsB c.args) (S T:Foot) (v vc:Value) (w:World) (hr:SlR 5 OutR S w l v) (hrc:SlR 6 CmdR T w cs vc) :
  Calls Tryz.prog 8 #[v,vc] w fun e w'=>∃ v',e=.returned (.tuple #[v',iv (foldF l cs).1])∧OwnR 37 5 OutR (from_ w.heap.size) w' (foldF l cs).2 v'∧Below w.heap.size w w':=by
 have hclone:=hid (cloneOuts_any l (by omega) hlo S v w hr); have hrc2:=hid (hrc.mono goodCmd (T:=fun k=>T k∧k < w.heap.size) (fun k hk h=>⟨h,hk⟩)); obtain ⟨ac,cc,rfl,-⟩:=hrc.slice; generalize hres:foldF l cs=res; replace hres:=hid hres; replace hcs:=hid hcs; replace hlo:=hid hlo; clear hr hrc
 go_enter Tryz.func8,Tryz.ntmps8
 go_wp2_with fail
 refine hclone.out.mono ?_; rintro e w1 ⟨v1,rfl,hO,hb1⟩; obtain ⟨a1,c1,rfl,-,-⟩:=hO.slice; replace hO:=hid hO
 go_wp2
 go_loopw [6,14] (fun r i wr=>∃ (k:Nat) (lk:List Out) (a:Option Addr) (c:Nat),r=.slice a lk.length c∧i=.int .i64 k∧k≤cs.length∧Hid (foldF l (cs.take k)=(0,lk))∧Hid (OwnR 37 5 OutR (from_ w.heap.size) wr lk (.slice a lk.length c))∧Below w.heap.size w wr) (fun _ i _=>cs.length - (intOf i).toNat)
 case atStart=>exact ⟨0,l,a1,c1,rfl,rfl,Nat.zero_le _,hid rfl,hO,hb1⟩
 case round =>
  clear hO hb1 hclone; obtain ⟨k,lk,a,c,rfl,rfl,hk,hf,hO,hB⟩:=hrel; by_cases hlt:k < cs.length
  ·obtain ⟨x,hx⟩:∃ x,cs[k]? = some x:=⟨_,List.getElem?_eq_getElem hlt⟩
   have hxB:=hcs.out x (List.mem_of_getElem? hx)
   have hll:lk.length≤1048576:=by
    have:=foldF_len l (cs.take k); rw [hf.out,List.length_take] at this; simp only at this; omega
   have hT:=hrc2.out.fr goodCmd (Fr.of_below hB (fun k=>w.heap.size≤k)) (fun q h h2=>by omega); obtain ⟨g,o,ds,hidx,hS,hg,hc,hR⟩:=hT.at (P:=Tryz.prog) (t:=28) (by kernel_rfl) (fun _=>by kernel_rfl) hx; have hR0:=hR; obtain ⟨a2,k2,rfl,-⟩:=id hR; have c0:=hc 0 _ rfl; have c1:=hc 1 _ rfl; have c2:=hc 2 _ rfl; have c3:=hc 3 _ rfl; have c4:=hc 4 _ rfl; have c5:=hc 5 _ rfl; rw [Nat.add_zero] at c0; have hb2:Below wr.heap.size wr (wr.alloc (.cells (cmdCs x (.slice a2 x.args.length k2)).toArray 41)):=(Below.refl _ wr).alloc (Nat.le_refl _) _; have hsz:=hB.size; have hcall:=hid (step_any x lk hll hxB (from_ w.heap.size) _ _ _ (hO.out.below goodOut hb2) _ (goodCmd.below hR0 hb2) (fun q h h2=>by have h9:w.heap.size≤q:=h2; have:=h.2; omega) (fun q hq=>by simp at hq; show w.heap.size≤q; omega))
   have hB2:=hid (hB.trans (hb2.mono hsz)); clear hR0 hR hc hT hO hB hb2; replace hx:=hid hx
   go_wp2_with fail
   refine hcall.out.mono ?_; rintro e w3 ⟨v3,rfl,hO3,hf3⟩; have hB3:=hB2.out.trans (hf3.to_below hB2.out.size (fun q hq h=>by have h9:w.heap.size≤q:=h; omega)); obtain ⟨a3,k3,rfl,-,-⟩:=hO3.slice; clear c0 c1 c2 c3 c4 c5 hcall hidx hf3; by_cases he:(stepF lk x).1=0
   ·have hnx:=foldF_step hf.out hx.out
    rw [if_pos he] at hnx; replace hnx:=hid hnx; replace hO3:=hid hO3; rw [he]; clear he
    go_wp2
    exact ⟨⟨k+1,_,a3,k3,rfl,by go_num,by omega,hnx,hO3,hB3⟩,by simp [intOf]; omega⟩
   ·have hfin:=foldF_fail hf.out hx.out he
    rw [hres.out] at hfin; replace hfin:=hid hfin
    have hne:((stepF lk x).1 == 0)=false:=by simpa using he
    generalize hE:(stepF lk x).1=E at *; clear hE hO3
    go_wp2
    go_ret2
    exact ⟨_,by rw [hfin.out]; rfl,by rw [hfin.out]; exact OwnR.nil _ _ _ _ _,hB3⟩
  ·have hkl:k=cs.length:=by omega
   subst hkl; have hfin:=hf.out; rw [List.take_of_length_le (Nat.le_refl _),hres.out] at hfin; replace hfin:=hid hfin
   go_wp2
   go_ret2
   exact ⟨_,by rw [hfin.out]; rfl,by rw [hfin.out]; exact hO.out,hB⟩
end Go.Proofs.YtfejagpjahoibaaGreatDoor
set_option linter.unusedSimpArgs false
namespace Go.Proofs.YtfejagpjahoibaaGreatDoor
/-- name, arguments, marked -/
abbrev Eff:Type:=List UInt8 × List Val × Bool
def effO (o:Out):Eff:=(o.name,o.args,o.part)
def viewL:List Out→List UInt8→Option Eff
 | [],_=>none
 | o::l,k=>if o.key=k then some (effO o) else viewL l k
def KeysN (l:List Out):Prop:=(l.map Out.key).Nodup
theorem view_none {k:List UInt8}:∀ {l:List Out},viewL l k=none ↔ ∀ o∈l,o.key≠k
 | []=>by simp [viewL]
 | o::l=>by
  unfold viewL; by_cases h:o.key=k
  ·simp [h]
  ·simp [h,view_none (l:=l)]
theorem view_some {k:List UInt8} {e:Eff}:∀ {l:List Out},viewL l k=some e→∃ o∈l,o.key=k∧effO o=e
 | [],h=>by simp [viewL] at h
 | o::l,h=>by
  unfold viewL at h; by_cases hk:o.key=k
  ·rw [if_pos hk] at h
   injection h with h; exact ⟨o,List.mem_cons_self ..,hk,h⟩
  ·rw [if_neg hk] at h
   obtain ⟨x,hx,h1⟩:=view_some h; exact ⟨x,List.mem_cons_of_mem _ hx,h1⟩
theorem view_mem {o:Out}:∀ {l:List Out},KeysN l→o∈l→viewL l o.key=some (effO o)
 | [],_,h=>by cases h
 | x::l,hN,h=>by
  unfold KeysN at hN; rw [List.map_cons,List.nodup_cons] at hN; unfold viewL; rcases List.mem_cons.1 h with h | h
  ·subst h; rw [if_pos rfl]
  ·rw [if_neg (fun e=>hN.1 (List.mem_map.2 ⟨o,h,e.symm⟩))]
   exact view_mem hN.2 h
theorem view_app (k:List UInt8) (m:List Out):∀ l:List Out,viewL (l++m) k=match viewL l k with | some e=>some e | none=>viewL m k
 | []=>rfl
 | o::l=>by
  rw [List.cons_append,viewL,viewL]; by_cases h:o.key=k
  ·rw [if_pos h,if_pos h]
  ·rw [if_neg h,if_neg h]; exact view_app k m l
/- a list parted at one element -/
theorem part_at {α:Type}:∀ {l:List α} {i:Nat} {x:α},l[i]? = some x→∃ a b,l=a++x::b∧a.length=i
 | [],i,x,h=>by simp at h
 | y::l,0,x,h=>by simp at h; subst h; exact ⟨[],l,rfl,rfl⟩
 | y::l,i+1,x,h=>by
  rw [List.getElem?_cons_succ] at h; obtain ⟨a,b,e,hl⟩:=part_at h; exact ⟨y::a,b,by rw [e]; rfl,by simp [hl]⟩
theorem erase_at {α:Type} (x:α) (b:List α):∀ a:List α,(a++x::b).eraseIdx a.length=a++b
 | []=>rfl
 | y::a=>by
  show y::(a++x::b).eraseIdx a.length=y::(a++b); rw [erase_at x b a]
theorem set_at {α:Type} (x y:α) (b:List α):∀ a:List α,(a++x::b).set a.length y=a++y::b
 | []=>rfl
 | z::a=>by
  show z::(a++x::b).set a.length y=z::(a++y::b); rw [set_at x y b a]
theorem modify_at {α:Type} (x:α) (f:α→α) (b:List α):∀ a:List α,(a++x::b).modify a.length f=a++f x::b
 | []=>by simp
 | z::a=>by
  show z::(a++x::b).modify a.length f=z::(a++f x::b); rw [modify_at x f b a]
/-- what fits: the keys in order -/
theorem keysN_mid {a b:List Out} {x:Out} (h:KeysN (a++x::b)):KeysN (a++b)∧viewL a x.key=none∧viewL b x.key=none∧∀ y:Out,(viewL a y.key=none∧viewL b y.key=none)→KeysN (a++y::b):=by
 unfold KeysN at h ⊢; rw [List.map_append,List.map_cons] at h; have h1:=List.nodup_append.1 h; obtain ⟨ha,hb,hd⟩:=h1; rw [List.nodup_cons] at hb; refine ⟨?_,?_,?_,fun y hy=>?_⟩
 ·rw [List.map_append]
  exact List.nodup_append.2 ⟨ha,hb.2,fun p hp q hq=>hd p hp q (List.mem_cons_of_mem _ hq)⟩
 ·rw [view_none]
  exact fun o ho e=>hd _ (List.mem_map.2 ⟨o,ho,rfl⟩) _ (List.mem_cons_self ..) e
 ·rw [view_none]
  exact fun o ho e=>hb.1 (List.mem_map.2 ⟨o,ho,e⟩)
 ·rw [view_none,view_none] at hy
  rw [List.map_append,List.map_cons]; refine List.nodup_append.2 ⟨ha,List.nodup_cons.2 ⟨fun hm=>?_,hb.2⟩,fun p hp q hq=>?_⟩
  ·obtain ⟨o,ho,e⟩:=List.mem_map.1 hm
   exact hy.2 o ho e
  ·rcases List.mem_cons.1 hq with hq | hq
   ·subst hq
    intro e; obtain ⟨o,ho,e2⟩:=List.mem_map.1 hp; exact hy.1 o ho (e2.trans e)
   ·exact hd p hp q (List.mem_cons_of_mem _ hq)
theorem view_mid (a b:List Out) (x:Out) (k:List UInt8) (h1:viewL a x.key=none):viewL (a++x::b) k=if k=x.key then some (effO x) else viewL (a++b) k:=by
 rw [view_app,view_app]; by_cases e:k=x.key
 ·subst e
  rw [h1,if_pos rfl]; show viewL (x::b) x.key=_; unfold viewL; rw [if_pos rfl]
 ·rw [if_neg e]
  cases viewL a k with
  | some e=>rfl
  | none =>
   show viewL (x::b) k=viewL b k; rw [viewL,if_neg (fun h=>e h.symm)]
theorem find_view {l:List Out} {k:List UInt8} {e:Eff} (h:viewL l k=some e):∃ a x b,l=a++x::b∧findO l k=(a.length:Nat)∧x.key=k∧viewL l k=some (effO x):=by
 rcases idxF_bounds (keyP k) l with hx | ⟨i,x,hx,hil,hi,hp,hn⟩
 ·exfalso
  obtain ⟨o,ho,hk,-⟩:=view_some h; obtain ⟨j,hj⟩:=List.mem_iff_getElem?.1 ho
  -- the first index with the key
  have key:∀ n:Nat,(∃ (j:Nat) (o:Out),j < n∧l[j]? = some o∧o.key=k)→0≤idxF (keyP k) l:=by
   intro n
   induction n with
   | zero=>rintro ⟨j,o,hj,-⟩; omega
   | succ n ih =>
    rintro ⟨j,o,hj,ho,hk⟩; by_cases hlt:∃ (j:Nat) (o:Out),j < n∧l[j]? = some o∧o.key=k
    ·exact ih hlt
    ·have hjn:j=n:=by
      by_cases e:j=n
      ·exact e
      ·exact absurd ⟨j,o,by omega,ho,hk⟩ hlt
     subst hjn
     rw [idxF_hit ho (by simp [keyP,hk]) (fun i y hi hy=>by
      unfold keyP
      exact decide_eq_false fun e=>hlt ⟨i,y,hi,hy,e⟩)]
     omega
  have:=key (j+1) ⟨j,o,by omega,hj,hk⟩; omega
 ·have hk:x.key=k:=by simpa [keyP] using hp
  obtain ⟨a,b,e,hl⟩:=part_at hi; refine ⟨a,x,b,e,by rw [hl]; exact hx,hk,?_⟩
  have ha:viewL a k=none:=by
   rw [view_none]; intro o ho; obtain ⟨j,hj⟩:=List.mem_iff_getElem?.1 ho; have hjl:=(List.getElem?_eq_some_iff.1 hj).1; have:=hn j o (by omega) (by rw [e,List.getElem?_append_left hjl]; exact hj); simpa [keyP] using this
  rw [e,view_app,ha]; show viewL (x::b) k=_; rw [viewL,if_pos hk]
theorem find_none {l:List Out} {k:List UInt8} (h:viewL l k=none):findO l k = -1:=by
 rcases idxF_bounds (keyP k) l with hx | ⟨i,x,hx,hil,hi,hp,hn⟩
 ·exact hx
 ·exfalso
  rw [view_none] at h
  have hk:x.key=k:=by simpa [keyP] using hp
  exact h x (List.mem_of_getElem? hi) hk
/-- what a command does to the effects in force -/
def goV (v:List UInt8→Option Eff) (c:Cmd):List UInt8→Option Eff:=fun k =>
 if (c.kind=1∨c.kind=4)∧k=c.new then some (c.name,c.args,false)
 else if (c.kind=2∨c.kind=4)∧k=c.of then none
 else if c.kind=3∧k=c.of then (v k).map fun e=>(e.1,e.2.1,true)
 else v k
/-- a command that can be applied -/
def Fit (v:List UInt8→Option Eff) (c:Cmd):Prop :=
 (c.kind=1∧c.new≠[]∧v c.new=none)∨(c.kind=2∧∃ e,v c.of=some e)∨(c.kind=3∧∃ n a,v c.of=some (n,a,false)) ∨
  (c.kind=4∧c.new≠[]∧(∃ e,v c.of=some e)∧(c.new=c.of∨v c.new=none))
theorem step_view {l:List Out} {c:Cmd} (hN:KeysN l) (hf:Fit (viewL l) c):∃ l',stepF l c=(0,l')∧KeysN l'∧viewL l'=goV (viewL l) c:=by
 rcases hf with ⟨hk,hn,hv⟩ | ⟨hk,e,hv⟩ | ⟨hk,n,a0,hv⟩ | ⟨hk,hn,⟨e,hv⟩,hw⟩
 ·refine ⟨l++[outOf c],?_,?_,funext fun k=>?_⟩
  ·simp [stepF,hk,hn,find_none hv]
  ·have:KeysN (l++outOf c::[]):=by
    unfold KeysN at hN ⊢; rw [List.map_append]; rw [view_none] at hv; refine List.nodup_append.2 ⟨hN,by simp,fun p hp q hq=>?_⟩; simp only [List.map_cons,List.map_nil,List.mem_singleton] at hq; subst hq; intro e; obtain ⟨o,ho,e2⟩:=List.mem_map.1 hp; exact hv o ho (e2.trans e)
   exact this
  ·rw [view_mid l [] (outOf c) k hv,List.append_nil]
   unfold goV; simp only [hk,true_or,true_and]; rw [show (outOf c).key=c.new from rfl]; by_cases e:k=c.new
   ·rw [if_pos e]
    simp only [if_pos e]; rfl
   ·rw [if_neg e]
    simp [e]
 ·obtain ⟨a,x,b,hl,hi,hx,hvx⟩:=find_view hv
  obtain ⟨h1,h2,h3,-⟩:=keysN_mid (hl ▸ hN); refine ⟨a++b,?_,h1,funext fun k=>?_⟩
  ·have:stepF l c=(0,l.eraseIdx (findO l c.of).toNat):=by
    unfold stepF; rw [if_pos hk,if_neg (by rw [hi]; omega)]
   rw [this,hi,hl]; show (0,(a++x::b).eraseIdx a.length)=_; rw [erase_at]
  ·have h4:=view_mid a b x k h2
   rw [← hl] at h4; unfold goV; rw [h4,← hx]; simp only [hk]; by_cases e:k=x.key
   ·subst e
    simp; rw [view_app,h2]; exact h3
   ·simp [e]
 ·obtain ⟨a,x,b,hl,hi,hx,hvx⟩:=find_view hv
  obtain ⟨h1,h2,h3,h4⟩:=keysN_mid (hl ▸ hN)
  have hp:x.part=false:=by
   rw [hv] at hvx; injection hvx with hvx; unfold effO at hvx; injection hvx with _ hvx; injection hvx with _ hvx; exact hvx.symm
  have hlx:l[a.length]? = some x:=by rw [hl]; simp
  refine ⟨a++{ x with part:=true }::b,?_,h4 { x with part:=true } ⟨h2,h3⟩,funext fun k=>?_⟩
  ·have:stepF l c=(0,l.modify (findO l c.of).toNat (fun o=>{ o with part:=true })):=by
    unfold stepF; rw [if_neg (by rw [hk]; decide),if_pos hk,if_neg (by rw [hi]; omega),hi]; rw [show ((a.length:Nat):Int).toNat=a.length from rfl,hlx]; simp [hp]
   rw [this,hi,hl]; show (0,(a++x::b).modify a.length _)=_; rw [modify_at]
  ·rw [view_mid a b { x with part:=true } k h2]
   have h5:=view_mid a b x k h2; rw [← hl] at h5; unfold goV; rw [h5,← hx]; simp only [hk]; by_cases e:k=x.key
   ·simp [e,effO]
   ·simp [e]
 ·obtain ⟨a,x,b,hl,hi,hx,hvx⟩:=find_view hv
  obtain ⟨h1,h2,h3,h4⟩:=keysN_mid (hl ▸ hN)
  have h6:viewL a c.new=none∧viewL b c.new=none:=by
   rcases hw with e | hw
   ·rw [e,← hx]; exact ⟨h2,h3⟩
   ·rw [hl,view_app] at hw
    cases e1:viewL a c.new with
    | some e=>rw [e1] at hw; cases hw
    | none =>
     rw [e1] at hw; replace hw:viewL (x::b) c.new=none:=hw; rw [viewL] at hw; by_cases e2:x.key=c.new
     ·rw [if_pos e2] at hw; cases hw
     ·rw [if_neg e2] at hw; exact ⟨rfl,hw⟩
  refine ⟨a++outOf c::b,?_,h4 (outOf c) h6,funext fun k=>?_⟩
  ·have:stepF l c=(0,l.set (findO l c.of).toNat (outOf c)):=by
    unfold stepF; rw [if_neg (by rw [hk]; decide),if_neg (by rw [hk]; decide),if_pos hk,if_neg (by rw [hi]; omega),if_neg hn,if_neg]; rintro ⟨e1,e2⟩; rcases hw with e | hw
    ·exact e1 e
    ·rw [find_none hw] at e2; omega
   rw [this,hi,hl]; show (0,(a++x::b).set a.length _)=_; rw [set_at]
  ·rw [view_mid a b (outOf c) k h6.1]
   have h5:=view_mid a b x k h2; rw [← hl] at h5; unfold goV; rw [h5,← hx]; simp only [hk]; by_cases e:k=c.new
   ·simp [e,outOf,effO]
   ·rw [if_neg (show ¬ k=(outOf c).key from e)]
    by_cases e2:k=x.key
    ·simp only [e,e2,and_false,if_false,or_true,true_and,if_true]
     rw [← e2] at h2 h3; rw [if_neg (by rw [← e2]; simp [e])]; rw [← e2,view_app,h2]; exact h3
    ·simp [e,e2]
/- several commands -/
def FitAll:(List UInt8→Option Eff)→List Cmd→Prop
 | _,[]=>True
 | v,c::cs=>Fit v c∧FitAll (goV v c) cs
theorem fold_view:∀ (cs:List Cmd) (l:List Out),KeysN l→FitAll (viewL l) cs→∃ l',foldF l cs=(0,l')∧KeysN l'∧viewL l'=cs.foldl goV (viewL l)
 | [],l,hN,_=>⟨l,rfl,hN,rfl⟩
 | c::cs,l,hN,h=>by
  obtain ⟨l1,h1,h2,h3⟩:=step_view hN h.1; obtain ⟨l2,h4,h5,h6⟩:=fold_view cs l1 h2 (by rw [h3]; exact h.2); refine ⟨l2,?_,h5,by rw [h6,h3]; rfl⟩; rw [foldF,h1,if_pos rfl]; exact h4
/-- the keys that a command touches -/
def Tch (c:Cmd) (k:List UInt8):Prop:=((c.kind=1∨c.kind=4)∧k=c.new)∨((c.kind=2∨c.kind=3∨c.kind=4)∧k=c.of)
theorem goV_far {v:List UInt8→Option Eff} {c:Cmd} {k:List UInt8} (h:¬ Tch c k):goV v c k=v k:=by
 unfold Tch at h; unfold goV; rw [if_neg (fun e=>h (Or.inl e)),if_neg (fun e=>h (Or.inr ⟨e.1.elim Or.inl (fun e=>Or.inr (Or.inr e)),e.2⟩)),if_neg (fun e=>h (Or.inr ⟨Or.inr (Or.inl e.1),e.2⟩))]
theorem goV_congr {v w:List UInt8→Option Eff} {c:Cmd} {k:List UInt8} (h:v k=w k):goV v c k=goV w c k:=by
 unfold goV; rw [h]
theorem fit_congr {v w:List UInt8→Option Eff} {c:Cmd} (h:∀ k,Tch c k→v k=w k) (hf:Fit v c):Fit w c:=by
 rcases hf with ⟨hk,hn,hv⟩ | ⟨hk,e,hv⟩ | ⟨hk,n,a,hv⟩ | ⟨hk,hn,⟨e,hv⟩,hw⟩
 ·exact Or.inl ⟨hk,hn,by rw [← h _ (Or.inl ⟨Or.inl hk,rfl⟩)]; exact hv⟩
 ·exact Or.inr (Or.inl ⟨hk,e,by rw [← h _ (Or.inr ⟨Or.inl hk,rfl⟩)]; exact hv⟩)
 ·exact Or.inr (Or.inr (Or.inl ⟨hk,n,a,by rw [← h _ (Or.inr ⟨Or.inr (Or.inl hk),rfl⟩)]; exact hv⟩))
 ·refine Or.inr (Or.inr (Or.inr ⟨hk,hn,⟨e,by rw [← h _ (Or.inr ⟨Or.inr (Or.inr hk),rfl⟩)]; exact hv⟩,?_⟩))
  rw [← h _ (Or.inl ⟨Or.inr hk,rfl⟩)]; exact hw
def Apart (c d:Cmd):Prop:=∀ k,Tch c k→¬ Tch d k
theorem fit_apart:∀ (cs:List Cmd) (v:List UInt8→Option Eff),cs.Pairwise Apart→(∀ c∈cs,Fit v c) →
  FitAll v cs∧(∀ c∈cs,∀ k,Tch c k→(cs.foldl goV v) k=goV v c k)∧∀ k,(∀ c∈cs,¬ Tch c k)→(cs.foldl goV v) k=v k
 | [],v,_,_=>⟨trivial,fun c hc=>(by cases hc),fun k _=>rfl⟩
 | c::cs,v,hp,hf=>by
  rw [List.pairwise_cons] at hp
  have hf2:∀ d∈cs,Fit (goV v c) d:=fun d hd=>fit_congr (fun k hk=>(goV_far (fun hc=>hp.1 d hd k hc hk)).symm) (hf d (List.mem_cons_of_mem _ hd))
  obtain ⟨h1,h2,h3⟩:=fit_apart cs (goV v c) hp.2 hf2; refine ⟨⟨hf c (List.mem_cons_self ..),h1⟩,fun d hd k hk=>?_,fun k hk=>?_⟩
  ·rw [List.foldl_cons]
   rcases List.mem_cons.1 hd with hd | hd
   ·subst hd
    exact h3 k fun e he=>hp.1 e he k hk
   ·rw [h2 d hd k hk]
    exact goV_congr (goV_far fun hc=>hp.1 d hd k hc hk)
  ·rw [List.foldl_cons,h3 k fun d hd=>hk d (List.mem_cons_of_mem _ hd)]
   exact goV_far (hk c (List.mem_cons_self ..))
/- two lists with the same effects -/
theorem len_le {α:Type} [DecidableEq α]:∀ (a b:List α),a.Nodup→(∀ x∈a,x∈b)→a.length≤b.length
 | [],b,_,_=>Nat.zero_le _
 | x::a,b,hN,h=>by
  rw [List.nodup_cons] at hN; have hx:=h x (List.mem_cons_self ..)
  have h1:=len_le a (b.erase x) hN.2 (fun y hy=>by
   have hne:y≠x:=fun e=>hN.1 (e ▸ hy)
   exact (List.mem_erase_of_ne hne).2 (h y (List.mem_cons_of_mem _ hy)))
  rw [List.length_erase_of_mem hx] at h1; have:0 < b.length:=List.length_pos_of_mem hx; rw [List.length_cons]; omega
theorem view_same {a b:List Out} (ha:KeysN a) (hb:KeysN b) (h:∀ k,viewL a k=viewL b k):a.length=b.length∧∀ o∈a,∃ p∈b,p.key=o.key∧effO p=effO o:=by
 have key:∀ {a b:List Out},KeysN a→KeysN b→(∀ k,viewL a k=viewL b k)→∀ o∈a,∃ p∈b,p.key=o.key∧effO p=effO o:=fun {a b} ha hb h o ho=>by
  have h1:=view_mem ha ho; rw [h] at h1; exact view_some h1
 have hlen:∀ {a b:List Out},KeysN a→KeysN b→(∀ k,viewL a k=viewL b k)→a.length≤b.length:=fun {a b} ha hb h=>by
  have:=len_le (a.map Out.key) (b.map Out.key) ha (fun k hk=>by
   obtain ⟨o,ho,rfl⟩:=List.mem_map.1 hk; obtain ⟨p,hp,e,-⟩:=key ha hb h o ho
   exact List.mem_map.2 ⟨p,hp,e⟩)
  simpa using this
 exact ⟨Nat.le_antisymm (hlen ha hb h) (hlen hb ha fun k=>(h k).symm),key ha hb h⟩
end Go.Proofs.YtfejagpjahoibaaGreatDoor
