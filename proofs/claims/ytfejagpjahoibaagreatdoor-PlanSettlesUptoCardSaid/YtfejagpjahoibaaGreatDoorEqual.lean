/- Values are equal, or not: value.Equal, value.Same, and the reference's. -/
import Derived.Test.YtfejagpjahoibaaGreatDoorClone
import Derived.StillTailTactics
set_option linter.unusedVariables false
namespace Go.Proofs.YtfejagpjahoibaaGreatDoor
open Go.RowKit
open Go.Lib (hid)
/-- whether a statement holds -/
noncomputable def dec (p:Prop):Bool:=@decide p (Classical.propDecidable p)
theorem dec_true {p:Prop} (h:p):dec p=true:=by unfold dec; exact @decide_eq_true p (Classical.propDecidable p) h
theorem dec_false {p:Prop} (h:¬ p):dec p=false:=by unfold dec; exact @decide_eq_false p (Classical.propDecidable p) h
theorem dec_iff {p q:Prop} (h:p ↔ q):dec p=dec q:=by rw [propext h]
theorem dec_cases (p:Prop):(p∧dec p=true)∨(¬ p∧dec p=false):=by
 by_cases h:p
 ·exact Or.inl ⟨h,dec_true h⟩
 ·exact Or.inr ⟨h,dec_false h⟩
theorem val_eq {x y:Val} (h1:x.kind=y.kind) (h2:x.t=y.t) (h3:x.n=y.n) (h4:x.m=y.m) (h5:x.s=y.s):x=y ↔ x.l=y.l:=by
 cases x; cases y; simp only [Val.kind,Val.t,Val.n,Val.m,Val.s,Val.l] at *; subst h1 h2 h3 h4 h5; simp
theorem take_eq_succ {α:Type} {x y:List α} {k:Nat} {a b:α} (h:x.take k=y.take k) (ha:x[k]? = some a) (hb:y[k]? = some b) (e:a=b):x.take (k+1)=y.take (k+1):=by
 subst e; rw [List.take_add_one,List.take_add_one,h,ha,hb]

set_option maxHeartbeats 4000000 in
set_option maxRecDepth 100000 in
theorem vEqual_of (x y:Val) (vx vy:Value) (w:World) (hs:∀ W,Below w.heap.size w W→Calls Tryz.prog 55 #[vx,vy] W fun e w'=>e=.returned (.bool (dec (x.l=y.l)))∧Below W.heap.size W w'):Calls Tryz.prog 73 #[.agg (valCs x vx).toArray,.agg (valCs y vy).toArray] w fun e w'=>e=.returned (.bool (dec (x=y)))∧Below w.heap.size w w':=by
 have hb:Below w.heap.size w ((w.alloc (.cells (valCs x vx).toArray 47)).alloc (.cells (valCs y vy).toArray 47)):=((Below.refl _ w).alloc (Nat.le_refl _) _).alloc (by simp) _; replace hs:=hid hs; by_cases h1:x.kind=y.kind
 ·by_cases h2:x.t=y.t
  ·by_cases h3:x.n=y.n
   ·by_cases h4:x.m=y.m
    ·by_cases h5:x.s=y.s
     ·have hc:=hid (dec_iff (val_eq h1 h2 h3 h4 h5))
      go_enter Tryz.func73,Tryz.ntmps73
      go_wp2_with fail
      refine (hs.out _ hb).mono ?_; rintro e w3 ⟨rfl,hb3⟩
      go_wp2_with fail
      go_ret; rw [hc.out]; exact ⟨rfl,hb.trans (hb3.mono hb.size)⟩
     ·have hne:dec (x=y)=false:=dec_false (fun e=>h5 (by rw [e]))
      rw [hne]
      go_enter Tryz.func73,Tryz.ntmps73
      go_wp2_with fail
      go_ret; exact ⟨rfl,hb⟩
    ·have hne:dec (x=y)=false:=dec_false (fun e=>h4 (by rw [e]))
     rw [hne]
     go_enter Tryz.func73,Tryz.ntmps73
     go_wp2_with fail
     all_goals
      go_ret; exact ⟨rfl,hb⟩
   ·have hne:dec (x=y)=false:=dec_false (fun e=>h3 (by rw [e]))
    rw [hne]
    go_enter Tryz.func73,Tryz.ntmps73
    go_wp2_with fail
    all_goals
     go_ret; exact ⟨rfl,hb⟩
  ·have hne:dec (x=y)=false:=dec_false (fun e=>h2 (by rw [e]))
   rw [hne]
   go_enter Tryz.func73,Tryz.ntmps73
   go_wp2_with fail
   all_goals
    go_ret; exact ⟨rfl,hb⟩
 ·have hne:dec (x=y)=false:=dec_false (fun e=>h1 (by rw [e]))
  rw [hne]
  go_enter Tryz.func73,Tryz.ntmps73
  go_wp2_with fail
  all_goals
   go_ret; exact ⟨rfl,hb⟩
set_option maxHeartbeats 4000000 in
set_option maxRecDepth 100000 in
theorem vSame_of (x y:List Val) (S T:Foot) (vx vy:Value) (w:World) (hx:ValsR S w x vx) (hy:ValsR T w y vy) (hl:x.length≤1048576) (hly:y.length≤1048576)
  (he:∀ a∈x,∀ b∈y,∀ (S T:Foot) (ca cb:List Value) (W:World),ValR S W a ca→ValR T W b cb→Calls Tryz.prog 73 #[.agg ca.toArray,.agg cb.toArray] W fun e w'=>e=.returned (.bool (dec (a=b)))∧Below W.heap.size W w') :
  Calls Tryz.prog 55 #[vx,vy] w fun e w'=>e=.returned (.bool (dec (x=y)))∧Below w.heap.size w w':=by
 obtain ⟨ax,kx,rfl,-⟩:=hx.slice; obtain ⟨ay,ky,rfl,hky⟩:=hy.slice; replace hx:=hid hx; replace hy:=hid hy; replace he:=hid he; generalize hr:dec (x=y)=r; replace hr:=hid hr; by_cases hlen:x.length=y.length
 ·rw [← hlen] at hy hky ⊢
  replace hlen:=hid hlen
  go_enter Tryz.func55,Tryz.ntmps55
  go_wp2
  go_loopw [5,13] (fun _ i wr=>∃ k:Nat,i=.int .i64 k∧k≤x.length∧x.take k=y.take k∧Below w.heap.size w wr) (fun _ i _=>x.length - (intOf i).toNat)
  case atStart=>exact ⟨0,rfl,Nat.zero_le _,rfl,Below.refl _ _⟩
  case round =>
   obtain ⟨k,rfl,hk,ht,hB⟩:=hrel; replace ht:=hid ht; by_cases hlt:k < x.length
   ·obtain ⟨a,ha⟩:∃ a,x[k]? = some a:=⟨_,List.getElem?_eq_getElem hlt⟩
    obtain ⟨b,hb⟩:∃ b,y[k]? = some b:=⟨_,List.getElem?_eq_getElem (by rw [← hlen.out]; exact hlt)⟩; obtain ⟨g,o,cs,hidx,hS,hg,hc,hR⟩:=(hx.out.below goodVal hB).at (P:=Tryz.prog) (t:=35) (by kernel_rfl) (fun _=>by kernel_rfl) ha; obtain ⟨g2,o2,cs2,hidx2,hS2,hg2,hc2,hR2⟩:=(hy.out.below goodVal hB).at (P:=Tryz.prog) (t:=35) (by kernel_rfl) (fun _=>by kernel_rfl) hb; have hdr:Below wr.heap.size wr wr.drew:=(Below.refl _ _).drew; have hcall:=hid (he.out a (List.mem_of_getElem? ha) b (List.mem_of_getElem? hb) _ _ _ _ _ (goodVal.below hR hdr) (goodVal.below hR2 hdr)); obtain ⟨a1,k1,rfl,-⟩:=valR_open hR; obtain ⟨a2,k2,rfl,-⟩:=valR_open hR2; have c0:=hc 0 _ rfl; have c1:=hc 1 _ rfl; have c2:=hc 2 _ rfl; have c3:=hc 3 _ rfl; have c4:=hc 4 _ rfl; have c5:=hc 5 _ rfl
    have d0:=hc2 0 _ rfl; have d1:=hc2 1 _ rfl; have d2:=hc2 2 _ rfl; have d3:=hc2 3 _ rfl; have d4:=hc2 4 _ rfl; have d5:=hc2 5 _ rfl; rw [Nat.add_zero] at c0 d0; clear hc hc2 hR hR2 hdr; replace ha:=hid ha; replace hb:=hid hb
    go_wp2_with fail
    go_still_tail 8,(by kernel_rfl)
    go_wp2_with fail
    refine hcall.out.mono ?_; rintro e w2 ⟨rfl,hb2⟩; have hB2:=hB.trans ((show Below wr.heap.size wr w2 from ((Below.refl _ _).drew).trans hb2).mono hB.size); clear c0 c1 c2 c3 c4 c5 d0 d1 d2 d3 d4 d5 hcall hb2 hidx hidx2; rcases dec_cases (a=b) with ⟨hab,hd⟩ | ⟨hab,hd⟩
    ·rw [hd]
     have hnx:=hid (take_eq_succ ht.out ha.out hb.out hab); clear hab hd
     go_wp2
     exact ⟨⟨k+1,by go_num,by omega,hnx.out,hB2⟩,by simp [intOf]; omega⟩
    ·rw [hd]
     have hne:dec (x=y)=false:=dec_false (fun e=>hab (by have h1:=ha.out; rw [e,hb.out] at h1; injection h1 with h1; exact h1.symm)); rw [hr.out] at hne; replace hne:=hid hne; clear hab hd
     go_wp2
     go_ret; exact ⟨by rw [hne.out]; rfl,hB2⟩
   ·have hkl:k=x.length:=by omega
    subst hkl; have heq:dec (x=y)=true:=dec_true (by have:=ht.out; rw [List.take_of_length_le (Nat.le_refl _),List.take_of_length_le (by rw [hlen.out]; exact Nat.le_refl _)] at this; exact this); rw [hr.out] at heq; replace heq:=hid heq
    go_wp2
    go_ret; exact ⟨by rw [heq.out]; rfl,hB⟩
 ·have hne:dec (x=y)=false:=dec_false (fun e=>hlen (by rw [e]))
  have hne2:((x.length:Int) == (y.length:Int))=false:=by simp; omega
  rw [hr.out] at hne; replace hne:=hid hne
  go_enter Tryz.func55,Tryz.ntmps55
  go_wp2
  go_ret; exact ⟨by rw [hne.out]; rfl,Below.refl _ _⟩
theorem vEqual_any (x:Val):ValB x→∀ (y:Val),ValB y→∀ (S T:Foot) (ca cb:List Value) (w:World),ValR S w x ca→ValR T w y cb→Calls Tryz.prog 73 #[.agg ca.toArray,.agg cb.toArray] w fun e w'=>e=.returned (.bool (dec (x=y)))∧Below w.heap.size w w':=by
 suffices h:∀ n (x:Val),SizeOf.sizeOf x < n→ValB x→∀ (y:Val),ValB y→∀ (S T:Foot) (ca cb:List Value) (w:World),ValR S w x ca→ValR T w y cb→Calls Tryz.prog 73 #[.agg ca.toArray,.agg cb.toArray] w fun e w'=>e=.returned (.bool (dec (x=y)))∧Below w.heap.size w w' from h _ x (Nat.lt_succ_self _)
 intro n
 induction n with
 | zero=>intro x h; omega
 | succ n ih =>
  intro x hx hbx y hby S T ca cb w hr hr2; obtain ⟨a1,k1,rfl,hv⟩:=valR_open hr; obtain ⟨a2,k2,rfl,hv2⟩:=valR_open hr2
  refine vEqual_of x y _ _ w fun W hW=>vSame_of x.l y.l S T _ _ W (hv.below goodVal hW) (hv2.below goodVal hW) hbx.len hby.len fun a ha b hb S T ca cb W h1 h2=>ih a ?_ (hbx.mem ha) b (hby.mem hb) S T ca cb W h1 h2
  have:=val_mem_lt ha; omega
theorem vSame_any (x y:List Val) (hx:ValsB x) (hy:ValsB y) (S T:Foot) (vx vy:Value) (w:World) (hrx:ValsR S w x vx) (hry:ValsR T w y vy):Calls Tryz.prog 55 #[vx,vy] w fun e w'=>e=.returned (.bool (dec (x=y)))∧Below w.heap.size w w' :=
 vSame_of x y S T vx vy w hrx hry hx.1 hy.1 fun a ha b hb S T ca cb W h1 h2=>vEqual_any a (hx.2 a ha) b (hy.2 b hb) S T ca cb W h1 h2

end Go.Proofs.YtfejagpjahoibaaGreatDoor
