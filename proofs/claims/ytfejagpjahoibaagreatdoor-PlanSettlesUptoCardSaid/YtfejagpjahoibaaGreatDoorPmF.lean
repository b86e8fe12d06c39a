/- retroactlaw12.weight, Few; retroactlaw45.effects, Few, weight. -/
import Derived.Test.YtfejagpjahoibaaGreatDoorPlE
set_option linter.unusedVariables false
set_option linter.unusedSimpArgs false
namespace Go.Proofs.YtfejagpjahoibaaGreatDoor
open Go.RowKit
open Go.Lib (hid)
/-- the weight of x, as retroactlaw12 reckons it: bounds alone -/
def WPost (x:Val) (deep:Nat) (B:Nat) (w:World) (e:Ending) (w':World):Prop :=
 ∃ m:Nat,e=.returned (iv m)∧10≤m∧m≤2100000+1200 * deep∧Below B w w'
set_option maxHeartbeats 4000000 in
set_option maxRecDepth 100000 in
theorem weight_of (n:Nat):∀ (x:Val),SizeOf.sizeOf x < n→ValB x→∀ (d:Nat),d≤21→∀ (S:Foot) (cs:List Value) (w:World),ValR S w x cs →
  Calls Tryz.prog 40 #[.agg cs.toArray,iv ((d:Int) - 1)] w (WPost x d w.heap.size w):=by
 induction n with
 | zero=>intro x h; omega
 | succ n ih =>
  intro x hn hx d hd S cs w hR; obtain ⟨a,k0,rfl,hl⟩:=valR_open hR; have hxl:=hx.len
  obtain ⟨ht,hs⟩:x.t.length≤1048576∧x.s.length≤1048576:=by cases hx; exact ⟨by assumption,by assumption⟩
  have hbx:=hid (heap_alloc_new' w (.cells (valCs x (.slice a x.l.length k0)).toArray 47 (0,0)))
  have hb0:∀ o,Below w.heap.size w (w.alloc o):=fun o=>(Below.refl _ w).alloc (Nat.le_refl _) o
  replace hl:=hid hl; replace hR:=hid hR; have e1:IntKind.i64.wrap (10+(x.t.length:Int))=10+(x.t.length:Int):=i64_wrap_id _ (by omega) (by omega); have e2:IntKind.i64.wrap (10+(x.t.length:Int)+(x.s.length:Int))=10+(x.t.length:Int)+(x.s.length:Int):=i64_wrap_id _ (by omega) (by omega); by_cases h0:d=0
  ·subst h0
   have q1:decide (((0:Nat):Int) - 1 < 0)=true:=by decide
   go_enter Tryz.func40,Tryz.ntmps40
   go_wp2_with fail
   go_ret; exact ⟨100000,rfl,by decide,by decide,hb0 _⟩
  ·have q1:decide ((d:Int) - 1 < 0)=false:=decide_eq_false (by omega)
   obtain ⟨dd,hdd⟩:∃ dd:Int,dd=(d:Int) - 1:=⟨_,rfl⟩; rw [← hdd] at q1 ⊢; replace hdd:=hid hdd
   go_enter Tryz.func40,Tryz.ntmps40
   go_wp2_with fail
   go_loopw [5,6] (fun nv i wr=>∃ k m:Nat,i=.int .i64 k∧nv=iv m∧k≤x.l.length∧10≤m∧m≤2100000+1200 * d∧Hid (wr.heap[w.heap.size]? = some (.cells (valCs x (.slice a x.l.length k0)).toArray 47 (0,0)))∧Below w.heap.size w wr) (fun _ i _=>x.l.length - (intOf i).toNat)
   case atStart =>
    refine ⟨0,10+x.t.length+x.s.length,rfl,?_,Nat.zero_le _,by omega,by omega,hbx,hb0 _⟩
    ·go_num
   case round =>
    clear hbx hb0 e1 e2; obtain ⟨k,m,rfl,rfl,hk,hm1,hm2,hbx,hB⟩:=hrel; have d0:wr.cell? ⟨w.heap.size,5,none⟩=some (.slice a x.l.length k0):=(cell_of (i:=5) hbx.out).trans rfl; by_cases hlt:k < x.l.length
    ·have q2:decide ((k:Int) < (x.l.length:Int))=true:=decide_eq_true (by omega)
     by_cases hm:m≤1100
     ·have q3:decide ((m:Int)≤1100)=true:=decide_eq_true (by omega)
      obtain ⟨y,hy⟩:∃ y,x.l[k]? = some y:=⟨_,List.getElem?_eq_getElem hlt⟩; have hym:=List.mem_of_getElem? hy; obtain ⟨g,o,cs,hidx,hS,hg,hc,hr⟩:=(hl.out.below goodVal hB).at (P:=Tryz.prog) (t:=35) (by kernel_rfl) (fun _=>by kernel_rfl) hy; have hcall:=hid (ih y (by have:=val_mem_lt hym; omega) (hx.mem hym) (d - 1) (by omega) _ _ wr hr); obtain ⟨a1,k1,rfl,-⟩:=valR_open hr; have c0:=hc 0 _ rfl; have c1:=hc 1 _ rfl; have c2:=hc 2 _ rfl; have c3:=hc 3 _ rfl; have c4:=hc 4 _ rfl; have c5:=hc 5 _ rfl; rw [Nat.add_zero] at c0; clear hc; have hdd':dd=(d:Int) - 1:=hdd.out
      have e3:IntKind.i64.wrap (dd - 1)=((d - 1:Nat):Int) - 1:=by
       rw [IntKind.wrap_i64]; omega
      clear hdd'
      go_wp2_with fail
      refine hcall.out.mono ?_; rintro e w2 ⟨m2,rfl,hm3,hm4,hb2⟩
      have e4:IntKind.i64.wrap ((m:Int)+(m2:Int))=((m+m2:Nat):Int):=by rw [i64_wrap_id _ (by omega) (by omega)]; omega
      have hbx2:=hid (below_keep hb2 hbx.out (lt_of_heap hbx.out)); have hB2:=hB.trans (hb2.mono hB.size)
      have hm5:m+m2≤2100000+1200 * d:=by omega
      clear hb2 c0 c1 c2 c3 c4 c5 hcall hidx hbx d0
      go_wp2_with fail
      exact ⟨⟨k+1,m+m2,by go_num,rfl,by omega,by omega,hm5,hbx2,hB2⟩,by simp [intOf]; omega⟩
     ·have q3:decide ((m:Int)≤1100)=false:=decide_eq_false (by omega)
      go_wp2_with fail
      go_ret; exact ⟨m,rfl,hm1,hm2,hB⟩
    ·have q2:decide ((k:Int) < (x.l.length:Int))=false:=decide_eq_false (by omega)
     have hkl:k=x.l.length:=by omega
     subst hkl
     go_wp2_with fail
     go_ret; exact ⟨m,rfl,hm1,hm2,hB⟩
set_option maxHeartbeats 4000000 in
set_option maxRecDepth 100000 in
theorem few12_any (x:Val) (hx:ValB x) (S:Foot) (cs:List Value) (w:World) (hR:ValR S w x cs):Calls Tryz.prog 14 #[.agg cs.toArray] w ((fun e w'=>∃ b:Bool,e=.returned (.bool b)∧Below w.heap.size w w')):=by
 obtain ⟨a,k0,rfl,hl⟩:=valR_open hR
 have hb0:∀ o,Below w.heap.size w (w.alloc o):=fun o=>(Below.refl _ w).alloc (Nat.le_refl _) o
 have hcall:=hid (fun o=>weight_of _ x (Nat.lt_succ_self _) hx 21 (by decide) S _ (w.alloc o) (goodVal.below hR (hb0 o))); have hbx:=hid (heap_alloc_new' w (.cells (valCs x (.slice a x.l.length k0)).toArray 47 (0,0))); replace hb0:=hid hb0
 go_enter Tryz.func14,Tryz.ntmps14
 go_wp2_with fail
 refine (hcall.out _).mono ?_; rintro e w2 ⟨m,rfl,hm1,hm2,hb2⟩; have hB:=hid ((hb0.out _).trans (hb2.mono (by simp))); by_cases h:m≤1100
 ·have q1:decide ((m:Int)≤1100)=true:=decide_eq_true (by omega)
  go_wp2_with fail
  go_ret; exact ⟨true,rfl,hB.out⟩
 ·have q1:decide ((m:Int)≤1100)=false:=decide_eq_false (by omega)
  go_wp2_with fail
  go_ret; exact ⟨false,rfl,hB.out⟩
/-- what effects lets in -/
def EffS (l:List Out) (n:Nat):Prop:=l.length≤n∧∀ o∈l,o.key.length≤100∧o.name.length≤100∧o.args.length≤3
set_option maxHeartbeats 4000000 in
set_option maxRecDepth 100000 in
theorem effects_any (l:List Out) (n:Nat) (hn:n≤1000) (hl:l.length≤1048576) (hv:∀ o∈l,ValsB o.args) (S:Foot) (v:Value) (w:World) (hR:SlR 5 OutR S w l v) :
  Calls Tryz.prog 6 #[v,iv n] w fun e w'=>∃ b:Bool,e=.returned (.bool b)∧(b=true→EffS l n)∧Below w.heap.size w w':=by
 obtain ⟨a,cp,rfl,-⟩:=hR.slice; have hB:=hid (Below.refl w.heap.size w); have hl1:=hl; replace hR:=hid hR; replace hv:=hid hv; have hS0:Hid (∀ o∈l.take 0,o.key.length≤100∧o.name.length≤100∧o.args.length≤3):=hid (fun o ho=>by cases ho)
 go_enter Tryz.func6,Tryz.ntmps6
 go_wp2_with fail
 go_loopg [5] l.length (fun f v5 wr=>∃ (i:Nat),v5=iv i∧i+f=l.length∧Hid (∀ o∈l.take i,o.key.length≤100∧o.name.length≤100∧o.args.length≤3)∧Hid (Below w.heap.size w wr))
 case atStart=>exact ⟨0,rfl,by omega,hS0,hB⟩
 case round =>
  obtain ⟨i,rfl,hif,hS,hB⟩:=hrel; clear hS0; by_cases hil:i < l.length
  ·have q1:decide ((i:Int) < (l.length:Int))=true:=decide_eq_true (by omega)
   have q1':decide (i < l.length)=true:=decide_eq_true hil; by_cases hin:i≤n
   ·have q2:decide ((i:Int)≤(n:Int))=true:=decide_eq_true (by omega)
    have q2':decide (i≤n)=true:=decide_eq_true hin; obtain ⟨o,ho⟩:∃ o,l[i]? = some o:=⟨_,List.getElem?_eq_getElem hil⟩; obtain ⟨g,off,cs,hidx,-,-,hcc,hRo⟩:=(hR.out.below goodOut hB.out).at (P:=Tryz.prog) (t:=23) (by kernel_rfl) (fun _=>by kernel_rfl) ho; obtain ⟨a1,k1,rfl,v1⟩:=hRo; have hvo:=hid (hv.out o (List.mem_of_getElem? ho)); obtain ⟨ky,nm,ar,pb,tk⟩:=o; replace v1:ValsR S wr ar (.slice a1 ar.length k1):=v1; replace hvo:Hid (ValsB ar):=hvo; have c0:=hcc 0 _ rfl; have c1:=hcc 1 _ rfl; have c2:=hcc 2 _ rfl; rw [Nat.add_zero] at c0; replace c0:wr.cell? ⟨g,off,none⟩=some (sv ky):=c0; replace c1:wr.cell? ⟨g,off+1,none⟩=some (sv nm):=c1; replace c2:wr.cell? ⟨g,off+2,none⟩=some (.slice a1 ar.length k1):=c2; clear hcc; replace v1:=hid v1
    replace ho:=hid ho; by_cases b1:100 < ky.length
    ·have q3:decide ((100:Int) < (ky.length:Int))=true:=decide_eq_true (by omega)
     have q3':decide (100 < ky.length)=true:=decide_eq_true b1
     go_wp2_with fail
     go_ret; exact ⟨false,rfl,fun h=>(by cases h),hB.out⟩
    have q3:decide ((100:Int) < (ky.length:Int))=false:=decide_eq_false (by omega); have q3':decide (100 < ky.length)=false:=decide_eq_false b1; by_cases b2:100 < nm.length
    ·have q4:decide ((100:Int) < (nm.length:Int))=true:=decide_eq_true (by omega)
     have q4':decide (100 < nm.length)=true:=decide_eq_true b2
     go_wp2_with fail
     go_ret; exact ⟨false,rfl,fun h=>(by cases h),hB.out⟩
    have q4:decide ((100:Int) < (nm.length:Int))=false:=decide_eq_false (by omega); have q4':decide (100 < nm.length)=false:=decide_eq_false b2; by_cases b3:3 < ar.length
    ·have q5:decide ((3:Int) < (ar.length:Int))=true:=decide_eq_true (by omega)
     have q5':decide (3 < ar.length)=true:=decide_eq_true b3
     go_wp2_with fail
     go_ret; exact ⟨false,rfl,fun h=>(by cases h),hB.out⟩
    have q5:decide ((3:Int) < (ar.length:Int))=false:=decide_eq_false (by omega); have q5':decide (3 < ar.length)=false:=decide_eq_false b3
    have hS2:Hid (∀ o∈l.take (i+1),o.key.length≤100∧o.name.length≤100∧o.args.length≤3):=hid (fun z hz=>by
     rw [List.take_add_one,ho.out] at hz; rcases List.mem_append.1 hz with hz | hz
     ·exact hS.out z hz
     ·rw [Option.toList_some,List.mem_singleton] at hz
      subst hz
      exact ⟨by show ky.length≤100; omega,by show nm.length≤100; omega,by show ar.length≤3; omega⟩)
    clear hS
    go_wp2_with fail
    go_loopg [6] ar.length (fun f v6 wx=>∃ (k:Nat),v6=iv k∧k+f=ar.length∧Hid (Below w.heap.size w wx))
    case atStart=>exact ⟨0,rfl,by omega,hB⟩
    case round =>
     obtain ⟨k,rfl,hkf,hBx⟩:=hrel; clear c0 c1 c2 q3 q3' q4 q4' q5 q5' hidx v1 hB; have ho':=ho.out; obtain ⟨g2,off2,cs2,hidx2,-,-,hcc2,hRo2⟩:=(hR.out.below goodOut hBx.out).at (P:=Tryz.prog) (t:=23) (by kernel_rfl) (fun _=>by kernel_rfl) ho'; obtain ⟨a2,k2,rfl,v2⟩:=hRo2; replace v2:ValsR S wr ar (.slice a2 ar.length k2):=v2; have c2:=hcc2 2 _ rfl; replace c2:wr.cell? ⟨g2,off2+2,none⟩=some (.slice a2 ar.length k2):=c2; clear hcc2 ho'; by_cases hk:k < ar.length
     ·have q3:decide ((k:Int) < (ar.length:Int))=true:=decide_eq_true (by omega)
      have q3':decide (k < ar.length)=true:=decide_eq_true hk; obtain ⟨y,hy⟩:∃ y,ar[k]? = some y:=⟨_,List.getElem?_eq_getElem hk⟩; have hym:=List.mem_of_getElem? hy; obtain ⟨g3,o3,cs3,hidx3,-,-,hcc3,hr3⟩:=v2.at (P:=Tryz.prog) (t:=35) (by kernel_rfl) (fun _=>by kernel_rfl) hy; have hcall:=hid (few12_any y (hvo.out.2 y hym) _ _ wr hr3); obtain ⟨a3,k3,rfl,-⟩:=valR_open hr3; have d0:=hcc3 0 _ rfl; have d1:=hcc3 1 _ rfl; have d2:=hcc3 2 _ rfl; have d3:=hcc3 3 _ rfl; have d4:=hcc3 4 _ rfl; have d5:=hcc3 5 _ rfl; rw [Nat.add_zero] at d0; clear hcc3 hr3 hy hym; replace v2:=hid v2
      go_wp2_with fail
      refine hcall.out.mono ?_; rintro e w5 ⟨b,rfl,hb5⟩; have hB5:=hid (hBx.out.trans (hb5.mono hBx.out.size)); clear hcall hb5 hBx
      cases b with
      | false =>
       go_wp2_with fail
       go_ret; exact ⟨false,rfl,fun h=>(by cases h),hB5.out⟩
      | true =>
       clear hidx2 c2 hidx3 d0 d1 d2 d3 d4 d5
       go_wp2_with fail
       go_roundg (ar.length - (k+1))
       case measure=>omega
       case rel=>exact ⟨k+1,by go_num,by omega,hB5⟩
     ·have q3:decide ((k:Int) < (ar.length:Int))=false:=decide_eq_false (by omega)
      have q3':decide (k < ar.length)=false:=decide_eq_false hk; replace v2:=hid v2
      go_wp2_with fail
      go_roundg (l.length - (i+1))
      case measure=>omega
      case rel=>exact ⟨i+1,by go_num,by omega,hS2,hBx⟩
   ·have q2:decide ((i:Int)≤(n:Int))=false:=decide_eq_false (by omega)
    have q2':decide (i≤n)=false:=decide_eq_false hin; have q3:decide ((l.length:Int)≤(n:Int))=false:=decide_eq_false (by omega); have q3':decide (l.length≤n)=false:=decide_eq_false (by omega)
    go_wp2_with fail
    go_ret; exact ⟨false,rfl,fun h=>(by cases h),hB.out⟩
  ·have q1:decide ((i:Int) < (l.length:Int))=false:=decide_eq_false (by omega)
   have q1':decide (i < l.length)=false:=decide_eq_false hil; have hS3:=hid (show ∀ o∈l,o.key.length≤100∧o.name.length≤100∧o.args.length≤3 from fun o ho=>hS.out o (by rw [List.take_of_length_le (by omega)]; exact ho)); by_cases hln:l.length≤n
   ·have q3:decide ((l.length:Int)≤(n:Int))=true:=decide_eq_true (by omega)
    have q3':decide (l.length≤n)=true:=decide_eq_true hln
    go_wp2_with fail
    go_ret; exact ⟨true,rfl,fun _=>⟨hln,hS3.out⟩,hB.out⟩
   ·have q3:decide ((l.length:Int)≤(n:Int))=false:=decide_eq_false (by omega)
    have q3':decide (l.length≤n)=false:=decide_eq_false (by omega)
    go_wp2_with fail
    go_ret; exact ⟨false,rfl,fun h=>(by cases h),hB.out⟩
end Go.Proofs.YtfejagpjahoibaaGreatDoor
