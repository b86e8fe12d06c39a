/- Package net: find; slices.IndexFunc and slices.Delete at effects. -/
import Derived.Test.YtfejagpjahoibaaGreatDoorEqual
set_option linter.unusedVariables false
namespace Go.Proofs.YtfejagpjahoibaaGreatDoor
open Go.RowKit
open Go.Lib (hid)
/-- the first index at which p holds, or -1 -/
def idxF {α:Type} (p:α→Bool) (l:List α):Int:=match l.findIdx? p with | some i=>i | none=>-1
theorem idxF_hit {α:Type} {p:α→Bool} {l:List α} {k:Nat} {x:α} (hx:l[k]? = some x) (hp:p x=true) (hn:∀ i y,i < k→l[i]? = some y→p y=false):idxF p l=k:=by
 unfold idxF; have hk:=(List.getElem?_eq_some_iff.1 hx).1; have hxk:l[k]=x:=(List.getElem?_eq_some_iff.1 hx).2
 have:l.findIdx? p=some k:=by
  rw [List.findIdx?_eq_some_iff_getElem]; refine ⟨hk,by rw [hxk]; exact hp,fun j hj=>?_⟩; have:=hn j l[j] hj (List.getElem?_eq_getElem (by omega)); rw [this]; simp
 rw [this]
theorem idxF_miss {α:Type} {p:α→Bool} {l:List α} (hn:∀ i y,i < l.length→l[i]? = some y→p y=false):idxF p l = -1:=by
 unfold idxF
 have:l.findIdx? p=none:=by
  rw [List.findIdx?_eq_none_iff]; intro x hx; obtain ⟨i,hi⟩:=List.mem_iff_getElem?.1 hx; exact hn i x (List.getElem?_eq_some_iff.1 hi).1 hi
 rw [this]
theorem idxF_bounds {α:Type} (p:α→Bool) (l:List α):idxF p l = -1∨∃ k x,idxF p l=(k:Nat)∧k < l.length∧l[k]? = some x∧p x=true∧∀ i y,i < k→l[i]? = some y→p y=false:=by
 unfold idxF; rcases h:l.findIdx? p with _ | k
 ·exact Or.inl rfl
 ·right
  rw [List.findIdx?_eq_some_iff_getElem] at h; obtain ⟨h1,h2,h3⟩:=h; refine ⟨k,l[k],rfl,h1,List.getElem?_eq_getElem h1,h2,fun i y hi hy=>?_⟩; have:=h3 i hi; obtain ⟨hil,rfl⟩:=List.getElem?_eq_some_iff.1 hy; simpa using this
set_option maxHeartbeats 2000000 in
set_option maxRecDepth 100000 in
theorem indexFuncOut_any (p:Out→Bool) (l:List Out) (hl:l.length≤1048576) (B:Nat) (S:Foot) (v:Value) (w:World) (hr:SlR 5 OutR S w l v)
  (hf:∀ x∈l,∀ (cs:List Value) (W:World),Below w.heap.size w W→OutR S W x cs→Calls Tryz.prog 70 #[.agg cs.toArray,pt B] W fun e w'=>e=.returned (.bool (p x))∧Below W.heap.size W w') :
  Calls Tryz.prog 22 #[v,.func (Fn.func 70) #[] #[pt B]] w fun e w'=>e=.returned (iv (idxF p l))∧Below w.heap.size w w':=by
 obtain ⟨a,c,rfl,-⟩:=hr.slice; replace hr:=hid hr; replace hf:=hid hf; generalize hres:idxF p l=r; replace hres:=hid hres
 go_enter Tryz.func22,Tryz.ntmps22
 go_wp2
 go_loopw [5,8] (fun _ i wr=>∃ k:Nat,i=.int .i64 k∧k≤l.length∧Hid (∀ i y,i < k→l[i]? = some y→p y=false)∧Below w.heap.size w wr) (fun _ i _=>l.length - (intOf i).toNat)
 case atStart=>exact ⟨0,rfl,Nat.zero_le _,hid (fun i y h=>absurd h (by omega)),Below.refl _ _⟩
 case round =>
  obtain ⟨k,rfl,hk,hn,hB⟩:=hrel; by_cases hlt:k < l.length
  ·obtain ⟨x,hx⟩:∃ x,l[k]? = some x:=⟨_,List.getElem?_eq_getElem hlt⟩
   obtain ⟨g,o,cs,hidx,hS,hg,hc,hR⟩:=(hr.out.below goodOut hB).at (P:=Tryz.prog) (t:=23) (by kernel_rfl) (fun _=>by kernel_rfl) hx; have hcall:=hid (hf.out x (List.mem_of_getElem? hx) _ _ hB hR); obtain ⟨a1,k1,rfl,-⟩:=id hR; have c0:=hc 0 _ rfl; have c1:=hc 1 _ rfl; have c2:=hc 2 _ rfl; have c3:=hc 3 _ rfl; have c4:=hc 4 _ rfl; rw [Nat.add_zero] at c0; clear hR hc; replace hx:=hid hx
   go_wp2_with fail
   refine hcall.out.mono ?_; rintro e w2 ⟨rfl,hb2⟩; have hB2:=hB.trans (hb2.mono hB.size); clear c0 c1 c2 c3 c4 hcall hb2 hidx
   cases hp:p x with
   | true =>
    have hfin:=idxF_hit hx.out hp hn.out; rw [hres.out] at hfin; replace hfin:=hid hfin; clear hp
    go_wp2
    go_ret; exact ⟨by rw [hfin.out]; rfl,hB2⟩
   | false =>
    have hn2:=hid (show ∀ i y,i < k+1→l[i]? = some y→p y=false from fun i y hi hy=>by
     by_cases e:i=k
     ·subst e; rw [hx.out] at hy; injection hy with hy; rw [← hy]; exact hp
     ·exact hn.out i y (by omega) hy)
    clear hp
    go_wp2
    exact ⟨⟨k+1,by go_num,by omega,hn2,hB2⟩,by simp [intOf]; omega⟩
  ·have hkl:k=l.length:=by omega
   subst hkl; have hfin:=idxF_miss hn.out; rw [hres.out] at hfin; replace hfin:=hid hfin
   go_wp2
   go_ret; exact ⟨by rw [hfin.out]; rfl,hB⟩
def keyP (key:List UInt8) (o:Out):Bool:=decide (o.key=key)
set_option maxRecDepth 100000 in
theorem findC_any (key:List UInt8) (x:Out) (cs:List Value) (S:Foot) (w:World) (B:Nat) (hB:w.cell? ⟨B,0,none⟩=some (sv key)) (hBl:B < w.heap.size) (hr:OutR S w x cs) :
  Calls Tryz.prog 70 #[.agg cs.toArray,pt B] w fun e w'=>e=.returned (.bool (keyP key x))∧Below w.heap.size w w':=by
 obtain ⟨a1,k1,rfl,-⟩:=hr; have hb:Below w.heap.size w (w.alloc (.cells (outCs x (.slice a1 x.args.length k1)).toArray 37)):=(Below.refl _ w).alloc (Nat.le_refl _) _; by_cases hk:x.key=key
 ·have e:keyP key x=true:=by unfold keyP; simpa using hk
  rw [e]; clear e
  go_enter Tryz.func70,Tryz.ntmps70
  go_wp2
  go_ret; exact ⟨rfl,hb⟩
 ·have e:keyP key x=false:=by unfold keyP; simpa using hk
  have hkb:(x.key == key)=false:=by simpa using hk
  rw [e]; clear e
  go_enter Tryz.func70,Tryz.ntmps70
  go_wp2
  go_ret; exact ⟨rfl,hb⟩
def findO (l:List Out) (key:List UInt8):Int:=idxF (keyP key) l
set_option maxRecDepth 100000 in
theorem find_any (l:List Out) (hl:l.length≤1048576) (key:List UInt8) (S:Foot) (v:Value) (w:World) (hr:SlR 5 OutR S w l v) :
  Calls Tryz.prog 53 #[v,sv key] w fun e w'=>e=.returned (iv (findO l key))∧Below w.heap.size w w':=by
 have hb:Below w.heap.size w (w.alloc (.cells #[sv key] 9)):=(Below.refl _ w).alloc (Nat.le_refl _) _; have hc:=heap_alloc_new' w (.cells #[sv key] 9); have hcall:=hid (indexFuncOut_any (keyP key) l hl w.heap.size S v _ (hr.below goodOut hb) (fun x hx cs W hW hR=>findC_any key x cs S W w.heap.size ((hW.cell (p:=⟨w.heap.size,0,none⟩) (by simp)).trans (cell_of hc)) (Nat.lt_of_lt_of_le (by simp) hW.size) hR)); clear hc; obtain ⟨a,c,rfl,-⟩:=hr.slice
 go_enter Tryz.func53,Tryz.ntmps53
 go_wp2_with fail
 refine hcall.out.mono ?_; rintro e w2 ⟨rfl,hb2⟩
 go_wp2
 go_ret; exact ⟨rfl,hb.trans (hb2.mono hb.size)⟩
end Go.Proofs.YtfejagpjahoibaaGreatDoor
