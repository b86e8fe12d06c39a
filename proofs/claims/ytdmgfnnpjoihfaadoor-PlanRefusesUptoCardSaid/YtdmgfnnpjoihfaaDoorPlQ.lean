/- plan, walks: a queue of ints: a slice that is cut at its head and grows at its end. -/
import Derived.Test.YtdmgfnnpjoihfaaDoorPlP
import Derived.Test.YtdmgfnnpjoihfaaDoorDel
import Derived.Deep.AppendSrc
set_option linter.unusedVariables false
set_option linter.unusedSimpArgs false
namespace Go.Proofs.YtdmgfnnpjoihfaaDoor
open Go.RowKit
open Go.Lib (hid)
/-- the queue l, in a block from B on -/
def QI (B:Nat) (w:World) (l:List Nat) (v:Value):Prop :=
 ∃ a c,v=.slice a l.length c∧l.length≤c∧(c=0∨∃ g o cur,a=some ⟨g,o,none⟩∧B≤g∧w.heap[g]? = some (.cells cur 3 (0,0))∧o+c≤cur.size∧∀ i (x:Nat),l[i]? = some x→cur[o+i]? = some (iv x))
theorem QI.below {B:Nat} {w w':World} {l:List Nat} {v:Value} (h:QI B w l v) (hb:Below w.heap.size w w'):QI B w' l v:=by
 obtain ⟨a,c,h1,h2,h3⟩:=h; refine ⟨a,c,h1,h2,h3.imp id ?_⟩; rintro ⟨g,o,cur,e1,e2,e3,e4,e5⟩; exact ⟨g,o,cur,e1,e2,(hb.block g (lt_of_some e3)).trans e3,e4,e5⟩
theorem QI.keep {B:Nat} {w w':World} {l:List Nat} {v:Value} (h:QI B w l v) (hb:∀ k,B≤k→w'.heap[k]? = w.heap[k]?):QI B w' l v:=by
 obtain ⟨a,c,h1,h2,h3⟩:=h; refine ⟨a,c,h1,h2,h3.imp id ?_⟩; rintro ⟨g,o,cur,e1,e2,e3,e4,e5⟩; exact ⟨g,o,cur,e1,e2,(hb g e2).trans e3,e4,e5⟩
/-- the head, and the queue without it -/
theorem QI.pop {B:Nat} {w:World} {x:Nat} {q:List Nat} {v:Value} (h:QI B w (x::q) v) :
  ∃ g o c v',v=.slice (some ⟨g,o,none⟩) (q.length+1) c∧0 < c∧(∀ kd W,(Instr.indexAt 26 (.slice (some ⟨g,o,none⟩) (q.length+1) c) (.int kd 0)).run Tryd.prog W=.ok (.pointer (some ⟨g,o,none⟩)) W) ∧
   w.cell? ⟨g,o,none⟩=some (iv x)∧(∀ W,(Instr.sliceAt 26 (.slice (some ⟨g,o,none⟩) (q.length+1) c) (some (.int .i64 1)) none none).run Tryd.prog W=.ok v' W)∧QI B w q v':=by
 obtain ⟨a,c,rfl,h2,h3⟩:=h; rw [List.length_cons] at h2; rcases h3 with rfl | ⟨g,o,cur,rfl,e2,e3,e4,e5⟩
 ·omega
 ·refine ⟨g,o,c,sliced (some ⟨g,o,none⟩) 1 (q.length+1) c 1,by rw [List.length_cons],by omega,fun kd W=>?_,(cell_of e3).trans (e5 0 x rfl),fun W=>?_,?_⟩
  ·have:=row_idx (P:=Tryd.prog) (t:=26) (sz:=1) (b:=g) (off:=o) (a:=some ⟨g,o,none⟩) (by kernel_rfl) (fun _=>by kernel_rfl) rfl (q.length+1) c 0 (by omega) kd W
   simpa using this
  ·have ht:Tryd.prog.underlying 26 = some (.slice (Tryd.prog.elem 26)):=by kernel_rfl
   have hsz:∀ w,(sizeOf (Tryd.prog.elem 26)).run Tryd.prog w=.ok 1 w:=fun _=>by kernel_rfl
   rw [run_sliceAt_slice _ _ _ _ _ _ ht,run_slice_l _ _ _ _ _ ht _ _ (by decide) (by omega),hsz]; rfl
  ·unfold sliced
   by_cases hc:c=1
   ·have hq:q=[]:=List.eq_nil_of_length_eq_zero (by omega)
    subst hq hc; exact ⟨_,0,by rw [if_pos rfl]; rfl,Nat.le_refl _,Or.inl rfl⟩
   ·refine ⟨some ⟨g,o+1,none⟩,c - 1,by rw [if_neg hc]; rfl,by omega,Or.inr ⟨g,o+1,cur,rfl,e2,e3,by omega,fun i y hy=>?_⟩⟩
    rw [show o+1+i=o+(i+1) from by omega]; exact e5 (i+1) y hy
theorem infoIntQ:∃ i,Tryd.prog.info? 3 = some i∧i.zero=some (iv 0)∧i.size=1∧i.bytes=8:=info_partsP infoIntP
set_option maxRecDepth 100000 in
/-- one element behind the queue -/
theorem QI.push {B:Nat} {w:World} {l:List Nat} {v vs:Value} {x b ty:Nat} {cur:Array Value} (h:QI B w l v) (hB:B≤w.heap.size) (hl:l.length≤1048576) (hvs:vs=.slice (some ⟨b,0,none⟩) 1 1) (hb:w.cell? ⟨b,0,none⟩=some (iv x)) :
  ∃ v' w',AppRun Tryd.prog 26 26 ty v vs v' w w'∧QI B w' (l++[x]) v'∧Below B w w':=by
 obtain ⟨a,c,rfl,h2,h3⟩:=h; subst hvs; obtain ⟨i,hi,hz,hsize,hby⟩:=infoIntQ
 have ht:Tryd.prog.underlying 26 = some (.slice 3):=by kernel_rfl
 have hsrc:Src Tryd.prog 1 26 (.slice (some ⟨b,0,none⟩) 1 1) 1 [iv x] w:=Src.ofSlice w ht ⟨b,0,none⟩ 1 1 [iv x] rfl (fun j u hu=>by
  rcases j with _ | j
  ·injection hu with hu; subst hu; exact hb
  ·cases hu) (fun u hu=>by rw [List.mem_singleton.1 hu]; rfl)
 replace hsrc:Src Tryd.prog i.size 26 (.slice (some ⟨b,0,none⟩) 1 1) 1 [iv x] w:=by rw [hsize]; exact hsrc
 by_cases hroom:l.length+1≤c
 ·rcases h3 with rfl | ⟨g,o,cur,rfl,e2,e3,e4,e5⟩
  ·omega
  ·have hcl:(w.cell? ⟨g,o+l.length * i.size,none⟩).isSome=true:=by
    rw [cell_of e3,hsize,Nat.mul_one]
    have:o+l.length < cur.size:=by omega
    simp [this]
   have hrun:=run_append_room_src w 26 26 ty 3 i ht hi g o l.length c _ 1 [iv x] hsrc hroom (fun j hj=>by
    have:j=0:=by simp at hj; omega
    subst this; exact hcl) (fun j hj=>free_of e3)
   refine ⟨_,_,⟨hrun⟩,⟨some ⟨g,o,none⟩,c,by rw [List.length_append]; rfl,by rw [List.length_append]; exact hroom,Or.inr ⟨g,o,cur.setIfInBounds (o+l.length) (iv x),rfl,e2,?_,by simpa using e4,fun j y hy=>?_⟩⟩,?_⟩
   ·rw [hsize,Nat.mul_one]; exact heap_setCell_same e3 (iv x)
   ·by_cases hj:j < l.length
    ·rw [List.getElem?_append_left hj] at hy
     rw [Array.getElem?_setIfInBounds_ne (by omega)]; exact e5 j y hy
    ·rw [List.getElem?_append_right (by omega)] at hy
     have hj2:j=l.length:=by
      have:=(List.getElem?_eq_some_iff.1 hy).1; simp at this; omega
     subst hj2; rw [Nat.sub_self] at hy; injection hy with hy; rw [Array.getElem?_setIfInBounds_self_of_lt (by omega),hy]
   ·rw [hsize,Nat.mul_one]
    exact ((Fr.refl (one g) w).setCell (p:=⟨g,o+l.length,none⟩) (Or.inl rfl) (iv x)).to_below hB (fun k hk e=>by unfold one at e; omega)
 ·have hold:(Builtin.firstCells i.size l.length (.slice a l.length c)).run Tryd.prog w.drew=.ok (l.map fun n:Nat=>iv (n:Int)).toArray w.drew:=by
   rcases h3 with rfl | ⟨g,o,cur,rfl,e2,e3,e4,e5⟩
   ·have:l=[]:=List.eq_nil_of_length_eq_zero (by omega)
    subst this; rcases a with _ | ad
    ·exact run_firstCells_none _ _ _ _ _
    ·exact run_firstCells_some w.drew i.size 0 ad 0 0 [] (by simp) (fun j v hv=>by cases hv)
   ·refine run_firstCells_some w.drew i.size l.length ⟨g,o,none⟩ l.length c _ (by rw [hsize]; simp) (fun j u hu=>?_)
    rw [List.getElem?_map,Option.map_eq_some_iff] at hu; obtain ⟨y,hy,rfl⟩:=hu; rw [show (⟨g,o,none⟩:Addr).add j=⟨g,o+j,none⟩ from by simp only [Addr.add]; split <;> simp_all]; exact (cell_of (w:=w) e3).trans (e5 j y hy)
  have hrun:=run_append_grow_src w 26 26 ty 3 i _ ht hi hz a l.length c _ hold _ 1 [iv x] hsrc (by omega) (by omega) (growslice_fits (by omega) (by rw [hby]; omega)); refine ⟨_,_,⟨hrun⟩,⟨_,_,by rw [List.length_append]; rfl,by rw [List.length_append]; exact grownCap_ge _ _ _ _,Or.inr ⟨w.heap.size,0,_,rfl,hB,heap_alloc_new' w.drew _,?_,fun j y hy=>?_⟩⟩,?_⟩
  ·have h9:=grownCap_ge w (l.length+1) c 3
   rw [Array.size_append,size_zeroCells]; simp [Value.cells]; omega
  ·have hjl:j < l.length+1:=by have:=(List.getElem?_eq_some_iff.1 hy).1; simpa using this
   rw [Nat.zero_add,Array.getElem?_append_left (by simp; omega)]; rw [List.getElem?_toArray]
   have:((l++[x]).map fun n:Nat=>iv (n:Int))[j]? = some (iv y):=by rw [List.getElem?_map,hy]; rfl
   rw [List.map_append] at this; exact this
  ·exact ((Fr.refl (fun _=>False) w).drew.alloc _).to_below hB (fun k hk e=>e)
end Go.Proofs.YtdmgfnnpjoihfaaDoor
