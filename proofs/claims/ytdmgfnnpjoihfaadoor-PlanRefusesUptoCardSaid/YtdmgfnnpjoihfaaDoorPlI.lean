/- plan, walks: rows of ints and of bools in a block of their own, read as functions. -/
import Derived.Test.YtdmgfnnpjoihfaaDoorChecked
import Derived.Test.YtdmgfnnpjoihfaaDoorRel
import Derived.Lib.ItoaMem
import Derived.Deep.LoopGhost
import Derived.StillTailTactics
import Derived.BigQuiet
import Derived.BigRegion
import Derived.Deep.QuietTactic
import Derived.Test.YtdmgfnnpjoihfaaDoorPlanE
set_option linter.unusedVariables false
set_option linter.unusedSimpArgs false
namespace Go.Proofs.YtdmgfnnpjoihfaaDoor
open Go.RowKit
open Go.Lib (hid)
/-- the block b holds the ints f 0 .. f (n - 1) -/
def IB (b n:Nat) (f:Nat→Int) (w:World):Prop:=∃ cur:Array Value,w.heap[b]? = some (.cells cur 3 (0,0))∧∀ i,i < n→cur[i]? = some (iv (f i))
theorem IB.cell {b n i:Nat} {f:Nat→Int} {w:World} (h:IB b n f w) (hi:i < n):w.cell? ⟨b,i,none⟩=some (iv (f i)):=by
 obtain ⟨cur,h1,h2⟩:=h; exact (cell_of h1).trans (h2 i hi)
theorem IB.free {b n:Nat} {f:Nat→Int} {w:World} (h:IB b n f w) (i:Nat):w.frozen? ⟨b,i,none⟩=false:=by
 obtain ⟨cur,h1,h2⟩:=h; exact free_of h1
theorem IB.lt {b n:Nat} {f:Nat→Int} {w:World} (h:IB b n f w):b < w.heap.size:=by
 obtain ⟨cur,h1,h2⟩:=h; exact lt_of_some h1
theorem IB.keep {b n:Nat} {f:Nat→Int} {w w':World} (h:IB b n f w) (hb:w'.heap[b]? = w.heap[b]?):IB b n f w':=by
 obtain ⟨cur,h1,h2⟩:=h; exact ⟨cur,hb.trans h1,h2⟩
theorem IB.below {b n:Nat} {f:Nat→Int} {w w':World} (h:IB b n f w) (hb:Below w.heap.size w w'):IB b n f w':=h.keep (hb.block b h.lt)
theorem IB.set {b n i:Nat} {f:Nat→Int} {w:World} (h:IB b n f w) (hi:i < n) (v:Int):IB b n (Pl.upd f i v) (w.setCell ⟨b,i,none⟩ (iv v)):=by
 obtain ⟨cur,h1,h2⟩:=h; have hlt:i < cur.size:=(Array.getElem?_eq_some_iff.1 (h2 i hi)).1; refine ⟨_,heap_setCell_same h1 (iv v),fun j hj=>?_⟩; by_cases e:j=i
 ·subst e; rw [Pl.upd_same,Array.getElem?_setIfInBounds_self_of_lt hlt]
 ·rw [Pl.upd_other _ _ e,Array.getElem?_setIfInBounds_ne (fun e2=>e e2.symm)]; exact h2 j hj
theorem IB.congr {b n:Nat} {f g:Nat→Int} {w:World} (h:IB b n f w) (he:∀ i,i < n→f i=g i):IB b n g w:=by
 obtain ⟨cur,h1,h2⟩:=h; exact ⟨cur,h1,fun i hi=>by rw [← he i hi]; exact h2 i hi⟩
/-- the block b holds the bools f 0 .. f (n - 1) -/
def BB (b n:Nat) (f:Nat→Bool) (w:World):Prop:=∃ cur:Array Value,w.heap[b]? = some (.cells cur 4 (0,0))∧∀ i,i < n→cur[i]? = some (.bool (f i))
theorem BB.cell {b n i:Nat} {f:Nat→Bool} {w:World} (h:BB b n f w) (hi:i < n):w.cell? ⟨b,i,none⟩=some (.bool (f i)):=by
 obtain ⟨cur,h1,h2⟩:=h; exact (cell_of h1).trans (h2 i hi)
theorem BB.free {b n:Nat} {f:Nat→Bool} {w:World} (h:BB b n f w) (i:Nat):w.frozen? ⟨b,i,none⟩=false:=by
 obtain ⟨cur,h1,h2⟩:=h; exact free_of h1
theorem BB.lt {b n:Nat} {f:Nat→Bool} {w:World} (h:BB b n f w):b < w.heap.size:=by
 obtain ⟨cur,h1,h2⟩:=h; exact lt_of_some h1
theorem BB.keep {b n:Nat} {f:Nat→Bool} {w w':World} (h:BB b n f w) (hb:w'.heap[b]? = w.heap[b]?):BB b n f w':=by
 obtain ⟨cur,h1,h2⟩:=h; exact ⟨cur,hb.trans h1,h2⟩
theorem BB.below {b n:Nat} {f:Nat→Bool} {w w':World} (h:BB b n f w) (hb:Below w.heap.size w w'):BB b n f w':=h.keep (hb.block b h.lt)
theorem BB.set {b n i:Nat} {f:Nat→Bool} {w:World} (h:BB b n f w) (hi:i < n) (v:Bool):BB b n (Pl.upd f i v) (w.setCell ⟨b,i,none⟩ (.bool v)):=by
 obtain ⟨cur,h1,h2⟩:=h; have hlt:i < cur.size:=(Array.getElem?_eq_some_iff.1 (h2 i hi)).1; refine ⟨_,heap_setCell_same h1 (.bool v),fun j hj=>?_⟩; by_cases e:j=i
 ·subst e; rw [Pl.upd_same,Array.getElem?_setIfInBounds_self_of_lt hlt]
 ·rw [Pl.upd_other _ _ e,Array.getElem?_setIfInBounds_ne (fun e2=>e e2.symm)]; exact h2 j hj
theorem ib_idx {g n cap i:Nat} (hi:i < n) (kd:IntKind) (W:World):(Instr.indexAt 26 (.slice (some ⟨g,0,none⟩) n cap) (.int kd i)).run Tryd.prog W=.ok (.pointer (some ⟨g,i,none⟩)) W:=by
 have:=row_idx (P:=Tryd.prog) (t:=26) (sz:=1) (b:=g) (off:=0) (a:=some ⟨g,0,none⟩) (by kernel_rfl) (fun _=>by kernel_rfl) rfl n cap i hi kd W; simpa using this
theorem bb_idx {g n cap i:Nat} (hi:i < n) (kd:IntKind) (W:World):(Instr.indexAt 107 (.slice (some ⟨g,0,none⟩) n cap) (.int kd i)).run Tryd.prog W=.ok (.pointer (some ⟨g,i,none⟩)) W:=by
 have:=row_idx (P:=Tryd.prog) (t:=107) (sz:=1) (b:=g) (off:=0) (a:=some ⟨g,0,none⟩) (by kernel_rfl) (fun _=>by kernel_rfl) rfl n cap i hi kd W; simpa using this
/-- a row of ints as a cell of [][]int -/
def RowI:Rel (List Int):=fun S w l cs=>∃ v,cs=[v]∧SlR 1 IntR S w l v
theorem goodRowI:Good 1 RowI:=by
 refine ⟨fun h=>by obtain ⟨v,rfl,-⟩:=h; rfl,fun h=>?_,fun h hm=>?_⟩
 ·obtain ⟨v,rfl,hv⟩:=h
  obtain ⟨a,c,rfl,-⟩:=hv.slice; exact one1 rfl
 ·obtain ⟨v,rfl,hv⟩:=h
  exact ⟨v,rfl,hv.move goodInt hm⟩
end Go.Proofs.YtdmgfnnpjoihfaaDoor
