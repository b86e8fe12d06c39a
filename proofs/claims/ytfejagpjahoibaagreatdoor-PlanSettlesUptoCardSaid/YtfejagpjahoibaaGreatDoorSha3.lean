/- sum.Sha: the whole. -/
import Derived.Test.YtfejagpjahoibaaGreatDoorSha2
import Derived.Lib.BufferWrite
import Derived.Laws.CopyOwn
set_option linter.unusedVariables false
namespace Go.Proofs.YtfejagpjahoibaaGreatDoor
open Go.RowKit
open Go.Lib (hid byteCells)
def h0W:Nat→UInt32
 | 0=>1779033703
 | 1=>3144134277
 | 2=>1013904242
 | 3=>2773480762
 | 4=>1359893119
 | 5=>2600822924
 | 6=>528734635
 | _=>1541459225
def shaLoop:Nat→(Nat→UInt32)→List UInt8→(Nat→UInt32) × List UInt8
 | 0,h,s=>(h,s)
 | n+1,h,s=>if 64≤s.length then shaLoop n (compF h (s.take 64)) (s.drop 64) else (h,s)
theorem shaLoop_fuel (n m:Nat) (h:Nat→UInt32) (s:List UInt8) (hn:s.length≤n) (hm:s.length≤m):shaLoop n h s=shaLoop m h s:=by
 induction n generalizing m h s with
 | zero =>
  have:s=[]:=List.length_eq_zero_iff.1 (by omega); subst this; cases m <;> rfl
 | succ n ih =>
  cases m with
  | zero =>
   have:s=[]:=List.length_eq_zero_iff.1 (by omega); subst this; rfl
  | succ m =>
   unfold shaLoop; by_cases h64:64≤s.length
   ·rw [if_pos h64,if_pos h64]
    exact ih m _ _ (by rw [List.length_drop]; omega) (by rw [List.length_drop]; omega)
   ·rw [if_neg h64,if_neg h64]
def shaE (h:Nat→UInt32) (s:List UInt8):(Nat→UInt32) × List UInt8:=shaLoop s.length h s
theorem shaE_step (h:Nat→UInt32) (s:List UInt8) (h64:64≤s.length):shaE h s=shaE (compF h (s.take 64)) (s.drop 64):=by
 unfold shaE; rw [show s.length=(s.length - 1)+1 by omega,shaLoop,if_pos h64]; exact shaLoop_fuel _ _ _ _ (by rw [List.length_drop]; omega) (by rw [List.length_drop]; omega)
theorem shaE_end (h:Nat→UInt32) (s:List UInt8) (h64:s.length < 64):shaE h s=(h,s):=by
 unfold shaE
 cases hs:s.length with
 | zero=>rfl
 | succ n=>rw [shaLoop,if_neg (by omega)]
theorem wpStill_load_row {P:Program} {ops:Array Oper} {rest:List Oper} {o:Oper} {a:Act} {w:World} {Q:Act→Prop} (hgd:o.guard=none) (ty:TypeId) (x:Operand) (ho:o.op=.load ty x)
  (g:Nat) (hx:a.eval x=.pointer (some ⟨g,0,none⟩)) (t:TypeId) (cs:Array Value) (fr:Nat × Nat) (d:TypeDesc) (hg:w.heap[g]? = some (.cells cs t fr))
  (hu:P.underlying ty=some d) (hd:(match d with | .struct _ | .array _ _=>true | _=>false)=true) (hi:(P.info? ty).map (·.size)=some cs.size)
  (h:wpStill P ops w Q rest (a.put o.dst (.agg cs))):wpStill P ops w Q (o::rest) a:=by
 have hw:Region.wanted o (yielded ops a.tmps)=true:=by simp [Region.wanted,hgd]
 unfold wpStill; rw [if_pos hw]; unfold Oper.still execOp; simp only [ho,hx,Instr.loadAt,Instr.sureAddr,Sem.run_bind,Sem.run_pure,Result.andThen_ok,run_loadVar_row w g t ty cs fr d hg hu hd hi]; exact ⟨rfl,h⟩
/-- the memory of Sha: the digest, the state -/
structure HM (B:Nat) (h:Nat→UInt32) (w0 w:World):Prop where
 res:∃ cs,w.heap[B]? = some (.cells cs 75 (0,0))∧cs.size=32
 st:w.heap[B+1]? = some (.cells (wcells 8 h) 121 (0,0))
 bel:Below B w0 w
theorem HM.lt {B:Nat} {h:Nat→UInt32} {w0 w:World} (m:HM B h w0 w):B+1 < w.heap.size:=(Array.getElem?_eq_some_iff.mp m.st).1
theorem HM.below {B:Nat} {h:Nat→UInt32} {w0 w w':World} (m:HM B h w0 w) {b:Nat} (hb:Below b w w') (hle:B+1 < b):HM B h w0 w':=by
 obtain ⟨cs,h1,h2⟩:=m.res; exact ⟨⟨cs,below_keep hb h1 (by omega),h2⟩,below_keep hb m.st (by omega),m.bel.trans (hb.mono (by omega))⟩
theorem HM.drewN {B:Nat} {h:Nat→UInt32} {w0 w:World} (m:HM B h w0 w) (n:Nat):HM B h w0 (w.drewN n):=⟨m.res,m.st,below_drewM m.bel n⟩
theorem HM.drew {B:Nat} {h:Nat→UInt32} {w0 w:World} (m:HM B h w0 w):HM B h w0 w.drew:=⟨m.res,m.st,m.bel.drew⟩
theorem HM.store {B:Nat} {h:Nat→UInt32} {w0 w:World} (m:HM B h w0 w) (g:Nat→UInt32):HM B g w0 ((((((((w.setCell ⟨B+1,0,none⟩ (wv (g 0))).setCell ⟨B+1,1,none⟩ (wv (g 1))).setCell ⟨B+1,2,none⟩ (wv (g 2))).setCell ⟨B+1,3,none⟩ (wv (g 3))).setCell ⟨B+1,4,none⟩ (wv (g 4))).setCell ⟨B+1,5,none⟩ (wv (g 5))).setCell ⟨B+1,6,none⟩ (wv (g 6))).setCell ⟨B+1,7,none⟩ (wv (g 7))):=by
 obtain ⟨cs,h1,h2⟩:=m.res; refine ⟨⟨cs,?_,h2⟩,res8 m.st (arr_size _ _) g,?_⟩
 ·rw [heap_setCell_other _ (by show B≠B+1; omega),heap_setCell_other _ (by show B≠B+1; omega),heap_setCell_other _ (by show B≠B+1; omega),heap_setCell_other _ (by show B≠B+1; omega),heap_setCell_other _ (by show B≠B+1; omega),heap_setCell_other _ (by show B≠B+1; omega),heap_setCell_other _ (by show B≠B+1; omega),heap_setCell_other _ (by show B≠B+1; omega)]
  exact h1
 ·exact (((((((m.bel.setCell (by show B≤B+1; omega) _).setCell (by show B≤B+1; omega) _).setCell (by show B≤B+1; omega) _).setCell (by show B≤B+1; omega) _).setCell (by show B≤B+1; omega) _).setCell (by show B≤B+1; omega) _).setCell (by show B≤B+1; omega) _).setCell (by show B≤B+1; omega) _
theorem HM.scell {B:Nat} {h:Nat→UInt32} {w0 w:World} (m:HM B h w0 w) {k:Nat} (hk:k < 8):w.cell? ⟨B+1,k,none⟩=some (wv (h k)):=(cell_of m.st).trans (arr_at _ hk)
theorem compress_ex (hf:Nat→UInt32) (s:List UInt8) (w:World) (ht:Hid (TabR w)) (hs:s.length=64) :
  Calls Tryz.prog 56 #[.agg #[wv (hf 0),wv (hf 1),wv (hf 2),wv (hf 3),wv (hf 4),wv (hf 5),wv (hf 6),wv (hf 7)],sv s] w fun e w'=>∃ g,Hid (g=compF hf s)∧e=.returned (.agg #[wv (g 0),wv (g 1),wv (g 2),wv (g 3),wv (g 4),wv (g 5),wv (g 6),wv (g 7)])∧Below w.heap.size w w':=by
 refine (compress_any hf s w ht hs).mono ?_; rintro e w' ⟨rfl,hb⟩; exact ⟨_,hid rfl,rfl,hb⟩
def slen:Value→Nat
 | .string s=>s.data.toList.length
 | _=>0
abbrev bv (c:UInt8):Value:=.int .u8 (c.toNat:Int)
abbrev bcells (n:Nat) (f:Nat→UInt8):Array Value:=arrW n (fun j=>bv (f j))
def updB (f:Nat→UInt8) (k:Nat) (x:UInt8):Nat→UInt8:=fun j=>if j=k then x else f j
theorem bcells_set {n:Nat} (f:Nat→UInt8) (k:Nat) (x:UInt8):(bcells n f).setIfInBounds k (bv x)=bcells n (updB f k x) :=
 arr_set _ k _ _ (by unfold updB; rw [if_pos rfl]) (fun j _ h=>by unfold updB; rw [if_neg h])
/-- the tail after the copy and the one bit -/
def tl1 (r:List UInt8):Nat→UInt8:=updB (fun j=>r.getD j 0) r.length 128
def tlSize (r:List UInt8):Nat:=if 64 < r.length+9 then 128 else 64
def tl2 (r:List UInt8) (L:Nat):Nat→Nat→UInt8
 | 0=>tl1 r
 | k+1=>updB (tl2 r L k) (tlSize r - 1 - k) (UInt8.ofNat (L / 2 ^ (8 * k)))
def blk (T:Nat→UInt8) (at_:Nat):List UInt8:=(List.range 64).map fun j=>T (at_+j)
def tlK (h:Nat→UInt32) (T:Nat→UInt8):Nat→Nat→UInt32
 | 0=>h
 | k+1=>compF (tlK h T k) (blk T (64 * k))
def shaT (h:Nat→UInt32) (r:List UInt8) (L:Nat):Nat→UInt32:=tlK h (tl2 r L 8) (tlSize r / 64)
def dgB (g:Nat→UInt32) (j:Nat):UInt8:=lowW (divW (g (j / 4)) (2 ^ (24 - 8 * (j % 4))))
def shaW (s:List UInt8):Nat→UInt32:=shaT (shaE h0W s).1 (shaE h0W s).2 (8 * s.length)
/-- the digest of a string -/
def shaF (s:List UInt8):List UInt8:=(List.range 32).map (dgB (shaW s))
/-- a digest as a value -/
def dgv (l:List UInt8):Value:=.agg (byteCells l).toArray
theorem z128i:(Tryz.prog.info? 124).map (·.zero)=some (some (.agg (bcells 128 fun _=>0))):=by kernel_rfl
set_option maxRecDepth 100000 in
theorem z128 (w:World):(zeroValue 124).run Tryz.prog w=.ok (.agg (bcells 128 fun _=>0)) w:=by
 have h1:=z128i
 cases hi:Tryz.prog.info? 124 with
 | none=>rw [hi] at h1; cases h1
 | some i =>
  rw [hi] at h1; simp only [Option.map_some,Option.some.injEq] at h1; simp [zeroValue,typeInfo,hi,h1,go_sem]
/-- the memory of Sha from the tail on -/
structure TM (B D:Nat) (h:Nat→UInt32) (T:Nat→UInt8) (w0 w:World):Prop where
 hm:HM B h w0 w
 tl:w.heap[D]? = some (.cells (bcells 128 T) 124 (0,0))
 far:B+1 < D
theorem TM.set {B D:Nat} {h:Nat→UInt32} {T:Nat→UInt8} {w0 w:World} (m:TM B D h T w0 w) (k:Nat) (x:UInt8):TM B D h (updB T k x) w0 (w.setCell ⟨D,k,none⟩ (bv x)):=by
 have hf:=m.far; obtain ⟨cs,h1,h2⟩:=m.hm.res; exact ⟨⟨⟨cs,(heap_setCell_other _ (by show B≠D; omega)).trans h1,h2⟩,(heap_setCell_other _ (by show B+1≠D; omega)).trans m.hm.st,m.hm.bel.setCell (by show B≤D; omega) _⟩,by rw [← bcells_set]; exact heap_setCell_same m.tl _,hf⟩
theorem TM.drew {B D:Nat} {h:Nat→UInt32} {T:Nat→UInt8} {w0 w:World} (m:TM B D h T w0 w):TM B D h T w0 w.drew:=⟨m.hm.drew,m.tl,m.far⟩
theorem TM.drewN {B D:Nat} {h:Nat→UInt32} {T:Nat→UInt8} {w0 w:World} (m:TM B D h T w0 w) (n:Nat):TM B D h T w0 (w.drewN n):=⟨m.hm.drewN n,m.tl,m.far⟩
theorem TM.lt {B D:Nat} {h:Nat→UInt32} {T:Nat→UInt8} {w0 w:World} (m:TM B D h T w0 w):D < w.heap.size:=(Array.getElem?_eq_some_iff.mp m.tl).1
theorem TM.below {B D:Nat} {h:Nat→UInt32} {T:Nat→UInt8} {w0 w w':World} (m:TM B D h T w0 w) {b:Nat} (hb:Below b w w') (hle:D < b):TM B D h T w0 w' :=
 ⟨m.hm.below hb (by have:=m.far; omega),below_keep hb m.tl hle,m.far⟩
theorem TM.store {B D:Nat} {h:Nat→UInt32} {T:Nat→UInt8} {w0 w:World} (m:TM B D h T w0 w) (g:Nat→UInt32):TM B D g T w0 ((((((((w.setCell ⟨B+1,0,none⟩ (wv (g 0))).setCell ⟨B+1,1,none⟩ (wv (g 1))).setCell ⟨B+1,2,none⟩ (wv (g 2))).setCell ⟨B+1,3,none⟩ (wv (g 3))).setCell ⟨B+1,4,none⟩ (wv (g 4))).setCell ⟨B+1,5,none⟩ (wv (g 5))).setCell ⟨B+1,6,none⟩ (wv (g 6))).setCell ⟨B+1,7,none⟩ (wv (g 7))):=by
 have hf:=m.far; refine ⟨m.hm.store g,?_,hf⟩
 have n:D≠B+1:=by omega
 rw [heap_setCell_other _ (by show D≠B+1; exact n),heap_setCell_other _ (by show D≠B+1; exact n),heap_setCell_other _ (by show D≠B+1; exact n),heap_setCell_other _ (by show D≠B+1; exact n),heap_setCell_other _ (by show D≠B+1; exact n),heap_setCell_other _ (by show D≠B+1; exact n),heap_setCell_other _ (by show D≠B+1; exact n),heap_setCell_other _ (by show D≠B+1; exact n)]; exact m.tl
theorem TM.tcell {B D:Nat} {h:Nat→UInt32} {T:Nat→UInt8} {w0 w:World} (m:TM B D h T w0 w) {k:Nat} (hk:k < 128):w.cell? ⟨D,k,none⟩=some (bv (T k)):=(cell_of m.tl).trans (arr_at _ hk)
set_option maxRecDepth 100000 in
theorem copied (s:List UInt8) (hs:s.length≤128):((bcells 128 fun _=>0).toList.take 0++byteCells s++(bcells 128 fun _=>0).toList.drop (0+s.length)).toArray=bcells 128 (fun j=>s.getD j 0):=by
 apply Array.ext_getElem?; intro j; simp only [List.take_zero,List.nil_append,Nat.zero_add,List.getElem?_toArray]; by_cases hj:j < s.length
 ·rw [List.getElem?_append_left (by rw [Lib.byteCells_length]; exact hj),arr_at _ (by omega)]
  simp [byteCells,hj]
 ·rw [List.getElem?_append_right (by rw [Lib.byteCells_length]; omega),Lib.byteCells_length,List.getElem?_drop,show s.length+(j - s.length)=j by omega,Array.getElem?_toList]
  by_cases h2:j < 128
  ·rw [arr_at _ h2,arr_at _ h2]
   show some (bv 0)=some (bv (s.getD j 0)); rw [List.getD_eq_getElem?_getD,List.getElem?_eq_none (by omega)]; rfl
  ·rw [Array.getElem?_eq_none (by rw [arr_size]; omega),Array.getElem?_eq_none (by rw [arr_size]; omega)]
set_option maxRecDepth 100000 in
theorem copy_run (w:World) (D:Nat) (s:List UInt8) (hs:s.length≤128) (h:w.heap[D]? = some (.cells (bcells 128 fun _=>0) 124 (0,0))) :
  (Builtin.copy_ #[81,9] 3 #[.slice (some ⟨D,0,none⟩) 128 128,sv s]).run Tryz.prog w=.ok (goInt s.length) (w.setRow D (bcells 128 fun j=>s.getD j 0)):=by
 have:=Lib.run_copy_row_string (P:=Tryz.prog) w 81 9 3 5 D 0 128 128 ⟨s.toArray⟩ _ _ (by kernel_rfl) (by kernel_rfl) h (by rw [ByteArray.size_mk',List.size_toArray]; exact hs) (by rw [arr_size,ByteArray.size_mk',List.size_toArray]; omega)
 have e:(⟨s.toArray⟩:ByteArray).size=s.length:=by rw [ByteArray.size_mk',List.size_toArray]
 rw [e] at this; rw [this]
 congr 2
 exact copied s hs
/-- the memory of Sha's last part: the digest -/
structure DM (B G:Nat) (d:Nat→UInt8) (w0 w:World):Prop where
 res:∃ cs,w.heap[B]? = some (.cells cs 75 (0,0))∧cs.size=32
 dg:w.heap[G]? = some (.cells (bcells 32 d) 75 (0,0))
 bel:Below B w0 w
 far:B < G
theorem DM.set {B G:Nat} {d:Nat→UInt8} {w0 w:World} (m:DM B G d w0 w) (k:Nat) (x:UInt8):DM B G (updB d k x) w0 (w.setCell ⟨G,k,none⟩ (bv x)):=by
 have hf:=m.far; obtain ⟨cs,h1,h2⟩:=m.res; exact ⟨⟨cs,(heap_setCell_other _ (by show B≠G; omega)).trans h1,h2⟩,by rw [← bcells_set]; exact heap_setCell_same m.dg _,m.bel.setCell (by show B≤G; omega) _,hf⟩
theorem DM.cell {B G:Nat} {d:Nat→UInt8} {w0 w:World} (m:DM B G d w0 w) {k:Nat} (hk:k < 32):w.cell? ⟨G,k,none⟩=some (bv (d k)):=(cell_of m.dg).trans (arr_at _ hk)
def dgK (g:Nat→UInt32) (n:Nat):Nat→UInt8:=fun j=>if j < n then dgB g j else 0
theorem dgK_succ (g:Nat→UInt32) (n:Nat):updB (dgK g n) n (dgB g n)=dgK g (n+1):=by
 funext j
 unfold updB dgK; by_cases e:j=n
 ·subst e; rw [if_pos rfl,if_pos (by omega)]
 ·rw [if_neg e]
  by_cases h2:j < n
  ·rw [if_pos h2,if_pos (by omega)]
  ·rw [if_neg h2,if_neg (by omega)]
theorem idx8 (g:Nat→UInt32) (w:World) (k:Nat) (hk:k < 8):(Instr.index 121 (.agg #[wv (g 0),wv (g 1),wv (g 2),wv (g 3),wv (g 4),wv (g 5),wv (g 6),wv (g 7)]) (.int .i64 (k:Int))).run Tryz.prog w=.ok (wv (g k)) w:=by
 match k,hk with
 | 0,_=>simp [Instr.index,go_sem]
 | 1,_=>simp [Instr.index,go_sem]
 | 2,_=>simp [Instr.index,go_sem]
 | 3,_=>simp [Instr.index,go_sem]
 | 4,_=>simp [Instr.index,go_sem]
 | 5,_=>simp [Instr.index,go_sem]
 | 6,_=>simp [Instr.index,go_sem]
 | 7,_=>simp [Instr.index,go_sem]
 | n+8,h=>exact absurd h (by omega)
theorem dgv_of (g:Nat→UInt32):dgv ((List.range 32).map (dgB g))=.agg (bcells 32 (dgK g 32)):=by
 unfold dgv bcells arrW byteCells; rw [List.map_map]
 congr 2
theorem dg_at (g:Nat→UInt32) (k j:Nat) (hj:j < 4):((g k).toNat:Int) / 2 ^ (24 - 8 * j) % 256=((dgB g (4 * k+j)).toNat:Int):=by
 unfold dgB; rw [show (4 * k+j) / 4=k by omega,show (4 * k+j) % 4=j by omega,← ulow32,← udiv32]; simp
theorem bcells_one (n:Nat) (f:Nat→UInt8):(bcells n f).all (·.oneCell')=true:=by
 rw [Array.all_eq_true']; intro x hx; simp only [bcells,arrW,List.mem_toArray,List.mem_map] at hx; obtain ⟨j,_,rfl⟩:=hx; rfl
theorem blk_len (T:Nat→UInt8) (a:Nat):(blk T a).length=64:=by simp [blk]
theorem conv64 (W:World) (b a c:Nat) (T:Nat→UInt8) (ha:a+64≤128) (h:W.heap[b]? = some (.cells (bcells 128 T) 124 (0,0))) :
  (convert 81 9 (.slice (some ⟨b,a,none⟩) 64 c)).run Tryz.prog W=.ok (sv (blk T a)) W:=by
 have:=run_convert_bytes_back (P:=Tryz.prog) W 81 9 5 ⟨b,a,none⟩ c (blk T a) (by kernel_rfl) (by kernel_rfl) (by kernel_rfl) (fun j hj=>by
  rw [blk_len] at hj
  have e2:(⟨b,a,none⟩:Addr).add j=⟨b,a+j,none⟩:=by
   simp only [Addr.add]; split <;> simp_all
  rw [e2,cell_of h,arr_at _ (by omega)]
  simp [blk])
 rwa [blk_len] at this
set_option maxHeartbeats 4000000 in
set_option maxRecDepth 100000 in
theorem sha_any (s:List UInt8) (w:World) (ht:Hid (TabR w)) (hs:s.length≤1048576) :
  Calls Tryz.prog 27 #[sv s] w fun e w'=>e=.returned (dgv (shaF s))∧Below w.heap.size w w':=by
 generalize hres:shaF s=res; replace hres:=hid hres
 go_enter Tryz.func27,Tryz.ntmps27
 go_wp2_with fail
 go_loopw [0] (fun v wr=>∃ (h:Nat→UInt32) (s':List UInt8),v=sv s'∧s'.length≤s.length∧Hid (shaE h0W s=shaE h s')∧Hid (HM w.heap.size h w wr)) (fun v _=>slen v)
 case atStart =>
  refine ⟨h0W,s,rfl,Nat.le_refl _,hid rfl,?_⟩; refine hid ⟨⟨(bcells 32 (fun _=>0)),?_,arr_size _ _⟩,?_,?_⟩
  ·exact (Below.heap_alloc _ _ _ (by simp)).trans (heap_alloc_new' _ _)
  ·have hs2:(w.alloc (.cells (bcells 32 (fun _=>0)) 75)).heap.size=w.heap.size+1:=by simp
   rw [← hs2]; exact heap_alloc_new' _ _
  ·exact ((Below.refl _ w).alloc (Nat.le_refl _) _).alloc (by simp) _
 case round =>
  obtain ⟨h,s',rfl,hl,hE,hM⟩:=hrel; by_cases h64:64≤s'.length
  ·have q1:decide ((s'.length:Int) ≥ 64)=true:=decide_eq_true (by omega)
   have q1':decide (64≤s'.length)=true:=decide_eq_true h64
   have q1i:(64:Int)≤(s'.length:Int):=by omega
   have hst:=shaE_step h s' h64
   have hl2:(s'.take 64).length=64:=by rw [List.length_take]; omega
   have hl3:(s'.drop 64).length=s'.length - 64:=List.length_drop; have e1:=ext_take s' 64; have e2:=ext_drop s' 64; have hE2:Hid (shaE h0W s=shaE (compF h (s'.take 64)) (s'.drop 64)):=hid (hE.out.trans hst); clear hst hE; have hrow:wr.drew.heap[w.heap.size+1]? = some (.cells #[wv (h 0),wv (h 1),wv (h 2),wv (h 3),wv (h 4),wv (h 5),wv (h 6),wv (h 7)] 121 (0,0)):=hM.out.drew.st; replace hrow:=hid hrow; have hc:=hid (compress_ex h (s'.take 64) wr.drew (hid (ht.out.below hM.out.drew.bel (Nat.le_refl _))) hl2); generalize hx:s'.take 64=x at *; generalize hy:s'.drop 64=y at *
   go_wp2_with fail
   go_still_tail 3,(by kernel_rfl)
   change wpStill _ _ wr.drew _ _ _; have hMd:=hid hM.out.drew; clear hM; refine wpStill_load_row rfl 121 (.tmp 3) rfl (w.heap.size+1) rfl 121 _ (0,0) _ hrow.out Tryz.underlying121 rfl (by kernel_rfl) ?_
   still_step
   still_step
   refine wpStill_nil ?_
   go_wp2_with fail
   refine hc.out.mono ?_; rintro e w1 ⟨g,hg,rfl,hb⟩; have hM1:=hMd.out.below hb (by have:=hMd.out.lt; exact this); have hrow1:=hid hM1.st; have hst:=hid (hM1.store g)
   have hfz:∀ j:Nat,w1.frozen? ⟨w.heap.size+1,j,none⟩=false:=fun j=>free_of hM1.st
   have f0:=hfz 0; have f1:=hfz 1; have f2:=hfz 2; have f3:=hfz 3; have f4:=hfz 4; have f5:=hfz 5; have f6:=hfz 6; have f7:=hfz 7; have s0:=hM1.scell (k:=0) (by decide); have s1:=hM1.scell (k:=1) (by decide); have s2:=hM1.scell (k:=2) (by decide); have s3:=hM1.scell (k:=3) (by decide); have s4:=hM1.scell (k:=4) (by decide); have s5:=hM1.scell (k:=5) (by decide); have s6:=hM1.scell (k:=6) (by decide); have s7:=hM1.scell (k:=7) (by decide); clear hfz hM1 hMd hrow hc hrow1 hb; rw [← hg.out] at hE2
   go_wp2_with fail
   exact ⟨⟨g,y,rfl,by omega,hE2,hst⟩,by simp [slen]; omega⟩
  ·have q1:decide ((s'.length:Int) ≥ 64)=false:=decide_eq_false (by omega)
   have q1':decide (64≤s'.length)=false:=decide_eq_false h64
   have q1i:¬ (64:Int)≤(s'.length:Int):=by omega
   rw [shaE_end h s' (by omega)] at hE
   have hz:=fun W=>z128 W
   have hT0:TM w.heap.size wr.heap.size h (fun _=>0) w (wr.alloc (.cells (bcells 128 fun _=>0) 124)):=⟨hM.out.below (Below.refl _ _ |>.alloc (Nat.le_refl _) _) hM.out.lt,heap_alloc_new' _ _,hM.out.lt⟩
   have hT1:TM w.heap.size wr.heap.size h (fun j=>s'.getD j 0) w ((wr.alloc (.cells (bcells 128 fun _=>0) 124)).setRow wr.heap.size (bcells 128 fun j=>s'.getD j 0)):=by
    have hf:=hT0.far; obtain ⟨cs,h1,h2⟩:=hT0.hm.res; exact ⟨⟨⟨cs,(setRow_other _ _ _ _ (by omega)).trans h1,h2⟩,(setRow_other _ _ _ _ (by omega)).trans hT0.hm.st,below_setRow hT0.hm.bel (by omega) _⟩,setRow_heap _ _ _ _ _ _ hT0.tl,hf⟩
   have hcopy:=copy_run _ wr.heap.size s' (by omega) hT0.tl; generalize ((wr.alloc (.cells (bcells 128 fun _=>0) 124)).setRow wr.heap.size (bcells 128 fun j=>s'.getD j 0))=W1 at *; generalize hZ:bcells 128 (fun _=>0)=Z at *; generalize hD:wr.heap.size=D at *; have c1:=hT1.tcell (k:=s'.length) (by omega); have f1:W1.frozen? ⟨D,s'.length,none⟩=false:=free_of hT1.tl
   have l1:(s'.length:Int) < 128:=by omega
   have l0:(0:Int)≤(s'.length:Int):=by omega
   have hT2:TM w.heap.size D h (tl1 s') w (W1.setCell ⟨D,s'.length,none⟩ (bv 128)):=hT1.set s'.length 128; have e9:IntKind.i64.wrap ((s'.length:Int)+9)=(s'.length:Int)+9:=i64_wrap_id _ (by omega) (by omega); replace hT2:=hid hT2; clear hT1 hT0
   go_upto_if 36 with (fail)
   go_cut [6] (fun z w'=>z=.int .i64 (tlSize s':Nat)∧Hid (TM w.heap.size D h (tl1 s') w w'))
   case first =>
    by_cases h55:64 < s'.length+9
    ·have e1:tlSize s'=128:=by unfold tlSize; rw [if_pos h55]
     have q2:decide ((64:Int) < (s'.length:Int)+9)=true:=decide_eq_true (by omega)
     have q2i:(64:Int) < (s'.length:Int)+9:=by omega
     replace e1:=hid e1
     go_wp2_with fail
     go_meet
     case rel=>exact ⟨by rw [e1.out]; rfl,hT2⟩
    ·have e1:tlSize s'=64:=by unfold tlSize; rw [if_neg h55]
     have q2:decide ((64:Int) < (s'.length:Int)+9)=false:=decide_eq_false (by omega)
     have q2i:¬ (64:Int) < (s'.length:Int)+9:=by omega
     replace e1:=hid e1
     go_wp2_with fail
     go_meet
     case rel=>exact ⟨by rw [e1.out]; rfl,hT2⟩
   case rest =>
    obtain ⟨rfl,hT⟩:=hcut; clear hT2 c1 f1 e9 hcopy hz hZ l0 l1 q1 q1' q1i hM
    have hzs:tlSize s'=64∨tlSize s'=128:=by unfold tlSize; split <;> simp
    obtain ⟨L,hL⟩:∃ L,L=8 * s.length:=⟨_,rfl⟩
    have hLi:(s.length:Int) * 8=(L:Int):=by omega
    obtain ⟨z,hz⟩:∃ z,z=tlSize s':=⟨_,rfl⟩; rw [← hz] at hzs; rw [← hz,hLi]; clear hLi; replace hL:=hid hL; replace hz:=hid hz
    go_wp2_with fail
    go_loopw [37] (fun v wr=>∃ k:Nat,v=.int .i64 k∧k≤8∧Hid (TM w.heap.size D h (tl2 s' L k) w wr)) (fun i _=>8 - (intOf i).toNat)
    case atStart=>exact ⟨0,rfl,Nat.zero_le _,hT⟩
    case round =>
     clear hT; obtain ⟨k,rfl,hk,hT⟩:=hrel; by_cases hlt:k < 8
     ·have q1:decide ((k:Int) < 8)=true:=decide_eq_true (by omega)
      have q1':decide (k < 8)=true:=decide_eq_true hlt; obtain ⟨p,hp⟩:∃ p,p=z - 1 - k:=⟨_,rfl⟩; have e1:IntKind.i64.wrap ((z:Int) - 1)=(z:Int) - 1:=i64_wrap_id _ (by omega) (by omega)
      have e2:IntKind.i64.wrap ((z:Int) - 1 - (k:Int))=(p:Int):=by rw [i64_wrap_id _ (by omega) (by omega)]; omega
      have e3:IntKind.i64.wrap (8 * (k:Int))=8 * (k:Int):=i64_wrap_id _ (by omega) (by omega)
      have l1:(p:Int) < 128:=by omega
      have l0:(0:Int)≤(p:Int):=by omega
      have c1:=hT.out.tcell (k:=p) (by omega); have f1:wr.frozen? ⟨D,p,none⟩=false:=free_of hT.out.tl; have hset:=hT.out.set p (UInt8.ofNat (L / 2 ^ (8 * k)))
      have hv:(L:Int) / 2 ^ (8 * k) % 256=((UInt8.ofNat (L / 2 ^ (8 * k))).toNat:Int):=by simp
      rw [show updB (tl2 s' L k) p (UInt8.ofNat (L / 2 ^ (8 * k)))=tl2 s' L (k+1) by rw [hp,hz.out]; rfl] at hset; generalize UInt8.ofNat (L / 2 ^ (8 * k))=x at *; replace hset:=hid hset; replace hp:=hid hp; clear hT
      go_wp2_with fail
      exact ⟨⟨k+1,rfl,by omega,hset⟩,by simp [intOf]; omega⟩
     ·have hk8:k=8:=by omega
      subst hk8; clear hk hlt; generalize hTl:tl2 s' L 8=T at *; replace hTl:=hid hTl
      go_wp2_with fail
      go_loopw [8] (fun v wr=>∃ (k:Nat) (g:Nat→UInt32),v=.int .i64 (64 * k:Nat)∧64 * k≤z∧Hid (g=tlK h T k)∧Hid (TM w.heap.size D g T w wr)) (fun i _=>256 - (intOf i).toNat)
      case atStart=>exact ⟨0,h,rfl,Nat.zero_le _,hid rfl,hT⟩
      case round =>
       clear hT; obtain ⟨k,g,hv,hk,hg,hT⟩:=hrel; obtain ⟨a,ha⟩:∃ a,a=64 * k:=⟨_,rfl⟩; rw [← ha] at hv hk; subst hv; by_cases hlt:a < z
       ·have q1:decide ((a:Int) < (z:Int))=true:=decide_eq_true (by omega)
        have q1':decide (a < z)=true:=decide_eq_true hlt
        have q1i:(a:Int) < (z:Int):=by omega
        have a64:a+64≤128:=by omega
        have e1:IntKind.i64.wrap ((a:Int)+64)=(a:Int)+64:=i64_wrap_id _ (by omega) (by omega)
        have l0:(0:Int)≤(a:Int):=by omega
        have l1:(a:Int)≤(a:Int)+64:=by omega
        have l2:(a:Int)+64≤128:=by omega
        have na:¬ (128=a):=by omega
        have n64:((a:Int)+64).toNat - a=64:=by omega
        have hcv:=fun c=>conv64 wr.drew D a c T a64 hT.out.drew.tl
        have hrow:wr.drew.heap[w.heap.size+1]? = some (.cells #[wv (g 0),wv (g 1),wv (g 2),wv (g 3),wv (g 4),wv (g 5),wv (g 6),wv (g 7)] 121 (0,0)):=hT.out.drew.hm.st; replace hrow:=hid hrow; have hc:=hid (compress_ex g (blk T a) wr.drew (hid (ht.out.below hT.out.drew.hm.bel (Nat.le_refl _))) (blk_len T a)); have hgn:Hid (compF g (blk T a)=tlK h T (k+1)):=hid (by rw [tlK,← hg.out,ha]); replace ha:=hid ha; generalize blk T a=x at *
        go_wp2_with fail
        go_still_tail 6,(by kernel_rfl)
        change wpStill _ _ wr.drew _ _ _; have hMd:=hid hT.out.drew; clear hT; refine wpStill_load_row rfl 121 (.tmp 3) rfl (w.heap.size+1) rfl 121 _ (0,0) _ hrow.out Tryz.underlying121 rfl (by kernel_rfl) ?_
        still_step
        still_step
        still_step
        still_step
        still_step
        refine wpStill_nil ?_; clear hrow na n64 hcv e1 l0 l1 l2
        go_wp2_with fail
        refine hc.out.mono ?_; rintro e w1 ⟨g',hg',rfl,hb⟩; have hT1:=hMd.out.below hb hMd.out.lt; have hst:=hid (hT1.store g')
        have hfz:∀ j:Nat,w1.frozen? ⟨w.heap.size+1,j,none⟩=false:=fun j=>free_of hT1.hm.st
        have f0:=hfz 0; have f1:=hfz 1; have f2:=hfz 2; have f3:=hfz 3; have f4:=hfz 4; have f5:=hfz 5; have f6:=hfz 6; have f7:=hfz 7; have s0:=hT1.hm.scell (k:=0) (by decide); have s1:=hT1.hm.scell (k:=1) (by decide); have s2:=hT1.hm.scell (k:=2) (by decide); have s3:=hT1.hm.scell (k:=3) (by decide); have s4:=hT1.hm.scell (k:=4) (by decide); have s5:=hT1.hm.scell (k:=5) (by decide); have s6:=hT1.hm.scell (k:=6) (by decide); have s7:=hT1.hm.scell (k:=7) (by decide); have e1:IntKind.i64.wrap ((a:Int)+64)=(a:Int)+64:=i64_wrap_id _ (by omega) (by omega); have hg2:Hid (g'=tlK h T (k+1)):=hid (hg'.out.trans hgn.out); clear hfz hT1 hMd hc hb
        go_wp2_with fail
        have ha':=ha.out
        have hv2:Value.int .i64 ((a:Int)+64)=.int .i64 ((64 * (k+1):Nat):Int):=by rw [show ((64 * (k+1):Nat):Int)=(a:Int)+64 by omega]
        refine ⟨?_,by simp [intOf]; omega⟩
        repeat (first | exact ⟨⟨k+1,g',hv2,by omega,hg2,hst⟩,rfl⟩ | apply Exists.intro)
       ·have hkz:k=tlSize s' / 64:=by rw [← hz.out]; omega
        subst hkz; have q1:decide ((a:Int) < (z:Int))=false:=decide_eq_false (by omega); have q1':decide (a < z)=false:=decide_eq_false hlt
        have q1i:¬ (a:Int) < (z:Int):=by omega
        clear ha; have hT4:=hT.out.below (w':=wr.alloc (.cells #[.int .u8 0,.int .u8 0,.int .u8 0,.int .u8 0,.int .u8 0,.int .u8 0,.int .u8 0,.int .u8 0,.int .u8 0,.int .u8 0,.int .u8 0,.int .u8 0,.int .u8 0,.int .u8 0,.int .u8 0,.int .u8 0,.int .u8 0,.int .u8 0,.int .u8 0,.int .u8 0,.int .u8 0,.int .u8 0,.int .u8 0,.int .u8 0,.int .u8 0,.int .u8 0,.int .u8 0,.int .u8 0,.int .u8 0,.int .u8 0,.int .u8 0,.int .u8 0] 75)) (Below.refl _ _ |>.alloc (Nat.le_refl _) _) hT.out.lt; have s0:=hT4.hm.scell (k:=0) (by decide); have s1:=hT4.hm.scell (k:=1) (by decide); have s2:=hT4.hm.scell (k:=2) (by decide); have s3:=hT4.hm.scell (k:=3) (by decide); have s4:=hT4.hm.scell (k:=4) (by decide); have s5:=hT4.hm.scell (k:=5) (by decide); have s6:=hT4.hm.scell (k:=6) (by decide); have s7:=hT4.hm.scell (k:=7) (by decide)
        have hG:DM w.heap.size wr.heap.size (dgK g 0) w (wr.alloc (.cells #[.int .u8 0,.int .u8 0,.int .u8 0,.int .u8 0,.int .u8 0,.int .u8 0,.int .u8 0,.int .u8 0,.int .u8 0,.int .u8 0,.int .u8 0,.int .u8 0,.int .u8 0,.int .u8 0,.int .u8 0,.int .u8 0,.int .u8 0,.int .u8 0,.int .u8 0,.int .u8 0,.int .u8 0,.int .u8 0,.int .u8 0,.int .u8 0,.int .u8 0,.int .u8 0,.int .u8 0,.int .u8 0,.int .u8 0,.int .u8 0,.int .u8 0,.int .u8 0] 75)):=⟨hT4.hm.res,heap_alloc_new' _ _,hT4.hm.bel,by have h1:=hT.out.lt; have h2:=hT.out.far; omega⟩; replace hG:=hid hG; clear hT4
        go_wp2_with fail
        generalize wr.heap.size=G at *
        go_loopw [64] (fun v wr=>∃ k:Nat,v=.int .i64 k∧k≤8∧Hid (DM w.heap.size G (dgK g (4 * k)) w wr)) (fun i _=>8 - (intOf i).toNat)
        case atStart=>exact ⟨0,rfl,Nat.zero_le _,hG⟩
        case round =>
         clear hT hG s0 s1 s2 s3 s4 s5 s6 s7; obtain ⟨k,rfl,hk,hG⟩:=hrel; by_cases hlt:k < 8
         ·have q1:decide ((k:Int) < 8)=true:=decide_eq_true (by omega)
          have q1':decide (k < 8)=true:=decide_eq_true hlt
          have q1i:(k:Int) < 8:=by omega
          have hix:=idx8 g wr k hlt
          go_wp2_with fail
          go_loopw [68] (fun v wr=>∃ j:Nat,v=.int .i64 j∧j≤4∧Hid (DM w.heap.size G (dgK g (4 * k+j)) w wr)) (fun i _=>4 - (intOf i).toNat)
          case atStart=>exact ⟨0,rfl,Nat.zero_le _,hG⟩
          case round =>
           clear hG hix; obtain ⟨j,rfl,hj,hG⟩:=hrel; by_cases hlj:j < 4
           ·have p1:decide ((j:Int) < 4)=true:=decide_eq_true (by omega)
            have p1':decide (j < 4)=true:=decide_eq_true hlj
            have p1i:(j:Int) < 4:=by omega
            obtain ⟨p,hp⟩:∃ p,p=4 * k+j:=⟨_,rfl⟩; have e1:IntKind.i64.wrap (4 * (k:Int))=4 * (k:Int):=i64_wrap_id _ (by omega) (by omega)
            have e2:IntKind.i64.wrap (4 * (k:Int)+(j:Int))=(p:Int):=by rw [i64_wrap_id _ (by omega) (by omega)]; omega
            have e3:IntKind.i64.wrap (8 * (j:Int))=8 * (j:Int):=i64_wrap_id _ (by omega) (by omega)
            have e4:IntKind.i64.wrap (24 - 8 * (j:Int))=((24 - 8 * j:Nat):Int):=by rw [i64_wrap_id _ (by omega) (by omega)]; omega
            have l0:(0:Int)≤(p:Int):=by omega
            have l1:(p:Int) < 32:=by omega
            have c1:=hG.out.cell (k:=4 * k+j) (by omega); have f1:wr.frozen? ⟨G,p,none⟩=false:=free_of hG.out.dg; have hset:=hG.out.set (4 * k+j) (dgB g (4 * k+j)); rw [dgK_succ] at hset; have hv:=dg_at g k j hlj; rw [← hp] at c1 hset hv; generalize dgB g p=x at *; obtain ⟨sh,hsh⟩:∃ sh,sh=24 - 8 * j:=⟨_,rfl⟩; rw [← hsh] at e4 hv
            have hmin:min sh 32=sh:=by omega
            have e5:p+1=4 * k+(j+1):=by omega
            rw [e5] at hset; replace hset:=hid hset; replace hp:=hid hp; replace hsh:=hid hsh; clear hG e5
            go_wp2_with fail
            refine ⟨?_,by simp [intOf]; omega⟩
            repeat (first | exact ⟨⟨j+1,rfl,by omega,hset⟩,rfl⟩ | exact ⟨j+1,rfl,by omega,hset⟩ | apply Exists.intro)
           ·have hj4:j=4:=by omega
            subst hj4
            have p1:decide ((((4:Nat):Nat):Int) < 4)=false:=by decide
            clear hlj hj
            go_wp2_with fail
            have hG2:Hid (DM w.heap.size G (dgK g (4 * (k+1))) w wr):=hG; refine ⟨?_,by simp [intOf]; omega⟩
            repeat (first | exact ⟨⟨k+1,rfl,by omega,hG2⟩,rfl⟩ | exact ⟨k+1,rfl,by omega,hG2⟩ | apply Exists.intro)
         ·have hk8:k=8:=by omega
          subst hk8; clear hk hlt; obtain ⟨cs,hr,hcs⟩:=hG.out.res; have hdg:wr.heap[G]? = some (.cells (bcells 32 (dgK g 32)) 75 (0,0)):=hG.out.dg; have hone:=bcells_one 32 (dgK g 32); have hsz:(bcells 32 (dgK g 32)).size=32:=arr_size _ _
          have hval:shaF s=(List.range 32).map (dgB g):=by
           unfold shaF; rw [show shaW s=g by unfold shaW; rw [hE.out]; show shaT h s' (8 * s.length)=g; unfold shaT; rw [← hL.out,hTl.out,← hg.out]]
          have hfin:Value.agg (bcells 32 (dgK g 32))=dgv res:=by rw [← hres.out,hval,dgv_of]
          have hbel:=hG.out.bel; generalize bcells 32 (dgK g 32)=cells at *; replace hfin:=hid hfin; replace hbel:=hid hbel; replace hr:=hid hr; replace hdg:=hid hdg; replace hcs:=hid hcs; replace hsz:=hid hsz; replace hone:=hid hone; clear hG hval hres hg
          go_wp2_with (first | (refine wpList_load_row rfl 75 (.tmp 9) rfl G rfl 75 _ (0,0) _ hdg.out Tryz.underlying75 rfl (by rw [hsz.out]; kernel_rfl) ?_) | (refine wpList_store_row rfl 75 (.tmp 2) (.tmp 84) rfl w.heap.size cells rfl rfl 75 _ hr.out (by rw [hsz.out]; kernel_rfl) (by rw [hsz.out,hcs.out]) hone.out ?_))
          have hB:=below_setRow hbel.out (Nat.le_refl _) cells; have hrow:=setRow_heap _ _ _ cells _ _ hr.out; refine bodyPost_ret (v:=.agg cells) (results_cell_row (by rfl) _ _ w.heap.size 75 cells (0,0) _ (by rfl) hrow Tryz.underlying75 rfl (by rw [hsz.out]; kernel_rfl)) rfl ⟨by rw [hfin.out],hB⟩
end Go.Proofs.YtfejagpjahoibaaGreatDoor
