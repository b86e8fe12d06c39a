/- Small general lemmas: bits of int64, frames of worlds. -/
import Derived.WalkKit
import Derived.WalkLawsBesides
import Derived.Lib.Hide
namespace Go.Proofs.YtbkdakbhagjkhaaGreatDoor
open Go.RowKit
open Go.Lib (hid IsBuilder byteCells)
theorem i64_wrap_id (n : Int) (h0 : 0 ≤ n) (h1 : n < 2 ^ 63) : IntKind.i64.wrap n = n:=by rw [IntKind.wrap_i64]; omega
/-- w' is w with new blocks, and writes to the blocks in S alone. -/
structure Fr (S : Nat → Prop) (w w' : World) : Prop where
 os : w'.os = w.os
 tape : w'.tape = w.tape
 output : w'.output = w.output
 size : w.heap.size ≤ w'.heap.size
 block : ∀ k,k < w.heap.size → ¬ S k → w'.heap[k]? = w.heap[k]?
def none' : Nat → Prop:=fun _=>False
def one (b : Nat) : Nat → Prop:=fun k=>k = b
theorem Fr.refl (S : Nat → Prop) (w : World) : Fr S w w:=⟨rfl,rfl,rfl,Nat.le_refl _,fun _ _ _=>rfl⟩
theorem Fr.trans' {S T U : Nat → Prop} {a b c : World} (h : Fr S a b) (k : Fr T b c) (hs : ∀ i,S i → U i) (ht : ∀ i,i < a.heap.size → T i → U i) : Fr U a c :=
 ⟨k.os.trans h.os,k.tape.trans h.tape,k.output.trans h.output,Nat.le_trans h.size k.size,fun i hi hu =>
  (k.block i (Nat.lt_of_lt_of_le hi h.size) (fun t=>hu (ht i hi t))).trans (h.block i hi (fun s=>hu (hs i s)))⟩
theorem Fr.trans {S : Nat → Prop} {a b c : World} (h : Fr S a b) (k : Fr S b c) : Fr S a c:=h.trans' k (fun _ x=>x) (fun _ _ x=>x)
theorem Fr.mono {S T : Nat → Prop} {a b : World} (h : Fr S a b) (hs : ∀ i,i < a.heap.size → S i → T i) : Fr T a b :=
 ⟨h.os,h.tape,h.output,h.size,fun k hk ht=>h.block k hk (fun s=>ht (hs k hk s))⟩
theorem Fr.of_below {w w' : World} (h : Below w.heap.size w w') (S : Nat → Prop) : Fr S w w':=⟨h.os,h.tape,h.output,h.size,fun k hk _=>h.block k hk⟩
theorem Fr.to_below {S : Nat → Prop} {B : Nat} {w w' : World} (h : Fr S w w') (hB : B ≤ w.heap.size) (hs : ∀ k,k < B → ¬ S k) : Below B w w' :=
 ⟨h.os,h.tape,h.output,h.size,fun k hk=>h.block k (Nat.lt_of_lt_of_le hk hB) (hs k hk)⟩
theorem Fr.drew {S : Nat → Prop} {a w : World} (h : Fr S a w) : Fr S a w.drew:=⟨h.os,h.tape,h.output,h.size,h.block⟩
theorem Fr.drewN {S : Nat → Prop} {a w : World} (h : Fr S a w) (n : Nat) : Fr S a (w.drewN n):=⟨h.os,h.tape,h.output,h.size,h.block⟩
theorem Fr.alloc {S : Nat → Prop} {a w : World} (h : Fr S a w) (o : Obj) : Fr S a (w.alloc o) :=
 h.trans ⟨rfl,rfl,rfl,by simp,fun k hk _=>Below.heap_alloc _ _ _ hk⟩
theorem Fr.setCell {S : Nat → Prop} {a w : World} (h : Fr S a w) {p : Addr} (hp : S p.block ∨ a.heap.size ≤ p.block) (u : Value) : Fr S a (w.setCell p u) :=
 ⟨h.os,h.tape,h.output,by simpa [World.setCell] using h.size,fun k hk hs=>by
  rw [Below.heap_setCell _ _ _ _ (fun e=>by subst e; rcases hp with hp | hp; exact hs hp; omega)]
  exact h.block k hk hs⟩
theorem Fr.grown {S : Nat → Prop} {a w w' : World} {row : Option Nat} (h : Fr S a w) (hg : w.grownBy w' row) (hr : ∀ k,row = some k → S k ∨ a.heap.size ≤ k) : Fr S a w' :=
 ⟨hg.os.trans h.os,hg.tape.trans h.tape,hg.output.trans h.output,Nat.le_trans h.size hg.size,fun k hk hs =>
  (hg.block k (Nat.lt_of_lt_of_le hk h.size) (fun e=>by rcases hr k e.symm with x | x; exact hs x; omega)).trans (h.block k hk hs)⟩
theorem lt_of_heap {w : World} {b : Nat} {o : Obj} (h : w.heap[b]? = some o) : b < w.heap.size:=(Array.getElem?_eq_some_iff.1 h).1
theorem cell_of {w : World} {b i : Nat} {cs : Array Value} {t : TypeId} {f : Nat × Nat} (h : w.heap[b]? = some (.cells cs t f)) : w.cell? ⟨b,i,none⟩ = cs[i]?:=by simp [World.cell?,h]
theorem free_of {w : World} {b i : Nat} {cs : Array Value} {t : TypeId} (h : w.heap[b]? = some (.cells cs t (0,0))) : w.frozen? ⟨b,i,none⟩ = false:=by simp [World.frozen?,h]
theorem heap_setCell_same {w : World} {b i : Nat} {cs : Array Value} {t : TypeId} {f : Nat × Nat} (h : w.heap[b]? = some (.cells cs t f)) (v : Value) :
  (w.setCell ⟨b,i,none⟩ v).heap[b]? = some (.cells (cs.setIfInBounds i v) t f):=by
 simp [World.setCell,Array.getElem?_modify,h]
theorem heap_setCell_other {w : World} {b c i : Nat} (v : Value) (h : c ≠ b) : (w.setCell ⟨b,i,none⟩ v).heap[c]? = w.heap[c]?:=Below.heap_setCell _ _ _ _ h
theorem heap_alloc_new' (w : World) (o : Obj) : (w.alloc o).heap[w.heap.size]? = some o:=by
 show (w.heap.push o)[w.heap.size]? = _; simp
theorem Fr.keep {S : Nat → Prop} {w w' : World} (h : Fr S w w') {b : Nat} {o : Obj} (hb : w.heap[b]? = some o) (hs : ¬ S b) : w'.heap[b]? = some o :=
 (h.block b (lt_of_heap hb) hs).trans hb
theorem below_keep {B : Nat} {w w' : World} (h : Below B w w') {b : Nat} {o : Obj} (hb : w.heap[b]? = some o) (hs : b < B) : w'.heap[b]? = some o :=
 (h.block b hs).trans hb
/-- v is a slice of n elements of sz cells each; its cells are cs; they lie in a block below B. -/
def Row (B : Nat) (w : World) (sz : Nat) (v : Value) (n : Nat) (cs : List Value) : Prop :=
 ∃ a cap b off,v = .slice a n cap ∧ cs.length = n * sz ∧ (0 < n → a = some ⟨b,off,none⟩ ∧ b < B) ∧ ∀ j (h : j < cs.length),w.cell? ⟨b,off + j,none⟩ = some cs[j]
theorem Row.mono {B B' : Nat} {w : World} {sz : Nat} {v : Value} {n : Nat} {cs : List Value} (h : Row B w sz v n cs) (hB : B ≤ B') : Row B' w sz v n cs:=by
 obtain ⟨a,cap,b,off,h1,h2,h3,h4⟩:=h; exact ⟨a,cap,b,off,h1,h2,fun hn=>⟨(h3 hn).1,Nat.lt_of_lt_of_le (h3 hn).2 hB⟩,h4⟩
theorem Row.kept {B : Nat} {w w' : World} {sz : Nat} {v : Value} {n : Nat} {cs : List Value} (h : Row B w sz v n cs) (hw : ∀ k,k < B → w'.heap[k]? = w.heap[k]?) : Row B w' sz v n cs:=by
 obtain ⟨a,cap,b,off,h1,h2,h3,h4⟩:=h; refine ⟨a,cap,b,off,h1,h2,h3,fun j hj=>?_⟩; rcases Nat.eq_zero_or_pos n with h0 | h0
 ·rw [h0] at h2; simp at h2; simp [h2] at hj
 ·rw [World.cell?_of_block (w:=w) (hw b (h3 h0).2)]; exact h4 j hj
theorem Row.below {B C : Nat} {w w' : World} {sz : Nat} {v : Value} {n : Nat} {cs : List Value} (h : Row B w sz v n cs) (hw : Below C w w') (hC : B ≤ C) : Row B w' sz v n cs :=
 h.kept fun k hk=>hw.block k (by omega)
theorem Row.nil (B : Nat) (w : World) (sz : Nat) (cap : Nat) : Row B w sz (.slice none 0 cap) 0 [] :=
 ⟨none,cap,0,0,rfl,by simp,fun h=>by omega,fun j hj=>by simp at hj⟩
theorem row_idx {P : Program} {t : TypeId} {sz : Nat} (ht : P.underlying t = some (.slice (P.elem t))) (hz : ∀ w,(sizeOf (P.elem t)).run P w = .ok sz w) {a : Option Addr} {b off : Nat} (ha : a = some ⟨b,off,none⟩)
  (n cap : Nat) (k : Nat) (hk : k < n) (kd : IntKind) (W : World) : (Instr.indexAt t (.slice a n cap) (.int kd k)).run P W = .ok (.pointer (some ⟨b,off + k * sz,none⟩)) W:=by
 subst ha; rw [run_indexAt_slice W t _ n cap kd k ht,if_pos (by omega),hz]; simp [Result.andThen,Addr.add]
theorem one1 {u : Value} (h : u.oneCell' = true) : ∀ x ∈ [u],x.oneCell' = true:=by
 intro x hx; simp at hx; subst hx; exact h

end Go.Proofs.YtbkdakbhagjkhaaGreatDoor
