/- Rel: Lib, Str, Rel, in one text. -/
import Derived.WalkKit
import Derived.WalkLawsBesides
import Derived.Lib.Hide
import Derived.Deep.DeepCutAuto
import Derived.Maps.AppendAt
set_option linter.unusedVariables false
namespace Go.Proofs.YtfejagpjahoibaaGreatDoor
open Go.RowKit
open Go.Lib (hid IsBuilder byteCells)
theorem i64_wrap_id (n:Int) (h0:0≤n) (h1:n < 2 ^ 63):IntKind.i64.wrap n=n:=by rw [IntKind.wrap_i64]; omega
theorem and_i64 (a b:Int) (ha:0≤a) (ha':a < 9223372036854775808) (hb:0≤b) (hb':b < 9223372036854775808):bits .and .i64 a b=((a.toNat &&& b.toNat:Nat):Int):=by
 have h:=bits_nat .i64 63 (by decide) i64_wrap_id a.toNat b.toNat (by omega) (by omega); rw [Int.toNat_of_nonneg ha,Int.toNat_of_nonneg hb] at h; exact h.1
theorem or_i64 (a b:Int) (ha:0≤a) (ha':a < 9223372036854775808) (hb:0≤b) (hb':b < 9223372036854775808):bits .or .i64 a b=((a.toNat ||| b.toNat:Nat):Int):=by
 have h:=bits_nat .i64 63 (by decide) i64_wrap_id a.toNat b.toNat (by omega) (by omega); rw [Int.toNat_of_nonneg ha,Int.toNat_of_nonneg hb] at h; exact h.2
theorem mask_i64 (i:Nat) (hi:i≤62) (a:Int) (ha:0≤a) (ha':a < 9223372036854775808):bits .and .i64 a ((2 ^ i - 1:Nat):Int)=a % ((2 ^ i:Nat):Int):=by
 have h2:2 ^ i≤2 ^ 62:=Nat.pow_le_pow_right (by decide) hi; rw [and_i64 a _ ha ha' (by omega) (by omega),Int.toNat_natCast,Nat.and_two_pow_sub_one_eq_mod]; obtain ⟨n,rfl⟩:=Int.eq_ofNat_of_zero_le ha; rw [Int.toNat_natCast,Int.natCast_emod]
theorem join_i64' (i:Nat) (a b:Int) (ha:0≤a) (ha':a < 9223372036854775808) (hb:0≤b) (hb':b < 9223372036854775808) (h1:b % ((2 ^ i:Nat):Int)=0) (h2:a < ((2 ^ i:Nat):Int)):bits .or .i64 a b=a+b:=by
 obtain ⟨n,rfl⟩:=Int.eq_ofNat_of_zero_le ha; obtain ⟨m,rfl⟩:=Int.eq_ofNat_of_zero_le hb; rw [or_i64 _ _ ha ha' hb hb',Int.toNat_natCast,Int.toNat_natCast,Nat.or_comm,nat_join i m n (by exact_mod_cast h1) (by omega)]; omega
theorem and127 (q:Int) (h:0≤q) (h':q < 9223372036854775808):bits .and .i64 q 127=q % 128:=mask_i64 7 (by decide) q h h'
theorem and127_or128 (q:Int) (h:0≤q) (h':q < 9223372036854775808):bits .or .i64 (bits .and .i64 q 127) 128=q % 128+128:=by
 rw [and127 q h h',join_i64' 7 _ _ (by omega) (by omega) (by omega) (by omega) (by decide) (by omega)]

/-- w' is w with new blocks, and writes to the blocks in S alone. -/
structure Fr (S:Nat→Prop) (w w':World):Prop where
 os:w'.os=w.os
 tape:w'.tape=w.tape
 output:w'.output=w.output
 size:w.heap.size≤w'.heap.size
 block:∀ k,k < w.heap.size→¬ S k→w'.heap[k]? = w.heap[k]?
def one (b:Nat):Nat→Prop:=fun k=>k=b
theorem Fr.refl (S:Nat→Prop) (w:World):Fr S w w:=⟨rfl,rfl,rfl,Nat.le_refl _,fun _ _ _=>rfl⟩
theorem Fr.trans' {S T U:Nat→Prop} {a b c:World} (h:Fr S a b) (k:Fr T b c) (hs:∀ i,S i→U i) (ht:∀ i,i < a.heap.size→T i→U i):Fr U a c :=
 ⟨k.os.trans h.os,k.tape.trans h.tape,k.output.trans h.output,Nat.le_trans h.size k.size,fun i hi hu =>
  (k.block i (Nat.lt_of_lt_of_le hi h.size) (fun t=>hu (ht i hi t))).trans (h.block i hi (fun s=>hu (hs i s)))⟩
theorem Fr.trans {S:Nat→Prop} {a b c:World} (h:Fr S a b) (k:Fr S b c):Fr S a c:=h.trans' k (fun _ x=>x) (fun _ _ x=>x)
theorem Fr.mono {S T:Nat→Prop} {a b:World} (h:Fr S a b) (hs:∀ i,i < a.heap.size→S i→T i):Fr T a b :=
 ⟨h.os,h.tape,h.output,h.size,fun k hk ht=>h.block k hk (fun s=>ht (hs k hk s))⟩
theorem Fr.of_below {w w':World} (h:Below w.heap.size w w') (S:Nat→Prop):Fr S w w':=⟨h.os,h.tape,h.output,h.size,fun k hk _=>h.block k hk⟩
theorem Fr.to_below {S:Nat→Prop} {B:Nat} {w w':World} (h:Fr S w w') (hB:B≤w.heap.size) (hs:∀ k,k < B→¬ S k):Below B w w' :=
 ⟨h.os,h.tape,h.output,h.size,fun k hk=>h.block k (Nat.lt_of_lt_of_le hk hB) (hs k hk)⟩
theorem Fr.drew {S:Nat→Prop} {a w:World} (h:Fr S a w):Fr S a w.drew:=⟨h.os,h.tape,h.output,h.size,h.block⟩
theorem Fr.drewN {S:Nat→Prop} {a w:World} (h:Fr S a w) (n:Nat):Fr S a (w.drewN n):=⟨h.os,h.tape,h.output,h.size,h.block⟩
theorem Fr.alloc {S:Nat→Prop} {a w:World} (h:Fr S a w) (o:Obj):Fr S a (w.alloc o) :=
 h.trans ⟨rfl,rfl,rfl,by simp,fun k hk _=>Below.heap_alloc _ _ _ hk⟩
theorem Fr.setCell {S:Nat→Prop} {a w:World} (h:Fr S a w) {p:Addr} (hp:S p.block∨a.heap.size≤p.block) (u:Value):Fr S a (w.setCell p u) :=
 ⟨h.os,h.tape,h.output,by simpa [World.setCell] using h.size,fun k hk hs=>by
  rw [Below.heap_setCell _ _ _ _ (fun e=>by subst e; rcases hp with hp | hp; exact hs hp; omega)]
  exact h.block k hk hs⟩
theorem Fr.grown {S:Nat→Prop} {a w w':World} {row:Option Nat} (h:Fr S a w) (hg:w.grownBy w' row) (hr:∀ k,row=some k→S k∨a.heap.size≤k):Fr S a w' :=
 ⟨hg.os.trans h.os,hg.tape.trans h.tape,hg.output.trans h.output,Nat.le_trans h.size hg.size,fun k hk hs =>
  (hg.block k (Nat.lt_of_lt_of_le hk h.size) (fun e=>by rcases hr k e.symm with x | x; exact hs x; omega)).trans (h.block k hk hs)⟩
theorem lt_of_heap {w:World} {b:Nat} {o:Obj} (h:w.heap[b]? = some o):b < w.heap.size:=(Array.getElem?_eq_some_iff.1 h).1
theorem cell_of {w:World} {b i:Nat} {cs:Array Value} {t:TypeId} {f:Nat × Nat} (h:w.heap[b]? = some (.cells cs t f)):w.cell? ⟨b,i,none⟩=cs[i]?:=by simp [World.cell?,h]
theorem free_of {w:World} {b i:Nat} {cs:Array Value} {t:TypeId} (h:w.heap[b]? = some (.cells cs t (0,0))):w.frozen? ⟨b,i,none⟩=false:=by simp [World.frozen?,h]
theorem heap_setCell_same {w:World} {b i:Nat} {cs:Array Value} {t:TypeId} {f:Nat × Nat} (h:w.heap[b]? = some (.cells cs t f)) (v:Value) :
  (w.setCell ⟨b,i,none⟩ v).heap[b]? = some (.cells (cs.setIfInBounds i v) t f):=by
 simp [World.setCell,Array.getElem?_modify,h]
theorem heap_setCell_other {w:World} {b c i:Nat} (v:Value) (h:c≠b):(w.setCell ⟨b,i,none⟩ v).heap[c]? = w.heap[c]?:=Below.heap_setCell _ _ _ _ h
theorem heap_alloc_new' (w:World) (o:Obj):(w.alloc o).heap[w.heap.size]? = some o:=by
 show (w.heap.push o)[w.heap.size]? = _; simp
theorem heap_alloc_lt {w:World} {o o':Obj} {b:Nat} (h:w.heap[b]? = some o):(w.alloc o').heap[b]? = some o:=by
 rw [Below.heap_alloc _ _ _ (lt_of_heap h)]; exact h
theorem Fr.keep {S:Nat→Prop} {w w':World} (h:Fr S w w') {b:Nat} {o:Obj} (hb:w.heap[b]? = some o) (hs:¬ S b):w'.heap[b]? = some o :=
 (h.block b (lt_of_heap hb) hs).trans hb
theorem below_keep {B:Nat} {w w':World} (h:Below B w w') {b:Nat} {o:Obj} (hb:w.heap[b]? = some o) (hs:b < B):w'.heap[b]? = some o :=
 (h.block b hs).trans hb
/-- v is a slice of n elements of sz cells each; its cells are cs; they lie in a block below B. -/
def Row (B:Nat) (w:World) (sz:Nat) (v:Value) (n:Nat) (cs:List Value):Prop :=
 ∃ a cap b off,v=.slice a n cap∧cs.length=n * sz∧(0 < n→a=some ⟨b,off,none⟩∧b < B)∧∀ j (h:j < cs.length),w.cell? ⟨b,off+j,none⟩=some cs[j]
theorem Row.mono {B B':Nat} {w:World} {sz:Nat} {v:Value} {n:Nat} {cs:List Value} (h:Row B w sz v n cs) (hB:B≤B'):Row B' w sz v n cs:=by
 obtain ⟨a,cap,b,off,h1,h2,h3,h4⟩:=h; exact ⟨a,cap,b,off,h1,h2,fun hn=>⟨(h3 hn).1,Nat.lt_of_lt_of_le (h3 hn).2 hB⟩,h4⟩
theorem Row.kept {B:Nat} {w w':World} {sz:Nat} {v:Value} {n:Nat} {cs:List Value} (h:Row B w sz v n cs) (hw:∀ k,k < B→w'.heap[k]? = w.heap[k]?):Row B w' sz v n cs:=by
 obtain ⟨a,cap,b,off,h1,h2,h3,h4⟩:=h; refine ⟨a,cap,b,off,h1,h2,h3,fun j hj=>?_⟩; rcases Nat.eq_zero_or_pos n with h0 | h0
 ·rw [h0] at h2; simp at h2; simp [h2] at hj
 ·rw [World.cell?_of_block (w:=w) (hw b (h3 h0).2)]; exact h4 j hj
theorem Row.below {B C:Nat} {w w':World} {sz:Nat} {v:Value} {n:Nat} {cs:List Value} (h:Row B w sz v n cs) (hw:Below C w w') (hC:B≤C):Row B w' sz v n cs :=
 h.kept fun k hk=>hw.block k (by omega)
theorem Row.nil (B:Nat) (w:World) (sz:Nat) (cap:Nat):Row B w sz (.slice none 0 cap) 0 [] :=
 ⟨none,cap,0,0,rfl,by simp,fun h=>by omega,fun j hj=>by simp at hj⟩
theorem Row.of_owns {w:World} {base:Nat} {e:TypeId} {sz:Nat} {v:Value} {n:Nat} {xs:List Value} (h:w.ownsRow base e sz v n xs):Row w.heap.size w sz v n xs:=by
 obtain ⟨h1,h2⟩:=h; rcases h2 with ⟨rfl,rfl⟩ | ⟨g,cap,cur,rfl,hb,hg,hn,hm,hs,ht⟩
 ·exact ⟨none,0,0,0,rfl,h1,fun h=>by omega,fun j hj=>by simp at h1; simp [h1] at hj⟩
 ·refine ⟨_,cap,g,0,rfl,h1,fun _=>⟨rfl,lt_of_heap hg⟩,fun j hj=>?_⟩
  rw [Nat.zero_add,cell_of hg,← Array.getElem?_toList]; have e:xs[j]? = some xs[j]:=List.getElem?_eq_getElem hj
  have h3:(cur.toList.take (n * sz))[j]? = some xs[j]:=by rw [ht]; exact e
  rwa [List.getElem?_take_of_lt (by omega)] at h3
theorem row_idx {P:Program} {t:TypeId} {sz:Nat} (ht:P.underlying t=some (.slice (P.elem t))) (hz:∀ w,(sizeOf (P.elem t)).run P w=.ok sz w) {a:Option Addr} {b off:Nat} (ha:a=some ⟨b,off,none⟩)
  (n cap:Nat) (k:Nat) (hk:k < n) (kd:IntKind) (W:World):(Instr.indexAt t (.slice a n cap) (.int kd k)).run P W=.ok (.pointer (some ⟨b,off+k * sz,none⟩)) W:=by
 subst ha; rw [run_indexAt_slice W t _ n cap kd k ht,if_pos (by omega),hz]; simp [Result.andThen,Addr.add]
theorem one1 {u:Value} (h:u.oneCell'=true):∀ x∈[u],x.oneCell'=true:=by
 intro x hx; simp at hx; subst hx; exact h

end Go.Proofs.YtfejagpjahoibaaGreatDoor
namespace Go.Proofs.YtfejagpjahoibaaGreatDoor
open Go.RowKit
abbrev sv (l:List UInt8):Value:=.string ⟨l.toArray⟩
theorem ext_take (s:List UInt8) (k:Nat):(ByteArray.mk s.toArray).extract 0 k=⟨(s.take k).toArray⟩:=by rw [ByteArray.extract_mk]; simp
theorem ext_drop (s:List UInt8) (k:Nat):(ByteArray.mk s.toArray).extract k s.length=⟨(s.drop k).toArray⟩:=by
 rw [ByteArray.extract_mk,List.take_of_length_le (by simp)]
theorem idx_str {P:Program} (t:TypeId) (ht:P.underlying t=some .string) (s:List UInt8) (k:Nat) (c:UInt8) (hc:s[k]? = some c):∀ kd W,(Instr.index t (.string ⟨s.toArray⟩) (.int kd k)).run P W=.ok (.int .u8 c.toNat) W:=by
 intro kd W; obtain ⟨hk,e⟩:=List.getElem?_eq_some_iff.1 hc; rw [run_index_string W t _ kd k ht]; rw [dif_pos ⟨by omega,by rw [ByteArray.size_mk',List.size_toArray]; omega⟩]; subst e; rfl
theorem idx_str0 {P:Program} (t:TypeId) (ht:P.underlying t=some .string) (c:UInt8) (s:List UInt8):∀ kd W,(Instr.index t (.string ⟨(c::s).toArray⟩) (.int kd 0)).run P W=.ok (.int .u8 c.toNat) W:=fun kd W=>idx_str t ht (c::s) 0 c rfl kd W
/-- an append in a region that draws, by its run -/
theorem step_append_run {P:Program} {ops:Array Oper} {o:Oper} {a:Act} {w w':World} {K:Act→World→Prop} {Q:Exit→Act→World→Prop} {E:Prop} (hg:o.guard=none) (s x:Operand) (t u:TypeId)
  (hop:o.op=Op.call { callee:=Callee.builtin Builtin.append,args:=#[s,x],argTypes:=#[t,u] }) {vs vx v':Value} (hs:a.eval s=vs) (hx:a.eval x=vx)
  (hrun:(Builtin.append_ #[t,u] o.type #[vs,vx]).run P w=.ok v' w') (hK:K (a.put o.dst v') w'):if Region.wanted o (yielded ops a.tmps)=true then Oper.wp P o a w K Q else E:=by
 have hw:Region.wanted o (yielded ops a.tmps)=true:=by simp [Region.wanted,hg]
 rw [if_pos hw]; unfold Oper.wp execOp; simp only [hop,resolve,invoke,builtin,Sem.run_bind,Sem.run_pure,Result.andThen_ok,List.map_toArray,List.map_cons,List.map_nil,hs,hx,hrun]; exact hK
/-- an append by its run -/
theorem wpList_append_run {P:Program} {ops:Array Oper} {rest:List Oper} {o:Oper} {a:Act} {w w':World} {Q:Exit→Act→World→Prop} (hg:o.guard=none) (s x:Operand) (t u:TypeId)
  (hop:o.op=Op.call { callee:=Callee.builtin Builtin.append,args:=#[s,x],argTypes:=#[t,u] }) {vs vx v':Value} (hs:a.eval s=vs) (hx:a.eval x=vx)
  (hrun:(Builtin.append_ #[t,u] o.type #[vs,vx]).run P w=.ok v' w') (h:wpList P ops Q rest (a.put o.dst v') w'):wpList P ops Q (o::rest) a w:=by
 refine wpList_plain hg fun K hK=>?_
 unfold Oper.wp execOp; simp only [hop,resolve,invoke,builtin,Sem.run_bind,Sem.run_pure,Result.andThen_ok,List.map_toArray,List.map_cons,List.map_nil,hs,hx,hrun]; exact hK _ _ h
end Go.Proofs.YtfejagpjahoibaaGreatDoor
namespace Go.Proofs.YtfejagpjahoibaaGreatDoor
open Go.RowKit
open Go.Lib (hid)
abbrev iv (n:Int):Value:=.int .i64 n
abbrev pt (b:Nat):Value:=.pointer (some ⟨b,0,none⟩)
abbrev Foot:=Nat→Prop
/-- all memory from B on -/
def from_ (B:Nat):Foot:=fun k=>B≤k
/-- R S w x cs: the cells cs stand for x in w; what they refer to lies in blocks of S -/
abbrev Rel (α:Type):=Foot→World→α→List Value→Prop
structure Good {α:Type} (sz:Nat) (R:Rel α):Prop where
 len:∀ {S w x cs},R S w x cs→cs.length=sz
 one:∀ {S w x cs},R S w x cs→∀ u∈cs,u.oneCell'=true
 move:∀ {S T w w' x cs},R S w x cs→(∀ k,k < w.heap.size→S k→T k∧w'.heap[k]? = w.heap[k]?)→R T w' x cs
section
variable {α:Type} {sz:Nat} {R:Rel α} {S T:Foot} {w w':World} {x:α} {cs:List Value}
theorem Good.below (h:Good sz R) (hr:R S w x cs) (hb:Below w.heap.size w w'):R S w' x cs:=h.move hr fun k hk hs=>⟨hs,hb.block k hk⟩
theorem Good.mono (h:Good sz R) (hr:R S w x cs) (hs:∀ k,k < w.heap.size→S k→T k):R T w x cs:=h.move hr fun k hk hk2=>⟨hs k hk hk2,rfl⟩
theorem Good.fr (h:Good sz R) (hr:R S w x cs) {G:Foot} (hf:Fr G w w') (hs:∀ k,S k→¬ G k):R S w' x cs:=h.move hr fun k hk hk2=>⟨hk2,hf.block k hk (hs k hk2)⟩
end
theorem below_drewM {B:Nat} {w w':World} (h:Below B w w') (n:Nat):Below B w (w'.drewN n):=⟨h.os,h.tape,h.output,h.size,h.block⟩
/-- the slice v stands for the list l, element by element (sz cells each) -/
def SlR {α:Type} (sz:Nat) (R:Rel α) (S:Foot) (w:World) (l:List α) (v:Value):Prop :=
 ∃ (a:Option Addr) (cap b off:Nat) (cs:Nat→List Value),v=.slice a l.length cap∧l.length≤cap∧(0 < l.length→a=some ⟨b,off,none⟩∧S b∧b < w.heap.size) ∧
  (∀ i,i < l.length→∀ j u,(cs i)[j]? = some u→w.cell? ⟨b,off+i * sz+j,none⟩=some u)∧∀ i x,l[i]? = some x→R S w x (cs i)
theorem lt_of_some {w:World} {b:Nat} {o:Obj} (h:w.heap[b]? = some o):b < w.heap.size:=(Array.getElem?_eq_some_iff.1 h).1
theorem some_of_lt {w:World} {b:Nat} (h:b < w.heap.size):∃ o,w.heap[b]? = some o:=⟨_,Array.getElem?_eq_getElem h⟩
theorem lt_same {w w':World} {b:Nat} (h:b < w.heap.size) (e:w'.heap[b]? = w.heap[b]?):b < w'.heap.size:=by
 obtain ⟨o,ho⟩:=some_of_lt h; rw [ho] at e; exact lt_of_some e
section
variable {α:Type} {sz:Nat} {R:Rel α} {S T:Foot} {w w':World} {x:α} {l:List α} {v:Value}
theorem SlR.nil (sz:Nat) (R:Rel α) (S:Foot) (w:World) (cap:Nat):SlR sz R S w [] (.slice none 0 cap) :=
 ⟨none,cap,0,0,fun _=>[],rfl,Nat.zero_le _,fun h=>absurd h (by simp),fun i h=>absurd h (by simp),fun i x h=>by simp at h⟩
theorem SlR.move (hR:Good sz R) (h:SlR sz R S w l v) (hm:∀ k,k < w.heap.size→S k→T k∧w'.heap[k]? = w.heap[k]?):SlR sz R T w' l v:=by
 obtain ⟨a,cap,b,off,cs,h1,h2,h3,h4,h5⟩:=h; refine ⟨a,cap,b,off,cs,h1,h2,fun hl=>?_,fun i hi j u hu=>?_,fun i x hx=>hR.move (h5 i x hx) hm⟩
 ·obtain ⟨e,hs,hb⟩:=h3 hl
  exact ⟨e,(hm b hb hs).1,lt_same hb (hm b hb hs).2⟩
 ·obtain ⟨e,hs,hb⟩:=h3 (by omega)
  rw [World.cell?_of_block (w:=w) (hm b hb hs).2]; exact h4 i hi j u hu
theorem SlR.below (hR:Good sz R) (h:SlR sz R S w l v) (hb:Below w.heap.size w w'):SlR sz R S w' l v:=h.move hR fun k hk hs=>⟨hs,hb.block k hk⟩
theorem SlR.mono (hR:Good sz R) (h:SlR sz R S w l v) (hs:∀ k,k < w.heap.size→S k→T k):SlR sz R T w l v:=h.move hR fun k hk hk2=>⟨hs k hk hk2,rfl⟩
theorem SlR.fr (hR:Good sz R) (h:SlR sz R S w l v) {G:Foot} (hf:Fr G w w') (hs:∀ k,S k→¬ G k):SlR sz R S w' l v:=h.move hR fun k hk hk2=>⟨hk2,hf.block k hk (hs k hk2)⟩
theorem SlR.slice (h:SlR sz R S w l v):∃ a cap,v=.slice a l.length cap∧l.length≤cap:=by
 obtain ⟨a,cap,b,off,cs,h1,h2,_⟩:=h; exact ⟨a,cap,h1,h2⟩
theorem SlR.empty {n cap:Nat} (h:SlR sz R S w l (.slice none n cap)):l=[]:=by
 obtain ⟨a,cap',b,off,cs,h1,h2,h3,_⟩:=h; rcases Nat.eq_zero_or_pos l.length with h0 | h0
 ·exact List.eq_nil_of_length_eq_zero h0
 ·have:=(h3 h0).1; subst this; cases h1
/-- element i: its address, its cells -/
theorem SlR.at {P:Program} {t:TypeId} {a:Option Addr} {n cap i:Nat} (h:SlR sz R S w l (.slice a n cap)) (ht:P.underlying t=some (.slice (P.elem t))) (hz:∀ w,(sizeOf (P.elem t)).run P w=.ok sz w) (hi:l[i]? = some x) :
  ∃ g o cs,(∀ kd W,(Instr.indexAt t (.slice a n cap) (.int kd i)).run P W=.ok (.pointer (some ⟨g,o,none⟩)) W)∧S g∧g < w.heap.size∧(∀ j u,cs[j]? = some u→w.cell? ⟨g,o+j,none⟩=some u)∧R S w x cs:=by
 obtain ⟨a',cap',b,off,cs,h1,h2,h3,h4,h5⟩:=h; simp only [Value.slice.injEq] at h1; obtain ⟨rfl,rfl,rfl⟩:=h1; have hlt:=(List.getElem?_eq_some_iff.1 hi).1; obtain ⟨e,hs,hb⟩:=h3 (by omega); exact ⟨b,off+i * sz,cs i,fun kd W=>row_idx ht hz e l.length cap i hlt kd W,hs,hb,h4 i hlt,h5 i x hi⟩
end
/-- a list of strings, of integers -/
def StrR:Rel (List UInt8):=fun _ _ s cs=>cs=[sv s]
def IntR:Rel Int:=fun _ _ n cs=>cs=[iv n]
theorem goodStr:Good 1 StrR:=⟨fun h=>by rw [h]; rfl,fun h=>by rw [h]; exact one1 rfl,fun h _=>h⟩
theorem goodInt:Good 1 IntR:=⟨fun h=>by rw [h]; rfl,fun h=>by rw [h]; exact one1 rfl,fun h _=>h⟩

/-- the cells from o on are set -/
def setCells (w:World) (b:Nat):Nat→List Value→World
 | _,[]=>w
 | o,u::cs=>setCells (w.setCell ⟨b,o,none⟩ u) b (o+1) cs
def putList:List Value→Nat→List Value→List Value
 | xs,_,[]=>xs
 | xs,o,u::cs=>putList (xs.set o u) (o+1) cs
theorem putList_other:∀ (cs xs:List Value) (o i:Nat),i < o∨o+cs.length≤i→(putList xs o cs)[i]? = xs[i]?
 | [],_,_,_,_=>rfl
 | u::cs,xs,o,i,h=>by
  rw [putList,putList_other cs _ _ _ (by simp at h; omega)]; rw [List.getElem?_set_ne (by simp at h; omega)]
theorem putList_at:∀ (cs xs:List Value) (o j:Nat),j < cs.length→o+cs.length≤xs.length→(putList xs o cs)[o+j]? = cs[j]?
 | [],_,_,j,h,_=>absurd h (by simp)
 | u::cs,xs,o,0,_,hl=>by
  simp only [List.length_cons] at hl; rw [putList,putList_other cs _ _ _ (by omega),Nat.add_zero,List.getElem?_set_self (by omega)]; rfl
 | u::cs,xs,o,j+1,h,hl=>by
  have:=putList_at cs (xs.set o u) (o+1) j (by simpa using h) (by simp at hl ⊢; omega); rw [putList,show o+(j+1)=o+1+j by omega,this]; simp
theorem setCells_other (b:Nat):∀ (cs:List Value) (w:World) (o k:Nat),k≠b→(setCells w b o cs).heap[k]? = w.heap[k]?
 | [],_,_,_,_=>rfl
 | u::cs,w,o,k,h=>by rw [setCells,setCells_other b cs _ _ _ h,heap_setCell_other u h]
theorem Fr.setCells {S:Foot} {b:Nat}:∀ (cs:List Value) {a w:World} (o:Nat),Fr S a w→(S b∨a.heap.size≤b)→Fr S a (setCells w b o cs)
 | [],_,_,_,h,_=>h
 | u::cs,_,_,o,h,hb=>Fr.setCells cs (o+1) (h.setCell hb u) hb
theorem owns_setCells {base g n cap:Nat} {e:TypeId} {sz:Nat}:∀ (cs:List Value) (w:World) (xs:List Value) (o:Nat),w.ownsRow base e sz (.slice (some ⟨g,0,none⟩) n cap) n xs→o+cs.length≤n * sz →
  (setCells w g o cs).ownsRow base e sz (.slice (some ⟨g,0,none⟩) n cap) n (putList xs o cs)
 | [],_,_,_,h,_=>h
 | u::cs,w,xs,o,h,hl=>by
  rw [setCells,putList]; exact owns_setCells cs _ _ (o+1) (h.stored o u).1 (by simp at hl; omega)

/-- the slice v is a row of the owner's own (elements of type E, sz cells each) that stands for l -/
def OwnR {α:Type} (E:TypeId) (sz:Nat) (R:Rel α) (S:Foot) (w:World) (l:List α) (v:Value):Prop :=
 ∃ xs,w.ownsRow 0 E sz v l.length xs∧(∀ k,v.ownBlock=some k→S k)∧∀ i x,l[i]? = some x→∃ cs,(∀ j u,cs[j]? = some u→xs[i * sz+j]? = some u)∧R (fun k=>S k∧v.ownBlock≠some k) w x cs
theorem owns_move {w w':World} {base base':Nat} {e:TypeId} {sz n:Nat} {v:Value} {xs:List Value} (h:w.ownsRow base e sz v n xs) (hk:∀ k,v.ownBlock=some k→w'.heap[k]? = w.heap[k]?) (hb:∀ k,v.ownBlock=some k→base'≤k):w'.ownsRow base' e sz v n xs:=by
 obtain ⟨h1,h2⟩:=h; refine ⟨h1,?_⟩; rcases h2 with h2 | ⟨g,cap,cur,rfl,_,hg,rest⟩
 ·exact Or.inl h2
 ·exact Or.inr ⟨g,cap,cur,rfl,hb g rfl,(hk g rfl).trans hg,rest⟩
theorem owns_form {w:World} {base:Nat} {e:TypeId} {sz n:Nat} {v:Value} {xs:List Value} (h:w.ownsRow base e sz v n xs):∃ a c,v=.slice a n c∧n≤c∧c≤maxLen:=by
 rcases h.2 with ⟨rfl,rfl⟩ | ⟨g,cap,cur,rfl,_,_,h1,h2,_⟩
 ·exact ⟨_,_,rfl,Nat.le_refl _,Nat.zero_le _⟩
 ·exact ⟨_,_,rfl,h1,h2⟩
section
variable {α:Type} {E:TypeId} {sz:Nat} {R:Rel α} {S T:Foot} {w w':World} {x:α} {l:List α} {v:Value}
theorem OwnR.nil (E:TypeId) (sz:Nat) (R:Rel α) (S:Foot) (w:World):OwnR E sz R S w [] (.slice none 0 0) :=
 ⟨[],World.ownsRow_nil _ _ _ _,fun k h=>by simp [Value.ownBlock] at h,fun i x h=>by simp at h⟩
theorem OwnR.lt (h:OwnR E sz R S w l v) {k:Nat} (hk:v.ownBlock=some k):k < w.heap.size:=by
 obtain ⟨xs,h1,_⟩:=h; exact (h1.lt k hk).2
theorem OwnR.slice (h:OwnR E sz R S w l v):∃ a c,v=.slice a l.length c∧l.length≤c∧c≤maxLen:=by
 obtain ⟨xs,h1,_⟩:=h; exact owns_form h1
theorem OwnR.move (hR:Good sz R) (h:OwnR E sz R S w l v) (hm:∀ k,k < w.heap.size→S k→T k∧w'.heap[k]? = w.heap[k]?):OwnR E sz R T w' l v:=by
 obtain ⟨xs,h1,h2,h3⟩:=h; refine ⟨xs,owns_move h1 (fun k hk=>(hm k (h1.lt k hk).2 (h2 k hk)).2) (fun _ _=>Nat.zero_le _),fun k hk=>(hm k (h1.lt k hk).2 (h2 k hk)).1,fun i x hx=>?_⟩; obtain ⟨cs,h4,h5⟩:=h3 i x hx; exact ⟨cs,h4,hR.move h5 fun k hk hs=>⟨⟨(hm k hk hs.1).1,hs.2⟩,(hm k hk hs.1).2⟩⟩
theorem OwnR.below (hR:Good sz R) (h:OwnR E sz R S w l v) (hb:Below w.heap.size w w'):OwnR E sz R S w' l v:=h.move hR fun k hk hs=>⟨hs,hb.block k hk⟩
theorem OwnR.mono (hR:Good sz R) (h:OwnR E sz R S w l v) (hs:∀ k,k < w.heap.size→S k→T k):OwnR E sz R T w l v:=h.move hR fun k hk hk2=>⟨hs k hk hk2,rfl⟩
theorem OwnR.fr (hR:Good sz R) (h:OwnR E sz R S w l v) {G:Foot} (hf:Fr G w w') (hs:∀ k,S k→¬ G k):OwnR E sz R S w' l v:=h.move hR fun k hk hk2=>⟨hk2,hf.block k hk (hs k hk2)⟩
theorem OwnR.sl (hR:Good sz R) (h:OwnR E sz R S w l v):SlR sz R S w l v:=by
 obtain ⟨xs,h1,h2,h3⟩:=h
 have hcs:∀ i,∃ cs:List Value,∀ x,l[i]? = some x→(∀ j u,cs[j]? = some u→xs[i * sz+j]? = some u)∧R (fun k=>S k∧v.ownBlock≠some k) w x cs:=by
  intro i; rcases hx:l[i]? with _ | x
  ·exact ⟨[],fun x h=>by simp at h⟩
  ·obtain ⟨cs,h4,h5⟩:=h3 i x hx
   exact ⟨cs,fun y hy=>by injection hy with hy; subst hy; exact ⟨h4,h5⟩⟩
 obtain ⟨cs,hcs⟩:∃ cs:Nat→List Value,∀ i x,l[i]? = some x→(∀ j u,(cs i)[j]? = some u→xs[i * sz+j]? = some u)∧R (fun k=>S k∧v.ownBlock≠some k) w x (cs i):=Classical.axiomOfChoice hcs; rcases h1.2 with ⟨rfl,h0⟩ | ⟨g,cap,cur,rfl,hb,hg,hn,hm,hs,ht⟩
 ·have:l=[]:=List.eq_nil_of_length_eq_zero h0
  subst this; exact SlR.nil _ _ _ _ _
 ·refine ⟨some ⟨g,0,none⟩,cap,g,0,cs,rfl,hn,fun _=>⟨rfl,h2 g rfl,lt_of_some hg⟩,fun i hi j u hu=>?_,fun i x hx=>hR.mono (hcs i x hx).2 (fun k _ h=>h.1)⟩
  obtain ⟨h4,h5⟩:=hcs i l[i] (List.getElem?_eq_getElem hi)
  have hj:j < sz:=by have:=(List.getElem?_eq_some_iff.1 hu).1; rw [hR.len h5] at this; exact this
  have hlt:i * sz+j < l.length * sz:=by
   have:i * sz+sz≤l.length * sz:=by rw [← Nat.succ_mul]; exact Nat.mul_le_mul_right _ hi
   omega
  rw [Nat.zero_add,h1.cellAt _ hlt]; exact h4 j u hu
/-- element i of an owned row is replaced -/
theorem OwnR.set (hR:Good sz R) {g n cap i:Nat} (h:OwnR E sz R S w l (.slice (some ⟨g,0,none⟩) n cap)) (hi:i < l.length) {cs:List Value} (hx:R (fun k=>S k∧k≠g) w x cs) :
  OwnR E sz R S (setCells w g (i * sz) cs) (l.set i x) (.slice (some ⟨g,0,none⟩) n cap):=by
 obtain ⟨xs,h1,h2,h3⟩:=h; obtain ⟨a,c,e,_,_⟩:=owns_form h1; simp only [Value.slice.injEq] at e; obtain ⟨-,rfl,-⟩:=e; have hcl:=hR.len hx
 have hle:i * sz+sz≤l.length * sz:=by rw [← Nat.succ_mul]; exact Nat.mul_le_mul_right _ hi
 refine ⟨putList xs (i * sz) cs,by rw [List.length_set]; exact owns_setCells cs w xs (i * sz) h1 (by omega),h2,fun k y hy=>?_⟩
 have hfr:∀ (q:Nat),q < w.heap.size→(S q∧(Value.slice (some ⟨g,0,none⟩) l.length cap).ownBlock≠some q)→(S q∧(Value.slice (some ⟨g,0,none⟩) l.length cap).ownBlock≠some q)∧(setCells w g (i * sz) cs).heap[q]? = w.heap[q]? :=
  fun q _ hs=>⟨hs,setCells_other g cs w _ q (fun e=>hs.2 (by rw [e]; rfl))⟩
 by_cases e:k=i
 ·subst e
  rw [List.getElem?_set_self hi] at hy; injection hy with hy; subst hy; refine ⟨cs,fun j u hu=>?_,?_⟩
  ·have hj:=(List.getElem?_eq_some_iff.1 hu).1
   rw [putList_at cs xs _ _ hj (by rw [h1.1]; omega)]; exact hu
  ·exact hR.move hx fun q hq hs=>hfr q hq ⟨hs.1,fun e=>hs.2 (by injection e with e; exact e.symm)⟩
 ·rw [List.getElem?_set_ne (fun e2=>e e2.symm)] at hy
  obtain ⟨ds,h4,h5⟩:=h3 k y hy; refine ⟨ds,fun j u hu=>?_,hR.move h5 hfr⟩
  have hj:j < sz:=by have:=(List.getElem?_eq_some_iff.1 hu).1; rw [hR.len h5] at this; exact this
  have hkl:=(List.getElem?_eq_some_iff.1 hy).1; rw [putList_other cs xs _ _ ?_]
  ·exact h4 j u hu
  ·rcases Nat.lt_or_gt_of_ne e with h | h
   ·left
    have:k * sz+sz≤i * sz:=by rw [← Nat.succ_mul]; exact Nat.mul_le_mul_right _ h
    omega
   ·right
    have:i * sz+sz≤k * sz:=by rw [← Nat.succ_mul]; exact Nat.mul_le_mul_right _ h
    omega
/-- after an append of one element's cells: the row is another, perhaps -/
theorem OwnR.push (hR:Good sz R) (h:OwnR E sz R S w l v) {v':Value} {cs:List Value} (hown:∀ xs,w.ownsRow 0 E sz v l.length xs→w'.ownsRow 0 E sz v' (l.length+1) (xs++cs)) (hg:w.grownBy w' v.ownBlock) (hv:v'.ownBlock=v.ownBlock∨v'.ownBlock=some w.heap.size)
  (hST:∀ k,S k→T k) (hnew:T w.heap.size) (hx:R (fun k=>T k∧v.ownBlock≠some k∧k < w.heap.size) w x cs):OwnR E sz R T w' (l++[x]) v':=by
 obtain ⟨xs,h1,h2,h3⟩:=h
 have hkeep:∀ {y:α} {ds:List Value} {U:Foot},R U w y ds→(∀ k,k < w.heap.size→U k→T k∧v.ownBlock≠some k)→R (fun k=>T k∧v'.ownBlock≠some k) w' y ds:=by
  intro y ds U hy hU
  refine hR.move hy fun k hk hu=>?_
  obtain ⟨h6,h7⟩:=hU k hk hu; refine ⟨⟨h6,?_⟩,hg.block k hk (fun e=>h7 e.symm)⟩; rcases hv with hv | hv
  ·rw [hv]; exact h7
  ·rw [hv]; intro e; injection e with e; omega
 refine ⟨xs++cs,by rw [List.length_append]; exact hown xs h1,fun k hk=>?_,fun i y hy=>?_⟩
 ·rcases hv with hv | hv
  ·exact hST k (h2 k (hv ▸ hk))
  ·rw [hv] at hk; injection hk with hk; subst hk; exact hnew
 ·by_cases hi:i < l.length
  ·rw [List.getElem?_append_left hi] at hy
   obtain ⟨ds,h4,h5⟩:=h3 i y hy; refine ⟨ds,fun j u hu=>?_,hkeep h5 fun k hk hs=>⟨hST k hs.1,hs.2⟩⟩; have:=h4 j u hu; rw [List.getElem?_append_left (List.getElem?_eq_some_iff.1 this).1]; exact this
  ·have hil:i=l.length:=by
    have:=(List.getElem?_eq_some_iff.1 hy).1; simp at this; omega
   subst hil; rw [List.getElem?_append_right (Nat.le_refl _),Nat.sub_self] at hy; simp at hy; subst hy; refine ⟨cs,fun j u hu=>?_,hkeep hx fun k hk hs=>⟨hs.1,hs.2.1⟩⟩; have hxl:=h1.1; rw [List.getElem?_append_right (by omega),show l.length * sz+j - xs.length=j by omega]; exact hu
end
end Go.Proofs.YtfejagpjahoibaaGreatDoor
