/- sum.Sha: compress. -/
import Derived.Test.YtfejagpjahoibaaGreatDoorSha1
import Derived.StillTailTactics
import Derived.BigQuiet
import Derived.BigRegion
import Derived.Deep.QuietTactic
import Derived.Lib.LaidTab
import Derived.Lib.AppendIntMem
set_option linter.unusedVariables false
namespace Go.Proofs.YtfejagpjahoibaaGreatDoor
open Go.RowKit
open Go.Lib (hid)
abbrev wcells (n:Nat) (f:Nat→UInt32):Array Value := arrW n (fun j => wv (f j))
def be4 (a b c d:UInt8):UInt32 := oW (oW (oW (mulW (byteW a) 16777216) (mulW (byteW b) 65536)) (mulW (byteW c) 256)) (byteW d)
def beF (s:List UInt8) (k:Nat):UInt32 := be4 (s.getD (4 * k) 0) (s.getD (4 * k+1) 0) (s.getD (4 * k+2) 0) (s.getD (4 * k+3) 0)
def loadK (s:List UInt8) (k:Nat):Nat→UInt32 := fun j => if j < k then beF s j else 0
def updW (f:Nat→UInt32) (k:Nat) (x:UInt32):Nat→UInt32 := fun j => if j=k then x else f j
theorem wcells_set {n:Nat} (f:Nat→UInt32) (k:Nat) (x:UInt32):(wcells n f).setIfInBounds k (wv x)=wcells n (updW f k x) :=
  arr_set _ k _ _ (by unfold updW; rw [if_pos rfl]) (fun j _ h => by unfold updW; rw [if_neg h])
theorem loadK_succ (s:List UInt8) (k:Nat):updW (loadK s k) k (beF s k)=loadK s (k+1) := by
  funext j
  unfold updW loadK
  by_cases h:j=k
  · subst h; rw [if_pos rfl, if_pos (by omega)]
  · rw [if_neg h]
    by_cases h2:j < k
    · rw [if_pos h2, if_pos (by omega)]
    · rw [if_neg h2, if_neg (by omega)]
def sg0 (x:UInt32):UInt32 := xW (xW (rotW x 7) (rotW x 18)) (divW x 8)
def sg1 (x:UInt32):UInt32 := xW (xW (rotW x 17) (rotW x 19)) (divW x 1024)
def nextW (F:Nat→UInt32) (i:Nat):UInt32 := addW (addW (addW (F (i - 16)) (sg0 (F (i - 15)))) (F (i - 7))) (sg1 (F (i - 2)))
def extW (f:Nat→UInt32):Nat→Nat→UInt32
  | 0 => f
  | n+1 => updW (extW f n) (16+n) (nextW (extW f n) (16+n))
/-- the memory of compress: the state, the result, the words -/
structure CM (B:Nat) (h f:Nat→UInt32) (w0 w:World):Prop where
  st:w.heap[B]? = some (.cells (wcells 8 h) 121 (0, 0))
  res:∃ cs, w.heap[B+1]? = some (.cells cs 121 (0, 0))∧cs.size=8
  ws:w.heap[B+1+1]? = some (.cells (wcells 64 f) 143 (0, 0))
  bel:Below B w0 w
theorem CM.set {B:Nat} {h f:Nat→UInt32} {w0 w:World} (m:CM B h f w0 w) (k:Nat) (x:UInt32):CM B h (updW f k x) w0 (w.setCell ⟨B+1+1, k, none⟩ (wv x)) := by
  obtain ⟨cs, h1, h2⟩ := m.res
  exact ⟨(heap_setCell_other _ (by omega)).trans m.st, ⟨cs, (heap_setCell_other _ (by omega)).trans h1, h2⟩, by rw [← wcells_set]; exact heap_setCell_same m.ws _, m.bel.setCell (by show B≤B+1+1; omega) _⟩
theorem CM.drew {B:Nat} {h f:Nat→UInt32} {w0 w:World} (m:CM B h f w0 w):CM B h f w0 w.drew := ⟨m.st, m.res, m.ws, m.bel.drew⟩
theorem CM.drewN {B:Nat} {h f:Nat→UInt32} {w0 w:World} (m:CM B h f w0 w) (n:Nat):CM B h f w0 (w.drewN n) := ⟨m.st, m.res, m.ws, below_drewM m.bel n⟩
theorem CM.wcell {B:Nat} {h f:Nat→UInt32} {w0 w:World} (m:CM B h f w0 w) {k:Nat} (hk:k < 64):w.cell? ⟨B+1+1, k, none⟩=some (wv (f k)) := (cell_of m.ws).trans (arr_at _ hk)
theorem CM.scell {B:Nat} {h f:Nat→UInt32} {w0 w:World} (m:CM B h f w0 w) {k:Nat} (hk:k < 8):w.cell? ⟨B, k, none⟩=some (wv (h k)) := (cell_of m.st).trans (arr_at _ hk)
structure V8 where
  a:UInt32
  b:UInt32
  c:UInt32
  d:UInt32
  e:UInt32
  f:UInt32
  g:UInt32
  h:UInt32
def V8.vals (v:V8):Array Value := #[wv v.a, wv v.b, wv v.c, wv v.d, wv v.e, wv v.f, wv v.g, wv v.h]
/-- the memory of the rounds: compress' own, and the block V of the eight -/
structure CV (B V:Nat) (h f:Nat→UInt32) (v:V8) (w0 w:World):Prop where
  cm:CM B h f w0 w
  vs:w.heap[V]? = some (.cells v.vals 121 (0, 0))
  far:B+1+1 < V
theorem CV.vcell {B V:Nat} {h f:Nat→UInt32} {v:V8} {w0 w:World} (m:CV B V h f v w0 w) {j:Nat} {x:UInt32} (hx:v.vals[j]? = some (wv x)):w.cell? ⟨V, j, none⟩=some (wv x) := (cell_of m.vs).trans hx
theorem CM.lt {B:Nat} {h f:Nat→UInt32} {w0 w:World} (m:CM B h f w0 w):B+1+1 < w.heap.size := (Array.getElem?_eq_some_iff.mp m.ws).1
theorem CM.alloc {B:Nat} {h f:Nat→UInt32} {w0 w:World} (m:CM B h f w0 w) (o:Obj):CM B h f w0 (w.alloc o) := by
  have hl := m.lt
  obtain ⟨cs, h1, h2⟩ := m.res
  exact ⟨(Below.heap_alloc _ _ _ (by omega)).trans m.st, ⟨cs, (Below.heap_alloc _ _ _ (by omega)).trans h1, h2⟩, (Below.heap_alloc _ _ _ hl).trans m.ws, m.bel.alloc (by omega) _⟩
theorem CM.far {B V:Nat} {h f:Nat→UInt32} {w0 w:World} (m:CM B h f w0 w) (hV:B+1+1 < V) (k:Nat) (x:Value):CM B h f w0 (w.setCell ⟨V, k, none⟩ x) := by
  obtain ⟨cs, h1, h2⟩ := m.res
  exact ⟨(heap_setCell_other _ (by show B≠V; omega)).trans m.st, ⟨cs, (heap_setCell_other _ (by show B+1≠V; omega)).trans h1, h2⟩, (heap_setCell_other _ (by show B+1+1≠V; omega)).trans m.ws, m.bel.setCell (by show B≤V; omega) _⟩
theorem set8 {w:World} {V:Nat} {cs:Array Value} (h:w.heap[V]? = some (.cells cs 121 (0, 0))) (k:Nat) (x:Value) (cs':Array Value) (e:cs.setIfInBounds k x=cs'):(w.setCell ⟨V, k, none⟩ x).heap[V]? = some (.cells cs' 121 (0, 0)) := e ▸ heap_setCell_same h _
theorem CV.store {B V:Nat} {h f:Nat→UInt32} {v:V8} {w0 w:World} (m:CV B V h f v w0 w) (y:V8):CV B V h f y w0 ((((((((w.setCell ⟨V, 0, none⟩ (wv y.a)).setCell ⟨V, 1, none⟩ (wv y.b)).setCell ⟨V, 2, none⟩ (wv y.c)).setCell ⟨V, 3, none⟩ (wv y.d)).setCell ⟨V, 4, none⟩ (wv y.e)).setCell ⟨V, 5, none⟩ (wv y.f)).setCell ⟨V, 6, none⟩ (wv y.g)).setCell ⟨V, 7, none⟩ (wv y.h)) :=
  ⟨(((((((m.cm.far m.far _ _).far m.far _ _).far m.far _ _).far m.far _ _).far m.far _ _).far m.far _ _).far m.far _ _).far m.far _ _,
   by
    have a0 := set8 m.vs 0 (wv y.a) #[wv y.a, wv v.b, wv v.c, wv v.d, wv v.e, wv v.f, wv v.g, wv v.h] (by simp [V8.vals])
    have a1 := set8 a0 1 (wv y.b) #[wv y.a, wv y.b, wv v.c, wv v.d, wv v.e, wv v.f, wv v.g, wv v.h] (by simp)
    have a2 := set8 a1 2 (wv y.c) #[wv y.a, wv y.b, wv y.c, wv v.d, wv v.e, wv v.f, wv v.g, wv v.h] (by simp)
    have a3 := set8 a2 3 (wv y.d) #[wv y.a, wv y.b, wv y.c, wv y.d, wv v.e, wv v.f, wv v.g, wv v.h] (by simp)
    have a4 := set8 a3 4 (wv y.e) #[wv y.a, wv y.b, wv y.c, wv y.d, wv y.e, wv v.f, wv v.g, wv v.h] (by simp)
    have a5 := set8 a4 5 (wv y.f) #[wv y.a, wv y.b, wv y.c, wv y.d, wv y.e, wv y.f, wv v.g, wv v.h] (by simp)
    have a6 := set8 a5 6 (wv y.g) #[wv y.a, wv y.b, wv y.c, wv y.d, wv y.e, wv y.f, wv y.g, wv v.h] (by simp)
    have a7 := set8 a6 7 (wv y.h) #[wv y.a, wv y.b, wv y.c, wv y.d, wv y.e, wv y.f, wv y.g, wv y.h] (by simp)
    exact a7, m.far⟩
def rks:List UInt32 := [1116352408, 1899447441, 3049323471, 3921009573, 961987163, 1508970993, 2453635748, 2870763221, 3624381080, 310598401, 607225278, 1426881987, 1925078388, 2162078206, 2614888103, 3248222580, 3835390401, 4022224774, 264347078, 604807628, 770255983, 1249150122, 1555081692, 1996064986, 2554220882, 2821834349, 2952996808, 3210313671, 3336571891, 3584528711, 113926993, 338241895, 666307205, 773529912, 1294757372, 1396182291, 1695183700, 1986661051, 2177026350, 2456956037, 2730485921, 2820302411, 3259730800, 3345764771, 3516065817, 3600352804, 4094571909, 275423344, 430227734, 506948616, 659060556, 883997877, 958139571, 1322822218, 1537002063, 1747873779, 1955562222, 2024104815, 2227730452, 2361852424, 2428436474, 2756734187, 3204031479, 3329325298]
def rtab:List Int := rks.map fun x => (x.toNat:Int)
def rk (k:Nat):UInt32 := rks.getD k 0
def TabR (w : World) : Prop := Lib.TabIs Tryz.prog w "retroact/sum.rounds" .u32 rtab
theorem TabR.below {w w':World} {b:Nat} (h:TabR w) (hb:Below b w w') (hle:w.heap.size≤b):TabR w' := Lib.tabBelow_of_tabIs h w' (Below.mono hb hle)
theorem TabR.cell {w:World} (h:TabR w) {k:Nat} (hk:k < 64):w.cell? ⟨0, k, none⟩=some (wv (rk k)) := by
  have hl:k < rtab.length := by show k < 64; exact hk
  refine (Lib.TabIs.cell h (g := 0) (by kernel_rfl) k hl).trans ?_
  congr 2
  unfold rtab rk
  simp only [List.getD_eq_getElem?_getD, List.getElem?_map]
  have hk2:k < rks.length := by show k < 64; exact hk
  rw [List.getElem?_eq_getElem hk2]
  try rfl
def S1 (e:UInt32):UInt32 := xW (xW (rotW e 6) (rotW e 11)) (rotW e 25)
def S0 (a:UInt32):UInt32 := xW (xW (rotW a 2) (rotW a 13)) (rotW a 22)
def chW (e f g:UInt32):UInt32 := xW (aW e f) (aW (nW e) g)
def mjW (a b c:UInt32):UInt32 := xW (xW (aW a b) (aW a c)) (aW b c)
def t1W (v:V8) (r f:UInt32):UInt32 := addW (addW (addW (addW v.h (S1 v.e)) (chW v.e v.f v.g)) r) f
def V8.next (v:V8) (r f:UInt32):V8 := ⟨addW (addW (t1W v r f) (S0 v.a)) (mjW v.a v.b v.c), v.a, v.b, v.c, addW v.d (t1W v r f), v.e, v.f, v.g⟩
def V8.at (v:V8):Nat→UInt32
  | 0 => v.a
  | 1 => v.b
  | 2 => v.c
  | 3 => v.d
  | 4 => v.e
  | 5 => v.f
  | 6 => v.g
  | _ => v.h
theorem V8.at_vals (v:V8) {j:Nat} (hj:j < 8):v.vals[j]? = some (wv (v.at j)) := by
  match j, hj with
  | 0, _ => rfl
  | 1, _ => rfl
  | 2, _ => rfl
  | 3, _ => rfl
  | 4, _ => rfl
  | 5, _ => rfl
  | 6, _ => rfl
  | 7, _ => rfl
  | n+8, h => exact absurd h (by omega)
def v8of (h:Nat→UInt32):V8 := ⟨h 0, h 1, h 2, h 3, h 4, h 5, h 6, h 7⟩
def rnd (V:V8) (F:Nat→UInt32):Nat→V8
  | 0 => V
  | k+1 => (rnd V F k).next (rk k) (F k)
def addK (h:Nat→UInt32) (v:V8) (k:Nat):Nat→UInt32 := fun j => if j < k then addW (h j) (v.at j) else h j
theorem addK_succ (h:Nat→UInt32) (v:V8) (k:Nat):updW (addK h v k) k (addW (h k) (v.at k))=addK h v (k+1) := by
  funext j
  unfold updW addK
  by_cases e:j=k
  · subst e; rw [if_pos rfl, if_pos (by omega)]
  · rw [if_neg e]
    by_cases h2:j < k
    · rw [if_pos h2, if_pos (by omega)]
    · rw [if_neg h2, if_neg (by omega)]
theorem addK_at (h:Nat→UInt32) (v:V8) (k:Nat):addK h v k k=h k := by unfold addK; rw [if_neg (by omega)]
theorem CV.sset {B V:Nat} {h f:Nat→UInt32} {v:V8} {w0 w:World} (m:CV B V h f v w0 w) (k:Nat) (x:UInt32):CV B V (updW h k x) f v w0 (w.setCell ⟨B, k, none⟩ (wv x)) := by
  obtain ⟨cs, h1, h2⟩ := m.cm.res
  have hf := m.far
  exact ⟨⟨by rw [← wcells_set]; exact heap_setCell_same m.cm.st _, ⟨cs, (heap_setCell_other _ (by show B+1≠B; omega)).trans h1, h2⟩, (heap_setCell_other _ (by show B+1+1≠B; omega)).trans m.cm.ws, m.cm.bel.setCell (Nat.le_refl _) _⟩, (heap_setCell_other _ (by show V≠B; omega)).trans m.vs, hf⟩
theorem CV.drewN {B V:Nat} {h f:Nat→UInt32} {v:V8} {w0 w:World} (m:CV B V h f v w0 w) (n:Nat):CV B V h f v w0 (w.drewN n) := ⟨m.cm.drewN n, m.vs, m.far⟩
theorem CV.drew {B V:Nat} {h f:Nat→UInt32} {v:V8} {w0 w:World} (m:CV B V h f v w0 w):CV B V h f v w0 w.drew := ⟨m.cm.drew, m.vs, m.far⟩
theorem arr8 {cs:Array Value} (h:cs.size=8):∃ x0 x1 x2 x3 x4 x5 x6 x7, cs=#[x0, x1, x2, x3, x4, x5, x6, x7] := by
  obtain ⟨l⟩ := cs
  match l, h with
  | [x0, x1, x2, x3, x4, x5, x6, x7], _ => exact ⟨x0, x1, x2, x3, x4, x5, x6, x7, rfl⟩
theorem res8 {w:World} {V:Nat} {cs:Array Value} (h:w.heap[V]? = some (.cells cs 121 (0, 0))) (hcs:cs.size=8) (g:Nat→UInt32):((((((((w.setCell ⟨V, 0, none⟩ (wv (g 0))).setCell ⟨V, 1, none⟩ (wv (g 1))).setCell ⟨V, 2, none⟩ (wv (g 2))).setCell ⟨V, 3, none⟩ (wv (g 3))).setCell ⟨V, 4, none⟩ (wv (g 4))).setCell ⟨V, 5, none⟩ (wv (g 5))).setCell ⟨V, 6, none⟩ (wv (g 6))).setCell ⟨V, 7, none⟩ (wv (g 7))).heap[V]? = some (.cells #[wv (g 0), wv (g 1), wv (g 2), wv (g 3), wv (g 4), wv (g 5), wv (g 6), wv (g 7)] 121 (0, 0)) := by
  obtain ⟨x0, x1, x2, x3, x4, x5, x6, x7, rfl⟩ := arr8 hcs
  have a0 := set8 h 0 (wv (g 0)) #[wv (g 0), x1, x2, x3, x4, x5, x6, x7] (by simp)
  have a1 := set8 a0 1 (wv (g 1)) #[wv (g 0), wv (g 1), x2, x3, x4, x5, x6, x7] (by simp)
  have a2 := set8 a1 2 (wv (g 2)) #[wv (g 0), wv (g 1), wv (g 2), x3, x4, x5, x6, x7] (by simp)
  have a3 := set8 a2 3 (wv (g 3)) #[wv (g 0), wv (g 1), wv (g 2), wv (g 3), x4, x5, x6, x7] (by simp)
  have a4 := set8 a3 4 (wv (g 4)) #[wv (g 0), wv (g 1), wv (g 2), wv (g 3), wv (g 4), x5, x6, x7] (by simp)
  have a5 := set8 a4 5 (wv (g 5)) #[wv (g 0), wv (g 1), wv (g 2), wv (g 3), wv (g 4), wv (g 5), x6, x7] (by simp)
  have a6 := set8 a5 6 (wv (g 6)) #[wv (g 0), wv (g 1), wv (g 2), wv (g 3), wv (g 4), wv (g 5), wv (g 6), x7] (by simp)
  exact set8 a6 7 (wv (g 7)) _ (by simp)
def compF (h:Nat→UInt32) (s:List UInt8):Nat→UInt32 := addK h (rnd (v8of h) (extW (loadK s 16) 48) 64) 8
set_option maxHeartbeats 4000000 in
set_option maxRecDepth 100000 in
theorem compress_any (hf:Nat→UInt32) (s:List UInt8) (w:World) (ht:Hid (TabR w)) (hs:s.length=64) :
    Calls Tryz.prog 56 #[.agg (wcells 8 hf), sv s] w fun e w' => e=.returned (.agg (wcells 8 (compF hf s)))∧Below w.heap.size w w' := by
  generalize hres:compF hf s=res
  replace hres := hid hres
  have hl64:s.length≤64 := Nat.le_of_eq hs
  have hl64':64≤s.length := Nat.le_of_eq hs.symm
  clear hs
  go_enter Tryz.func56, Tryz.ntmps56
  go_wp2_with fail
  go_loopw [22] (fun i wr => ∃ k:Nat, i=.int .i64 k∧k≤16∧Hid (CM w.heap.size hf (loadK s k) w wr)) (fun i _ => 16 - (intOf i).toNat)
  case atStart =>
    refine ⟨0, rfl, Nat.zero_le _, hid ⟨?_, ⟨#[.int .u32 0, .int .u32 0, .int .u32 0, .int .u32 0, .int .u32 0, .int .u32 0, .int .u32 0, .int .u32 0], ?_, rfl⟩, ?_, ?_⟩⟩
    · exact (Below.heap_alloc _ _ _ (by simp; omega)).trans ((Below.heap_alloc _ _ _ (by simp)).trans (heap_alloc_new' _ _))
    · exact (Below.heap_alloc _ _ _ (by simp)).trans ((show w.heap.size+1=(w.alloc (.cells (wcells 8 hf) 121)).heap.size by simp) ▸ heap_alloc_new' _ _)
    · have hs2:((w.alloc (.cells (wcells 8 hf) 121)).alloc (.cells #[.int .u32 0, .int .u32 0, .int .u32 0, .int .u32 0, .int .u32 0, .int .u32 0, .int .u32 0, .int .u32 0] 121)).heap.size=w.heap.size+1+1 := by simp
      rw [← hs2]
      exact heap_alloc_new' _ _
    · exact (((Below.refl _ w).alloc (Nat.le_refl _) _).alloc (by simp) _).alloc (by simp; omega) _
  case round =>
    obtain ⟨k, rfl, hk, hM⟩ := hrel
    by_cases hlt:k < 16
    · have q1:decide ((k:Int) < 16)=true := decide_eq_true (by omega)
      have q1':decide (k < 16)=true := decide_eq_true hlt
      obtain ⟨b0, hb0⟩:∃ b, s[4 * k]? = some b := ⟨_, List.getElem?_eq_getElem (by omega)⟩
      obtain ⟨b1, hb1⟩:∃ b, s[4 * k+1]? = some b := ⟨_, List.getElem?_eq_getElem (by omega)⟩
      obtain ⟨b2, hb2⟩:∃ b, s[4 * k+2]? = some b := ⟨_, List.getElem?_eq_getElem (by omega)⟩
      obtain ⟨b3, hb3⟩:∃ b, s[4 * k+3]? = some b := ⟨_, List.getElem?_eq_getElem (by omega)⟩
      have hbe:beF s k=be4 b0 b1 b2 b3 := by unfold beF; simp [List.getD_eq_getElem?_getD, hb0, hb1, hb2, hb3]
      have hi0 := idx_str (P := Tryz.prog) 9 (by kernel_rfl) s (4 * k) b0 hb0
      have hi1 := idx_str (P := Tryz.prog) 9 (by kernel_rfl) s (4 * k+1) b1 hb1
      have hi2 := idx_str (P := Tryz.prog) 9 (by kernel_rfl) s (4 * k+2) b2 hb2
      have hi3 := idx_str (P := Tryz.prog) 9 (by kernel_rfl) s (4 * k+3) b3 hb3
      rw [show ((4 * k:Nat):Int)=4 * (k:Int) by omega] at hi0
      rw [show ((4 * k+1:Nat):Int)=4 * (k:Int)+1 by omega] at hi1
      rw [show ((4 * k+2:Nat):Int)=4 * (k:Int)+2 by omega] at hi2
      rw [show ((4 * k+3:Nat):Int)=4 * (k:Int)+3 by omega] at hi3
      clear hb0 hb1 hb2 hb3
      have hset := hM.out.drew.set k (beF s k)
      rw [loadK_succ, hbe] at hset
      have hcell := hM.out.drew.wcell (k := k) (by omega)
      have hfz:wr.drew.frozen? ⟨w.heap.size+1+1, k, none⟩=false := free_of hM.out.drew.ws
      have be:be4 b0 b1 b2 b3=oW (oW (oW (mulW (byteW b0) 16777216) (mulW (byteW b1) 65536)) (mulW (byteW b2) 256)) (byteW b3) := rfl
      have eb0:(b0.toNat:Int) % 4294967296=((byteW b0).toNat:Int) := by rw [← ubyte32]; have := b0.toNat_lt; omega
      have eb1:(b1.toNat:Int) % 4294967296=((byteW b1).toNat:Int) := by rw [← ubyte32]; have := b1.toNat_lt; omega
      have eb2:(b2.toNat:Int) % 4294967296=((byteW b2).toNat:Int) := by rw [← ubyte32]; have := b2.toNat_lt; omega
      have eb3:(b3.toNat:Int) % 4294967296=((byteW b3).toNat:Int) := by rw [← ubyte32]; have := b3.toNat_lt; omega
      have m0:((byteW b0).toNat:Int) * 16777216 % 4294967296=((mulW (byteW b0) 16777216).toNat:Int) := umul32 _ _
      have m1:((byteW b1).toNat:Int) * 65536 % 4294967296=((mulW (byteW b1) 65536).toNat:Int) := umul32 _ _
      have m2:((byteW b2).toNat:Int) * 256 % 4294967296=((mulW (byteW b2) 256).toNat:Int) := umul32 _ _
      generalize byteW b0=c0 at *
      generalize byteW b1=c1 at *
      generalize byteW b2=c2 at *
      generalize byteW b3=c3 at *
      generalize mulW c0 16777216=d0 at *
      generalize mulW c1 65536=d1 at *
      generalize mulW c2 256=d2 at *
      have eb0' := (IntKind.wrap_u32' (b0.toNat:Int)).trans eb0
      have eb1' := (IntKind.wrap_u32' (b1.toNat:Int)).trans eb1
      have eb2' := (IntKind.wrap_u32' (b2.toNat:Int)).trans eb2
      have eb3' := (IntKind.wrap_u32' (b3.toNat:Int)).trans eb3
      have m0' := (IntKind.wrap_u32' _).trans m0
      have m1' := (IntKind.wrap_u32' _).trans m1
      have m2' := (IntKind.wrap_u32' _).trans m2
      clear eb0 eb1 eb2 eb3 m0 m1 m2
      have o1 := uo32 d0 d1
      have o2 := uo32 (oW d0 d1) d2
      have o3 := uo32 (oW (oW d0 d1) d2) c3
      rw [be] at hset
      replace hset := hid hset
      clear be hbe hM
      have e0:IntKind.i64.wrap (4 * (k:Int))=4 * (k:Int) := i64_wrap_id _ (by omega) (by omega)
      have e1:IntKind.i64.wrap (4 * (k:Int)+1)=4 * (k:Int)+1 := i64_wrap_id _ (by omega) (by omega)
      have e2:IntKind.i64.wrap (4 * (k:Int)+2)=4 * (k:Int)+2 := i64_wrap_id _ (by omega) (by omega)
      have e3:IntKind.i64.wrap (4 * (k:Int)+3)=4 * (k:Int)+3 := i64_wrap_id _ (by omega) (by omega)
      have i1:(k:Int) < 64 := by omega
      have i2:(0:Int)≤(k:Int) := by omega
      go_wp2_with fail
      go_still_tail 31, (by kernel_rfl)
      go_wp2_with fail
      exact ⟨⟨k+1, by go_num, by omega, hset⟩, by simp [intOf]; omega⟩
    · have hk16:k=16 := by omega
      subst hk16
      clear hk hlt
      go_wp2_with fail
      go_loopw [7] (fun iv7 wr => ∃ i:Nat, iv7=.int .i64 i∧16≤i∧i≤64∧Hid (CM w.heap.size hf (extW (loadK s 16) (i - 16)) w wr)) (fun i _ => 64 - (intOf i).toNat)
      case atStart => exact ⟨16, rfl, Nat.le_refl _, by decide, hM⟩
      case round =>
        clear hM
        obtain ⟨i, rfl, hi16, hi64, hM⟩ := hrel
        by_cases hlt:i < 64
        · have q1:decide ((i:Int) < 64)=true := decide_eq_true (by omega)
          have q1':decide (i < 64)=true := decide_eq_true hlt
          have hnx:extW (loadK s 16) (i+1 - 16)=updW (extW (loadK s 16) (i - 16)) i (nextW (extW (loadK s 16) (i - 16)) i) := by
            have e:i+1 - 16=(i - 16)+1 := by omega
            rw [e, extW, show 16+(i - 16)=i by omega]
          generalize extW (loadK s 16) (i - 16)=F at *
          have hset := hM.out.set i (nextW F i)
          unfold nextW at hnx
          obtain ⟨j16, hj16⟩:∃ j, j=i - 16 := ⟨_, rfl⟩
          obtain ⟨j15, hj15⟩:∃ j, j=i - 15 := ⟨_, rfl⟩
          obtain ⟨j7, hj7⟩:∃ j, j=i - 7 := ⟨_, rfl⟩
          obtain ⟨j2, hj2⟩:∃ j, j=i - 2 := ⟨_, rfl⟩
          rw [← hj16, ← hj15, ← hj7, ← hj2] at hnx
          have e16:IntKind.i64.wrap ((i:Int) - 16)=(j16:Int) := by rw [i64_wrap_id _ (by omega) (by omega)]; omega
          have e15:IntKind.i64.wrap ((i:Int) - 15)=(j15:Int) := by rw [i64_wrap_id _ (by omega) (by omega)]; omega
          have e7:IntKind.i64.wrap ((i:Int) - 7)=(j7:Int) := by rw [i64_wrap_id _ (by omega) (by omega)]; omega
          have e2:IntKind.i64.wrap ((i:Int) - 2)=(j2:Int) := by rw [i64_wrap_id _ (by omega) (by omega)]; omega
          have l16:(j16:Int) < 64 := by omega
          have l15:(j15:Int) < 64 := by omega
          have l7:(j7:Int) < 64 := by omega
          have l2:(j2:Int) < 64 := by omega
          have li:(i:Int) < 64 := by omega
          have c15 := hM.out.wcell (k := j15) (by omega)
          have c2 := hM.out.wcell (k := j2) (by omega)
          have hM2 := hM
          generalize hx15:F j15=x at *
          generalize hx2:F j2=y at *
          have hn2:nextW F i=addW (addW (addW (F j16) (sg0 x)) (F j7)) (sg1 y) := by
            unfold nextW; rw [← hj16, ← hj15, ← hj7, ← hj2, hx15, hx2]
          rw [← hn2] at hnx
          clear hset hj16 hj15 hj7 hj2
          replace hnx := hid hnx
          have hr7 := hid (rot7 x)
          have hr18 := hid (rot18 x)
          have hr17 := hid (rot17 y)
          have hr19 := hid (rot19 y)
          have s0:sg0 x=xW (xW (rotW x 7) (rotW x 18)) (divW x 8) := rfl
          have s1:sg1 y=xW (xW (rotW y 17) (rotW y 19)) (divW y 1024) := rfl
          have x1 := ux32 (rotW x 7) (rotW x 18)
          have dv:(x.toNat:Int) / 8=((divW x 8).toNat:Int) := udiv32 x 8
          have x2 := ux32 (xW (rotW x 7) (rotW x 18)) (divW x 8)
          have y1 := ux32 (rotW y 17) (rotW y 19)
          have dy:(y.toNat:Int) / 1024=((divW y 1024).toNat:Int) := udiv32 y 1024
          have y2 := ux32 (xW (rotW y 17) (rotW y 19)) (divW y 1024)
          rw [← s0] at x2
          rw [← s1] at y2
          clear s0 s1
          generalize sg0 x=S0 at *
          generalize sg1 y=S1 at *
          generalize rotW x 7=r7 at *
          generalize rotW x 18=r18 at *
          generalize rotW y 17=r17 at *
          generalize rotW y 19=r19 at *
          generalize divW x 8=dx8 at *
          generalize divW y 1024=dy10 at *
          generalize xW r7 r18=p7 at *
          generalize xW r17 r19=p17 at *
          go_wp2_with fail
          go_quiet (fail)
          have hMq := hid (hM.out.drewN nq)
          generalize wr.drewN nq=wq at *
          clear hM hM2 c15 c2
          go_wp2_with fail
          refine (hr7.out wq).mono ?_
          rintro e w1 ⟨rfl, rfl⟩
          go_wp2_with fail
          refine (hr18.out wq).mono ?_
          rintro e w1 ⟨rfl, rfl⟩
          go_wp2_with fail
          refine (hr17.out wq).mono ?_
          rintro e w1 ⟨rfl, rfl⟩
          go_wp2_with fail
          refine (hr19.out wq).mono ?_
          rintro e w1 ⟨rfl, rfl⟩
          clear hr7 hr18 hr17 hr19 x1 x2 dv e15 e2
          have c16 := hMq.out.wcell (k := j16) (by omega)
          have c7 := hMq.out.wcell (k := j7) (by omega)
          have hset := (hMq.out.set i (nextW F i)).drew
          have hcell := hMq.out.drew.wcell (k := i) (by omega)
          have hfz:wq.drew.frozen? ⟨w.heap.size+1+1, i, none⟩=false := free_of hMq.out.drew.ws
          rw [hn2] at hset
          generalize hfa:F j16=a at *
          generalize hfb:F j7=b at *
          have a1 := (IntKind.wrap_u32' _).trans (uadd32 a S0)
          have a2 := (IntKind.wrap_u32' _).trans (uadd32 (addW a S0) b)
          have a3 := (IntKind.wrap_u32' _).trans (uadd32 (addW (addW a S0) b) S1)
          have hfin:Hid (CM w.heap.size hf (extW (loadK s 16) (i+1 - 16)) w (wq.setCell ⟨w.heap.size+1+1, i, none⟩ (wv (addW (addW (addW a S0) b) S1))).drew) := hid (by rw [hnx.out, hn2]; exact hset)
          clear hset hn2 hnx hMq hfa hfb hx15 hx2
          generalize addW a S0=A1 at *
          generalize addW A1 b=A2 at *
          generalize addW A2 S1=A3 at *
          go_wp2_with fail
          go_still_tail 15, (by kernel_rfl)
          go_wp2_with fail
          refine ⟨?_, by simp [intOf]; omega⟩
          repeat (first | exact ⟨⟨i+1, rfl, by omega, by omega, hfin⟩, rfl⟩ | apply Exists.intro)
        · have hi:i=64 := by omega
          subst hi
          clear hi16 hi64 hlt
          obtain ⟨F, hF⟩:∃ F, F=extW (loadK s 16) (64 - 16) := ⟨_, rfl⟩
          rw [← hF] at hM
          replace hF := hid hF
          obtain ⟨wr0, hwr0⟩:∃ x, x=wr := ⟨_, rfl⟩
          have hc0 := hM.out.scell (k := 0) (by decide)
          have hc1 := hM.out.scell (k := 1) (by decide)
          have hc2 := hM.out.scell (k := 2) (by decide)
          have hc3 := hM.out.scell (k := 3) (by decide)
          have hc4 := hM.out.scell (k := 4) (by decide)
          have hc5 := hM.out.scell (k := 5) (by decide)
          have hc6 := hM.out.scell (k := 6) (by decide)
          have hc7 := hM.out.scell (k := 7) (by decide)
          go_wp2_with fail
          go_loopw [101] (fun r wr => ∃ (k:Nat) (v:V8), r=.int .i64 k∧k≤64∧Hid (v=rnd (v8of hf) F k)∧Hid (CV w.heap.size wr0.heap.size hf F v w wr)) (fun i _ => 64 - (intOf i).toNat)
          case atStart =>
            subst hwr0
            refine ⟨0, ⟨hf 0, hf 1, hf 2, hf 3, hf 4, hf 5, hf 6, hf 7⟩, rfl, Nat.zero_le _, hid rfl, ?_⟩
            exact hid ⟨hM.out.alloc _, heap_alloc_new' _ _, hM.out.lt⟩
          case round =>
            clear hM hc0 hc1 hc2 hc3 hc4 hc5 hc6 hc7
            obtain ⟨k, v, rfl, hk, hv, hM⟩ := hrel
            subst hwr0
            by_cases hlt:k < 64
            · have q1:decide ((k:Int) < 64)=true := decide_eq_true (by omega)
              have q1':decide (k < 64)=true := decide_eq_true hlt
              have e0 := hM.out.vcell (j := 0) (x := v.a) rfl
              have e4 := hM.out.vcell (j := 4) (x := v.e) rfl
              have hr6 := hid (rot6 v.e)
              have hr11 := hid (rot11 v.e)
              have hr25 := hid (rot25 v.e)
              have hr2 := hid (rot2 v.a)
              have hr13 := hid (rot13 v.a)
              have hr22 := hid (rot22 v.a)
              go_wp2_with fail
              go_quiet (fail)
              have hMq := hid (show CV _ _ hf F v w (wr.drewN nq) from ⟨hM.out.cm.drewN nq, hM.out.vs, hM.out.far⟩)
              generalize wr.drewN nq=wq at *
              clear hM e0 e4
              have x1 := ux32 (rotW v.e 6) (rotW v.e 11)
              have x2 := ux32 (xW (rotW v.e 6) (rotW v.e 11)) (rotW v.e 25)
              have y1 := ux32 (rotW v.a 2) (rotW v.a 13)
              have y2 := ux32 (xW (rotW v.a 2) (rotW v.a 13)) (rotW v.a 22)
              have c1 := ua32 v.e v.f
              have c2 := un32 v.e
              have c3 := ua32 (nW v.e) v.g
              have c4 := ux32 (aW v.e v.f) (aW (nW v.e) v.g)
              have v5 := hMq.out.vcell (j := 5) (x := v.f) rfl
              have v6 := hMq.out.vcell (j := 6) (x := v.g) rfl
              go_wp2_with fail
              refine (hr6.out wq).mono ?_
              rintro e w1 ⟨rfl, rfl⟩
              go_wp2_with fail
              refine (hr11.out wq).mono ?_
              rintro e w1 ⟨rfl, rfl⟩
              go_wp2_with fail
              refine (hr25.out wq).mono ?_
              rintro e w1 ⟨rfl, rfl⟩
              go_wp2_with fail
              clear x1 x2 c1 c2 c3 c4 v5 v6
              have v7 := hMq.out.vcell (j := 7) (x := v.h) rfl
              have cw := hMq.out.cm.wcell (k := k) hlt
              have cr := (ht.out.below hMq.out.cm.bel (Nat.le_refl _)).cell hlt
              have li:(k:Int) < 64 := by omega
              have l0:(0:Int)≤(k:Int) := by omega
              have t1def:t1W v (rk k) (F k)=addW (addW (addW (addW v.h (S1 v.e)) (chW v.e v.f v.g)) (rk k)) (F k) := rfl
              unfold S1 chW at t1def
              have a1 := (IntKind.wrap_u32' _).trans (uadd32 v.h (xW (xW (rotW v.e 6) (rotW v.e 11)) (rotW v.e 25)))
              have a2 := (IntKind.wrap_u32' _).trans (uadd32 (addW v.h (xW (xW (rotW v.e 6) (rotW v.e 11)) (rotW v.e 25))) (xW (aW v.e v.f) (aW (nW v.e) v.g)))
              have a3 := (IntKind.wrap_u32' _).trans (uadd32 (addW (addW v.h (xW (xW (rotW v.e 6) (rotW v.e 11)) (rotW v.e 25))) (xW (aW v.e v.f) (aW (nW v.e) v.g))) (rk k))
              have a4 := (IntKind.wrap_u32' _).trans (uadd32 (addW (addW (addW v.h (xW (xW (rotW v.e 6) (rotW v.e 11)) (rotW v.e 25))) (xW (aW v.e v.f) (aW (nW v.e) v.g))) (rk k)) (F k))
              rw [← t1def] at a4
              clear t1def
              generalize hT:t1W v (rk k) (F k)=T at *
              go_wp2_with fail
              go_quiet (fail)
              have hMz := hid (show CV _ _ hf F v w (wq.drewN nq) from ⟨hMq.out.cm.drewN nq, hMq.out.vs, hMq.out.far⟩)
              generalize wq.drewN nq=wz at *
              clear hMq v7 cw cr a1 a2 a3 a4
              have v1 := hMz.out.vcell (j := 1) (x := v.b) rfl
              have v2 := hMz.out.vcell (j := 2) (x := v.c) rfl
              have v3 := hMz.out.vcell (j := 3) (x := v.d) rfl
              have v5 := hMz.out.vcell (j := 5) (x := v.f) rfl
              have v6 := hMz.out.vcell (j := 6) (x := v.g) rfl
              have v0 := hMz.out.vcell (j := 0) (x := v.a) rfl
              have v4 := hMz.out.vcell (j := 4) (x := v.e) rfl
              have v7 := hMz.out.vcell (j := 7) (x := v.h) rfl
              have hfz:∀ j:Nat, wz.frozen? ⟨wr0.heap.size, j, none⟩=false := fun j => free_of hMz.out.vs
              have f0 := hfz 0
              have f1 := hfz 1
              have f2 := hfz 2
              have f3 := hfz 3
              have f4 := hfz 4
              have f5 := hfz 5
              have f6 := hfz 6
              have f7 := hfz 7
              clear hfz
              have g1 := uadd32 T (xW (xW (rotW v.a 2) (rotW v.a 13)) (rotW v.a 22))
              have g2 := uadd32 (addW T (xW (xW (rotW v.a 2) (rotW v.a 13)) (rotW v.a 22))) (xW (xW (aW v.a v.b) (aW v.a v.c)) (aW v.b v.c))
              have g3 := uadd32 v.d T
              have g1' := (IntKind.wrap_u32' _).trans g1
              have g2' := (IntKind.wrap_u32' _).trans g2
              have g3' := (IntKind.wrap_u32' _).trans g3
              have hfin := hMz.out.store (v.next (rk k) (F k))
              have hnv:v.next (rk k) (F k)=rnd (v8of hf) F (k+1) := by rw [rnd, ← hv.out]
              have hnx:v.next (rk k) (F k)=⟨addW (addW T (xW (xW (rotW v.a 2) (rotW v.a 13)) (rotW v.a 22))) (xW (xW (aW v.a v.b) (aW v.a v.c)) (aW v.b v.c)), v.a, v.b, v.c, addW v.d T, v.e, v.f, v.g⟩ := by unfold V8.next; rw [hT]; rfl
              rw [hnx] at hfin hnv
              replace hfin := hid hfin
              replace hnv := hid hnv
              clear hnx
              have d1 := ua32 v.a v.b
              have d2 := ua32 v.a v.c
              have d3 := ua32 v.b v.c
              have d4 := ux32 (aW v.a v.b) (aW v.a v.c)
              have d5 := ux32 (xW (aW v.a v.b) (aW v.a v.c)) (aW v.b v.c)
              go_wp2_with fail
              refine (hr2.out wz).mono ?_
              rintro e w1 ⟨rfl, rfl⟩
              go_wp2_with fail
              refine (hr13.out wz).mono ?_
              rintro e w1 ⟨rfl, rfl⟩
              go_wp2_with fail
              refine (hr22.out wz).mono ?_
              rintro e w1 ⟨rfl, rfl⟩
              go_wp2_with fail
              refine ⟨?_, by simp [intOf]; omega⟩
              repeat (first | exact ⟨⟨k+1, _, rfl, by omega, hnv, hfin⟩, rfl⟩ | apply Exists.intro)
            · have hk64:k=64 := by omega
              subst hk64
              clear hk hlt
              go_wp2_with fail
              go_loopw [184] (fun r wr => ∃ i:Nat, r=.int .i64 i∧i≤8∧Hid (CV w.heap.size wr0.heap.size (addK hf v i) F v w wr)) (fun i _ => 8 - (intOf i).toNat)
              case atStart =>
                refine ⟨0, rfl, Nat.zero_le _, ?_⟩
                exact hM
              case round =>
                clear hM
                obtain ⟨i, rfl, hi, hM⟩ := hrel
                by_cases hlt:i < 8
                · have q1:decide ((i:Int) < 8)=true := decide_eq_true (by omega)
                  have q1':decide (i < 8)=true := decide_eq_true hlt
                  have hset := hM.out.drew.sset i (addW (hf i) (v.at i))
                  rw [addK_succ] at hset
                  replace hset := hid hset
                  have sc:wr.drew.cell? ⟨w.heap.size, i, none⟩=some (wv (hf i)) := (hM.out.drew.cm.scell hlt).trans (by rw [addK_at])
                  have vc:wr.drew.cell? ⟨wr0.heap.size, i, none⟩=some (wv (v.at i)) := hM.out.drew.vcell (v.at_vals hlt)
                  have hfz:wr.drew.frozen? ⟨w.heap.size, i, none⟩=false := free_of hM.out.drew.cm.st
                  have l1:(i:Int) < 8 := by omega
                  have l0:(0:Int)≤(i:Int) := by omega
                  have a1 := uadd32 (hf i) (v.at i)
                  have a1' := (IntKind.wrap_u32' _).trans a1
                  clear hM
                  generalize addW (hf i) (v.at i)=x at *
                  go_wp2_with fail
                  go_still_tail 8, (by kernel_rfl)
                  go_wp2_with fail
                  refine ⟨?_, by simp [intOf]; omega⟩
                  repeat (first | exact ⟨⟨i+1, rfl, by omega, hset⟩, rfl⟩ | apply Exists.intro)
                · have hi8:i=8 := by omega
                  subst hi8
                  clear hi hlt
                  obtain ⟨g, hg⟩:∃ g, g=addK hf v 8 := ⟨_, rfl⟩
                  rw [← hg] at hM
                  have hgr:g=res := by rw [← hres.out, hg, hv.out, hF.out]; rfl
                  subst hgr
                  clear hg hv hF hres
                  obtain ⟨cs, hr, hcs⟩ := hM.out.cm.res
                  have s0 := hM.out.cm.scell (k := 0) (by decide)
                  have s1 := hM.out.cm.scell (k := 1) (by decide)
                  have s2 := hM.out.cm.scell (k := 2) (by decide)
                  have s3 := hM.out.cm.scell (k := 3) (by decide)
                  have s4 := hM.out.cm.scell (k := 4) (by decide)
                  have s5 := hM.out.cm.scell (k := 5) (by decide)
                  have s6 := hM.out.cm.scell (k := 6) (by decide)
                  have s7 := hM.out.cm.scell (k := 7) (by decide)
                  have hfz:∀ j:Nat, wr.frozen? ⟨w.heap.size+1, j, none⟩=false := fun j => free_of hr
                  have f0 := hfz 0
                  have f1 := hfz 1
                  have f2 := hfz 2
                  have f3 := hfz 3
                  have f4 := hfz 4
                  have f5 := hfz 5
                  have f6 := hfz 6
                  have f7 := hfz 7
                  have hrc:∀ j:Nat, j < 8→∃ x, wr.cell? ⟨w.heap.size+1, j, none⟩=some x := fun j hj => ⟨_, (cell_of hr).trans (Array.getElem?_eq_getElem (by omega))⟩
                  obtain ⟨r0, c0⟩ := hrc 0 (by decide)
                  obtain ⟨r1, c1⟩ := hrc 1 (by decide)
                  obtain ⟨r2, c2⟩ := hrc 2 (by decide)
                  obtain ⟨r3, c3⟩ := hrc 3 (by decide)
                  obtain ⟨r4, c4⟩ := hrc 4 (by decide)
                  obtain ⟨r5, c5⟩ := hrc 5 (by decide)
                  obtain ⟨r6, c6⟩ := hrc 6 (by decide)
                  obtain ⟨r7, c7⟩ := hrc 7 (by decide)
                  have hbel := hid hM.out.cm.bel
                  have hwc:Value.agg (wcells 8 g)=.agg #[wv (g 0), wv (g 1), wv (g 2), wv (g 3), wv (g 4), wv (g 5), wv (g 6), wv (g 7)] := rfl
                  replace hwc := hid hwc
                  replace hr := hid hr
                  replace hcs := hid hcs
                  clear hM hfz hrc
                  go_wp2_with fail
                  have hfin := res8 hr.out hcs.out g
                  have hB:Below w.heap.size w ((((((((wr.setCell ⟨w.heap.size+1, 0, none⟩ (wv (g 0))).setCell ⟨w.heap.size+1, 1, none⟩ (wv (g 1))).setCell ⟨w.heap.size+1, 2, none⟩ (wv (g 2))).setCell ⟨w.heap.size+1, 3, none⟩ (wv (g 3))).setCell ⟨w.heap.size+1, 4, none⟩ (wv (g 4))).setCell ⟨w.heap.size+1, 5, none⟩ (wv (g 5))).setCell ⟨w.heap.size+1, 6, none⟩ (wv (g 6))).setCell ⟨w.heap.size+1, 7, none⟩ (wv (g 7))) := ((((((((hbel.out.setCell (by show w.heap.size≤w.heap.size+1; omega) _).setCell (by show w.heap.size≤w.heap.size+1; omega) _).setCell (by show w.heap.size≤w.heap.size+1; omega) _).setCell (by show w.heap.size≤w.heap.size+1; omega) _).setCell (by show w.heap.size≤w.heap.size+1; omega) _).setCell (by show w.heap.size≤w.heap.size+1; omega) _).setCell (by show w.heap.size≤w.heap.size+1; omega) _).setCell (by show w.heap.size≤w.heap.size+1; omega) _)
                  generalize ((((((((wr.setCell ⟨w.heap.size+1, 0, none⟩ (wv (g 0))).setCell ⟨w.heap.size+1, 1, none⟩ (wv (g 1))).setCell ⟨w.heap.size+1, 2, none⟩ (wv (g 2))).setCell ⟨w.heap.size+1, 3, none⟩ (wv (g 3))).setCell ⟨w.heap.size+1, 4, none⟩ (wv (g 4))).setCell ⟨w.heap.size+1, 5, none⟩ (wv (g 5))).setCell ⟨w.heap.size+1, 6, none⟩ (wv (g 6))).setCell ⟨w.heap.size+1, 7, none⟩ (wv (g 7)))=W at *
                  have d0:W.cell? ⟨w.heap.size+1, 0, none⟩=some (wv (g 0)) := (cell_of hfin).trans rfl
                  have d1:W.cell? ⟨w.heap.size+1, 1, none⟩=some (wv (g 1)) := (cell_of hfin).trans rfl
                  have d2:W.cell? ⟨w.heap.size+1, 2, none⟩=some (wv (g 2)) := (cell_of hfin).trans rfl
                  have d3:W.cell? ⟨w.heap.size+1, 3, none⟩=some (wv (g 3)) := (cell_of hfin).trans rfl
                  have d4:W.cell? ⟨w.heap.size+1, 4, none⟩=some (wv (g 4)) := (cell_of hfin).trans rfl
                  have d5:W.cell? ⟨w.heap.size+1, 5, none⟩=some (wv (g 5)) := (cell_of hfin).trans rfl
                  have d6:W.cell? ⟨w.heap.size+1, 6, none⟩=some (wv (g 6)) := (cell_of hfin).trans rfl
                  have d7:W.cell? ⟨w.heap.size+1, 7, none⟩=some (wv (g 7)) := (cell_of hfin).trans rfl
                  rw [hwc.out]
                  refine bodyPost_ret (v := .agg #[wv (g 0), wv (g 1), wv (g 2), wv (g 3), wv (g 4), wv (g 5), wv (g 6), wv (g 7)]) (by simp [results, Tryz.results56, go_sem, d0, d1, d2, d3, d4, d5, d6, d7]) rfl ⟨rfl, hB⟩
end Go.Proofs.YtfejagpjahoibaaGreatDoor
