/- press: literal, the function within Pack. -/
import Derived.Test.YtomijpoglnihgaaDoorPressZ
import Derived.Test.YtomijpoglnihgaaDoorBldF
set_option linter.unusedVariables false
namespace Go.Proofs.YtomijpoglnihgaaDoor
open Go.RowKit
open Go.Lib (hid byteCells)
theorem IX.fr {s : List UInt8} {m b mb : Nat} {w w' : World} {S : Foot} (h : IX s m b mb w) (hf : Fr S w w') (h1 : ¬ S b) (h2 : ¬ S mb) : IX s m b mb w' := by
  obtain ⟨⟨Z, g1, g2⟩, ⟨N, f, g3, g4⟩, g5⟩ := h
  exact ⟨⟨Z, hf.keep g1 h1, g2⟩, ⟨N, f, g3.fr hf h2, g4⟩, g5⟩
/-- G may hold a builder's buffer: all new blocks, none below B, and what lies from B on and is not in G are no bytes -/
structure GOk (G : Foot) (B : Nat) (w : World) : Prop where
  up : ∀ k, w.heap.size ≤ k → G k
  low : ∀ k, G k → B ≤ k
  ty : ∀ k, B ≤ k → k < w.heap.size → ¬ G k → ∀ cur, w.heap[k]? ≠ some (.cells cur 5 (0, 0))
  le : B ≤ w.heap.size
theorem GOk.fr {G S : Foot} {B : Nat} {w w' : World} (h : GOk G B w) (hf : Fr S w w') (ht : ∀ k, S k → ¬ G k → ∀ cur, w'.heap[k]? ≠ some (.cells cur 5 (0, 0))) : GOk G B w' := by
  have hs := hf.size
  refine ⟨fun k hk => h.up k (by omega), h.low, fun k h1 h2 h3 => ?_, by have := h.le; omega⟩
  rcases Classical.em (S k) with hS | hS
  · exact ht k hS h3
  · have hk : k < w.heap.size := by
      rcases Nat.lt_or_ge k w.heap.size with h4 | h4
      · exact h4
      · exact absurd (h.up k h4) h3
    rw [hf.block k hk hS]
    exact h.ty k h1 hk h3
theorem GOk.self {G : Foot} {B : Nat} {w w' : World} (h : GOk G B w) (hf : Fr G w w') : GOk G B w' := h.fr hf (fun k h1 h2 => absurd h1 h2)
theorem GOk.below {G : Foot} {B : Nat} {w w' : World} (h : GOk G B w) (hf : Below w.heap.size w w') : GOk G B w' := h.self (Fr.of_below hf G)
theorem Fr.cell {S : Foot} {w w' : World} (h : Fr S w w') {p : Addr} (hp : p.block < w.heap.size) (hs : ¬ S p.block) : w'.cell? p = w.cell? p := by
  simp only [World.cell?, h.block _ hp hs]
theorem wr_any (G : Foot) (B b : Nat) (l s : List UInt8) (w : World) (h : BldF G b l w) (hg : GOk G B w) (hlen : l.length + s.length ≤ 140737488355328) :
    Calls Tryd.prog 11 #[.pointer (some ⟨b, 0, none⟩), sv s] w fun e w' => e = .returned (.tuple #[.int .i64 s.length, .nilIface]) ∧ BldF G b (l ++ s) w' ∧ Fr G w w' :=
  bldF_write G B b l s w h hg.up hg.low hg.ty hg.le hlen
theorem vencF_small : ∀ f n, (vencF f n).length ≤ f
  | 0, n => by simp [vencF]
  | f + 1, n => by
    have := vencF_small f (n / 128)
    rw [vencF]; split
    · simp
    · simp only [List.length_cons]; omega
theorem venc_small (n : Nat) : (venc n).length ≤ 9 := vencF_small 9 n
theorem num_nat (n : Nat) (w : World) (h : n < 9223372036854775808) :
    Calls Tryd.prog 12 #[iv n] w fun e w' => e = .returned (sv (venc n)) ∧ Below w.heap.size w w' := by
  have := num_any (n : Int) w (by omega)
  have hv : nenc (n : Int) = venc n := by unfold nenc; rw [if_neg (by omega), Int.toNat_natCast]
  rw [hv] at this
  exact this
theorem encs_lit {s : List UInt8} {x y : Nat} (h : x < y) (hy : y ≤ s.length) : encs (litT s x y) = venc (2 * (y - x)) ++ (s.take y).drop x := by
  have hl : ((s.take y).drop x).length = y - x := by simp; omega
  simp [litT, h, encs, Tok.enc, hl]
theorem ext_mid (s : List UInt8) (x y : Nat) : (ByteArray.mk s.toArray).extract x y = ⟨((s.take y).drop x).toArray⟩ := by
  rw [ByteArray.extract_mk]
  simp [List.drop_take]
set_option maxHeartbeats 2000000 in
set_option maxRecDepth 100000 in
theorem lit_any (G : Foot) (B b1 b0 : Nat) (s l : List UInt8) (w : World) (x y : Nat) (hxy : x ≤ y) (hy : y ≤ s.length) (hs : s.length ≤ 16777216) (h : BldF G b1 l w) (hg : GOk G B w) (hc0 : w.cell? ⟨b0, 0, none⟩ = some (sv s)) (hbl : b0 < w.heap.size) (hb0 : ¬ G b0) (hl : l.length ≤ 1000000000) :
    Calls Tryd.prog 13 #[iv x, iv y, pt b1, pt b0] w fun e w' => e = .returned (.tuple #[]) ∧ BldF G b1 (l ++ encs (litT s x y)) w' ∧ Fr G w w' := by
  by_cases hlt : x < y
  · have q1 : decide ((x : Int) < (y : Int)) = true := decide_eq_true (by omega)
    have hnum := num_nat (2 * (y - x)) w (by omega)
    have he : ((2 * (y - x) : Nat) : Int) = 2 * ((y : Int) - x) := by omega
    rw [he] at hnum
    replace hnum := hid hnum
    have hres := encs_lit hlt hy
    have hvl := venc_small (2 * (y - x))
    have hll : ((s.take y).drop x).length ≤ 16777216 := by simp; omega
    have hex := ext_mid s x y
    generalize venc (2 * (y - x)) = V at *
    generalize hZ : (s.take y).drop x = Z at *
    clear he hZ
    replace hres := hid hres
    replace hg := hid hg
    replace h := hid h
    have hi1 : (0 : Int) ≤ x := by omega
    have hi2 : (x : Int) ≤ y := by omega
    have hi3 : (y : Int) ≤ (s.length : Int) := by omega
    go_enter Tryd.func13, Tryd.ntmps13
    go_wp2_with fail
    refine hnum.out.mono ?_
    rintro e w1 ⟨rfl, hb1⟩
    have h1 := h.out.below hb1
    have g1 := hg.out.below hb1
    have f1 : Fr G w w1 := Fr.of_below hb1 G
    clear hnum
    have hwr := hid (wr_any G B b1 l V w1 h1 g1 (by omega))
    replace h1 := hid h1
    replace g1 := hid g1
    replace f1 := hid f1
    go_wp2_with fail
    refine hwr.out.mono ?_
    rintro e w2 ⟨rfl, h2, f2⟩
    have g2 := g1.out.self f2
    have f3 := f1.out.trans f2
    have c2 : w2.cell? ⟨b0, 0, none⟩ = some (sv s) := (f3.cell (p := ⟨b0, 0, none⟩) hbl hb0).trans hc0
    clear hwr
    have hwr := hid (wr_any G B b1 (l ++ V) Z w2 h2 g2 (by rw [List.length_append]; omega))
    replace h2 := hid h2
    replace g2 := hid g2
    replace f3 := hid f3
    go_wp2_with fail
    refine hwr.out.mono ?_
    rintro e w3 ⟨rfl, h3, f4⟩
    replace f4 := hid (f3.out.trans f4)
    replace h3 := hid h3
    go_wp2_with fail
    go_end0
    refine ⟨rfl, ?_, f4.out⟩
    rw [hres.out, ← List.append_assoc]
    exact h3.out
  · have q1 : decide ((x : Int) < (y : Int)) = false := decide_eq_false (by omega)
    have hres : encs (litT s x y) = [] := by simp [litT, hlt, encs]
    rw [hres, List.append_nil]
    replace h := hid h
    go_enter Tryd.func13, Tryd.ntmps13
    go_wp2_with fail
    go_end0
    exact ⟨rfl, h.out, Fr.refl _ _⟩
end Go.Proofs.YtomijpoglnihgaaDoor
