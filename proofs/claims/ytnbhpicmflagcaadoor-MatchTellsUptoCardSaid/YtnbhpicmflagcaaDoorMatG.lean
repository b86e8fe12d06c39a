/- value.Bytes. -/
import Derived.Test.YtnbhpicmflagcaaDoorMatF
set_option linter.unusedVariables false
namespace Go.Proofs.YtnbhpicmflagcaaDoor
open Go.RowKit
open Go.Lib (hid byteCells)
noncomputable def bytesF (x : Val) : List UInt8 := if rightF x then encF x else []
set_option maxHeartbeats 4000000 in
set_option maxRecDepth 100000 in
theorem bytes_any (x : Val) (hx : ValB x) (hlen : (bytesF x).length ≤ 1000000000) (S : Foot) (cs : List Value) (w : World) (hR : ValR S w x cs) :
    Calls Tryd.prog 32 #[.agg cs.toArray] w fun e w' => e = .returned (sv (bytesF x)) ∧ Below w.heap.size w w' := by
  have hw1 : ∀ o, Below w.heap.size w (w.alloc o) := fun o => (Below.refl _ w).alloc (Nat.le_refl _) o
  have hcall := hid (fun o => right_any x hx S cs (w.alloc o) (goodVal.below hR (hw1 o)))
  have hR2 := goodVal.mono (T := fun q => S q ∧ q < w.heap.size) hR (fun k hk hs => ⟨hs, hk⟩)
  replace hR2 := hid hR2
  obtain ⟨E, hE⟩ : ∃ E, E = bytesF x := ⟨_, rfl⟩
  rw [← hE] at hlen ⊢
  obtain ⟨a1, k1, rfl, -⟩ := valR_open hR
  clear hR
  cases hr : rightF x with
  | false =>
    rw [hr] at hcall
    have hfin := hid (show E = [] by rw [hE]; unfold bytesF; rw [hr]; rfl)
    clear hE hr
    have hw1h := hid hw1
    clear hw1
    go_enter Tryd.func32, Tryd.ntmps32
    go_wp2_with fail
    refine (hcall.out _).mono ?_
    rintro e w2 ⟨rfl, hb2⟩
    have hB := hid ((hw1h.out _).trans (hb2.mono (hw1h.out _).size))
    go_wp2_with fail
    go_ret
    exact ⟨by rw [hfin.out]; rfl, hB.out⟩
  | true =>
    rw [hr] at hcall
    have hE2 : E = encF x := by rw [hE]; unfold bytesF; rw [if_pos hr]
    obtain ⟨b, hvl⟩ : ∃ b, vldF x 16384 = some b := by
      unfold rightF at hr
      exact Option.isSome_iff_exists.1 hr
    rw [hE2] at hlen
    replace hE2 := hid hE2
    replace hlen := hid hlen
    replace hvl := hid hvl
    clear hE hr
    have hw1h := hid hw1
    clear hw1
    go_enter Tryd.func32, Tryd.ntmps32
    go_wp2_with fail
    refine (hcall.out _).mono ?_
    rintro e w2 ⟨rfl, hb2⟩
    have hB : Below w.heap.size w w2 := (hw1h.out _).trans (hb2.mono (hw1h.out _).size)
    have hrow := (hb2.block w.heap.size (by simp)).trans (heap_alloc_new' _ _)
    have c0 : w2.cell? ⟨w.heap.size, 0, none⟩ = some (iv x.kind) := (cell_of (i := 0) hrow).trans rfl
    have c1 : w2.cell? ⟨w.heap.size, 1, none⟩ = some (sv x.t) := (cell_of (i := 1) hrow).trans rfl
    have c2 : w2.cell? ⟨w.heap.size, 2, none⟩ = some (iv x.n) := (cell_of (i := 2) hrow).trans rfl
    have c3 : w2.cell? ⟨w.heap.size, 3, none⟩ = some (iv x.m) := (cell_of (i := 3) hrow).trans rfl
    have c4 : w2.cell? ⟨w.heap.size, 4, none⟩ = some (sv x.s) := (cell_of (i := 4) hrow).trans rfl
    have c5 : w2.cell? ⟨w.heap.size, 5, none⟩ = some (.slice a1 x.l.length k1) := (cell_of (i := 5) hrow).trans rfl
    have hen := hid (encode_any x hx w2.heap.size 16384 b hvl.out [] (.slice none 0 0) _ w2 (goodVal.mono (goodVal.below hR2.out hB) (fun k hk hs => hk)) (World.ownsRow_nil _ _ _ _) (Nat.le_refl _) hlen.out)
    rw [List.nil_append] at hen
    replace hB := hid hB
    clear hcall hb2 hrow hR2
    go_wp2_with fail
    refine hen.out.mono ?_
    rintro e w3 ⟨v', rfl, h1, h2⟩
    have hcv := conv_own' (P := Tryd.prog) (src := 53) (dst := 9) (e := 5) (by kernel_rfl) (by kernel_rfl) (by kernel_rfl) (hid (show byteCells (encF x) = (encF x).map fun b => Value.int .u8 b.toNat from rfl)) h1
    have hB3 := hid (hB.out.trans ((h2.to_below (B := w.heap.size) hB.out.size (fun k hk e => by have e' : w2.heap.size ≤ k := e; have := hB.out.size; omega))))
    obtain ⟨ao, cap, hv', -, -⟩ := owns_form h1
    subst hv'
    clear h1 h2 hen c0 c1 c2 c3 c4 c5
    go_wp2_with fail
    go_ret
    exact ⟨by rw [hE2.out]; rfl, hB3.out⟩
end Go.Proofs.YtnbhpicmflagcaaDoor
