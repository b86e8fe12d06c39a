/- lex: walks: Write. -/
import Derived.Test.YtlfcdfpbgjmcfaaDoorLexW7q
import Derived.Lib.ItoaLen
import Derived.Test.YtlfcdfpbgjmcfaaDoorLexW6
set_option linter.unusedVariables false
set_option linter.unusedSimpArgs false
namespace Go.Proofs.YtlfcdfpbgjmcfaaDoor
open Go.RowKit
open Go.Lib (hid byteCells itoa)
/-- a token as it is written -/
def tkW (t : Tk) : List UInt8 := if t.kind = 2 then itoa t.n else if t.kind = 3 then quoteF t.text else t.text
def wrF (b : Bool) : List Tk → List UInt8
  | [] => []
  | t :: r => (if b then [32] else []) ++ tkW t ++ wrF true r
def writeF (l : List Tk) : List UInt8 := if l.all rightF then wrF false l else []
def TkB (t : Tk) : Prop := t.text.length ≤ 40000 ∧ -9223372036854775808 ≤ t.n ∧ t.n ≤ 9223372036854775807
theorem tkR_at {g o : Nat} {ds : List Value} {x : Tk} {S : Foot} {w : World} (hR : TkR S w x ds) (h : ∀ j u, ds[j]? = some u → w.cell? ⟨g, o + j, none⟩ = some u) :
    w.cell? ⟨g, o, none⟩ = some (iv x.kind) ∧ w.cell? ⟨g, o + 1, none⟩ = some (sv x.text) ∧ w.cell? ⟨g, o + 2, none⟩ = some (iv x.n) ∧ w.cell? ⟨g, o + 3, none⟩ = some (iv x.pos) := by
  subst hR
  exact ⟨h 0 _ rfl, h 1 _ rfl, h 2 _ rfl, h 3 _ rfl⟩
theorem all_takeT {l : List Tk} {k : Nat} {x : Tk} (hx : l[k]? = some x) (p : Tk → Bool) : (l.take (k + 1)).all p = ((l.take k).all p && p x) := by
  rw [List.take_add_one, hx]; simp [List.all_append]
theorem all_falseT {l : List Tk} {k : Nat} {x : Tk} (hx : l[k]? = some x) {p : Tk → Bool} (h : p x = false) : l.all p = false := by
  rw [Bool.eq_false_iff]
  intro h2
  rw [List.all_eq_true] at h2
  have := h2 x (List.mem_of_getElem? hx)
  rw [h] at this; cases this
theorem drop_atT {l : List Tk} {k : Nat} {x : Tk} (h : l[k]? = some x) : l.drop k = x :: l.drop (k + 1) := by
  obtain ⟨hk, rfl⟩ := List.getElem?_eq_some_iff.1 h
  exact List.drop_eq_getElem_cons hk
theorem itoa_len (n : Int) (h0 : -9223372036854775808 ≤ n) (h1 : n ≤ 9223372036854775807) : (itoa n).length ≤ 40 := Nat.le_trans (Lib.itoa_length_le n h0 h1) (by decide)
set_option maxHeartbeats 4000000 in
set_option maxRecDepth 100000 in
theorem write_any (l : List Tk) (v : Value) (S : Foot) (w : World) (hl : l.length ≤ 40000) (hb : ∀ t ∈ l, TkB t) (hr : SlR 4 TkR S w l v) (ht : Hid (Tab w)) :
    Calls Tryd.prog 8 #[v] w fun e w' => e = .returned (sv (writeF l)) ∧ Below w.heap.size w w' := by
  obtain ⟨a, cap, rfl, -⟩ := hr.slice
  obtain ⟨res, hres⟩ : ∃ r, r = writeF l := ⟨_, rfl⟩
  rw [← hres]
  replace hres := hid hres
  replace hr := hid hr
  replace hb := hid hb
  have hB0 := hid (BldF.new (fun q => w.heap.size ≤ q) w (Nat.le_refl _))
  have hbe := hid ((Below.refl w.heap.size w).alloc (Nat.le_refl _) (.cells #[.pointer none, .slice none 0 0] 38))
  go_enter Tryd.func8, Tryd.ntmps8
  go_wp2_with fail
  generalize (w.alloc (.cells #[.pointer none, .slice none 0 0] 38)) = w0 at *
  go_loopw [8] (fun z wr => ∃ (k : Nat) (acc : List UInt8), z = .int .i64 k ∧ k ≤ l.length ∧ acc.length ≤ k * 80100 ∧ Hid ((l.take k).all rightF = true) ∧ Hid (acc ++ wrF (decide (0 < k)) (l.drop k) = wrF false l) ∧ Hid (BldF (fun q => w.heap.size ≤ q) w.heap.size acc wr) ∧ Hid (Below w.heap.size w wr)) (fun z _ => l.length - (intOf z).toNat)
  case atStart => exact ⟨0, [], rfl, Nat.zero_le _, by simp, hid rfl, hid rfl, hB0, hbe⟩
  case round =>
    clear hB0 hbe
    obtain ⟨k, acc, rfl, hk, hac, hall, hw, hB, hbe⟩ := hrel
    by_cases hlt : k < l.length
    · have q1 : decide ((k : Int) < (l.length : Int)) = true := decide_eq_true (by omega)
      have q1i : (k : Int) < (l.length : Int) := by omega
      obtain ⟨x, hx⟩ : ∃ x, l[k]? = some x := ⟨_, List.getElem?_eq_getElem hlt⟩
      have hbx := hb.out x (List.mem_of_getElem? hx)
      have hrr : SlR 4 TkR S wr l (.slice a l.length cap) := hr.out.move goodTk (fun q hq hs => ⟨hs, hbe.out.block q hq⟩)
      obtain ⟨g, o, ds, hidx, hS, hg, hcl, hR⟩ := hrr.at (P := Tryd.prog) (t := 22) (by kernel_rfl) (fun _ => by kernel_rfl) hx
      obtain ⟨d0, d1, d2, d3⟩ := tkR_at hR hcl
      have hri := hid (fun W => right_any x W (by have := hbx.1; omega))
      clear hcl hR hrr hS
      obtain ⟨tb, htb⟩ : ∃ tb, tb = wr.heap.size := ⟨_, rfl⟩
      have hT1 : TR tb x (wr.alloc (.cells #[iv x.kind, sv x.text, iv x.n, iv x.pos] 32)) := by rw [htb]; exact heap_alloc_new' _ _
      have hb1 : Below wr.heap.size wr (wr.alloc (.cells #[iv x.kind, sv x.text, iv x.n, iv x.pos] 32)) := (Below.refl _ _).alloc (Nat.le_refl _) _
      have hB1 := (hB.out.mono (H := fun q => w.heap.size ≤ q ∧ q ≠ tb) (fun q hq h => ⟨h, by omega⟩)).below hb1
      have hbe1 := hbe.out.alloc hbe.out.size (.cells #[iv x.kind, sv x.text, iv x.n, iv x.pos] 32)
      have hdx := drop_atT hx
      have hsz := hbe.out.size
      replace htb := hid htb
      go_wp2_with fail
      rw [← htb.out]
      generalize wr.alloc (.cells #[iv x.kind, sv x.text, iv x.n, iv x.pos] 32) = w1 at *
      refine (hri.out _).mono ?_
      rintro e w2 ⟨rfl, hb2⟩
      have hT := hid (hT1.below hb2)
      have hB2 := hid (hB1.below hb2)
      have hbb := hid (hbe1.trans (hb2.mono hbe1.size))
      have hG := hid (show GOk (fun q => w.heap.size ≤ q ∧ q ≠ tb) w.heap.size w2 from
        ⟨fun q hq => ⟨Nat.le_trans hbb.out.size hq, by have := lt_of_heap hT.out; omega⟩, fun q h => h.1, fun q h1 h2 h3 cur h4 => by
          have : q = tb := Classical.byContradiction (fun e => h3 ⟨h1, e⟩)
          subst this
          have h5 := hT.out.symm.trans h4
          simp at h5, hbb.out.size⟩)
      clear hT1 hB1 hb1 hbe1 hb2 hri d0 d1 d2 d3 hidx hg
      cases hrx : rightF x with
      | false =>
        have hv := hid (show res = [] by rw [hres.out]; unfold writeF; rw [all_falseT hx hrx]; rfl)
        go_wp2_with fail
        go_ret
        exact ⟨by rw [hv.out]; rfl, hbb.out⟩
      | true =>
        have hall2 := hid (show (l.take (k + 1)).all rightF = true by rw [all_takeT hx, hall.out, hrx]; rfl)
        obtain ⟨acc2, hacc2⟩ : ∃ acc2, acc2 = (acc ++ (if decide (0 < k) then [32] else [])) ++ tkW x := ⟨_, rfl⟩
        have hw2 := hid (show acc2 ++ wrF (decide (0 < k + 1)) (l.drop (k + 1)) = wrF false l by
          rw [← hw.out, hdx, hacc2, show decide (0 < k + 1) = true from decide_eq_true (by omega)]; simp only [wrF, List.append_assoc])
        clear hrx hw hdx hall
        by_cases h0 : 0 < k
        · have q0 : decide ((k : Int) > 0) = true := decide_eq_true (by omega)
          have q0i : (0 : Int) < (k : Int) := by omega
          rw [show decide (0 < k) = true from decide_eq_true h0, if_pos rfl] at hacc2
          go_wp2_with fail
          refine (wb_any _ _ _ acc 32 w2 hB2.out hG.out (by omega)).mono ?_
          rintro e w3 ⟨rfl, hB3, hF3⟩
          replace hB3 := hid hB3
          replace hF3 := hid hF3
          have hac3 : (acc ++ [32]).length ≤ 3204000001 := by rw [List.length_append]; simp only [List.length_singleton]; omega
          have hac4 : (acc ++ [32]).length = acc.length + 1 := by simp
          generalize acc ++ [32] = acc1 at *
          clear hB2
          have hT3 := hT.out.fr hF3.out (fun h => h.2 rfl)
          obtain ⟨t0, t1, t2, t3⟩ := hT3.cell
          have hG3 := hG.out.self hF3.out
          have hb3 := hbb.out.trans (hF3.out.to_below hbb.out.size (fun q hq h => by have := h.1; omega))
          by_cases k2 : x.kind = 2
          · have htk : tkW x = itoa x.n := by unfold tkW; rw [if_pos k2]
            have hil := itoa_len x.n hbx.2.1 hbx.2.2
            have htx := hid (text_any x.n w3 hbx.2.1 hbx.2.2 (hid (ht.out.below hb3)))
            have hal2 : acc2.length ≤ (k + 1) * 80100 := by rw [hacc2, htk]; simp only [List.length_append]; omega
            have q2 : (x.kind == 2) = true := by rw [beq_iff_eq]; exact k2
            go_wp2_with fail
            refine htx.out.mono ?_
            rintro e w4 ⟨rfl, hb4⟩
            have hB4 := hB3.out.below hb4
            have hG4 := hG3.below hb4
            go_wp2_with fail
            refine (wr_any _ _ _ _ (itoa x.n) w4 hB4 hG4 (by omega)).mono ?_
            rintro e w5 ⟨rfl, hB5, hF5⟩
            have hb4b := hb3.trans (hb4.mono hb3.size)
            have hbx2 := hb4b.trans (hF5.to_below hb4b.size (fun q hq h => by have := h.1; omega))
            have hBx : BldF (fun q => w.heap.size ≤ q ∧ q ≠ tb) w.heap.size acc2 w5 := by rw [hacc2, htk]; exact hB5
            clear hB4 hG4 hB5 hF5 hb4 hb4b hT3 hB3 hG3 hb3 hil htx
            have hBf := hid (show BldF (fun q => w.heap.size ≤ q) w.heap.size acc2 w5 from (hBx.mono (fun q _ h => h.1)))
            have hbf := hid hbx2
            clear hBx hbx2
            go_wp2_with fail
            refine ⟨?_, by simp [intOf]; omega⟩
            repeat (first | exact ⟨⟨k + 1, acc2, rfl, by omega, hal2, hall2, hw2, hBf, hbf⟩, rfl⟩ | exact ⟨k + 1, acc2, rfl, by omega, hal2, hall2, hw2, hBf, hbf⟩ | apply Exists.intro)
          · have q2 : (x.kind == 2) = false := by rw [beq_eq_false_iff_ne]; exact k2
            by_cases k3 : x.kind = 3
            · have htk : tkW x = quoteF x.text := by unfold tkW; rw [if_neg k2, if_pos k3]
              have hql : (quoteF x.text).length ≤ 2 * x.text.length + 2 := by unfold quoteF; have := escs_len x.text; simp; omega
              have hal2 : acc2.length ≤ (k + 1) * 80100 := by rw [hacc2, htk]; simp only [List.length_append]; have := hbx.1; omega
              have q3 : (x.kind == 3) = true := by rw [beq_iff_eq]; exact k3
              go_wp2_with fail
              refine (quote_any _ _ _ _ x.text w3 hB3.out hG3 (by have := hbx.1; omega)).mono ?_
              rintro e w5 ⟨rfl, hB5, hF5⟩
              have hbx2 := hb3.trans (hF5.to_below hb3.size (fun q hq h => by have := h.1; omega))
              have hBx : BldF (fun q => w.heap.size ≤ q ∧ q ≠ tb) w.heap.size acc2 w5 := by rw [hacc2, htk]; exact hB5
              clear hB5 hF5 hT3 hB3 hG3 hb3
              have hBf := hid (show BldF (fun q => w.heap.size ≤ q) w.heap.size acc2 w5 from (hBx.mono (fun q _ h => h.1)))
              have hbf := hid hbx2
              clear hBx hbx2
              go_wp2_with fail
              refine ⟨?_, by simp [intOf]; omega⟩
              repeat (first | exact ⟨⟨k + 1, acc2, rfl, by omega, hal2, hall2, hw2, hBf, hbf⟩, rfl⟩ | exact ⟨k + 1, acc2, rfl, by omega, hal2, hall2, hw2, hBf, hbf⟩ | apply Exists.intro)
            · have htk : tkW x = x.text := by unfold tkW; rw [if_neg k2, if_neg k3]
              have hal2 : acc2.length ≤ (k + 1) * 80100 := by rw [hacc2, htk]; simp only [List.length_append]; have := hbx.1; omega
              have q3 : (x.kind == 3) = false := by rw [beq_eq_false_iff_ne]; exact k3
              go_wp2_with fail
              refine (wr_any _ _ _ _ x.text w3 hB3.out hG3 (by have := hbx.1; omega)).mono ?_
              rintro e w5 ⟨rfl, hB5, hF5⟩
              have hbx2 := hb3.trans (hF5.to_below hb3.size (fun q hq h => by have := h.1; omega))
              have hBx : BldF (fun q => w.heap.size ≤ q ∧ q ≠ tb) w.heap.size acc2 w5 := by rw [hacc2, htk]; exact hB5
              clear hB5 hF5 hT3 hB3 hG3 hb3
              have hBf := hid (show BldF (fun q => w.heap.size ≤ q) w.heap.size acc2 w5 from (hBx.mono (fun q _ h => h.1)))
              have hbf := hid hbx2
              clear hBx hbx2
              go_wp2_with fail
              refine ⟨?_, by simp [intOf]; omega⟩
              repeat (first | exact ⟨⟨k + 1, acc2, rfl, by omega, hal2, hall2, hw2, hBf, hbf⟩, rfl⟩ | exact ⟨k + 1, acc2, rfl, by omega, hal2, hall2, hw2, hBf, hbf⟩ | apply Exists.intro)
        · have hk0 : k = 0 := by omega
          have q0 : decide ((k : Int) > 0) = false := decide_eq_false (by omega)
          have q0i : ¬ (0 : Int) < (k : Int) := by omega
          rw [show decide (0 < k) = false from decide_eq_false h0, if_neg (by decide), List.append_nil] at hacc2
          have hF3 := hid (Fr.refl (fun q => w.heap.size ≤ q ∧ q ≠ tb) w2)
          have hB3 := hB2
          have hac3 : acc.length ≤ 3204000001 := by omega
          obtain ⟨w3, hw3⟩ : ∃ w3, w3 = w2 := ⟨_, rfl⟩
          rw [← hw3] at hT hB2 hbb hG hF3 hB3
          rw [← hw3]
          clear hw3 hB2 hk0
          have hT3 := hT.out.fr hF3.out (fun h => h.2 rfl)
          obtain ⟨t0, t1, t2, t3⟩ := hT3.cell
          have hG3 := hG.out.self hF3.out
          have hb3 := hbb.out.trans (hF3.out.to_below hbb.out.size (fun q hq h => by have := h.1; omega))
          by_cases k2 : x.kind = 2
          · have htk : tkW x = itoa x.n := by unfold tkW; rw [if_pos k2]
            have hil := itoa_len x.n hbx.2.1 hbx.2.2
            have htx := hid (text_any x.n w3 hbx.2.1 hbx.2.2 (hid (ht.out.below hb3)))
            have hal2 : acc2.length ≤ (k + 1) * 80100 := by rw [hacc2, htk]; simp only [List.length_append]; omega
            have q2 : (x.kind == 2) = true := by rw [beq_iff_eq]; exact k2
            go_wp2_with fail
            refine htx.out.mono ?_
            rintro e w4 ⟨rfl, hb4⟩
            have hB4 := hB3.out.below hb4
            have hG4 := hG3.below hb4
            go_wp2_with fail
            refine (wr_any _ _ _ _ (itoa x.n) w4 hB4 hG4 (by omega)).mono ?_
            rintro e w5 ⟨rfl, hB5, hF5⟩
            have hb4b := hb3.trans (hb4.mono hb3.size)
            have hbx2 := hb4b.trans (hF5.to_below hb4b.size (fun q hq h => by have := h.1; omega))
            have hBx : BldF (fun q => w.heap.size ≤ q ∧ q ≠ tb) w.heap.size acc2 w5 := by rw [hacc2, htk]; exact hB5
            clear hB4 hG4 hB5 hF5 hb4 hb4b hT3 hB3 hG3 hb3 hil htx
            have hBf := hid (show BldF (fun q => w.heap.size ≤ q) w.heap.size acc2 w5 from (hBx.mono (fun q _ h => h.1)))
            have hbf := hid hbx2
            clear hBx hbx2
            go_wp2_with fail
            refine ⟨?_, by simp [intOf]; omega⟩
            repeat (first | exact ⟨⟨k + 1, acc2, rfl, by omega, hal2, hall2, hw2, hBf, hbf⟩, rfl⟩ | exact ⟨k + 1, acc2, rfl, by omega, hal2, hall2, hw2, hBf, hbf⟩ | apply Exists.intro)
          · have q2 : (x.kind == 2) = false := by rw [beq_eq_false_iff_ne]; exact k2
            by_cases k3 : x.kind = 3
            · have htk : tkW x = quoteF x.text := by unfold tkW; rw [if_neg k2, if_pos k3]
              have hql : (quoteF x.text).length ≤ 2 * x.text.length + 2 := by unfold quoteF; have := escs_len x.text; simp; omega
              have hal2 : acc2.length ≤ (k + 1) * 80100 := by rw [hacc2, htk]; simp only [List.length_append]; have := hbx.1; omega
              have q3 : (x.kind == 3) = true := by rw [beq_iff_eq]; exact k3
              go_wp2_with fail
              refine (quote_any _ _ _ _ x.text w3 hB3.out hG3 (by have := hbx.1; omega)).mono ?_
              rintro e w5 ⟨rfl, hB5, hF5⟩
              have hbx2 := hb3.trans (hF5.to_below hb3.size (fun q hq h => by have := h.1; omega))
              have hBx : BldF (fun q => w.heap.size ≤ q ∧ q ≠ tb) w.heap.size acc2 w5 := by rw [hacc2, htk]; exact hB5
              clear hB5 hF5 hT3 hB3 hG3 hb3
              have hBf := hid (show BldF (fun q => w.heap.size ≤ q) w.heap.size acc2 w5 from (hBx.mono (fun q _ h => h.1)))
              have hbf := hid hbx2
              clear hBx hbx2
              go_wp2_with fail
              refine ⟨?_, by simp [intOf]; omega⟩
              repeat (first | exact ⟨⟨k + 1, acc2, rfl, by omega, hal2, hall2, hw2, hBf, hbf⟩, rfl⟩ | exact ⟨k + 1, acc2, rfl, by omega, hal2, hall2, hw2, hBf, hbf⟩ | apply Exists.intro)
            · have htk : tkW x = x.text := by unfold tkW; rw [if_neg k2, if_neg k3]
              have hal2 : acc2.length ≤ (k + 1) * 80100 := by rw [hacc2, htk]; simp only [List.length_append]; have := hbx.1; omega
              have q3 : (x.kind == 3) = false := by rw [beq_eq_false_iff_ne]; exact k3
              go_wp2_with fail
              refine (wr_any _ _ _ _ x.text w3 hB3.out hG3 (by have := hbx.1; omega)).mono ?_
              rintro e w5 ⟨rfl, hB5, hF5⟩
              have hbx2 := hb3.trans (hF5.to_below hb3.size (fun q hq h => by have := h.1; omega))
              have hBx : BldF (fun q => w.heap.size ≤ q ∧ q ≠ tb) w.heap.size acc2 w5 := by rw [hacc2, htk]; exact hB5
              clear hB5 hF5 hT3 hB3 hG3 hb3
              have hBf := hid (show BldF (fun q => w.heap.size ≤ q) w.heap.size acc2 w5 from (hBx.mono (fun q _ h => h.1)))
              have hbf := hid hbx2
              clear hBx hbx2
              go_wp2_with fail
              refine ⟨?_, by simp [intOf]; omega⟩
              repeat (first | exact ⟨⟨k + 1, acc2, rfl, by omega, hal2, hall2, hw2, hBf, hbf⟩, rfl⟩ | exact ⟨k + 1, acc2, rfl, by omega, hal2, hall2, hw2, hBf, hbf⟩ | apply Exists.intro)
    · have hks : k = l.length := by omega
      subst hks
      have q1 : decide ((l.length : Int) < (l.length : Int)) = false := by simp
      have hv := hid (show res = acc by
        rw [hres.out, ← List.append_nil acc]
        have h1 := hw.out
        have h2 := hall.out
        rw [List.drop_length] at h1
        rw [List.take_length] at h2
        unfold writeF; rw [h2, if_pos rfl, ← h1]; rfl)
      have hstr := hid (bldString w.heap.size w.heap.size acc wr hB.out.bld hbe.out.size)
      clear hw hall hlt
      go_wp2_with fail
      refine hstr.out.mono ?_
      rintro e w2 ⟨rfl, hb2⟩
      have hbf := hid (hbe.out.trans hb2)
      go_wp2_with fail
      go_ret
      exact ⟨by rw [hv.out]; rfl, hbf.out⟩
end Go.Proofs.YtlfcdfpbgjmcfaaDoor
