/- RShA: RSh1, RSh2, RSh3, RSh4, RSh5, in one text. -/
import Derived.Test.YtnbhpicmflagcaaDoorSha3
import Derived.Test.YtnbhpicmflagcaaDoorDel
import Derived.Deep.RegionHeld3
import Derived.BigQuiet
import Derived.Deep.QuietTactic
import Derived.Test.YtnbhpicmflagcaaDoorSumH
import Derived.Lib.ConvBytes
set_option linter.unusedVariables false
namespace Go.Proofs.YtnbhpicmflagcaaDoor
open Go.RowKit
open Go.Lib (hid byteCells)
/-- elements of one cell -/
def CellR {α : Type} (F : α → Value) : Rel α := fun _ _ x cs => cs = [F x]
section
variable {α : Type} {F : α → Value}
theorem goodCell (hF : ∀ x, (F x).oneCell' = true) : Good 1 (CellR F) := ⟨fun h => by rw [h]; rfl, fun h => by rw [h]; exact one1 (hF _), fun h _ => h⟩
theorem own_cells {E : TypeId} {S : Foot} {w : World} {l : List α} {v : Value} (h : w.ownsRow 0 E 1 v l.length (l.map F)) (hs : ∀ k, v.ownBlock = some k → S k) : OwnR E 1 (CellR F) S w l v := by
  refine ⟨l.map F, h, hs, fun i x hx => ⟨[F x], fun j u hu => ?_, rfl⟩⟩
  have hj : j = 0 := by
    have := (List.getElem?_eq_some_iff.1 hu).1
    simp at this; omega
  subst hj
  simp at hu
  subst hu
  simp [hx]
theorem OwnR.cells {E : TypeId} {S : Foot} {w : World} {l : List α} {v : Value} (h : OwnR E 1 (CellR F) S w l v) : w.ownsRow 0 E 1 v l.length (l.map F) ∧ ∀ k, v.ownBlock = some k → S k := by
  obtain ⟨xs, h1, h2, h3⟩ := h
  have hl : xs.length = l.length := by have := h1.1; omega
  have e : xs = l.map F := by
    apply List.ext_getElem?
    intro i
    rw [List.getElem?_map]
    rcases hx : l[i]? with _ | x
    · rw [List.getElem?_eq_none_iff] at hx
      rw [List.getElem?_eq_none (by omega)]; rfl
    · obtain ⟨cs, h4, h5⟩ := h3 i x hx
      have h5' : cs = [F x] := h5
      subst h5'
      have := h4 0 _ rfl
      rw [Nat.mul_one, Nat.add_zero] at this
      rw [this]; rfl
  subst e
  exact ⟨h1, h2⟩
theorem SlR.cells {S : Foot} {w : World} {l : List α} {v : Value} (h : SlR 1 (CellR F) S w l v) : Row w.heap.size w 1 v l.length (l.map F) := by
  obtain ⟨a, cap, b, off, cs, h1, h2, h3, h4, h5⟩ := h
  refine ⟨a, cap, b, off, h1, by simp, fun hl => ⟨(h3 hl).1, (h3 hl).2.2⟩, fun j hj => ?_⟩
  have hj2 : j < l.length := by simpa using hj
  have hc : cs j = [F l[j]] := h5 j _ (List.getElem?_eq_getElem hj2)
  have := h4 j hj2 0 _ (by rw [hc]; rfl)
  rw [Nat.mul_one, Nat.add_zero] at this
  rw [this, List.getElem_map]
theorem app_cells (hF : ∀ x, (F x).oneCell' = true) {P : Program} {E t ty : TypeId} {bytes : Nat} {i : TypeInfo} {z : Value} (ht : P.underlying t = some (.slice E)) (hi : P.info? E = some i) (hz : i.zero = some z) (hsize : i.size = 1) (hby : i.bytes = bytes) (hzs : z.cells.size = 1)
    {S : Foot} {w : World} {l m : List α} {v vs : Value} (h : OwnR E 1 (CellR F) S w l v) {B : Nat} (hr : Row B w 1 vs m.length (m.map F)) (h63 : l.length + m.length ≤ maxLen) (hbytes : (l.length + m.length) * bytes ≤ 140737488355328) (hS : ∀ k, w.heap.size ≤ k → S k) :
    ∃ v' w', AppRun P t t ty v vs v' w w' ∧ OwnR E 1 (CellR F) S w' (l ++ m) v' ∧ Fr S w w' := by
  obtain ⟨h1, h2⟩ := h.cells
  obtain ⟨v', w', hrun, hown, hg, hv⟩ := append_row w 0 t ty E i z 1 bytes ht hi hz hsize hby hzs (by decide) v l.length _ h1 B vs m.length _ hr (fun u hu => by obtain ⟨x, _, rfl⟩ := List.mem_map.1 hu; exact hF x) h63 hbytes (Nat.zero_le _)
  refine ⟨v', w', ⟨hrun⟩, own_cells (by rw [List.length_append, List.map_append]; exact hown) (fun k hk => ?_), ⟨hg.os, hg.tape, hg.output, hg.size, fun k hk hs => hg.block k hk (fun e => hs (h2 k e.symm))⟩⟩
  rcases hv with hv | hv
  · exact h2 k (hv ▸ hk)
  · rw [hv] at hk; injection hk with hk; subst hk; exact hS _ (Nat.le_refl _)
/-- a block as buildSlice makes it -/
theorem row_built {w : World} {b : Nat} {m : List α} {t : TypeId} {f : Nat × Nat} (h : w.heap[b]? = some (.cells (m.map F).toArray t f)) : Row w.heap.size w 1 (.slice (some ⟨b, 0, none⟩) m.length m.length) m.length (m.map F) := by
  refine ⟨_, _, b, 0, rfl, by simp, fun _ => ⟨rfl, lt_of_some h⟩, fun j hj => ?_⟩
  rw [Nat.zero_add]
  refine (cell_of h).trans ?_
  rw [List.getElem?_toArray]
  exact List.getElem?_eq_getElem hj
theorem own_built {w : World} {b : Nat} {m : List α} {E : TypeId} {S : Foot} (h : w.heap[b]? = some (.cells (m.map F).toArray E (0, 0))) (hl : m.length ≤ maxLen) (hS : S b) : OwnR E 1 (CellR F) S w m (.slice (some ⟨b, 0, none⟩) m.length m.length) :=
  own_cells ⟨by simp, Or.inr ⟨b, m.length, _, rfl, Nat.zero_le _, h, Nat.le_refl _, hl, by simp, by simp [List.take_of_length_le]⟩⟩ (fun k hk => by simp [Value.ownBlock] at hk; exact hk ▸ hS)
end
abbrev WdR : Rel UInt32 := CellR wv
abbrev BtR : Rel UInt8 := CellR bv
theorem goodWd : Good 1 WdR := goodCell fun _ => rfl
theorem goodBt : Good 1 BtR := goodCell fun _ => rfl
theorem infoWd : (Tryd.prog.info? 82).map (fun i => (i.zero, i.size, i.bytes)) = some (some (.int .u32 0), 1, 4) := by kernel_rfl
theorem infoBt : (Tryd.prog.info? 5).map (fun i => (i.zero, i.size, i.bytes)) = some (some (.int .u8 0), 1, 1) := by kernel_rfl
abbrev OwnW : Foot → World → List UInt32 → Value → Prop := OwnR 82 1 WdR
abbrev OwnB : Foot → World → List UInt8 → Value → Prop := OwnR 5 1 BtR
theorem from_below {B : Nat} {w w' : World} (h : Fr (from_ B) w w') (hB : B ≤ w.heap.size) : Below B w w' := h.to_below hB (fun k hk h2 => by unfold from_ at h2; omega)
/-- out = append(out, x) -/
theorem wdPush {B : Nat} {w : World} {l : List UInt32} {v : Value} (x : UInt32) (h : OwnW (from_ B) w l v) (hB : B ≤ w.heap.size) (hl : l.length ≤ 1048576) :
    ∃ v' w', AppRun Tryd.prog 89 89 89 v (.slice (some ⟨w.heap.size, 0, none⟩) 1 1) v' (w.alloc (.cells #[wv x] 82)) w' ∧ OwnW (from_ B) w' (l ++ [x]) v' ∧ Below B w w' := by
  obtain ⟨i0, hi, hz0, hz1, hz2⟩ := info_parts infoWd
  have hb : Below w.heap.size w (w.alloc (.cells #[wv x] 82)) := (Below.refl _ _).alloc (Nat.le_refl _) _
  obtain ⟨v', w', h1, h2, h3⟩ := app_cells (m := [x]) (t := 89) (ty := 89) (fun _ => rfl) (by kernel_rfl) hi hz0 hz1 hz2 rfl (h.below goodWd hb) (row_built (m := [x]) (heap_alloc_new' w (.cells #[wv x] 82))) (by unfold maxLen; simp; omega) (by simp; omega) (fun k hk => by unfold from_; simp at hk; omega)
  exact ⟨v', w', h1, h2, (hb.mono hB).trans (from_below h3 (by simp; omega))⟩
theorem btPush {B : Nat} {w : World} {l : List UInt8} {v : Value} (m : List UInt8) (h : OwnB (from_ B) w l v) (hB : B ≤ w.heap.size) (hl : l.length ≤ 2097152) (hm : m.length ≤ 2) :
    ∃ v' w', AppRun Tryd.prog 53 53 53 v (.slice (some ⟨w.heap.size, 0, none⟩) m.length m.length) v' (w.alloc (.cells (m.map bv).toArray 5)) w' ∧ OwnB (from_ B) w' (l ++ m) v' ∧ Below B w w' := by
  obtain ⟨i0, hi, hz0, hz1, hz2⟩ := info_parts infoBt
  have hb : Below w.heap.size w (w.alloc (.cells (m.map bv).toArray 5)) := (Below.refl _ _).alloc (Nat.le_refl _) _
  obtain ⟨v', w', h1, h2, h3⟩ := app_cells (m := m) (t := 53) (ty := 53) (fun _ => rfl) (by kernel_rfl) hi hz0 hz1 hz2 rfl (h.below goodBt hb) (row_built (m := m) (heap_alloc_new' w (.cells (m.map bv).toArray 5))) (by unfold maxLen; omega) (by omega) (fun k hk => by unfold from_; simp at hk; omega)
  exact ⟨v', w', h1, h2, (hb.mono hB).trans (from_below h3 (by simp; omega))⟩
/-! the words of a function -/
def rowW (n : Nat) (F : Nat → UInt32) : List UInt32 := (List.range n).map F
theorem rowW_at {n k : Nat} (F : Nat → UInt32) (h : k < n) : (rowW n F)[k]? = some (F k) := by simp [rowW, h]
theorem rowW_len (n : Nat) (F : Nat → UInt32) : (rowW n F).length = n := by simp [rowW]
theorem rowW_congr {n : Nat} {F G : Nat → UInt32} (h : ∀ k, k < n → F k = G k) : rowW n F = rowW n G := List.map_congr_left fun k hk => h k (List.mem_range.1 hk)
theorem rowW_succ (n : Nat) (F : Nat → UInt32) : rowW (n + 1) F = rowW n F ++ [F n] := by simp [rowW, List.range_succ]
theorem rowW_upd (n : Nat) (F : Nat → UInt32) (x : UInt32) : rowW (n + 1) (updW F n x) = rowW n F ++ [x] := by
  rw [rowW_succ, show updW F n x n = x by unfold updW; rw [if_pos rfl]]
  congr 1
  exact rowW_congr fun k hk => by unfold updW; rw [if_neg (by omega)]
theorem oW_comm (a b : UInt32) : oW a b = oW b a := by unfold oW; exact UInt32.or_comm a b
theorem turn_any (x : UInt32) (n : Nat) (hn : 1 ≤ n ∧ n ≤ 31) (w : World) : Calls Tryd.prog 70 #[wv x, iv n] w fun e w' => e = .returned (wv (rotW x n)) ∧ ∃ m, w' = w.drewN m := by
  have hm : (x.toNat : Int) * 2 ^ (32 - n) % 4294967296 = ((mulW x (2 ^ (32 - n))).toNat : Int) := by rw [← umul32]; push_cast; rfl
  have hd : (x.toNat : Int) / 2 ^ n = ((divW x (2 ^ n)).toNat : Int) := by rw [← udiv32]; push_cast; rfl
  have ho := uo32 (divW x (2 ^ n)) (mulW x (2 ^ (32 - n)))
  have hr : rotW x n = oW (divW x (2 ^ n)) (mulW x (2 ^ (32 - n))) := oW_comm _ _
  have hw : IntKind.i64.wrap ((32 : Int) - (n : Int)) = ((32 - n : Nat) : Int) := by rw [i64_wrap_id _ (by omega) (by omega)]; omega
  have hm' := (IntKind.wrap_u32' _).trans hm
  have s1 : min n 32 = n := by omega
  have s2 : min (32 - n) 32 = 32 - n := by omega
  have s3 : ¬ ((32 - n : Nat) : Int) < 0 := by omega
  have s4 : (0 : Int) ≤ ((32 - n : Nat) : Int) := by omega
  have s5 : (0 : Int) ≤ (n : Int) := by omega
  rw [hr]
  clear hr
  generalize divW x (2 ^ n) = d at *
  generalize mulW x (2 ^ (32 - n)) = m at *
  go_enter Tryd.func70, Tryd.ntmps70
  go_wp2_with fail
  go_quiet (fail)
  go_wp2_with fail
  go_ret
  exact ⟨rfl, _, rfl⟩
theorem adds_any (w : World) : Calls Tryd.prog 69 #[] w fun e w' => ∃ v, e = .returned v ∧ OwnW (from_ w.heap.size) w' (rowW 64 rk) v ∧ Below w.heap.size w w' := by
  go_enter Tryd.func69, Tryd.ntmps69
  go_wp2_with fail
  go_ret
  exact ⟨_, rfl, own_built (m := rowW 64 rk) (heap_alloc_new' w _) (by decide) (Nat.le_refl _), (Below.refl _ _).alloc (Nat.le_refl _) _⟩
theorem firsts_any (w : World) : Calls Tryd.prog 56 #[] w fun e w' => ∃ v, e = .returned v ∧ OwnW (from_ w.heap.size) w' (rowW 8 h0W) v ∧ Below w.heap.size w w' := by
  go_enter Tryd.func56, Tryd.ntmps56
  go_wp2_with fail
  go_ret
  exact ⟨_, rfl, own_built (m := rowW 8 h0W) (heap_alloc_new' w _) (by decide) (Nat.le_refl _), (Below.refl _ _).alloc (Nat.le_refl _) _⟩
theorem extW_succ (F : Nat → UInt32) {i : Nat} (h : 16 ≤ i) : rowW (i + 1) (extW F (i + 1 - 16)) = rowW i (extW F (i - 16)) ++ [nextW (extW F (i - 16)) i] := by
  rw [show i + 1 - 16 = (i - 16) + 1 by omega, extW, show 16 + (i - 16) = i by omega]
  exact rowW_upd _ _ _
set_option maxHeartbeats 4000000 in
set_option maxRecDepth 100000 in
theorem words_any (s : List UInt8) (S : Foot) (v : Value) (w : World) (hs : s.length = 64) (hR : SlR 1 BtR S w s v) :
    Calls Tryd.prog 68 #[v] w fun e w' => ∃ v', e = .returned v' ∧ OwnW (from_ w.heap.size) w' (rowW 64 (extW (loadK s 16) 48)) v' ∧ Below w.heap.size w w' := by
  obtain ⟨a, c, rfl, -⟩ := hR.slice
  replace hR := hid hR
  have hl64 : s.length ≤ 64 := Nat.le_of_eq hs
  have hl64' : 64 ≤ s.length := Nat.le_of_eq hs.symm
  clear hs
  go_enter Tryd.func68, Tryd.ntmps68
  go_wp2_with fail
  go_loopw [3, 4] (fun u i wr => ∃ k : Nat, i = .int .i64 k ∧ k ≤ 16 ∧ Hid (OwnW (from_ w.heap.size) wr (rowW k (loadK s 16)) u) ∧ Hid (Below w.heap.size w wr)) (fun _ i _ => 16 - (intOf i).toNat)
  case atStart => exact ⟨0, rfl, Nat.zero_le _, hid (OwnR.nil _ _ _ _ _), hid (Below.refl _ _)⟩
  case round =>
    obtain ⟨k, rfl, hk, hO, hB⟩ := hrel
    by_cases hlt : k < 16
    · have q1 : decide ((k : Int) < 16) = true := decide_eq_true (by omega)
      have q1' : decide (k < 16) = true := decide_eq_true hlt
      obtain ⟨b0, hb0⟩ : ∃ b, s[4 * k]? = some b := ⟨_, List.getElem?_eq_getElem (by omega)⟩
      obtain ⟨b1, hb1⟩ : ∃ b, s[4 * k + 1]? = some b := ⟨_, List.getElem?_eq_getElem (by omega)⟩
      obtain ⟨b2, hb2⟩ : ∃ b, s[4 * k + 2]? = some b := ⟨_, List.getElem?_eq_getElem (by omega)⟩
      obtain ⟨b3, hb3⟩ : ∃ b, s[4 * k + 3]? = some b := ⟨_, List.getElem?_eq_getElem (by omega)⟩
      have hbe : loadK s 16 k = be4 b0 b1 b2 b3 := by unfold loadK; rw [if_pos hlt]; unfold beF; simp [List.getD_eq_getElem?_getD, hb0, hb1, hb2, hb3]
      have hpush := wdPush (be4 b0 b1 b2 b3) (hO.out.below goodWd ((Below.refl wr.heap.size wr).drew)) (by have := hB.out.size; exact this) (by rw [rowW_len]; omega)
      rw [← hbe, ← rowW_succ, hbe] at hpush
      obtain ⟨v', W', hap, hO', hB'⟩ := hpush
      have hBf := hid (hB.out.drew.trans hB')
      replace hO' := hid hO'
      obtain ⟨g0, o0, cs0, hi0, -, hg0, hc0, hr0⟩ := hR.out.at (P := Tryd.prog) (t := 53) (by kernel_rfl) (fun _ => by kernel_rfl) hb0
      obtain ⟨g1, o1, cs1, hi1, -, hg1, hc1, hr1⟩ := hR.out.at (P := Tryd.prog) (t := 53) (by kernel_rfl) (fun _ => by kernel_rfl) hb1
      obtain ⟨g2, o2, cs2, hi2, -, hg2, hc2, hr2⟩ := hR.out.at (P := Tryd.prog) (t := 53) (by kernel_rfl) (fun _ => by kernel_rfl) hb2
      obtain ⟨g3, o3, cs3, hi3, -, hg3, hc3, hr3⟩ := hR.out.at (P := Tryd.prog) (t := 53) (by kernel_rfl) (fun _ => by kernel_rfl) hb3
      rw [show ((4 * k : Nat) : Int) = 4 * (k : Int) by omega] at hi0
      rw [show ((4 * k + 1 : Nat) : Int) = 4 * (k : Int) + 1 by omega] at hi1
      rw [show ((4 * k + 2 : Nat) : Int) = 4 * (k : Int) + 2 by omega] at hi2
      rw [show ((4 * k + 3 : Nat) : Int) = 4 * (k : Int) + 3 by omega] at hi3
      have z0 := hc0 0 _ (by rw [show cs0 = [bv b0] from hr0]; rfl)
      have z1 := hc1 0 _ (by rw [show cs1 = [bv b1] from hr1]; rfl)
      have z2 := hc2 0 _ (by rw [show cs2 = [bv b2] from hr2]; rfl)
      have z3 := hc3 0 _ (by rw [show cs3 = [bv b3] from hr3]; rfl)
      rw [Nat.add_zero] at z0 z1 z2 z3
      have c0 := (hB.out.drew.cell (p := ⟨g0, o0, none⟩) hg0).trans z0
      have c1 := (hB.out.drew.cell (p := ⟨g1, o1, none⟩) hg1).trans z1
      have c2 := (hB.out.drew.cell (p := ⟨g2, o2, none⟩) hg2).trans z2
      have c3 := (hB.out.drew.cell (p := ⟨g3, o3, none⟩) hg3).trans z3
      have k0 := (hBf.out.cell (p := ⟨g0, o0, none⟩) hg0).trans z0
      have k1 := (hBf.out.cell (p := ⟨g1, o1, none⟩) hg1).trans z1
      have k2 := (hBf.out.cell (p := ⟨g2, o2, none⟩) hg2).trans z2
      have k3 := (hBf.out.cell (p := ⟨g3, o3, none⟩) hg3).trans z3
      have jB := hid (fun X => (hB.out.alloc hB.out.size X).drew)
      clear hb0 hb1 hb2 hb3 hc0 hc1 hc2 hc3 hr0 hr1 hr2 hr3
      have be : be4 b0 b1 b2 b3 = oW (oW (oW (mulW (byteW b0) 16777216) (mulW (byteW b1) 65536)) (mulW (byteW b2) 256)) (byteW b3) := rfl
      have eb0 : (b0.toNat : Int) % 4294967296 = ((byteW b0).toNat : Int) := by rw [← ubyte32]; have := b0.toNat_lt; omega
      have eb1 : (b1.toNat : Int) % 4294967296 = ((byteW b1).toNat : Int) := by rw [← ubyte32]; have := b1.toNat_lt; omega
      have eb2 : (b2.toNat : Int) % 4294967296 = ((byteW b2).toNat : Int) := by rw [← ubyte32]; have := b2.toNat_lt; omega
      have eb3 : (b3.toNat : Int) % 4294967296 = ((byteW b3).toNat : Int) := by rw [← ubyte32]; have := b3.toNat_lt; omega
      have m0 : ((byteW b0).toNat : Int) * 16777216 % 4294967296 = ((mulW (byteW b0) 16777216).toNat : Int) := umul32 _ _
      have m1 : ((byteW b1).toNat : Int) * 65536 % 4294967296 = ((mulW (byteW b1) 65536).toNat : Int) := umul32 _ _
      have m2 : ((byteW b2).toNat : Int) * 256 % 4294967296 = ((mulW (byteW b2) 256).toNat : Int) := umul32 _ _
      rw [be] at hap
      clear be hbe
      generalize byteW b0 = d0 at *
      generalize byteW b1 = d1 at *
      generalize byteW b2 = d2 at *
      generalize byteW b3 = d3 at *
      generalize mulW d0 16777216 = f0 at *
      generalize mulW d1 65536 = f1 at *
      generalize mulW d2 256 = f2 at *
      have eb0' := (IntKind.wrap_u32' (b0.toNat : Int)).trans eb0
      have eb1' := (IntKind.wrap_u32' (b1.toNat : Int)).trans eb1
      have eb2' := (IntKind.wrap_u32' (b2.toNat : Int)).trans eb2
      have eb3' := (IntKind.wrap_u32' (b3.toNat : Int)).trans eb3
      have m0' := (IntKind.wrap_u32' _).trans m0
      have m1' := (IntKind.wrap_u32' _).trans m1
      have m2' := (IntKind.wrap_u32' _).trans m2
      clear eb0 eb1 eb2 eb3 m0 m1 m2
      have p1 := uo32 f0 f1
      have p2 := uo32 (oW f0 f1) f2
      have p3 := uo32 (oW (oW f0 f1) f2) d3
      have e0 : IntKind.i64.wrap (4 * (k : Int)) = 4 * (k : Int) := i64_wrap_id _ (by omega) (by omega)
      have e1 : IntKind.i64.wrap (4 * (k : Int) + 1) = 4 * (k : Int) + 1 := i64_wrap_id _ (by omega) (by omega)
      have e2 : IntKind.i64.wrap (4 * (k : Int) + 2) = 4 * (k : Int) + 2 := i64_wrap_id _ (by omega) (by omega)
      have e3 : IntKind.i64.wrap (4 * (k : Int) + 3) = 4 * (k : Int) + 3 := i64_wrap_id _ (by omega) (by omega)
      have j0 := (((jB.out (.cells #[wv (oW (oW (oW f0 f1) f2) d3)] 82)).cell (p := ⟨g0, o0, none⟩) hg0).trans z0)
      have j1 := (((jB.out (.cells #[wv (oW (oW (oW f0 f1) f2) d3)] 82)).cell (p := ⟨g1, o1, none⟩) hg1).trans z1)
      have j2 := (((jB.out (.cells #[wv (oW (oW (oW f0 f1) f2) d3)] 82)).cell (p := ⟨g2, o2, none⟩) hg2).trans z2)
      have j3 := (((jB.out (.cells #[wv (oW (oW (oW f0 f1) f2) d3)] 82)).cell (p := ⟨g3, o3, none⟩) hg3).trans z3)
      clear z0 z1 z2 z3 hg0 hg1 hg2 hg3 jB
      go_wp2_with fail
      go_region_held3 (fun w' => w'.cell? ⟨g0, o0, none⟩ = some (bv b0) ∧ w'.cell? ⟨g1, o1, none⟩ = some (bv b1) ∧ w'.cell? ⟨g2, o2, none⟩ = some (bv b2) ∧ w'.cell? ⟨g3, o3, none⟩ = some (bv b3)) (first | with_reducible exact ⟨c0, c1, c2, c3⟩ | exact ⟨j0, j1, j2, j3⟩ | with_reducible exact ⟨k0, k1, k2, k3⟩ | go_keep) (first | (refine step_append_shut (by rfl) (.tmp 14) (.tmp 48) (by rfl) (by rfl) (by rfl) hap ?_))
      go_wp2_with fail
      exact ⟨⟨k + 1, by go_num, by omega, hO', hBf⟩, by simp [intOf]; omega⟩
    · have hk16 : k = 16 := by omega
      subst hk16
      clear hk hlt hR hl64 hl64'
      go_wp2_with fail
      go_loopw [3, 5] (fun u iv5 wr => ∃ i : Nat, iv5 = .int .i64 i ∧ 16 ≤ i ∧ i ≤ 64 ∧ Hid (OwnW (from_ w.heap.size) wr (rowW i (extW (loadK s 16) (i - 16))) u) ∧ Hid (Below w.heap.size w wr)) (fun _ i _ => 64 - (intOf i).toNat)
      case atStart => exact ⟨16, rfl, Nat.le_refl _, by decide, hO, hB⟩
      case round =>
        clear hO hB
        obtain ⟨i, rfl, hi16, hi64, hO, hB⟩ := hrel
        by_cases hlt : i < 64
        · have q1 : decide ((i : Int) < 64) = true := decide_eq_true (by omega)
          have q1' : decide (i < 64) = true := decide_eq_true hlt
          have hnx := extW_succ (loadK s 16) hi16
          generalize extW (loadK s 16) (i - 16) = F at *
          obtain ⟨au, cu, rfl, -, -⟩ := hO.out.slice
          obtain ⟨j16, hj16⟩ : ∃ j, j = i - 16 := ⟨_, rfl⟩
          obtain ⟨j15, hj15⟩ : ∃ j, j = i - 15 := ⟨_, rfl⟩
          obtain ⟨j7, hj7⟩ : ∃ j, j = i - 7 := ⟨_, rfl⟩
          obtain ⟨j2, hj2⟩ : ∃ j, j = i - 2 := ⟨_, rfl⟩
          have e16 : IntKind.i64.wrap ((i : Int) - 16) = (j16 : Int) := by rw [i64_wrap_id _ (by omega) (by omega)]; omega
          have e15 : IntKind.i64.wrap ((i : Int) - 15) = (j15 : Int) := by rw [i64_wrap_id _ (by omega) (by omega)]; omega
          have e7 : IntKind.i64.wrap ((i : Int) - 7) = (j7 : Int) := by rw [i64_wrap_id _ (by omega) (by omega)]; omega
          have e2 : IntKind.i64.wrap ((i : Int) - 2) = (j2 : Int) := by rw [i64_wrap_id _ (by omega) (by omega)]; omega
          have hSl := hid (OwnR.sl goodWd hO.out)
          rw [rowW_len] at hO hSl ⊢
          obtain ⟨g16, o16, cs16, hi16', -, hg16, hc16, hr16⟩ := hSl.out.at (P := Tryd.prog) (t := 89) (by kernel_rfl) (fun _ => by kernel_rfl) (rowW_at F (show j16 < i by omega))
          obtain ⟨g15, o15, cs15, hi15', -, hg15, hc15, hr15⟩ := hSl.out.at (P := Tryd.prog) (t := 89) (by kernel_rfl) (fun _ => by kernel_rfl) (rowW_at F (show j15 < i by omega))
          obtain ⟨g7, o7, cs7, hi7', -, hg7, hc7, hr7⟩ := hSl.out.at (P := Tryd.prog) (t := 89) (by kernel_rfl) (fun _ => by kernel_rfl) (rowW_at F (show j7 < i by omega))
          obtain ⟨g2, o2, cs2, hi2', -, hg2, hc2, hr2⟩ := hSl.out.at (P := Tryd.prog) (t := 89) (by kernel_rfl) (fun _ => by kernel_rfl) (rowW_at F (show j2 < i by omega))
          have z16 := hc16 0 _ (by rw [show cs16 = [wv (F j16)] from hr16]; rfl)
          have c15 := hc15 0 _ (by rw [show cs15 = [wv (F j15)] from hr15]; rfl)
          have z7 := hc7 0 _ (by rw [show cs7 = [wv (F j7)] from hr7]; rfl)
          have c2 := hc2 0 _ (by rw [show cs2 = [wv (F j2)] from hr2]; rfl)
          rw [Nat.add_zero] at z16 c15 z7 c2
          have hn2 : nextW F i = addW (addW (addW (F j16) (sg0 (F j15))) (F j7)) (sg1 (F j2)) := by
            unfold nextW; rw [← hj16, ← hj15, ← hj7, ← hj2]
          rw [hn2] at hnx
          replace hnx := hid hnx
          clear hc16 hc15 hc7 hc2 hr16 hr15 hr7 hr2 hj16 hj15 hj7 hj2 hn2 hSl
          generalize F j15 = x at *
          generalize F j2 = y at *
          generalize hfa : F j16 = p at *
          generalize hfb : F j7 = q at *
          clear hfa hfb
          have hr7 := hid (fun W => turn_any x 7 (by decide) W)
          have hr18 := hid (fun W => turn_any x 18 (by decide) W)
          have hr17 := hid (fun W => turn_any y 17 (by decide) W)
          have hr19 := hid (fun W => turn_any y 19 (by decide) W)
          have s0 : sg0 x = xW (xW (rotW x 7) (rotW x 18)) (divW x 8) := rfl
          have s1 : sg1 y = xW (xW (rotW y 17) (rotW y 19)) (divW y 1024) := rfl
          have x1 := ux32 (rotW x 7) (rotW x 18)
          have dv : (x.toNat : Int) / 8 = ((divW x 8).toNat : Int) := udiv32 x 8
          have x2 := ux32 (xW (rotW x 7) (rotW x 18)) (divW x 8)
          have y1 := ux32 (rotW y 17) (rotW y 19)
          have dy : (y.toNat : Int) / 1024 = ((divW y 1024).toNat : Int) := udiv32 y 1024
          have y2 := ux32 (xW (rotW y 17) (rotW y 19)) (divW y 1024)
          rw [← s0] at x2
          rw [← s1] at y2
          clear s0 s1
          generalize sg0 x = S0 at *
          generalize sg1 y = S1 at *
          generalize rotW x 7 = r7 at *
          generalize rotW x 18 = r18 at *
          generalize rotW y 17 = r17 at *
          generalize rotW y 19 = r19 at *
          generalize divW x 8 = dx8 at *
          generalize divW y 1024 = dy10 at *
          generalize xW r7 r18 = p7 at *
          generalize xW r17 r19 = p17 at *
          have hz := hid (show Below wr.heap.size wr wr from Below.refl _ _)
          go_wp2_with fail
          refine (hr7.out _).mono ?_
          rintro e w1 ⟨rfl, m1, hw⟩
          have hb1 : Below wr.heap.size wr w1 := by rw [hw]; exact below_drewM hz.out m1
          clear hw
          go_wp2_with fail
          refine (hr18.out _).mono ?_
          rintro e w2 ⟨rfl, m2, hw⟩
          have hb2 : Below wr.heap.size wr w2 := by rw [hw]; exact below_drewM hb1 m2
          clear hw hb1
          have c2 := (hb2.cell (p := ⟨g2, o2, none⟩) hg2).trans c2
          go_wp2_with fail
          refine (hr17.out _).mono ?_
          rintro e w3 ⟨rfl, m3, hw⟩
          have hb3 : Below wr.heap.size wr w3 := by rw [hw]; exact below_drewM hb2 m3
          clear hw hb2
          go_wp2_with fail
          refine (hr19.out _).mono ?_
          rintro e wq ⟨rfl, m4, hw⟩
          have hbw : Below wr.heap.size wr wq := by rw [hw]; exact below_drewM hb3 m4
          clear hw hb3
          clear hr7 hr18 hr17 hr19 x1 x2 dv e15 e2 c15 c2 hz
          have hbq := hid (fun X => (hbw.alloc hbw.size X).drew)
          have hpush := wdPush (addW (addW (addW p S0) q) S1) (hO.out.below goodWd hbw.drew) (Nat.le_trans hB.out.size hbw.size) (by rw [rowW_len]; omega)
          rw [← hnx.out] at hpush
          obtain ⟨v', W', hap, hO', hB'⟩ := hpush
          have hBf := hid ((hB.out.trans (hbw.mono hB.out.size)).drew.trans hB')
          replace hO' := hid hO'
          have c16 : wq.drew.cell? ⟨g16, o16, none⟩ = some (wv p) := (hbw.cell (p := ⟨g16, o16, none⟩) hg16).trans z16
          have c7 : wq.drew.cell? ⟨g7, o7, none⟩ = some (wv q) := (hbw.cell (p := ⟨g7, o7, none⟩) hg7).trans z7
          have a1 := (IntKind.wrap_u32' _).trans (uadd32 p S0)
          have a2 := (IntKind.wrap_u32' _).trans (uadd32 (addW p S0) q)
          have a3 := (IntKind.wrap_u32' _).trans (uadd32 (addW (addW p S0) q) S1)
          clear hnx hB' hbq hO z16 z7 hg16 hg15 hg7 hg2
          generalize addW p S0 = A1 at *
          generalize addW A1 q = A2 at *
          generalize addW A2 S1 = A3 at *
          go_wp2_with fail
          go_region_law (refine step_append_shut (by rfl) (.tmp 80) (.tmp 96) (by rfl) (by rfl) (by rfl) hap ?_)
          all_goals go_wp2_with fail
          all_goals
            refine ⟨?_, by simp [intOf]; omega⟩
            repeat (first | exact ⟨⟨i + 1, rfl, by omega, by omega, hO', hBf⟩, rfl⟩ | apply Exists.intro)
        · have hi : i = 64 := by omega
          subst hi
          go_wp2_with fail
          go_ret
          exact ⟨_, rfl, hO.out, hB.out⟩
end Go.Proofs.YtnbhpicmflagcaaDoor
namespace Go.Proofs.YtnbhpicmflagcaaDoor
open Go.RowKit
open Go.Lib (hid byteCells)
theorem OwnR.form {α : Type} {F : α → Value} {E : TypeId} {S : Foot} {w : World} {l : List α} {v : Value} (h : OwnR E 1 (CellR F) S w l v) (hl : 0 < l.length) :
    ∃ g cap, v = .slice (some ⟨g, 0, none⟩) l.length cap ∧ S g ∧ g < w.heap.size ∧ (∀ i x, l[i]? = some x → w.cell? ⟨g, i, none⟩ = some (F x)) ∧ ∀ i, w.frozen? ⟨g, i, none⟩ = false := by
  obtain ⟨h1, h2⟩ := h.cells
  obtain ⟨hlen, h3⟩ := h1
  rcases h3 with ⟨-, h0⟩ | ⟨g, cap, cur, rfl, -, hg, hn, hm, hs, ht⟩
  · omega
  · refine ⟨g, cap, rfl, h2 g rfl, lt_of_some hg, fun i x hx => (cell_of hg).trans ?_, fun i => free_of hg⟩
    have hi := (List.getElem?_eq_some_iff.1 hx).1
    have e : (l.map F)[i]? = some (F x) := by rw [List.getElem?_map, hx]; rfl
    rw [← ht, List.getElem?_take_of_lt (by omega)] at e
    rw [← Array.getElem?_toList]; exact e
theorem rowW_set (n : Nat) (G : Nat → UInt32) (i : Nat) (x : UInt32) : (rowW n G).set i x = rowW n (updW G i x) := by
  apply List.ext_getElem?
  intro j
  rw [List.getElem?_set]
  unfold rowW updW
  by_cases h : i = j
  · subst h
    by_cases h2 : i < n
    · simp [h2]
    · simp [h2]
  · rw [if_neg h]
    simp only [List.getElem?_map]
    rcases hj : (List.range n)[j]? with _ | y
    · rfl
    · have e := (List.getElem?_eq_some_iff.1 hj).2
      simp at e
      subst e
      simp; intro e; exact absurd e.symm h
theorem OwnR.set1 {α : Type} {F : α → Value} (hF : ∀ x, (F x).oneCell' = true) {E : TypeId} {S : Foot} {w : World} {l : List α} {g n cap i : Nat} (h : OwnR E 1 (CellR F) S w l (.slice (some ⟨g, 0, none⟩) n cap)) (hi : i < l.length) (x : α) : OwnR E 1 (CellR F) S (w.setCell ⟨g, i, none⟩ (F x)) (l.set i x) (.slice (some ⟨g, 0, none⟩) n cap) := by
  have := OwnR.set (goodCell hF) h hi (x := x) (cs := [F x]) rfl
  rw [Nat.mul_one] at this
  exact this
theorem wdCopy {B : Nat} {w : World} {l : List UInt32} {v : Value} {S : Foot} (h : SlR 1 WdR S w l v) (hB : B ≤ w.heap.size) (hl : l.length ≤ 1048576) :
    ∃ v' w', AppRun Tryd.prog 89 89 89 (.slice (some ⟨w.heap.size, 0, none⟩) 0 0) v v' (w.alloc (.cells #[] 82)) w' ∧ OwnW (from_ B) w' l v' ∧ Below B w w' := by
  obtain ⟨i0, hi, hz0, hz1, hz2⟩ := info_parts infoWd
  have hb : Below w.heap.size w (w.alloc (.cells #[] 82)) := (Below.refl _ _).alloc (Nat.le_refl _) _
  obtain ⟨v', w', h1, h2, h3⟩ := app_cells (m := l) (t := 89) (ty := 89) (F := wv) (fun _ => rfl) (by kernel_rfl) hi hz0 hz1 hz2 rfl (own_built (S := from_ B) (m := []) (F := wv) (heap_alloc_new' w (.cells #[] 82)) (by decide) hB) (SlR.cells (h.below goodWd hb)) (by unfold maxLen; simp; omega) (by simp; omega) (fun k hk => by unfold from_; simp at hk; omega)
  exact ⟨v', w', h1, h2, (hb.mono hB).trans (from_below h3 (by simp; omega))⟩
theorem v8row (h : Nat → UInt32) : rowW 8 (v8of h).at = rowW 8 h := by
  refine rowW_congr fun k hk => ?_
  match k, hk with
  | 0, _ => rfl
  | 1, _ => rfl
  | 2, _ => rfl
  | 3, _ => rfl
  | 4, _ => rfl
  | 5, _ => rfl
  | 6, _ => rfl
  | 7, _ => rfl
  | n + 8, h => exact absurd h (by omega)
theorem addW_comm (a b : UInt32) : addW a b = addW b a := by unfold addW; exact UInt32.add_comm a b
/-- the state, the first i words summed up -/
def addR (h : Nat → UInt32) (v : V8) (k : Nat) : Nat → UInt32 := fun j => if j < k then addW (v.at j) (h j) else v.at j
theorem addR_succ (h : Nat → UInt32) (v : V8) (k : Nat) : updW (addR h v k) k (addW (v.at k) (h k)) = addR h v (k + 1) := by
  funext j
  unfold updW addR
  by_cases e : j = k
  · subst e; rw [if_pos rfl, if_pos (by omega)]
  · rw [if_neg e]
    by_cases h2 : j < k
    · rw [if_pos h2, if_pos (by omega)]
    · rw [if_neg h2, if_neg (by omega)]
theorem addR_at (h : Nat → UInt32) (v : V8) (k : Nat) : addR h v k k = v.at k := by unfold addR; rw [if_neg (by omega)]
theorem addR_zero (h : Nat → UInt32) (v : V8) : addR h v 0 = v.at := by funext j; unfold addR; rw [if_neg (by omega)]
theorem addR_end (h : Nat → UInt32) (v : V8) : rowW 8 (addR h v 8) = rowW 8 (addK h v 8) := rowW_congr fun k hk => by unfold addR addK; rw [if_pos hk, if_pos hk, addW_comm]
set_option maxHeartbeats 1000000 in
set_option maxRecDepth 100000 in
theorem block_any (hf : Nat → UInt32) (s : List UInt8) (S T : Foot) (vh v : Value) (w : World) (hs : s.length = 64) (hH : SlR 1 WdR S w (rowW 8 hf) vh) (hR : SlR 1 BtR T w s v) :
    Calls Tryd.prog 57 #[vh, v] w fun e w' => ∃ v', e = .returned v' ∧ OwnW (from_ w.heap.size) w' (rowW 8 (compF hf s)) v' ∧ Below w.heap.size w w' := by
  have hwd := hid (words_any s T v w hs hR)
  obtain ⟨ah, ch, rfl, -⟩ := hH.slice
  obtain ⟨a, c, rfl, -⟩ := hR.slice
  rw [rowW_len] at hH ⊢
  replace hH := hid hH
  clear hR hs
  obtain ⟨F, hF⟩ : ∃ F, F = extW (loadK s 16) 48 := ⟨_, rfl⟩
  have hres : compF hf s = addK hf (rnd (v8of hf) F 64) 8 := by rw [hF]; rfl
  rw [hres]
  rw [← hF] at hwd
  clear hres hF
  obtain ⟨R, hR⟩ : ∃ R, R = rowW 8 (addK hf (rnd (v8of hf) F 64) 8) := ⟨_, rfl⟩
  rw [← hR]
  replace hR := hid hR
  go_enter Tryd.func57, Tryd.ntmps57
  go_wp2_with fail
  refine hwd.out.mono ?_
  rintro e w1 ⟨vw, rfl, hW, hb1⟩
  clear hwd
  have hWf := hid ((OwnR.sl goodWd hW).mono goodWd (T := fun q => q < w1.heap.size) fun q hq _ => hq)
  clear hW
  obtain ⟨aw, cw, rfl, -⟩ := hWf.out.slice
  rw [rowW_len] at hWf ⊢
  go_wp2_with fail
  refine (adds_any w1).mono ?_
  rintro e w2 ⟨vk, rfl, hK, hb2⟩
  have hKf := hid ((OwnR.sl goodWd hK).mono goodWd (T := fun q => q < w2.heap.size) fun q hq _ => hq)
  clear hK
  obtain ⟨ak, ck, rfl, -⟩ := hKf.out.slice
  rw [rowW_len] at hKf ⊢
  have hb12 : Below w.heap.size w w2 := hb1.trans (hb2.mono hb1.size)
  obtain ⟨v0, W0, hap, hO, hB0⟩ := wdCopy (B := w2.heap.size) (hH.out.below goodWd hb12) (Nat.le_refl _) (by rw [rowW_len]; decide)
  rw [← v8row] at hO
  replace hO := hid hO
  obtain ⟨n2, hn2⟩ : ∃ n, n = w2.heap.size := ⟨_, rfl⟩
  have hle2 : w.heap.size ≤ n2 := by rw [hn2]; exact hb12.size
  have hle1 : w1.heap.size ≤ n2 := by rw [hn2]; exact hb2.size
  have hWw := hid (((hWf.out.below goodWd hb2).below goodWd hB0).mono goodWd (T := fun q => q < n2) fun q _ hq => Nat.lt_of_lt_of_le hq hle1)
  have hKw := hid ((hKf.out.below goodWd hB0).mono goodWd (T := fun q => q < n2) fun q _ hq => by rw [hn2]; exact hq)
  have hHw := hid (((hH.out.mono goodWd (T := fun q => q < n2) (fun q hq _ => Nat.lt_of_lt_of_le hq hle2)).below goodWd hb12).below goodWd hB0)
  have hbel := hid (hb12.trans (hB0.mono hb12.size))
  obtain ⟨g0, cap0, rfl, -, -, -, -⟩ := hO.out.form (by rw [rowW_len]; decide)
  rw [rowW_len] at hap hO
  have hszW := hB0.size
  rw [← hn2] at hO hszW
  clear hB0 hb12 hH hWf hKf hb1 hb2 hle1
  replace hn2 := hid hn2
  have hM : Hid (SlR 1 WdR (fun q => q < n2) W0 (rowW 64 F) (.slice aw 64 cw) ∧ SlR 1 WdR (fun q => q < n2) W0 (rowW 64 rk) (.slice ak 64 ck) ∧ SlR 1 WdR (fun q => q < n2) W0 (rowW 8 hf) (.slice ah 8 ch) ∧ Below w.heap.size w W0 ∧ n2 ≤ W0.heap.size) := hid ⟨hWw.out, hKw.out, hHw.out, hbel.out, hszW⟩
  clear hWw hKw hHw hbel hszW
  go_wp2_with (first | (at_builtin; refine wpList_append_shut rfl (.tmp 18) (.tmp 19) rfl rfl rfl hap ?_))
  go_loopw [7, 8] (fun u iv8 wr => ∃ (k g cap : Nat) (x : V8), iv8 = .int .i64 k ∧ u = .slice (some ⟨g, 0, none⟩) 8 cap ∧ k ≤ 64 ∧ Hid (x = rnd (v8of hf) F k) ∧ Hid (OwnW (from_ n2) wr (rowW 8 x.at) (.slice (some ⟨g, 0, none⟩) 8 cap)) ∧ Hid (SlR 1 WdR (fun q => q < n2) wr (rowW 64 F) (.slice aw 64 cw) ∧ SlR 1 WdR (fun q => q < n2) wr (rowW 64 rk) (.slice ak 64 ck) ∧ SlR 1 WdR (fun q => q < n2) wr (rowW 8 hf) (.slice ah 8 ch) ∧ Below w.heap.size w wr ∧ n2 ≤ wr.heap.size)) (fun _ i _ => 64 - (intOf i).toNat)
  case atStart => exact ⟨0, g0, cap0, v8of hf, rfl, rfl, Nat.zero_le _, hid rfl, hO, hM⟩
  case round =>
    clear hO hM hap
    obtain ⟨k, g, cap, x, rfl, rfl, hk, hx, hO, hM⟩ := hrel
    by_cases hlt : k < 64
    · have q1 : decide ((k : Int) < 64) = true := decide_eq_true (by omega)
      have q1' : decide (k < 64) = true := decide_eq_true hlt
      obtain ⟨g', cap', he, hgS, hgl, hcell, hfz⟩ := hO.out.form (by rw [rowW_len]; decide)
      simp only [Value.slice.injEq, Option.some.injEq, Addr.mk.injEq, true_and] at he
      obtain ⟨⟨rfl, -⟩, -, rfl⟩ := he
      have hcell2 : ∀ j, j < 8 → wr.cell? ⟨g, j, none⟩ = some (wv (x.at j)) := fun j hj => hcell j _ (rowW_at _ hj)
      have c0 : wr.cell? ⟨g, 0, none⟩ = some (wv x.a) := hcell2 0 (by decide)
      have c1 : wr.cell? ⟨g, 1, none⟩ = some (wv x.b) := hcell2 1 (by decide)
      have c2 : wr.cell? ⟨g, 2, none⟩ = some (wv x.c) := hcell2 2 (by decide)
      have c3 : wr.cell? ⟨g, 3, none⟩ = some (wv x.d) := hcell2 3 (by decide)
      have c4 : wr.cell? ⟨g, 4, none⟩ = some (wv x.e) := hcell2 4 (by decide)
      have c5 : wr.cell? ⟨g, 5, none⟩ = some (wv x.f) := hcell2 5 (by decide)
      have c6 : wr.cell? ⟨g, 6, none⟩ = some (wv x.g) := hcell2 6 (by decide)
      have c7 : wr.cell? ⟨g, 7, none⟩ = some (wv x.h) := hcell2 7 (by decide)
      obtain ⟨gw, ow, csw, hiw, -, hgw, hcw, hrw⟩ := hM.out.1.at (P := Tryd.prog) (t := 89) (by kernel_rfl) (fun _ => by kernel_rfl) (rowW_at F hlt)
      obtain ⟨gk, ok, csk, hik, -, hgk, hck, hrk⟩ := hM.out.2.1.at (P := Tryd.prog) (t := 89) (by kernel_rfl) (fun _ => by kernel_rfl) (rowW_at rk hlt)
      have cw' := hcw 0 _ (by rw [show csw = [wv (F k)] from hrw]; rfl)
      have ck' := hck 0 _ (by rw [show csk = [wv (rk k)] from hrk]; rfl)
      rw [Nat.add_zero] at cw' ck'
      have hcs := hid (fun (W : World) (hb : Below wr.heap.size wr W) => (⟨(hb.cell (p := ⟨g, 0, none⟩) hgl).trans c0, (hb.cell (p := ⟨g, 1, none⟩) hgl).trans c1, (hb.cell (p := ⟨g, 2, none⟩) hgl).trans c2, (hb.cell (p := ⟨g, 3, none⟩) hgl).trans c3, (hb.cell (p := ⟨g, 4, none⟩) hgl).trans c4, (hb.cell (p := ⟨g, 5, none⟩) hgl).trans c5, (hb.cell (p := ⟨g, 6, none⟩) hgl).trans c6, (hb.cell (p := ⟨g, 7, none⟩) hgl).trans c7, (hb.cell (p := ⟨gw, ow, none⟩) hgw).trans cw', (hb.cell (p := ⟨gk, ok, none⟩) hgk).trans ck'⟩ :
        W.cell? ⟨g, 0, none⟩ = some (wv x.a) ∧ W.cell? ⟨g, 1, none⟩ = some (wv x.b) ∧ W.cell? ⟨g, 2, none⟩ = some (wv x.c) ∧ W.cell? ⟨g, 3, none⟩ = some (wv x.d) ∧ W.cell? ⟨g, 4, none⟩ = some (wv x.e) ∧ W.cell? ⟨g, 5, none⟩ = some (wv x.f) ∧ W.cell? ⟨g, 6, none⟩ = some (wv x.g) ∧ W.cell? ⟨g, 7, none⟩ = some (wv x.h) ∧ W.cell? ⟨gw, ow, none⟩ = some (wv (F k)) ∧ W.cell? ⟨gk, ok, none⟩ = some (wv (rk k))))
      have hr6 : Hid (∀ W, Calls Tryd.prog 70 #[wv x.e, .int .i64 6] W fun e w' => e = .returned (wv (rotW x.e 6)) ∧ ∃ m, w' = W.drewN m) := hid (fun W => turn_any x.e 6 (by decide) W)
      have hr11 : Hid (∀ W, Calls Tryd.prog 70 #[wv x.e, .int .i64 11] W fun e w' => e = .returned (wv (rotW x.e 11)) ∧ ∃ m, w' = W.drewN m) := hid (fun W => turn_any x.e 11 (by decide) W)
      have hr25 : Hid (∀ W, Calls Tryd.prog 70 #[wv x.e, .int .i64 25] W fun e w' => e = .returned (wv (rotW x.e 25)) ∧ ∃ m, w' = W.drewN m) := hid (fun W => turn_any x.e 25 (by decide) W)
      have hr2 : Hid (∀ W, Calls Tryd.prog 70 #[wv x.a, .int .i64 2] W fun e w' => e = .returned (wv (rotW x.a 2)) ∧ ∃ m, w' = W.drewN m) := hid (fun W => turn_any x.a 2 (by decide) W)
      have hr13 : Hid (∀ W, Calls Tryd.prog 70 #[wv x.a, .int .i64 13] W fun e w' => e = .returned (wv (rotW x.a 13)) ∧ ∃ m, w' = W.drewN m) := hid (fun W => turn_any x.a 13 (by decide) W)
      have hr22 : Hid (∀ W, Calls Tryd.prog 70 #[wv x.a, .int .i64 22] W fun e w' => e = .returned (wv (rotW x.a 22)) ∧ ∃ m, w' = W.drewN m) := hid (fun W => turn_any x.a 22 (by decide) W)
      have hz := hid (Below.refl wr.heap.size wr)
      have hgl' := hid hgl
      have hgS' := hid hgS
      clear hcell hfz hcell2 hcw hck hrw hrk cw' ck' hgw hgk hgl hgS
      have x1 := ux32 (rotW x.e 6) (rotW x.e 11)
      have x2 := ux32 (xW (rotW x.e 6) (rotW x.e 11)) (rotW x.e 25)
      go_wp2_with fail
      go_quiet (first | (go_at_call 70; first | with_reducible refine Calls.quiet_of (hr6.out _) | with_reducible refine Calls.quiet_of (hr11.out _) | with_reducible refine Calls.quiet_of (hr25.out _)))
      have hb1 := below_drewM hz.out nq
      generalize wr.drewN nq = wq at *
      clear c0 c1 c2 c3 c4 c5 c6 c7 hr6 hr11 hr25 x1 x2
      obtain ⟨c0, c1, c2, c3, c4, c5, c6, c7, cw', ck'⟩ := hcs.out wq hb1
      have s1d : S1 x.e = xW (xW (rotW x.e 6) (rotW x.e 11)) (rotW x.e 25) := rfl
      rw [← s1d]
      clear s1d
      generalize hS1 : S1 x.e = s1 at *
      have y1 := ua32 x.e x.f
      have y2 := un32 x.e
      have y2' : bits BinOp.xor IntKind.u32 (if IntKind.u32.signed = true then -1 else IntKind.u32.max) (x.e.toNat : Int) = ((nW x.e).toNat : Int) := un32 x.e
      have y3 := ua32 (nW x.e) x.g
      have y4 := ux32 (aW x.e x.f) (aW (nW x.e) x.g)
      go_wp2_with fail
      go_quiet (fail)
      have hb2 := below_drewM hb1 nq
      generalize wq.drewN nq = wr2 at *
      clear c0 c1 c2 c3 c4 c5 c6 c7 cw' ck' y1 y2 y2' y3 y4 hb1
      obtain ⟨c0, c1, c2, c3, c4, c5, c6, c7, cw', ck'⟩ := hcs.out wr2 hb2
      have chd : chW x.e x.f x.g = xW (aW x.e x.f) (aW (nW x.e) x.g) := rfl
      rw [← chd]
      clear chd
      generalize hch : chW x.e x.f x.g = ch1 at *
      have a1 := (IntKind.wrap_u32' _).trans (uadd32 x.h s1)
      have a2 := (IntKind.wrap_u32' _).trans (uadd32 (addW x.h s1) ch1)
      have a3 := (IntKind.wrap_u32' _).trans (uadd32 (addW (addW x.h s1) ch1) (rk k))
      have a4 := (IntKind.wrap_u32' _).trans (uadd32 (addW (addW (addW x.h s1) ch1) (rk k)) (F k))
      go_wp2_with fail
      go_quiet (fail)
      have hb1 := below_drewM hb2 nq
      generalize wr2.drewN nq = wq at *
      clear c0 c1 c2 c3 c4 c5 c6 c7 cw' ck' a1 a2 a3 a4 hb2
      obtain ⟨c0, c1, c2, c3, c4, c5, c6, c7, cw', ck'⟩ := hcs.out wq hb1
      have t1d : t1W x (rk k) (F k) = addW (addW (addW (addW x.h s1) ch1) (rk k)) (F k) := by rw [← hS1, ← hch]; rfl
      rw [← t1d]
      clear t1d
      generalize hT : t1W x (rk k) (F k) = T1 at *
      have x1 := ux32 (rotW x.a 2) (rotW x.a 13)
      have x2 := ux32 (xW (rotW x.a 2) (rotW x.a 13)) (rotW x.a 22)
      go_wp2_with fail
      go_quiet (first | (go_at_call 70; first | with_reducible refine Calls.quiet_of (hr2.out _) | with_reducible refine Calls.quiet_of (hr13.out _) | with_reducible refine Calls.quiet_of (hr22.out _)))
      have hb2 := below_drewM hb1 nq
      generalize wq.drewN nq = wr2 at *
      clear c0 c1 c2 c3 c4 c5 c6 c7 cw' ck' x1 x2 hb1 hr2 hr13 hr22
      obtain ⟨c0, c1, c2, c3, c4, c5, c6, c7, cw', ck'⟩ := hcs.out wr2 hb2
      have s0d : S0 x.a = xW (xW (rotW x.a 2) (rotW x.a 13)) (rotW x.a 22) := rfl
      rw [← s0d]
      clear s0d
      generalize hS0 : S0 x.a = s0 at *
      have d1 := ua32 x.a x.b
      have d2 := ua32 x.a x.c
      have d3 := ua32 x.b x.c
      have d4 := ux32 (aW x.a x.b) (aW x.a x.c)
      have d5 := ux32 (xW (aW x.a x.b) (aW x.a x.c)) (aW x.b x.c)
      go_wp2_with fail
      go_quiet (fail)
      have hb1 := below_drewM hb2 nq
      generalize wr2.drewN nq = wq at *
      clear c0 c1 c2 c3 c4 c5 c6 c7 cw' ck' d1 d2 d3 d4 d5 hb2
      obtain ⟨c0, c1, c2, c3, c4, c5, c6, c7, cw', ck'⟩ := hcs.out wq hb1
      have mjd : mjW x.a x.b x.c = xW (xW (aW x.a x.b) (aW x.a x.c)) (aW x.b x.c) := rfl
      rw [← mjd]
      clear mjd
      generalize hmj : mjW x.a x.b x.c = m1 at *
      have e1 := (IntKind.wrap_u32' _).trans (uadd32 T1 s0)
      have e2 := (IntKind.wrap_u32' _).trans (uadd32 (addW T1 s0) m1)
      have e3 := (IntKind.wrap_u32' _).trans (uadd32 x.d T1)
      have hnv : x.next (rk k) (F k) = rnd (v8of hf) F (k + 1) := by rw [rnd, ← hx.out]
      have hnx : x.next (rk k) (F k) = ⟨addW (addW T1 s0) m1, x.a, x.b, x.c, addW x.d T1, x.e, x.f, x.g⟩ := by unfold V8.next; rw [hT, hS0, hmj]
      rw [hnx] at hnv
      replace hnv := hid hnv
      clear hnx hT hS0 hmj hS1 hch
      generalize addW T1 s0 = A1 at *
      generalize addW A1 m1 = A2 at *
      generalize addW x.d T1 = A3 at *
      have hrow := rowW_len 8 (V8.at ⟨A2, x.a, x.b, x.c, A3, x.e, x.f, x.g⟩)
      have hown := hid (own_built (S := from_ n2) (m := rowW 8 (V8.at ⟨A2, x.a, x.b, x.c, A3, x.e, x.f, x.g⟩)) (F := wv) (heap_alloc_new' wq.drew (.cells #[wv A2, wv x.a, wv x.b, wv x.c, wv A3, wv x.e, wv x.f, wv x.g] 82)) (by rw [rowW_len]; decide) (Nat.le_trans hM.out.2.2.2.2 hb1.size))
      rw [hrow] at hown
      clear hrow
      have hbq := hid (hb1.drew.alloc (o := .cells #[wv A2, wv x.a, wv x.b, wv x.c, wv A3, wv x.e, wv x.f, wv x.g] 82) (by have := hb1.size; exact this))
      have hMq := hid (⟨hM.out.1.below goodWd hbq.out, hM.out.2.1.below goodWd hbq.out, hM.out.2.2.1.below goodWd hbq.out, hM.out.2.2.2.1.trans (hbq.out.mono hM.out.2.2.2.1.size), Nat.le_trans hM.out.2.2.2.2 hbq.out.size⟩ : _ ∧ _ ∧ _ ∧ _ ∧ _)
      have hj := hcs.out (wq.alloc (.cells #[wv A2, wv x.a, wv x.b, wv x.c, wv A3, wv x.e, wv x.f, wv x.g] 82)).drew ((hb1.alloc hb1.size _).drew)
      obtain ⟨j0, j1, j2, j3, j4, j5, j6, j7, -, -⟩ := hj
      clear hcs cw' ck' c7 j7 hiw hik hx
      go_wp2_with fail
      go_region_held3 (fun w' => w'.cell? ⟨g, 0, none⟩ = some (wv x.a) ∧ w'.cell? ⟨g, 1, none⟩ = some (wv x.b) ∧ w'.cell? ⟨g, 2, none⟩ = some (wv x.c) ∧ w'.cell? ⟨g, 3, none⟩ = some (wv x.d) ∧ w'.cell? ⟨g, 4, none⟩ = some (wv x.e) ∧ w'.cell? ⟨g, 5, none⟩ = some (wv x.f) ∧ w'.cell? ⟨g, 6, none⟩ = some (wv x.g)) (first | exact ⟨c0, c1, c2, c3, c4, c5, c6⟩ | exact ⟨j0, j1, j2, j3, j4, j5, j6⟩) (fail)
      go_wp2_with fail
      refine ⟨?_, by simp [intOf]; omega⟩
      exact ⟨k + 1, wq.heap.size, 8, ⟨A2, x.a, x.b, x.c, A3, x.e, x.f, x.g⟩, by go_num, rfl, by omega, hnv, hown, hMq⟩
    · have hk64 : k = 64 := by omega
      subst hk64
      clear hk hlt
      have hRx : Hid (R = rowW 8 (addR hf x 8)) := hid (by rw [hR.out, addR_end, hx.out])
      rw [← addR_zero hf x] at hO
      go_wp2_with fail
      go_loopw [14] (fun iv14 wr => ∃ i : Nat, iv14 = .int .i64 i ∧ i ≤ 8 ∧ Hid (OwnW (from_ n2) wr (rowW 8 (addR hf x i)) (.slice (some ⟨g, 0, none⟩) 8 cap)) ∧ Hid (SlR 1 WdR (fun q => q < n2) wr (rowW 8 hf) (.slice ah 8 ch) ∧ Below w.heap.size w wr)) (fun i _ => 8 - (intOf i).toNat)
      case atStart => exact ⟨0, rfl, Nat.zero_le _, hO, hid ⟨hM.out.2.2.1, hM.out.2.2.2.1⟩⟩
      case round =>
        clear hO hM hx
        obtain ⟨i, rfl, hi, hO, hM⟩ := hrel
        by_cases hlt : i < 8
        · have q1 : decide ((i : Int) < 8) = true := decide_eq_true (by omega)
          have q1' : decide (i < 8) = true := decide_eq_true hlt
          obtain ⟨g', cap', he, hgS, hgl, hcell, hfz⟩ := hO.out.form (by rw [rowW_len]; decide)
          simp only [Value.slice.injEq, Option.some.injEq, Addr.mk.injEq, true_and] at he
          obtain ⟨⟨rfl, -⟩, -, rfl⟩ := he
          have ci := hcell i _ (rowW_at _ hlt)
          rw [addR_at] at ci
          have fi := hfz i
          obtain ⟨gh, oh, csh, hih, hSh, hgh, hch, hrh⟩ := hM.out.1.at (P := Tryd.prog) (t := 89) (by kernel_rfl) (fun _ => by kernel_rfl) (rowW_at hf hlt)
          have ch' := hch 0 _ (by rw [show csh = [wv (hf i)] from hrh]; rfl)
          rw [Nat.add_zero] at ch'
          have hset := OwnR.set1 (F := wv) (fun _ => rfl) (hO.out.below goodWd ((Below.refl wr.heap.size wr).drew)) (i := i) (by rw [rowW_len]; exact hlt) (addW (x.at i) (hf i))
          rw [rowW_set, addR_succ] at hset
          replace hset := hid hset
          have hgn : n2 ≤ g := hgS
          have hM2 := hid (⟨(hM.out.1.below goodWd ((Below.refl wr.heap.size wr).drew)).move goodWd (T := fun q => q < n2) fun q hq hs => ⟨hs, heap_setCell_other _ (by omega)⟩, hM.out.2.drew.setCell (p := ⟨g, i, none⟩) (Nat.le_trans hle2 hgn) (wv (addW (x.at i) (hf i)))⟩ : SlR 1 WdR (fun q => q < n2) (wr.drew.setCell ⟨g, i, none⟩ (wv (addW (x.at i) (hf i)))) (rowW 8 hf) (.slice ah 8 ch) ∧ _)
          have a1 := (IntKind.wrap_u32' _).trans (uadd32 (x.at i) (hf i))
          have l0 : (0 : Int) ≤ (i : Int) := by omega
          have l1 : (i : Int) < 8 := by omega
          have c1 : wr.drew.cell? ⟨g, i, none⟩ = some (wv (x.at i)) := ci
          have c2 : wr.drew.cell? ⟨gh, oh, none⟩ = some (wv (hf i)) := ch'
          have f1 : wr.drew.frozen? ⟨g, i, none⟩ = false := fi
          clear hcell hfz hch hrh ci fi ch' hM hO
          generalize x.at i = xi at *
          generalize hf i = hi' at *
          generalize addW xi hi' = A at *
          go_wp2_with fail
          go_region
          all_goals go_wp2_with fail
          all_goals
            exact ⟨⟨i + 1, by go_num, by omega, hset, hM2⟩, by simp [intOf]; omega⟩
        · have h8 : i = 8 := by omega
          subst h8
          rw [← hRx.out] at hO
          go_wp2_with fail
          go_ret
          exact ⟨_, rfl, hO.out.mono goodWd (fun q _ hq => Nat.le_trans hle2 hq), hM.out.2⟩
end Go.Proofs.YtnbhpicmflagcaaDoor
namespace Go.Proofs.YtnbhpicmflagcaaDoor
open Go.RowKit
open Go.Lib (hid byteCells)
def zerosN (n : Nat) : Nat := (119 - n % 64) % 64
def lenB (L j : Nat) : List UInt8 := (List.range j).map fun i => UInt8.ofNat (L / 2 ^ (56 - 8 * i))
def pdF (s : List UInt8) (L : Nat) : List UInt8 := s ++ 128 :: List.replicate (zerosN s.length) 0 ++ lenB L 8
theorem lenB_succ (L j : Nat) : lenB L (j + 1) = lenB L j ++ [UInt8.ofNat (L / 2 ^ (56 - 8 * j))] := by simp [lenB, List.range_succ]
theorem lenB_len (L j : Nat) : (lenB L j).length = j := by simp [lenB]
theorem pdF_len (s : List UInt8) (L : Nat) : (pdF s L).length = s.length + 1 + zerosN s.length + 8 := by simp [pdF, lenB_len]; omega
def foldC : Nat → (Nat → UInt32) → List UInt8 → (Nat → UInt32)
  | 0, h, _ => h
  | n + 1, h, p => foldC n (compF h (p.take 64)) (p.drop 64)
theorem pdF_step (s : List UInt8) (L : Nat) (h : 64 ≤ s.length) : (pdF s L).take 64 = s.take 64 ∧ (pdF s L).drop 64 = pdF (s.drop 64) L := by
  have hz : zerosN (s.drop 64).length = zerosN s.length := by unfold zerosN; rw [List.length_drop]; congr 2; omega
  constructor
  · unfold pdF
    rw [List.append_assoc, List.take_append_of_le_length h]
  · unfold pdF
    rw [hz, List.append_assoc, List.append_assoc, List.drop_append_of_le_length h]
theorem tl2_at (r : List UInt8) (L : Nat) (hz : 8 ≤ tlSize r) : ∀ k, k ≤ 8 → ∀ j, tl2 r L k j = if tlSize r - k ≤ j ∧ j < tlSize r then UInt8.ofNat (L / 2 ^ (8 * (tlSize r - 1 - j))) else tl1 r j
  | 0, _, j => by rw [tl2, if_neg (by omega)]
  | k + 1, hk, j => by
    rw [tl2]
    unfold updB
    by_cases e : j = tlSize r - 1 - k
    · rw [if_pos e, if_pos (by omega), show tlSize r - 1 - j = k by omega]
    · rw [if_neg e, tl2_at r L hz k (by omega) j]
      by_cases h2 : tlSize r - k ≤ j ∧ j < tlSize r
      · rw [if_pos h2, if_pos (by omega)]
      · rw [if_neg h2, if_neg (by omega)]
theorem pd_tail (r : List UInt8) (L : Nat) (h : r.length < 64) : pdF r L = (List.range (tlSize r)).map (tl2 r L 8) := by
  have hts : tlSize r = r.length + 1 + zerosN r.length + 8 := by unfold tlSize zerosN; split <;> omega
  have hts2 : 8 ≤ tlSize r := by omega
  apply List.ext_getElem?
  intro j
  by_cases hj : j < tlSize r
  · rw [List.getElem?_map, List.getElem?_range hj, Option.map_some, tl2_at r L hts2 8 (Nat.le_refl _) j]
    unfold pdF
    by_cases h1 : j < r.length
    · rw [if_neg (by omega), List.append_assoc, List.getElem?_append_left h1]
      unfold tl1 updB
      rw [if_neg (by omega)]
      show r[j]? = some (r.getD j 0)
      rw [List.getD_eq_getElem?_getD, List.getElem?_eq_getElem h1]; rfl
    · by_cases h2 : j < r.length + 1 + zerosN r.length
      · rw [if_neg (by omega), List.getElem?_append_left (by simp; omega), List.getElem?_append_right (by omega)]
        unfold tl1 updB
        by_cases h3 : j = r.length
        · subst h3; simp
        · rw [if_neg h3]
          show _ = some (r.getD j 0)
          rw [List.getD_eq_getElem?_getD, List.getElem?_eq_none (show r.length ≤ j by omega), show j - r.length = (j - r.length - 1) + 1 by omega, List.getElem?_cons_succ, List.getElem?_replicate, if_pos (by omega)]; rfl
      · rw [if_pos (by omega), List.getElem?_append_right (by simp; omega)]
        have e : j - (r ++ 128 :: List.replicate (zerosN r.length) (0 : UInt8)).length = j - (tlSize r - 8) := by simp; omega
        rw [e]
        unfold lenB
        rw [List.getElem?_map, List.getElem?_range (by omega), Option.map_some]
        congr 4
        omega
  · rw [List.getElem?_eq_none (by rw [pdF_len]; omega), List.getElem?_eq_none (by simp; omega)]
theorem blk_take (T : Nat → UInt8) (n : Nat) (h : 64 ≤ n) : ((List.range n).map T).take 64 = blk T 0 := by
  unfold blk
  rw [← List.map_take, List.take_range, Nat.min_eq_left h]
  simp
theorem fold_tail (h : Nat → UInt32) (r : List UInt8) (L : Nat) (hr : r.length < 64) : foldC ((pdF r L).length / 64) h (pdF r L) = shaT h r L := by
  rw [pd_tail r L hr]
  unfold shaT
  have hts : tlSize r = 64 ∨ tlSize r = 128 := by unfold tlSize; split <;> simp
  generalize tl2 r L 8 = T
  rcases hts with e | e
  · rw [e]
    simp only [List.length_map, List.length_range]
    show compF h (((List.range 64).map T).take 64) = compF h (blk T 0)
    rw [blk_take T 64 (by decide)]
  · rw [e]
    simp only [List.length_map, List.length_range]
    show compF (compF h (((List.range 128).map T).take 64)) ((((List.range 128).map T).drop 64).take 64) = compF (compF h (blk T 0)) (blk T 64)
    rw [blk_take T 128 (by decide)]
    congr 1
theorem fold_pd (L : Nat) : ∀ (n : Nat) (h : Nat → UInt32) (s : List UInt8), s.length ≤ n → foldC ((pdF s L).length / 64) h (pdF s L) = shaT (shaE h s).1 (shaE h s).2 L
  | n, h, s, hn => by
    by_cases h64 : 64 ≤ s.length
    · obtain ⟨h1, h2⟩ := pdF_step s L h64
      have hl : (pdF s L).length / 64 = (pdF (s.drop 64) L).length / 64 + 1 := by rw [← h2, List.length_drop, pdF_len]; omega
      rw [hl, foldC, h1, h2, shaE_step h s h64]
      cases n with
      | zero => omega
      | succ n => exact fold_pd L n _ _ (by rw [List.length_drop]; omega)
    · rw [shaE_end h s (by omega)]
      exact fold_tail h s L (by omega)
theorem fold_sha (s : List UInt8) : foldC ((pdF s (8 * s.length)).length / 64) h0W (pdF s (8 * s.length)) = shaW s := fold_pd _ _ _ _ (Nat.le_refl _)
theorem pdF_mod (s : List UInt8) (L : Nat) : (pdF s L).length % 64 = 0 := by rw [pdF_len]; unfold zerosN; omega
/-! walked -/
def slcLen : Value → Nat
  | .slice _ n _ => n
  | _ => 0
theorem btCopy {B : Nat} {w : World} {l : List UInt8} {v : Value} {S : Foot} (h : SlR 1 BtR S w l v) (hB : B ≤ w.heap.size) (hl : l.length ≤ 2097152) :
    ∃ v' w', AppRun Tryd.prog 53 53 53 (.slice (some ⟨w.heap.size, 0, none⟩) 0 0) v v' (w.alloc (.cells #[] 5)) w' ∧ OwnB (from_ B) w' l v' ∧ Below B w w' := by
  obtain ⟨i0, hi, hz0, hz1, hz2⟩ := info_parts infoBt
  have hb : Below w.heap.size w (w.alloc (.cells #[] 5)) := (Below.refl _ _).alloc (Nat.le_refl _) _
  obtain ⟨v', w', h1, h2, h3⟩ := app_cells (m := l) (t := 53) (ty := 53) (F := bv) (fun _ => rfl) (by kernel_rfl) hi hz0 hz1 hz2 rfl (own_built (S := from_ B) (m := []) (F := bv) (heap_alloc_new' w (.cells #[] 5)) (by decide) hB) (SlR.cells (h.below goodBt hb)) (by unfold maxLen; simp; omega) (by simp; omega) (fun k hk => by unfold from_; simp at hk; omega)
  exact ⟨v', w', h1, h2, (hb.mono hB).trans (from_below h3 (by simp; omega))⟩
set_option maxHeartbeats 1000000 in
set_option maxRecDepth 100000 in
theorem padded_any (s : List UInt8) (S : Foot) (v : Value) (w : World) (hs : s.length ≤ 1048576) (hR : SlR 1 BtR S w s v) :
    Calls Tryd.prog 55 #[v] w fun e w' => ∃ v', e = .returned v' ∧ OwnB (from_ w.heap.size) w' (pdF s (8 * s.length)) v' ∧ Below w.heap.size w w' := by
  obtain ⟨v1, W1, hap1, hO1, hB1⟩ := btCopy (B := w.heap.size) hR (Nat.le_refl _) (by omega)
  obtain ⟨a1, c1, rfl, -, -⟩ := hO1.slice
  obtain ⟨v2, W2, hap2, hO2, hB2⟩ := btPush [128] hO1 hB1.size (by omega) (by decide)
  have hBa := hid (hB1.trans hB2)
  have hO2' : Hid (OwnB (from_ w.heap.size) W2 (s ++ 128 :: List.replicate 0 0) v2) := hid hO2
  obtain ⟨a, c, rfl, -⟩ := hR.slice
  obtain ⟨R, hRR⟩ : ∃ R, R = pdF s (8 * s.length) := ⟨_, rfl⟩
  rw [← hRR]
  replace hRR := hid hRR
  clear hR hO1 hO2 hB2 hB1
  go_enter Tryd.func55, Tryd.ntmps55
  go_wp2_with (first | (at_builtin; refine wpList_append_shut rfl (.tmp 6) (.tmp 7) rfl rfl rfl hap1 ?_) | (at_builtin; refine wpList_append_shut rfl (.tmp 9) (.tmp 10) rfl rfl rfl hap2 ?_))
  go_loopw [3] (fun u wr => ∃ (z : Nat), z ≤ zerosN s.length ∧ slcLen u = s.length + 1 + z ∧ Hid (OwnB (from_ w.heap.size) wr (s ++ 128 :: List.replicate z 0) u) ∧ Hid (Below w.heap.size w wr)) (fun u _ => (120 - slcLen u % 64) % 64)
  case atStart =>
    refine ⟨0, Nat.zero_le _, ?_, hO2', hBa⟩
    obtain ⟨a2, c2, rfl, -, -⟩ := hO2'.out.slice
    simp [slcLen]
  case round =>
    clear hO2' hBa hap1 hap2
    obtain ⟨z, hz, hlen, hO, hB⟩ := hrel
    have hzz : zerosN s.length = (119 - s.length % 64) % 64 := rfl
    obtain ⟨a2, c2, rfl, -, -⟩ := hO.out.slice
    have hl2 : (s ++ 128 :: List.replicate z (0 : UInt8)).length = s.length + 1 + z := by simp; omega
    rw [hl2] at hO ⊢
    obtain ⟨n, hn⟩ : ∃ n, n = s.length + 1 + z := ⟨_, rfl⟩
    rw [← hn] at hO ⊢
    by_cases hlt : z < zerosN s.length
    · have q1 : ((n : Int) % 64 != 56) = true := bne_iff_ne.2 (by omega)
      have q3 : ¬ (n : Int) % 64 = 56 := by omega
      have q2 : ((n : Int).tmod 64 != 56) = true := bne_iff_ne.2 (by rw [Int.tmod_eq_emod_of_nonneg (by omega)]; omega)
      obtain ⟨v3, W3, hap, hO3, hB3⟩ := btPush [0] hO.out hB.out.size (by rw [hl2]; omega) (by decide)
      rw [show s ++ 128 :: List.replicate z (0 : UInt8) ++ [0] = s ++ 128 :: List.replicate (z + 1) 0 by rw [List.replicate_succ', List.append_assoc]; rfl] at hO3
      have hBf := hid (hB.out.trans hB3)
      have hl3 : slcLen v3 = n + 1 := by
        obtain ⟨a3, c3, rfl, -, -⟩ := hO3.slice
        simp [slcLen]; omega
      replace hO3 := hid hO3
      clear hO hB
      replace hn := hid hn
      replace hzz := hid hzz
      replace hlen := hid hlen
      replace hl3 := hid hl3
      go_wp2_with (first | (at_builtin; refine wpList_append_shut rfl (.tmp 16) (.tmp 17) rfl rfl rfl hap ?_))
      have h1 := hn.out
      have h2 := hzz.out
      refine ⟨?_, by rw [hl3.out]; simp [slcLen]; omega⟩
      repeat (first | exact ⟨⟨z + 1, by omega, by rw [hl3.out, h1]; omega, hO3, hBf⟩, rfl⟩ | exact ⟨z + 1, by omega, by rw [hl3.out, h1]; omega, hO3, hBf⟩ | apply Exists.intro)
    · have hze : z = zerosN s.length := by omega
      have q0 : (n : Int) % 64 = 56 := by omega
      have q1 : ((n : Int) % 64 != 56) = false := by rw [q0]; rfl
      have q2 : ((n : Int).tmod 64 != 56) = false := by rw [Int.tmod_eq_emod_of_nonneg (by omega), q0]; rfl
      obtain ⟨L, hL⟩ : ∃ L, L = 8 * s.length := ⟨_, rfl⟩
      have hw1 : IntKind.u64.wrap ((s.length : Nat) : Int) = (s.length : Int) := by rw [IntKind.wrap_u64]; omega
      have hw2 : IntKind.u64.wrap (8 * (s.length : Int)) = (L : Int) := by rw [IntKind.wrap_u64]; omega
      have hw3 : (8 * (s.length : Int)) % 18446744073709551616 = (L : Int) := by omega
      subst hze
      obtain ⟨P, hP⟩ : ∃ P, P = s ++ 128 :: List.replicate (zerosN s.length) (0 : UInt8) := ⟨_, rfl⟩
      have hO2 : Hid (OwnB (from_ w.heap.size) wr (P ++ lenB L 0) (.slice a2 n c2)) := hid (by rw [hP]; simp only [lenB, List.range_zero, List.map_nil, List.append_nil]; exact hO.out)
      have hRP : Hid (R = P ++ lenB L 8) := hid (by rw [hRR.out, hP, ← hL]; rfl)
      have hPl : P.length ≤ 1048640 := by rw [hP, hl2]; omega
      clear hO hP
      replace hL := hid hL
      clear q0
      replace hn := hid hn
      replace hzz := hid hzz
      replace hlen := hid hlen
      go_wp2_with fail
      go_loopw [3, 5] (fun u i wr => ∃ j : Nat, i = .int .i64 (56 - 8 * (j : Int)) ∧ j ≤ 8 ∧ Hid (OwnB (from_ w.heap.size) wr (P ++ lenB L j) u) ∧ Hid (Below w.heap.size w wr)) (fun _ i _ => (intOf i + 8).toNat)
      case atStart => exact ⟨0, rfl, by decide, hO2, hB⟩
      case round =>
        clear hO2 hB hlen hzz hz hlt
        obtain ⟨j, rfl, hj, hO, hB⟩ := hrel
        by_cases hlt : j < 8
        · have p1 : decide ((56 - 8 * (j : Int)) ≥ 0) = true := decide_eq_true (by omega)
          have p2 : (0 : Int) ≤ 56 - 8 * (j : Int) := by omega
          obtain ⟨v3, W3, hap, hO3, hB3⟩ := btPush [UInt8.ofNat (L / 2 ^ (56 - 8 * j))] hO.out hB.out.size (by rw [List.length_append, lenB_len]; omega) (by simp)
          rw [List.append_assoc, ← lenB_succ] at hO3
          have hBf := hid (hB.out.trans hB3)
          replace hO3 := hid hO3
          obtain ⟨sh, hsh⟩ : ∃ sh, sh = 56 - 8 * j := ⟨_, rfl⟩
          have hv : (L : Int) / 2 ^ sh % 256 = ((UInt8.ofNat (L / 2 ^ sh)).toNat : Int) := by simp
          rw [← hsh] at hap
          have hse : 56 - 8 * (j : Int) = (sh : Int) := by omega
          have hmin : min sh 64 = sh := by omega
          have hnx : IntKind.i64.wrap ((sh : Int) - 8) = 56 - 8 * ((j + 1 : Nat) : Int) := by
            clear hv hw1 hw2 hw3
            have hA : -9223372036854775808 ≤ (sh : Int) - 8 := by omega
            have hB : (sh : Int) - 8 ≤ 56 := by omega
            have hC : (sh : Int) - 8 = 56 - 8 * ((j + 1 : Nat) : Int) := by omega
            rw [← hC]
            rw [IntKind.wrap_i64]; omega
          rw [hse] at p1 p2 ⊢
          generalize UInt8.ofNat (L / 2 ^ sh) = x at *
          have hdec : (56 - 8 * ((j + 1 : Nat) : Int) + 8).toNat < ((sh : Int) + 8).toNat := by omega
          replace hse := hid hse
          replace hsh := hid hsh
          replace hdec := hid hdec
          clear hO hB
          go_wp2_with (first | (at_builtin; refine wpList_append_shut rfl (.tmp 27) (.tmp 32) rfl rfl rfl hap ?_))
          refine ⟨?_, by simpa [intOf] using hdec.out⟩
          repeat (first | exact ⟨⟨j + 1, rfl, by omega, hO3, hBf⟩, rfl⟩ | exact ⟨j + 1, rfl, by omega, hO3, hBf⟩ | apply Exists.intro)
        · have hj8 : j = 8 := by omega
          subst hj8
          go_wp2_with fail
          go_ret
          exact ⟨_, rfl, by rw [hRP.out]; exact hO.out, hB.out⟩
end Go.Proofs.YtnbhpicmflagcaaDoor
namespace Go.Proofs.YtnbhpicmflagcaaDoor
open Go.RowKit
open Go.Lib (hid byteCells)
theorem conv_ex (W : World) (s : List UInt8) : ∃ cap W', (convert 9 53 (sv s)).run Tryd.prog W = .ok (.slice (some ⟨W.heap.size, 0, none⟩) s.length cap) W' ∧ SlR 1 BtR (from_ W.heap.size) W' s (.slice (some ⟨W.heap.size, 0, none⟩) s.length cap) ∧ Below W.heap.size W W' := by
  refine ⟨grownCap W s.length 0 5, Lib.bytesWorld W 5 ⟨s.toArray⟩, ?_, ?_, ?_⟩
  · have := Lib.run_convert_string_bytes (P := Tryd.prog) W 9 53 5 ⟨s.toArray⟩ Tryd.underlying9 (by kernel_rfl) (by kernel_rfl)
    simpa [ByteArray.size] using this
  · refine ⟨_, _, W.heap.size, 0, fun i => [bv (s.getD i 0)], rfl, ?_, fun _ => ⟨rfl, Nat.le_refl _, by rw [Lib.bytesWorld_size]; omega⟩, fun i hi j u hu => ?_, fun i x hx => ?_⟩
    · exact grownCap_ge _ _ _ _
    · have hj : j = 0 := by
        have := (List.getElem?_eq_some_iff.1 hu).1
        simp at this; omega
      subst hj
      simp at hu
      subst hu
      rw [Nat.mul_one, Nat.add_zero, Nat.zero_add, Lib.bytesWorld_cell _ _ _ _ (by simpa [ByteArray.size] using hi)]
      simp [List.getD_eq_getElem?_getD]
    · show [bv (s.getD i 0)] = [bv x]
      rw [List.getD_eq_getElem?_getD, hx]; rfl
  · refine ⟨rfl, rfl, rfl, by rw [Lib.bytesWorld_size]; omega, fun k hk => Lib.bytesWorld_at_old _ _ _ _ hk⟩
theorem SlR.upto {α : Type} {sz : Nat} {R : Rel α} {S : Foot} {w : World} {l : List α} {a : Option Addr} {len cap : Nat} (h : SlR sz R S w l (.slice a len cap)) (n : Nat) (hn : n ≤ l.length) : SlR sz R S w (l.take n) (.slice a n cap) := by
  obtain ⟨a', cap', b, off, cs, h1, h2, h3, h4, h5⟩ := h
  simp only [Value.slice.injEq] at h1
  obtain ⟨rfl, rfl, rfl⟩ := h1
  have hl : (l.take n).length = n := by rw [List.length_take]; omega
  refine ⟨a, cap, b, off, cs, by rw [hl], by omega, fun hp => h3 (by omega), fun i hi => h4 i (by omega), fun i x hx => ?_⟩
  have hi : i < n := by have := (List.getElem?_eq_some_iff.1 hx).1; omega
  rw [List.getElem?_take_of_lt hi] at hx
  exact h5 i x hx
theorem SlR.dropN {α : Type} {sz : Nat} {R : Rel α} {S : Foot} {w : World} {l : List α} {a : Option Addr} {len cap : Nat} (h : SlR sz R S w l (.slice a len cap)) (n : Nat) (hn : n ≤ l.length) (a2 : Option Addr) (h2 : ∀ b off, a = some ⟨b, off, none⟩ → n < l.length → a2 = some ⟨b, off + n * sz, none⟩) : SlR sz R S w (l.drop n) (.slice a2 (l.length - n) (cap - n)) := by
  obtain ⟨a', cap', b, off, cs, h1, hle, h3, h4, h5⟩ := h
  simp only [Value.slice.injEq] at h1
  obtain ⟨rfl, rfl, rfl⟩ := h1
  have hl : (l.drop n).length = l.length - n := by rw [List.length_drop]
  refine ⟨a2, cap - n, b, off + n * sz, fun i => cs (n + i), by rw [hl], by omega, fun hp => ?_, fun i hi j u hu => ?_, fun i x hx => ?_⟩
  · obtain ⟨e, hs, hb⟩ := h3 (by omega)
    exact ⟨h2 b off e (by omega), hs, hb⟩
  · have := h4 (n + i) (by omega) j u hu
    rw [show off + n * sz + i * sz + j = off + (n + i) * sz + j by rw [Nat.add_mul]; omega]
    exact this
  · rw [List.getElem?_drop] at hx
    exact h5 (n + i) x hx
theorem sl_mid (g n cap i m : Nat) (h : i + m ≤ n) (hc : n ≤ cap) (hm : 0 < m) (W : World) : (Instr.sliceAt 53 (.slice (some ⟨g, 0, none⟩) n cap) (some (.int .i64 (i : Int))) (some (.int .i64 ((i : Int) + m))) none).run Tryd.prog W = .ok (.slice (some ⟨g, i, none⟩) m (cap - i)) W := by
  have ht : Tryd.prog.underlying 53 = some (.slice (Tryd.prog.elem 53)) := by kernel_rfl
  have hz : ∀ w, (sizeOf (Tryd.prog.elem 53)).run Tryd.prog w = .ok 1 w := fun _ => by kernel_rfl
  rw [run_sliceAt_slice (h := ht), run_slice_lh (ht := ht) (h0 := by omega) (h1 := by omega) (h2 := by omega), hz]
  have e0 : ((i : Int) + (m : Int)).toNat = i + m := by omega
  have e2 : ¬ cap - i = 0 := by omega
  rw [e0]
  simp [Result.andThen, sliced, Addr.add]
  rw [if_neg (by omega)]
  by_cases hi : i = 0
  · subst hi; rfl
  · rw [if_neg hi]
set_option maxHeartbeats 1000000 in
set_option maxRecDepth 100000 in
theorem rsha_any (s : List UInt8) (w : World) (hs : s.length ≤ 1048576) :
    Calls Tryd.prog 41 #[sv s] w fun e w' => e = .returned (dgv (shaF s)) ∧ Below w.heap.size w w' := by
  generalize hres : shaF s = res
  replace hres := hid hres
  have hbr := hid ((Below.refl w.heap.size w).alloc (Nat.le_refl _) (.cells (bcells 32 (fun _ => 0)) 48))
  have hr0 := hid (heap_alloc_new' w (.cells (bcells 32 (fun _ => 0)) 48))
  obtain ⟨wa, hwa⟩ : ∃ x, x = w.alloc (.cells (bcells 32 (fun _ => 0)) 48) := ⟨_, rfl⟩
  rw [← hwa] at hbr hr0
  have hsz0 : wa.heap.size = w.heap.size + 1 := by rw [hwa]; simp
  obtain ⟨cap, W1, hcv, hS1, hb1⟩ := conv_ex wa s
  have hpd := hid (padded_any s _ _ W1 hs hS1)
  rw [hsz0] at hcv hpd hS1
  rw [hwa] at hcv
  replace hcv : (convert 9 53 (sv s)).run Tryd.prog (w.alloc (.cells #[.int .u8 0, .int .u8 0, .int .u8 0, .int .u8 0, .int .u8 0, .int .u8 0, .int .u8 0, .int .u8 0, .int .u8 0, .int .u8 0, .int .u8 0, .int .u8 0, .int .u8 0, .int .u8 0, .int .u8 0, .int .u8 0, .int .u8 0, .int .u8 0, .int .u8 0, .int .u8 0, .int .u8 0, .int .u8 0, .int .u8 0, .int .u8 0, .int .u8 0, .int .u8 0, .int .u8 0, .int .u8 0, .int .u8 0, .int .u8 0, .int .u8 0, .int .u8 0] 48)) = _ := hcv
  replace hwa := hid hwa
  go_enter Tryd.func41, Tryd.ntmps41
  clear hS1
  have hb1' := hid (hbr.out.trans (hb1.mono (by rw [hsz0]; omega)))
  go_wp2_with fail
  refine hpd.out.mono ?_
  rintro e w2 ⟨vp, rfl, hP, hb2⟩
  have hPl := pdF_len s (8 * s.length)
  have hPm := pdF_mod s (8 * s.length)
  have hfs := fold_sha s
  obtain ⟨P, hPe⟩ : ∃ P, P = pdF s (8 * s.length) := ⟨_, rfl⟩
  rw [← hPe] at hP hPl hPm hfs
  have hz64 : zerosN s.length < 64 := by unfold zerosN; omega
  have hPl1 : P.length ≤ 1048700 := by omega
  have hPl2 : 64 ≤ P.length := by omega
  clear hPl hz64
  have hPf := hid ((OwnR.sl goodBt hP).mono goodBt (T := fun q => q < w2.heap.size) fun q hq _ => hq)
  obtain ⟨gp, cp, rfl, -, -, -, -⟩ := hP.form (by omega)
  have hPc : P.length ≤ cp := by obtain ⟨a3, c3, e3, h3, -⟩ := hP.slice; simp only [Value.slice.injEq] at e3; obtain ⟨-, -, rfl⟩ := e3; exact h3
  have hB2 := hid (hb1'.out.trans (hb2.mono hb1'.out.size))
  have hr2 := hid (below_keep (hb1.trans (hb2.mono hb1.size)) hr0.out (by omega))
  have hW2 : w.heap.size < w2.heap.size := Nat.lt_of_lt_of_le (by omega) (Nat.le_trans hb1.size hb2.size)
  clear hP hb1 hb2 hpd hcv hb1' hr0 hbr
  replace hPe := hid hPe
  replace hfs := hid hfs
  go_wp2_with fail
  refine (firsts_any w2).mono ?_
  rintro e w3 ⟨vh, rfl, hH, hb3⟩
  obtain ⟨gh, ch, rfl, -, -, -, -⟩ := hH.form (by rw [rowW_len]; decide)
  rw [rowW_len] at hH ⊢
  have hM3 := hid (⟨hPf.out.below goodBt hb3, below_keep hb3 hr2.out hW2, hB2.out.trans (hb3.mono hB2.out.size), Nat.lt_of_lt_of_le hW2 hb3.size⟩ : SlR 1 BtR (fun q => q < w2.heap.size) w3 P (.slice (some ⟨gp, 0, none⟩) P.length cp) ∧ w3.heap[w.heap.size]? = some (.cells (bcells 32 (fun _ => 0)) 48 (0, 0)) ∧ Below w.heap.size w w3 ∧ w.heap.size < w3.heap.size)
  have hH3 := hid ((OwnR.sl goodWd hH).mono goodWd (T := fun _ => True) fun _ _ _ => trivial)
  clear hH hPf hr2 hB2 hb3
  obtain ⟨N, hN⟩ : ∃ N, N = P.length / 64 := ⟨_, rfl⟩
  have hNP : P.length = 64 * N := by omega
  have hN1 : N ≤ 16400 := by omega
  have hN0 : 1 ≤ N := by omega
  replace hN := hid hN
  replace hNP := hid hNP
  clear hPm
  go_wp2_with fail
  go_loopw [4, 5] (fun u i wr => ∃ (k g c : Nat) (h : Nat → UInt32), i = .int .i64 ((64 * k : Nat) : Int) ∧ u = .slice (some ⟨g, 0, none⟩) 8 c ∧ k ≤ N ∧ Hid (foldC (N - k) h (P.drop (64 * k)) = shaW s) ∧ Hid (SlR 1 WdR (fun _ => True) wr (rowW 8 h) (.slice (some ⟨g, 0, none⟩) 8 c)) ∧ Hid (SlR 1 BtR (fun q => q < w2.heap.size) wr P (.slice (some ⟨gp, 0, none⟩) P.length cp) ∧ wr.heap[w.heap.size]? = some (.cells (bcells 32 (fun _ => 0)) 48 (0, 0)) ∧ Below w.heap.size w wr ∧ w.heap.size < wr.heap.size)) (fun _ i _ => P.length - (intOf i).toNat)
  case atStart => exact ⟨0, gh, ch, h0W, rfl, rfl, Nat.zero_le _, hid (by rw [hN.out]; exact hfs.out), hH3, hM3⟩
  case round =>
    clear hM3 hH3
    obtain ⟨k, g, c, h, rfl, rfl, hk, hf, hH, hM⟩ := hrel
    by_cases hlt : k < N
    · have hNPo := hNP.out
      have q1 : decide (((64 * k : Nat) : Int) < (P.length : Int)) = true := decide_eq_true (by omega)
      have q1' : decide (64 * k < P.length) = true := decide_eq_true (by omega)
      have e1 : IntKind.i64.wrap (((64 * k : Nat) : Int) + 64) = ((64 * (k + 1) : Nat) : Int) := by rw [IntKind.wrap_i64]; omega
      have hch : (P.drop (64 * k)).take 64 = (P.drop (64 * k)).take 64 := rfl
      have hsub := SlR.upto (SlR.dropN hM.out.1 (64 * k) (by omega) (some ⟨gp, 64 * k, none⟩) (fun b off e _ => by injection e with e; injection e with e1 e2; subst e1 e2; simp)) 64 (by rw [List.length_drop]; omega)
      have hsl := fun W => sl_mid gp P.length cp (64 * k) 64 (by omega) hPc (by decide) W
      rw [show ((64 * k : Nat) : Int) + ((64 : Nat) : Int) = ((64 * (k + 1) : Nat) : Int) by omega] at hsl
      have hblk := hid (block_any h ((P.drop (64 * k)).take 64) _ _ _ _ wr (by rw [List.length_take, List.length_drop]; omega) hH.out hsub)
      have hnx : Hid (foldC (N - (k + 1)) (compF h ((P.drop (64 * k)).take 64)) (P.drop (64 * (k + 1))) = shaW s) := hid (by
        have := hf.out
        rw [show N - k = (N - (k + 1)) + 1 by omega, foldC, List.drop_drop] at this
        rw [show 64 * (k + 1) = 64 * k + 64 by omega]; exact this)
      clear hsub hch hf hH hNPo
      generalize compF h ((P.drop (64 * k)).take 64) = h2 at *
      obtain ⟨i, hi⟩ : ∃ i, i = 64 * k := ⟨_, rfl⟩
      obtain ⟨i2, hi2⟩ : ∃ i, i = 64 * (k + 1) := ⟨_, rfl⟩
      rw [← hi2] at e1 hsl
      rw [← hi] at q1 q1' e1 hsl hblk ⊢
      replace hi := hid hi
      replace hi2 := hid hi2
      go_wp2_with fail
      with_reducible refine hblk.out.mono ?_
      rintro e w4 ⟨v4, rfl, hH4, hb4⟩
      obtain ⟨g4, c4, rfl, -, -, -, -⟩ := hH4.form (by rw [rowW_len]; decide)
      rw [rowW_len] at hH4 ⊢
      have hM4 := hid (⟨hM.out.1.below goodBt hb4, below_keep hb4 hM.out.2.1 hM.out.2.2.2, hM.out.2.2.1.trans (hb4.mono hM.out.2.2.1.size), Nat.lt_of_lt_of_le hM.out.2.2.2 hb4.size⟩ : SlR 1 BtR (fun q => q < w2.heap.size) w4 P (.slice (some ⟨gp, 0, none⟩) P.length cp) ∧ w4.heap[w.heap.size]? = some (.cells (bcells 32 (fun _ => 0)) 48 (0, 0)) ∧ Below w.heap.size w w4 ∧ w.heap.size < w4.heap.size)
      have hH5 := hid ((OwnR.sl goodWd hH4).mono goodWd (T := fun _ => True) fun _ _ _ => trivial)
      have hdec : Hid (P.length - i2 < P.length - i) := hid (by have := hi.out; have := hi2.out; have := hNP.out; omega)
      clear hblk hsl hH4 hb4 hM q1 q1'
      go_wp2_with fail
      rw [hi2.out]
      exact ⟨⟨k + 1, g4, c4, h2, rfl, rfl, by omega, hnx, hH5, hM4⟩, by rw [← hi2.out]; simpa [intOf] using hdec.out⟩
    · have hkN : k = N := by omega
      subst hkN
      have hNPo := hNP.out
      have q1 : decide (((64 * k : Nat) : Int) < (P.length : Int)) = false := decide_eq_false (by omega)
      have q1' : decide (64 * k < P.length) = false := decide_eq_false (by omega)
      have hW : Hid (h = shaW s) := hid (by have := hf.out; rw [Nat.sub_self] at this; exact this)
      clear hf hNPo hk hlt
      obtain ⟨wr0, hwr0⟩ : ∃ x, x = wr := ⟨_, rfl⟩
      have hD0 := hid (show DM w.heap.size wr.heap.size (dgK h 0) w (wr.alloc (.cells (bcells 32 (dgK h 0)) 48)) from ⟨⟨_, (Below.heap_alloc _ _ _ hM.out.2.2.2).trans hM.out.2.1, arr_size _ _⟩, heap_alloc_new' _ _, hM.out.2.2.1.alloc hM.out.2.2.1.size _, hM.out.2.2.2⟩)
      have hbw := hid ((Below.refl wr.heap.size wr).alloc (Nat.le_refl _) (.cells (bcells 32 (dgK h 0)) 48))
      obtain ⟨i0, hi0⟩ : ∃ i, i = 64 * k := ⟨_, rfl⟩
      rw [← hi0] at q1 q1' ⊢
      replace hi0 := hid hi0
      go_wp2_with fail
      go_loopw [7] (fun i wv' => ∃ j : Nat, i = .int .i64 j ∧ j ≤ 32 ∧ Hid (DM w.heap.size wr0.heap.size (dgK h j) w wv') ∧ Hid (SlR 1 WdR (fun q => q ≠ wr0.heap.size) wv' (rowW 8 h) (.slice (some ⟨g, 0, none⟩) 8 c))) (fun i _ => 32 - (intOf i).toNat)
      case atStart =>
        subst hwr0
        exact ⟨0, rfl, by decide, hD0, hid ((hH.out.mono goodWd (T := fun q => q ≠ wr0.heap.size) (fun q hq _ => by omega)).below goodWd hbw.out)⟩
      case round =>
        clear hM hH hD0 hbw q1 q1'
        subst hwr0
        obtain ⟨j, rfl, hj, hD, hH⟩ := hrel
        by_cases hlt : j < 32
        · have q1 : decide ((j : Int) < 32) = true := decide_eq_true (by omega)
          have q1' : decide (j < 32) = true := decide_eq_true hlt
          obtain ⟨d, hd⟩ : ∃ d, d = j / 4 := ⟨_, rfl⟩
          obtain ⟨m, hm⟩ : ∃ m, m = j % 4 := ⟨_, rfl⟩
          obtain ⟨sh, hsh⟩ : ∃ sh, sh = 24 - 8 * m := ⟨_, rfl⟩
          have hd8 : d < 8 := by omega
          obtain ⟨gg, og, csg, hig, -, hgg, hcg, hrg⟩ := hH.out.at (P := Tryd.prog) (t := 89) (by kernel_rfl) (fun _ => by kernel_rfl) (rowW_at h hd8)
          have cd := hcg 0 _ (by rw [show csg = [wv (h d)] from hrg]; rfl)
          rw [Nat.add_zero] at cd
          have dd : (j : Int) / 4 = (d : Int) := by omega
          have dt : (j : Int).tdiv 4 = (d : Int) := by rw [Int.tdiv_eq_ediv_of_nonneg (by omega)]; exact dd
          have md : (j : Int) % 4 = (m : Int) := by omega
          have mt : (j : Int).tmod 4 = (m : Int) := by rw [Int.tmod_eq_emod_of_nonneg (by omega)]; exact md
          have e3 : IntKind.i64.wrap (8 * (m : Int)) = 8 * (m : Int) := by rw [IntKind.wrap_i64]; omega
          have e4 : IntKind.i64.wrap (24 - 8 * (m : Int)) = (sh : Int) := by rw [IntKind.wrap_i64]; omega
          have hmin : min sh 32 = sh := by omega
          have hv : ((h d).toNat : Int) / 2 ^ sh % 256 = ((dgB h j).toNat : Int) := by
            have := dg_at h d m (by omega)
            rw [← hsh, show 4 * d + m = j by omega] at this; exact this
          have l0 : (0 : Int) ≤ (j : Int) := by omega
          have l1 : (j : Int) < 32 := by omega
          have c1 := hD.out.cell (k := j) hlt
          have f1 : wr.frozen? ⟨wr0.heap.size, j, none⟩ = false := free_of hD.out.dg
          have hset := hD.out.set j (dgB h j)
          rw [dgK_succ] at hset
          have hH2 := hid (hH.out.move goodWd (T := fun q => q ≠ wr0.heap.size) (w' := wr.setCell ⟨wr0.heap.size, j, none⟩ (bv (dgB h j))) fun q _ hq => ⟨hq, heap_setCell_other _ hq⟩)
          generalize dgB h j = x at *
          replace hset := hid hset
          replace hd := hid hd
          replace hm := hid hm
          replace hsh := hid hsh
          clear hD hH hcg hrg
          go_wp2_with fail
          refine ⟨?_, by simp [intOf]; omega⟩
          repeat (first | exact ⟨⟨j + 1, rfl, by omega, hset, hH2⟩, rfl⟩ | exact ⟨j + 1, rfl, by omega, hset, hH2⟩ | apply Exists.intro)
        · have hj32 : j = 32 := by omega
          subst hj32
          obtain ⟨cs, hr, hcs⟩ := hD.out.res
          have hdg : wr.heap[wr0.heap.size]? = some (.cells (bcells 32 (dgK h 32)) 48 (0, 0)) := hD.out.dg
          have hone := bcells_one 32 (dgK h 32)
          have hsz : (bcells 32 (dgK h 32)).size = 32 := arr_size _ _
          have hfin : Value.agg (bcells 32 (dgK h 32)) = dgv res := by rw [← hres.out]; unfold shaF; rw [← hW.out, dgv_of]
          have hbel := hD.out.bel
          generalize bcells 32 (dgK h 32) = cells at *
          replace hfin := hid hfin
          replace hbel := hid hbel
          replace hr := hid hr
          replace hdg := hid hdg
          replace hcs := hid hcs
          replace hsz := hid hsz
          replace hone := hid hone
          clear hD hW hres hj hlt
          go_wp2_with (first | (refine wpList_load_row rfl 48 (.tmp 6) rfl wr0.heap.size rfl 48 _ (0, 0) _ hdg.out Tryd.underlying48 rfl (by rw [hsz.out]; kernel_rfl) ?_) | (refine wpList_store_row rfl 48 (.tmp 2) (.tmp 42) rfl w.heap.size cells rfl rfl 48 _ hr.out (by rw [hsz.out]; kernel_rfl) (by rw [hsz.out, hcs.out]) hone.out ?_))
          have hB := below_setRow hbel.out (Nat.le_refl _) cells
          have hrow := setRow_heap _ _ _ cells _ _ hr.out
          refine bodyPost_ret (v := .agg cells) (results_cell_row (by rfl) _ _ w.heap.size 48 cells (0, 0) _ (by rfl) hrow Tryd.underlying48 rfl (by rw [hsz.out]; kernel_rfl)) rfl ⟨by rw [hfin.out], hB⟩
end Go.Proofs.YtnbhpicmflagcaaDoor
namespace Go.Proofs.YtnbhpicmflagcaaDoor
open Go.RowKit
open Go.Lib (hid byteCells)
theorem conv_back {S : Foot} {W : World} {l : List UInt8} {v : Value} (h : SlR 1 BtR S W l v) (hl : 0 < l.length) : (convert 53 9 v).run Tryd.prog W = .ok (sv l) W := by
  obtain ⟨a, cap, b, off, cs, rfl, hc, h3, h4, h5⟩ := h
  obtain ⟨rfl, -, -⟩ := h3 hl
  have := run_convert_bytes_back (P := Tryd.prog) W 53 9 5 ⟨b, off, none⟩ cap l (by kernel_rfl) (by kernel_rfl) (by kernel_rfl) (fun j hj => by
    have h6 := h4 j hj 0 (bv l[j]) (by rw [show cs j = [bv l[j]] from h5 j _ (List.getElem?_eq_getElem hj)]; rfl)
    rw [Nat.mul_one, Nat.add_zero] at h6
    have e2 : (⟨b, off, none⟩ : Addr).add j = ⟨b, off + j, none⟩ := by
      simp only [Addr.add]
      split <;> simp_all
    rw [e2]; exact h6)
  exact this
theorem hexL_succ (l : List UInt8) (k : Nat) : (List.range (2 * (k + 1))).map (hx l) = (List.range (2 * k)).map (hx l) ++ [hx l (2 * k), hx l (2 * k + 1)] := by
  rw [show 2 * (k + 1) = 2 * k + 1 + 1 by omega, List.range_succ, List.range_succ]
  simp
theorem hexIdx (i : Nat) (h : i < 16) : ∀ kd W, (Instr.index 9 (.string ({ data := #[48, 49, 50, 51, 52, 53, 54, 55, 56, 57, 97, 98, 99, 100, 101, 102] } : ByteArray)) (.int kd (i : Int))).run Tryd.prog W = .ok (bv (hexDg i)) W := idx_str (P := Tryd.prog) 9 (by kernel_rfl) hexL i (hexDg i) (by unfold hexDg; rw [List.getD_eq_getElem?_getD, List.getElem?_eq_getElem (show i < hexL.length from h)]; rfl)
set_option maxHeartbeats 1000000 in
set_option maxRecDepth 100000 in
theorem rhex_any (l : List UInt8) (hl : l.length = 32) (w : World) : Calls Tryd.prog 40 #[dgv l] w fun e w' => e = .returned (sv (hexF l)) ∧ Below w.heap.size w w' := by
  obtain ⟨res, hres⟩ : ∃ res, res = hexF l := ⟨_, rfl⟩
  rw [← hres]
  replace hres := hid hres
  unfold dgv
  have hbx := hid (heap_alloc_new' w (.cells (byteCells l).toArray 48))
  have hbc := hid (fun i (hi : i < 32) => bc_at l (i := i) (by omega))
  have hb0 := hid ((Below.refl w.heap.size w).alloc (Nat.le_refl _) (.cells (byteCells l).toArray 48))
  generalize (byteCells l).toArray = C at *
  have hM0 := hid (⟨hbx.out, hb0.out, by simp⟩ : (w.alloc (.cells C 48)).heap[w.heap.size]? = some (.cells C 48 (0, 0)) ∧ Below w.heap.size w (w.alloc (.cells C 48)) ∧ w.heap.size < (w.alloc (.cells C 48)).heap.size)
  go_enter Tryd.func40, Tryd.ntmps40
  go_wp2_with fail
  go_loopw [3, 4] (fun u i wr => ∃ k : Nat, i = .int .i64 k ∧ k ≤ 32 ∧ Hid (OwnB (from_ (w.heap.size + 1)) wr ((List.range (2 * k)).map (hx l)) u) ∧ Hid (wr.heap[w.heap.size]? = some (.cells C 48 (0, 0)) ∧ Below w.heap.size w wr ∧ w.heap.size < wr.heap.size)) (fun _ i _ => 32 - (intOf i).toNat)
  case atStart => exact ⟨0, rfl, by decide, hid (OwnR.nil _ _ _ _ _), hM0⟩
  case round =>
    clear hM0 hbx hb0
    obtain ⟨k, rfl, hk, hO, hM⟩ := hrel
    by_cases hlt : k < 32
    · have q1 : decide ((k : Int) < 32) = true := decide_eq_true (by omega)
      have q1' : decide (k < 32) = true := decide_eq_true hlt
      obtain ⟨x, hx0⟩ : ∃ x, x = l.getD k 0 := ⟨_, rfl⟩
      have hcx : C[k]? = some (bv x) := by rw [hx0]; exact hbc.out k hlt
      have hcell : ∀ W, Below wr.heap.size wr W → W.cell? ⟨w.heap.size, k, none⟩ = some (bv x) := fun W hb => (cell_of (below_keep hb hM.out.1 hM.out.2.2)).trans hcx
      have ha : x.toNat / 16 < 16 := by have := x.toNat_lt; omega
      have hb : x.toNat % 16 < 16 := by omega
      obtain ⟨i, hi⟩ : ∃ i, i = x.toNat / 16 := ⟨_, rfl⟩
      obtain ⟨j, hj⟩ : ∃ j, j = x.toNat % 16 := ⟨_, rfl⟩
      rw [← hi] at ha
      rw [← hj] at hb
      have d1 := hexIdx i ha
      have d2 := hexIdx j hb
      have c1 : (x.toNat : Int) / 16 = (i : Int) := by omega
      have c2 : (x.toNat : Int) % 16 = (j : Int) := by omega
      have c1t : (x.toNat : Int).tdiv 16 = (i : Int) := by rw [Int.tdiv_eq_ediv_of_nonneg (by omega)]; exact c1
      have c2t : (x.toNat : Int).tmod 16 = (j : Int) := by rw [Int.tmod_eq_emod_of_nonneg (by omega)]; exact c2
      have b1 : (0 : Int) ≤ (i : Int) ∧ (i : Int) < 16 := by omega
      have b2 : (0 : Int) ≤ (j : Int) ∧ (j : Int) < 16 := by omega
      have w1 : IntKind.u8.wrap (i : Int) = (i : Int) := by rw [IntKind.wrap_u8]; omega
      have w2 : IntKind.u8.wrap (j : Int) = (j : Int) := by rw [IntKind.wrap_u8]; omega
      have l0 : (0 : Int) ≤ (k : Int) := by omega
      have l1 : (k : Int) < 32 := by omega
      have hx1 : hx l (2 * k) = hexDg i := by unfold hx; rw [if_pos (by omega), show 2 * k / 2 = k by omega, ← hx0, ← hi]
      have hx2 : hx l (2 * k + 1) = hexDg j := by unfold hx; rw [if_neg (by omega), show (2 * k + 1) / 2 = k by omega, ← hx0, ← hj]
      obtain ⟨v', W', hap, hO', hB'⟩ := btPush [hexDg i, hexDg j] (hO.out.below goodBt ((Below.refl wr.heap.size wr).drew)) (Nat.succ_le_of_lt hM.out.2.2) (by simp; omega) (by simp)
      replace hO' : OwnB (from_ (w.heap.size + 1)) W' ((List.range (2 * (k + 1))).map (hx l)) v' := by rw [hexL_succ, hx1, hx2]; exact hO'
      have hb' : Below wr.heap.size wr W' → True := fun _ => trivial
      have hBf := hid (hM.out.2.1.trans (((Below.refl wr.heap.size wr).drew.mono hM.out.2.1.size).trans (hB'.mono (by have := hM.out.2.1.size; omega))))
      have hrow' : W'.heap[w.heap.size]? = some (.cells C 48 (0, 0)) := (hB'.block _ (by omega)).trans hM.out.1
      have hM' := hid (⟨hrow', hBf.out, Nat.lt_of_lt_of_le hM.out.2.2 hB'.size⟩ : W'.heap[w.heap.size]? = some (.cells C 48 (0, 0)) ∧ Below w.heap.size w W' ∧ w.heap.size < W'.heap.size)
      have k0 : W'.cell? ⟨w.heap.size, k, none⟩ = some (bv x) := (cell_of hrow').trans hcx
      have k1 := hcell wr.drew ((Below.refl wr.heap.size wr).drew)
      have k2 := hcell (wr.alloc (.cells #[bv (hexDg i), bv (hexDg j)] 5)).drew (((Below.refl wr.heap.size wr).alloc (Nat.le_refl _) _).drew)
      replace hO' := hid hO'
      clear hrow' hcell hcx hO hM hx1 hx2 hB' hb' hBf
      replace hx0 := hid hx0
      replace hi := hid hi
      replace hj := hid hj
      go_wp2_with fail
      go_region_held3 (fun w' => w'.cell? ⟨w.heap.size, k, none⟩ = some (bv x)) (first | exact k1 | exact k2 | with_reducible exact k0) (first | (refine step_append_shut (by rfl) (.tmp 9) (.tmp 20) (by rfl) (by rfl) (by rfl) hap ?_))
      all_goals go_wp2_with fail
      all_goals exact ⟨⟨k + 1, by go_num, by omega, hO', hM'⟩, by simp [intOf]; omega⟩
    · have hk32 : k = 32 := by omega
      subst hk32
      have hcv := conv_back (OwnR.sl goodBt hO.out) (by simp)
      have hR : (List.range (2 * 32)).map (hx l) = res := by rw [hres.out]; rfl
      rw [hR] at hcv
      replace hR := hid hR
      have hB := hid hM.out.2.1
      clear hO hM hbc hlt hk
      go_wp2_with fail
      go_ret
      exact ⟨rfl, hB.out⟩
end Go.Proofs.YtnbhpicmflagcaaDoor
