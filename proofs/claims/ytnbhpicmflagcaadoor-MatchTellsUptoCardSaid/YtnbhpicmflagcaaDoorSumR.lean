/- sum.Read of a digest's digits. -/
import Derived.Test.YtnbhpicmflagcaaDoorSumH
import Derived.Test.YtnbhpicmflagcaaDoorShelf
import Derived.Test.YtnbhpicmflagcaaDoorStr
import Derived.Laws.BitsAllLaws
set_option linter.unusedVariables false
set_option linter.unusedSimpArgs false
namespace Go.Proofs.YtnbhpicmflagcaaDoor
open Go.RowKit
open Go.Lib (hid byteCells)
/-- a digit's worth, and its place among the digits -/
def nib (l : List UInt8) (i : Nat) : Nat := if i % 2 = 0 then (l.getD (i / 2) 0).toNat / 16 else (l.getD (i / 2) 0).toNat % 16
theorem nib_lt (l : List UInt8) (i : Nat) : nib l i < 16 := by
  have := (l.getD (i / 2) 0).toNat_lt
  unfold nib; split <;> omega
theorem hexF_at (l : List UInt8) (i : Nat) (h : i < 64) : (hexF l)[i]? = some (hexDg (nib l i)) := by
  unfold hexF
  rw [List.getElem?_map, List.getElem?_range h]
  show some (hx l i) = _
  unfold hx nib
  split <;> rfl
theorem hex_index (m : Nat) (h : m < 16) : Lib.indexByte hexL (hexDg m) = m := by
  match m, h with
  | 0, _ => decide
  | 1, _ => decide
  | 2, _ => decide
  | 3, _ => decide
  | 4, _ => decide
  | 5, _ => decide
  | 6, _ => decide
  | 7, _ => decide
  | 8, _ => decide
  | 9, _ => decide
  | 10, _ => decide
  | 11, _ => decide
  | 12, _ => decide
  | 13, _ => decide
  | 14, _ => decide
  | 15, _ => decide
  | n + 16, h => exact absurd h (by omega)
def rdK (l : List UInt8) (i : Nat) : Nat → UInt8 := fun j => if 2 * j + 1 < i then l.getD j 0 else if 2 * j < i then UInt8.ofNat ((l.getD j 0).toNat / 16) else 0
theorem rdK_succ (l : List UInt8) (i : Nat) (x : UInt8) (hx : x = rdK l (i + 1) (i / 2)) : updB (rdK l i) (i / 2) x = rdK l (i + 1) := by
  funext j
  unfold updB
  by_cases e : j = i / 2
  · rw [if_pos e, hx, e]
  · rw [if_neg e]
    unfold rdK
    by_cases h1 : 2 * j + 1 < i
    · rw [if_pos h1, if_pos (by omega)]
    · rw [if_neg h1]
      by_cases h2 : 2 * j < i
      · exfalso; omega
      · rw [if_neg h2, if_neg (by omega), if_neg (by omega)]
theorem or16 : ∀ a, a < 16 → ∀ b, b < 16 → a * 16 ||| b = a * 16 + b := by decide
theorem rd_or (l : List UInt8) (i m p : Nat) (x : UInt8) (hm : m = nib l i) (hp : p = i / 2) (hx : x = rdK l i p) :
    bits .or .u8 ((x.toNat : Int) * 16 % 256) (m : Int) = ((rdK l (i + 1) p).toNat : Int) := by
  have hm16 := nib_lt l i
  rw [← hm] at hm16
  have hb := (l.getD p 0).toNat_lt
  have key : ∀ a : Nat, a < 16 → x.toNat = a → bits .or .u8 ((x.toNat : Int) * 16 % 256) (m : Int) = ((a * 16 + m : Nat) : Int) := fun a ha e => by
    have e2 : (x.toNat : Int) * 16 % 256 = ((a * 16 : Nat) : Int) := by rw [e]; omega
    rw [e2, u8_or_nat (a * 16) m (by omega) (by omega), or16 a ha m hm16]
  by_cases h : i % 2 = 0
  · have h2 : i = 2 * p := by omega
    have ex : x.toNat = 0 := by rw [hx]; unfold rdK; rw [if_neg (by omega), if_neg (by omega)]; rfl
    rw [key 0 (by omega) ex]
    have em : m = (l.getD p 0).toNat / 16 := by rw [hm]; unfold nib; rw [if_pos h, hp]
    unfold rdK
    rw [if_neg (by omega), if_pos (by omega), UInt8.toNat_ofNat_of_lt' (show _ < UInt8.size by unfold UInt8.size; omega), ← em]
    simp
  · have h2 : i = 2 * p + 1 := by omega
    have ex : x.toNat = (l.getD p 0).toNat / 16 := by
      rw [hx]; unfold rdK; rw [if_neg (by omega), if_pos (by omega), UInt8.toNat_ofNat_of_lt' (show _ < UInt8.size by unfold UInt8.size; omega)]
    rw [key _ (by omega) ex]
    have em : m = (l.getD p 0).toNat % 16 := by rw [hm]; unfold nib; rw [if_neg h, hp]
    unfold rdK
    rw [if_pos (by omega), em]
    omega
theorem ibx (l : List UInt8) (i : Nat) (w : World) : Calls Tryd.prog 47 #[.string { data := #[48, 49, 50, 51, 52, 53, 54, 55, 56, 57, 97, 98, 99, 100, 101, 102] }, bv (hexDg (nib l i))] w fun e w' => e = .returned (iv (nib l i : Nat)) ∧ w' = w := by
  have h := Tryd.strings_IndexByte { data := #[48, 49, 50, 51, 52, 53, 54, 55, 56, 57, 97, 98, 99, 100, 101, 102] } (hexDg (nib l i)).toNat w
  have e : Lib.indexByte ({ data := #[48, 49, 50, 51, 52, 53, 54, 55, 56, 57, 97, 98, 99, 100, 101, 102] } : ByteArray).data.toList (((hexDg (nib l i)).toNat : Int)).toNat.toUInt8 = (nib l i : Nat) := by
    have e2 : (((hexDg (nib l i)).toNat : Int)).toNat.toUInt8 = hexDg (nib l i) := by simp
    rw [e2]
    exact hex_index _ (nib_lt l i)
  rw [e] at h
  exact h
set_option maxHeartbeats 4000000 in
set_option maxRecDepth 100000 in
theorem read_hex (l : List UInt8) (hl : l.length = 32) (w : World) : Calls Tryd.prog 25 #[sv (hexF l)] w fun e w' => e = .returned (.tuple #[dgv l, .bool true]) ∧ Below w.heap.size w w' := by
  have hlen : (hexF l).length = 64 := by simp [hexF]
  have hidx := hid (fun k c hc => idx_str (P := Tryd.prog) 9 (by kernel_rfl) (hexF l) k c hc)
  have hat := hid (fun i h => hexF_at l i h)
  generalize hexF l = s at *
  have q0 : ((s.length : Int) != 64) = false := by rw [hlen]; rfl
  go_enter Tryd.func25, Tryd.ntmps25
  go_wp2_with fail
  go_loopw [13] (fun v wr => ∃ i : Nat, v = .int .i64 i ∧ i ≤ 64 ∧ Hid (DM w.heap.size (w.heap.size + 1) (rdK l i) w wr)) (fun i _ => 64 - (intOf i).toNat)
  case atStart =>
    refine ⟨0, rfl, Nat.zero_le _, hid ⟨⟨bcells 32 (fun _ => 0), heap_alloc_lt (heap_alloc_new' _ _), arr_size _ _⟩, ?_, ((Below.refl _ _).alloc (Nat.le_refl _) _).alloc (by simp) _, Nat.lt_succ_self _⟩⟩
    have := heap_alloc_new' (w.alloc (.cells (bcells 32 (fun _ => 0)) 48)) (.cells (bcells 32 (rdK l 0)) 48 (0, 0))
    have e : (w.alloc (.cells (bcells 32 (fun _ => 0)) 48)).heap.size = w.heap.size + 1 := by simp
    rw [e] at this
    exact this
  case round =>
    obtain ⟨i, rfl, hi, hG⟩ := hrel
    by_cases hlt : i < 64
    · have q1 : decide ((i : Int) < (s.length : Int)) = true := decide_eq_true (by omega)
      have q1' : decide (i < s.length) = true := decide_eq_true (by omega)
      have hxi := hidx.out i _ (hat.out i hlt)
      have hcall := hid (fun W => ibx l i W)
      have hm := nib_lt l i
      obtain ⟨m, hmd⟩ : ∃ m, m = nib l i := ⟨_, rfl⟩
      obtain ⟨p, hp⟩ : ∃ p, p = i / 2 := ⟨_, rfl⟩
      have c0 := hG.out.cell (k := p) (by omega)
      have f0 : wr.frozen? ⟨w.heap.size + 1, p, none⟩ = false := free_of hG.out.dg
      have e1 : (i : Int).tdiv 2 = (p : Int) := by rw [Int.tdiv_eq_ediv_of_nonneg (by omega)]; omega
      have l0 : (0 : Int) ≤ (p : Int) := by omega
      have l1 : (p : Int) < 32 := by omega
      have m0 : ¬ ((m : Int) < 0) := by omega
      have m1 : decide ((m : Int) < 0) = false := decide_eq_false m0
      rw [← hmd] at hxi hcall hm
      generalize hexDg m = hd at *
      obtain ⟨x, hx⟩ : ∃ x, x = rdK l i p := ⟨_, rfl⟩
      rw [← hx] at c0
      have hv : bits .or .u8 ((x.toNat : Int) * 16 % 256) (m : Int) = ((rdK l (i + 1) p).toNat : Int) := rd_or l i m p x hmd hp hx
      replace hmd := hid hmd
      replace hp := hid hp
      replace hx := hid hx
      replace hv := hid hv
      go_wp2_with fail
      refine (hcall.out _).mono ?_
      rintro e w1 ⟨rfl, rfl⟩
      go_wp2_with fail
      rw [hv.out]
      refine ⟨⟨i + 1, by go_num, by omega, hid ?_⟩, by simp [intOf]; omega⟩
      have hset := hG.out.set p (rdK l (i + 1) p)
      have hu := rdK_succ l i (rdK l (i + 1) p) (by rw [hp.out])
      rw [← hp.out] at hu
      rw [hu] at hset
      exact hset
    · have hi64 : i = 64 := by omega
      subst hi64
      have q1 : decide (((64 : Nat) : Int) < (s.length : Int)) = false := by rw [hlen]; rfl
      have hrow := hid hG.out.dg
      have hres := hid hG.out.res
      have hB := hid hG.out.bel
      clear hlt hi hidx hat hG
      have hfin : Hid (dgv l = .agg (bcells 32 (rdK l 64))) := hid (by
        unfold dgv
        congr 1
        apply Array.ext_getElem?
        intro j
        by_cases hj : j < 32
        · rw [bc_at l (by omega), arr_at _ hj]
          unfold rdK; rw [if_pos (by omega)]
        · rw [Array.getElem?_eq_none (by simp [Lib.byteCells_length, hl]; omega), Array.getElem?_eq_none (by rw [arr_size]; omega)])
      have hone := bcells_one 32 (rdK l 64)
      have hsz : (bcells 32 (rdK l 64)).size = 32 := arr_size _ _
      obtain ⟨cs, hr, hcs⟩ := hres.out
      clear hres
      generalize bcells 32 (rdK l 64) = cells at *
      replace hr := hid hr
      replace hcs := hid hcs
      replace hsz := hid hsz
      replace hone := hid hone
      go_wp2_with (first | (refine wpList_load_row rfl 48 (.tmp 4) rfl (w.heap.size + 1) rfl 48 _ (0, 0) _ hrow.out Tryd.underlying48 rfl (by rw [hsz.out]; kernel_rfl) ?_) | (refine wpList_store_row rfl 48 (.tmp 2) (.tmp 35) rfl w.heap.size cells rfl rfl 48 _ hr.out (by rw [hsz.out]; kernel_rfl) (by rw [hsz.out, hcs.out]) hone.out ?_))
      have hB2 := below_setRow hB.out (Nat.le_refl _) cells
      have hrow2 := setRow_heap _ _ _ cells _ _ hr.out
      refine bodyPost_ret (v := .tuple #[.agg cells, .bool true]) ?_ rfl ⟨by rw [hfin.out], hB2⟩
      have hld := run_loadVar_row (P := Tryd.prog) (wr.setRow w.heap.size cells) w.heap.size 48 48 cells (0, 0) _ hrow2 Tryd.underlying48 rfl (by rw [hsz.out]; kernel_rfl)
      simp [results, Tryd.results25, asAddr, hld]
end Go.Proofs.YtnbhpicmflagcaaDoor
