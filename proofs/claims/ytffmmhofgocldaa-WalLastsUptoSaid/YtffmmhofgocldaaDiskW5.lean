/- Chapter 05 (disk): walks: kept. -/
import Derived.Test.YtffmmhofgocldaaDiskW4
set_option linter.unusedVariables false
namespace Go.Proofs.Ytffmmhofgocldaa
open Go.RowKit
open Go.Lib (hid)
def keptK (l : List Int) (k : Nat) : Nat → Nat := fun f => if f < k then keptF l f else 0
theorem kCells_congr {g h : Nat → Nat} (e : ∀ f, f < 8 → g f = h f) : kCells g = kCells h := by simp [kCells, e]
theorem kCells_upd (g : Nat → Nat) (n : Nat) : ∀ k, k < 8 → (kCells g).setIfInBounds k (iv n) = kCells (upd g k n) := lt8 rfl rfl rfl rfl rfl rfl rfl rfl
theorem kCells_set (l : List Int) (k : Nat) (x : Int) (hk : k < 8) (hx : x = ((keptF l k : Nat) : Int)) : (kCells (keptK l k)).setIfInBounds k (iv x) = kCells (keptK l (k + 1)) := by
  rw [hx, kCells_upd _ _ k hk]
  refine kCells_congr fun f hf => ?_
  unfold upd keptK
  by_cases e : f = k
  · subst e; rw [if_pos rfl, if_pos (by omega)]
  · rw [if_neg e]
    by_cases e2 : f < k
    · rw [if_pos e2, if_pos (by omega)]
    · rw [if_neg e2, if_neg (by omega)]
theorem keptK_end (l : List Int) (k : Nat) (h : k = 8 ∨ k = l.length ∧ l.length ≤ 8) : kCells (keptK l k) = kCells (keptF l) := by
  refine kCells_congr fun f hf => ?_
  unfold keptK
  split
  · rfl
  · have : l.length ≤ f := by omega
    simp [keptF, List.getD, this]
set_option maxRecDepth 100000 in
set_option maxHeartbeats 2000000 in
theorem kept_any (l : List Int) (v : Value) (w : World) (hv : Row w.heap.size w 1 v l.length (l.map iv)) (hl : l.length ≤ 140737488355328) : Calls Try.prog 41 #[v] w fun e w' => e = .returned (.agg (kCells (keptF l))) ∧ Below w.heap.size w w' := by
  obtain ⟨a, cap, g, off, rfl, h1, h2, h3⟩ := hv
  replace h3 := hid h3
  by_cases h8 : l.length ≤ 8
  · go_enter Try.func41, Try.ntmps41
    go_wp2
    go_loopw [8] (fun i wr => ∃ k : Nat, i = .int .i64 k ∧ k ≤ l.length ∧ wr = (w.alloc (.cells (kCells fun _ => 0) 61)).alloc (.cells (kCells (keptK l k)) 61)) (fun i _ => 8 - (intOf i).toNat)
    case atStart => exact ⟨0, rfl, Nat.zero_le _, rfl⟩
    case round =>
      obtain ⟨k, rfl, hk, rfl⟩ := hrel
      by_cases hlt : k < l.length
      · have hk8 : (k : Int) < 8 := by omega
        have hkl : k < l.length := by omega
        obtain ⟨x, hx⟩ : ∃ x, l[k]? = some x := ⟨_, List.getElem?_eq_getElem hkl⟩
        have hidx := fun kd W => row_idx1 (P := Try.prog) (t := 47) (by kernel_rfl) (fun _ => by kernel_rfl) (h2 (by omega)).1 l.length cap k hkl kd W
        have hgl := (h2 (by omega)).2
        have hcell : w.cell? ⟨g, off + k, none⟩ = some (iv x) := by
          rw [h3.out k (by rw [List.length_map]; exact hkl)]
          obtain ⟨_, e⟩ := List.getElem?_eq_some_iff.1 hx
          simp [e]
        have hkx : keptF l k = x.toNat := by unfold keptF; simp [List.getD, hx]
        have hat := kCells_at (keptK l k) k (by omega)
        by_cases h0 : 0 ≤ x
        · have hset := kCells_set l k x (by omega) (by rw [hkx]; omega)
          clear hx hkx
          go_wp2
          go_roundw
          case rel => exact ⟨k + 1, by go_num, by omega, rfl⟩
          case measure => simp [intOf]; omega
        · have hset := kCells_set l k 0 (by omega) (by rw [hkx]; omega)
          clear hx hkx
          go_wp2
          go_roundw
          case rel => exact ⟨k + 1, by go_num, by omega, rfl⟩
          case measure => simp [intOf]; omega
      · have hkN : k = l.length := by omega
        subst hkN
        rw [keptK_end l l.length (Or.inr ⟨rfl, by omega⟩)]
        unfold kCells
        go_wp2
        exact bodyPost_ret (v := .agg (kCells (keptF l))) (by simp [results, Try.results41, go_sem, kCells]) rfl ⟨rfl, ((Below.refl _ _).alloc (Nat.le_refl _) _).alloc (by simp) _⟩
  · have h8' : 8 < l.length := by omega
    clear h8
    go_enter Try.func41, Try.ntmps41
    go_wp2
    go_loopw [8] (fun i wr => ∃ k : Nat, i = .int .i64 k ∧ k ≤ 8 ∧ wr = (w.alloc (.cells (kCells fun _ => 0) 61)).alloc (.cells (kCells (keptK l k)) 61)) (fun i _ => 8 - (intOf i).toNat)
    case atStart => exact ⟨0, rfl, Nat.zero_le _, rfl⟩
    case round =>
      obtain ⟨k, rfl, hk, rfl⟩ := hrel
      by_cases hlt : k < 8
      · have hk8 : (k : Int) < 8 := by omega
        have hkl : k < l.length := by omega
        obtain ⟨x, hx⟩ : ∃ x, l[k]? = some x := ⟨_, List.getElem?_eq_getElem hkl⟩
        have hidx := fun kd W => row_idx1 (P := Try.prog) (t := 47) (by kernel_rfl) (fun _ => by kernel_rfl) (h2 (by omega)).1 l.length cap k hkl kd W
        have hgl := (h2 (by omega)).2
        have hcell : w.cell? ⟨g, off + k, none⟩ = some (iv x) := by
          rw [h3.out k (by rw [List.length_map]; exact hkl)]
          obtain ⟨_, e⟩ := List.getElem?_eq_some_iff.1 hx
          simp [e]
        have hkx : keptF l k = x.toNat := by unfold keptF; simp [List.getD, hx]
        have hat := kCells_at (keptK l k) k (by omega)
        by_cases h0 : 0 ≤ x
        · have hset := kCells_set l k x (by omega) (by rw [hkx]; omega)
          clear hx hkx
          go_wp2
          go_roundw
          case rel => exact ⟨k + 1, by go_num, by omega, rfl⟩
          case measure => simp [intOf]; omega
        · have hset := kCells_set l k 0 (by omega) (by rw [hkx]; omega)
          clear hx hkx
          go_wp2
          go_roundw
          case rel => exact ⟨k + 1, by go_num, by omega, rfl⟩
          case measure => simp [intOf]; omega
      · have hkN : k = 8 := by omega
        subst hkN
        rw [keptK_end l 8 (Or.inl rfl)]
        unfold kCells
        go_wp2
        exact bodyPost_ret (v := .agg (kCells (keptF l))) (by simp [results, Try.results41, go_sem, kCells]) rfl ⟨rfl, ((Below.refl _ _).alloc (Nat.le_refl _) _).alloc (by simp) _⟩

set_option maxRecDepth 100000 in
theorem crash_any (F : Nat → Prop) (b : Nat) (d : DS) (l : List Int) (v : Value) (w : World) (h : DkD F b d w) (hv : Row w.heap.size w 1 v l.length (l.map iv)) (hl : l.length ≤ 140737488355328) (hx : ∀ x ∈ l, x ≤ 9223372036854775807) : Calls Try.prog 26 #[pt b, v] w (DPD F b w (.tuple #[]) (dCrash l d)) := by
  have h0 := h
  obtain ⟨ho, vs, hdv, hF⟩ := h
  have c16 := hdv.cell 16
  rw [show (dCells vs d).toArray[16]? = some (.bool d.down) from rfl] at c16
  have hFk := hid (fun k hk => hdv.foot_lt (k := k) hk)
  obtain ⟨a, cap, g, off, rfl, h1, h2, h3⟩ := hv
  have hv' := hid (show Row w.heap.size w 1 (.slice a l.length cap) l.length (l.map iv) from ⟨a, cap, g, off, rfl, h1, h2, h3⟩)
  replace hx := hid hx
  clear hdv h3 h2
  cases hd : d.down with
  | true =>
    have e2 := hid (show dCrash l d = d by unfold dCrash; rw [hd]; rfl)
    rw [hd] at c16
    replace h0 := hid h0
    clear hd
    go_enter Try.func26, Try.ntmps26
    go_wp2_with fail
    go_end0
    rw [e2.out]
    exact DP.same h0.out
  | false =>
    have e2 := hid (show dCrash l d = dFall (keptF l) d by unfold dCrash; rw [hd]; rfl)
    rw [hd] at c16
    replace h0 := hid h0
    replace hF := hid hF
    clear hd
    go_enter Try.func26, Try.ntmps26
    go_wp2_with fail
    refine (kept_any l _ _ hv'.out hl).mono ?_
    rintro e w1 ⟨rfl, hb⟩
    have hf1 : Fr (fun _ => False) w w1 := Fr.of_below hb _
    have h1 := hid (h0.out.fr hf1 (fun _ _ h => h))
    replace hf1 := hid (hf1.mono (T := F) (fun _ _ h => h.elim))
    clear hb
    go_wp2_with fail
    refine (fall_any F b d (keptF l) _ h1.out (fun f _ => keptF_le hx.out f)).mono ?_
    rintro e w2 ⟨rfl, F2, h2, f2, g2⟩
    go_wp2_with fail
    go_end0
    rw [e2.out]
    exact DP.then hf1.out (fun _ h => Or.inl h) ⟨rfl, F2, h2, f2, g2⟩
end Go.Proofs.Ytffmmhofgocldaa
