/- slices.Delete at effects: one element. -/
import Derived.Test.YthagdeadmoidnaaDoorNetF
import Derived.Test.YthagdeadmoidnaaDoorDel
import Derived.Deep.RegionLaw
set_option linter.unusedVariables false
namespace Go.Proofs.YthagdeadmoidnaaDoor
open Go.RowKit
open Go.Lib (hid)
theorem OwnR.form {α : Type} {E : TypeId} {sz : Nat} {R : Rel α} {S : Foot} {w : World} {l : List α} {v : Value} (h : OwnR E sz R S w l v) (hl : 0 < l.length) : ∃ g cap, v = .slice (some ⟨g, 0, none⟩) l.length cap ∧ S g ∧ g < w.heap.size ∧ l.length ≤ cap ∧ cap ≤ maxLen := by
  obtain ⟨xs, h1, h2, h3⟩ := h
  rcases h1.2 with ⟨rfl, e⟩ | ⟨g, cap, cur, rfl, _, hg, hnc, hcm, _⟩
  · omega
  · exact ⟨g, cap, rfl, h2 g rfl, lt_of_some hg, hnc, hcm⟩
theorem OwnR.drew {α : Type} {E : TypeId} {sz : Nat} {R : Rel α} {S : Foot} {w : World} {l : List α} {v : Value} (hR : Good sz R) (h : OwnR E sz R S w l v) : OwnR E sz R S w.drew l v := h.move hR fun k hk hs => ⟨hs, rfl⟩
set_option maxHeartbeats 2000000 in
set_option maxRecDepth 100000 in
theorem deleteOut_any (l : List Out) (hl : l.length ≤ 1048576) (k : Nat) (hk : k < l.length) (S : Foot) (v : Value) (w : World) (hr : OwnR 40 5 OutR S w l v) :
    Calls Tryd.prog 58 #[v, iv k, iv ((k : Int) + 1)] w fun e w' => ∃ v', e = .returned v' ∧ OwnR 40 5 OutR S w' (l.eraseIdx k) v' ∧ Fr S w w' := by
  obtain ⟨g, cap, rfl, hS, hg, hcap, hcm⟩ := hr.form (by omega)
  unfold maxLen at hcm
  obtain ⟨i0, hi, hz0, hz1, hz2⟩ := info_parts infoOut
  have hkI : (k : Int) < l.length := by omega
  have hne : ((k : Int) == (k : Int) + 1) = false := by simp; omega
  obtain ⟨n, hn⟩ : ∃ n, l.length = n + 1 := ⟨l.length - 1, by omega⟩
  have hkn : k ≤ n := by omega
  rcases (by omega : cap = k + 1 ∨ k + 1 < cap) with hc | hc
  · obtain ⟨W1, W2, h1, h2, h3, h4⟩ := delete_own goodOut (t := 32) (ty := 32) (ty2 := 0) (z := .agg #[.string .empty, .string .empty, .slice none 0 0, .bool false, .int .i64 0]) (by kernel_rfl) hi hz1 (fun _ => by kernel_rfl) rfl (by intro u hu; simp [Value.cells] at hu; rcases hu with rfl | rfl | rfl | rfl | rfl <;> rfl) (hr.drew goodOut) hk (by decide) ⟨g, 0, none⟩ (fun h => by omega)
    obtain rfl : k = n := by omega
    subst hc
    rw [hn] at h1 h2 h3 hcap hkI ⊢
    rw [Nat.sub_self, Nat.add_sub_cancel] at h1
    rw [Nat.add_sub_cancel, Nat.add_sub_cancel_left] at h2
    rw [Nat.add_sub_cancel] at h3
    have hf : Fr S w W2 := (Fr.refl S w).drew.trans (h4.mono (fun q _ hq => by rw [hq]; exact hS))
    replace h3 := hid h3
    have k1 : k ≤ k + 1 := by omega
    have k3 : (k : Int) ≤ (k : Int) + 1 := by omega
    have k5 : (0 : Int) ≤ (k : Int) + 1 := by omega
    have k9 : ¬ k + 1 = k := by omega
    clear hr h4 hi hz0 hz1 hz2
    go_enter Tryd.func58, Tryd.ntmps58
    go_wp2_with fail
    go_region_law (refine step_append_shut (by rfl) (.tmp 22) (.tmp 25) (by rfl) (by rfl) (by rfl) h1 ?_)
    go_wp2_with fail
    go_ret
    exact ⟨_, rfl, h3.out, hf⟩
  · obtain ⟨W1, W2, h1, h2, h3, h4⟩ := delete_own goodOut (t := 32) (ty := 32) (ty2 := 0) (z := .agg #[.string .empty, .string .empty, .slice none 0 0, .bool false, .int .i64 0]) (by kernel_rfl) hi hz1 (fun _ => by kernel_rfl) rfl (by intro u hu; simp [Value.cells] at hu; rcases hu with rfl | rfl | rfl | rfl | rfl <;> rfl) (hr.drew goodOut) hk (by decide) ⟨g, (k + 1) * 5, none⟩ (fun h => rfl)
    rw [hn] at h1 h2 h3 hcap hkI ⊢
    rw [show n + 1 - (k + 1) = n - k by omega, Nat.add_sub_cancel] at h1
    rw [Nat.add_sub_cancel] at h2 h3
    have k5 : (0 : Int) ≤ (k : Int) + 1 := by omega
    have k6 : ¬ cap = k + 1 := by omega
    have k7 : n + 1 ≤ cap := hcap
    have k8 : n ≤ cap := by omega
    have k9 : ¬ cap = n := by omega
    have hf : Fr S w W2 := (Fr.refl S w).drew.trans (h4.mono (fun q _ hq => by rw [hq]; exact hS))
    replace h3 := hid h3
    have k1 : k ≤ cap := by omega
    have k2 : k + 1 ≤ n + 1 := by omega
    have k3 : (k : Int) ≤ (cap : Int) := by omega
    have k4 : (k : Int) + 1 ≤ (n : Int) + 1 := by omega
    clear hr h4 hi hz0 hz1 hz2
    go_enter Tryd.func58, Tryd.ntmps58
    go_wp2_with fail
    go_region_law (refine step_append_shut (by rfl) (.tmp 22) (.tmp 25) (by rfl) (by rfl) (by rfl) h1 ?_)
    go_wp2_with fail
    go_ret
    exact ⟨_, rfl, h3.out, hf⟩
end Go.Proofs.YthagdeadmoidnaaDoor
