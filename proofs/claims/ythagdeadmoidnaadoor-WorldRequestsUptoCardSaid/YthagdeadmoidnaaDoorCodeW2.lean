/- Chapter 02 (code): walks: the reference's Num; Int and Text of both. -/
import Derived.Test.YthagdeadmoidnaaDoorCodeW1
set_option linter.unusedVariables false
namespace Go.Proofs.YthagdeadmoidnaaDoor
open Go.RowKit
open Go.Lib (hid IsBuilder byteCells)

theorem byte_of (q : Int) (h0 : 0 ≤ q) (h : q < 256) : ∃ c : UInt8, q = c.toNat ∧ c = UInt8.ofNat q.toNat := ⟨UInt8.ofNat q.toNat, by simp; omega, rfl⟩

theorem int_any (n : Int) (w : World) :
    Calls Tryd.prog 25 #[.int .i64 n] w fun e w' => e = .returned (.string ⟨(ienc n).toArray⟩) ∧ Below w.heap.size w w' := by
  by_cases h1 : n < -1152921504606846976
  · have hv : ienc n = [] := by simp [ienc, inR]; omega
    rw [hv]
    go_enter Tryd.func25, Tryd.ntmps25
    go_wp2
    go_ret
    exact ⟨rfl, Below.refl _ _⟩
  by_cases h2 : 1152921504606846976 < n
  · have hv : ienc n = [] := by simp [ienc, inR]; omega
    rw [hv]
    go_enter Tryd.func25, Tryd.ntmps25
    go_wp2
    go_ret
    exact ⟨rfl, Below.refl _ _⟩
  by_cases h3 : n < 0
  · have hv : ienc n = venc (-2 * n - 1).toNat := by
      unfold ienc zig inR
      rw [if_pos h3, if_pos (by simp; omega)]
    rw [hv]
    go_enter Tryd.func25, Tryd.ntmps25
    go_wp2_with (go_at_call 26; refine (num_pos _ _ (by omega) (by omega)).mono ?_; rintro e w' ⟨rfl, hb⟩)
    go_ret
    exact ⟨by simp, hb⟩
  · have hv : ienc n = venc (2 * n).toNat := by
      unfold ienc zig inR
      rw [if_neg h3, if_pos (by simp; omega)]
    rw [hv]
    go_enter Tryd.func25, Tryd.ntmps25
    go_wp2_with (go_at_call 26; refine (num_pos _ _ (by omega) (by omega)).mono ?_; rintro e w' ⟨rfl, hb⟩)
    go_ret
    exact ⟨by simp, hb⟩
end Go.Proofs.YthagdeadmoidnaaDoor
