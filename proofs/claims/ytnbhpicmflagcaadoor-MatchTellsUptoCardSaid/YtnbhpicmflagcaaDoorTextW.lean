/- Chapter 02 (code): walks: the reference's Int, both Texts, the encodings of lists. -/
import Derived.Test.YtnbhpicmflagcaaDoorCodeW2
import Derived.Test.YtnbhpicmflagcaaDoorStr
set_option linter.unusedVariables false
namespace Go.Proofs.YtnbhpicmflagcaaDoor
open Go.RowKit
open Go.Lib (hid IsBuilder byteCells)

theorem rint_any (n : Int) (w : World) :
    Calls Tryd.prog 37 #[.int .i64 n] w fun e w' => e = .returned (.string ⟨(ienc n).toArray⟩) ∧ Below w.heap.size w w' := by
  by_cases h1 : n < -1152921504606846976
  · have hv : ienc n = [] := by simp [ienc, inR]; omega
    rw [hv]
    go_enter Tryd.func37, Tryd.ntmps37
    go_wp2
    go_ret
    exact ⟨rfl, Below.refl _ _⟩
  by_cases h2 : 1152921504606846976 < n
  · have hv : ienc n = [] := by simp [ienc, inR]; omega
    rw [hv]
    go_enter Tryd.func37, Tryd.ntmps37
    go_wp2
    go_ret
    exact ⟨rfl, Below.refl _ _⟩
  by_cases h3 : n < 0
  · have hv : ienc n = venc (-2 * n - 1).toNat := by
      unfold ienc zig inR
      rw [if_pos h3, if_pos (by simp; omega)]
    rw [hv]
    go_enter Tryd.func37, Tryd.ntmps37
    go_wp2_with (go_at_call 38; refine (rnum_pos _ _ (by omega) (by omega)).mono ?_; rintro e w' ⟨rfl, hb⟩)
    go_ret
    exact ⟨by simp, hb⟩
  · have hv : ienc n = venc (2 * n).toNat := by
      unfold ienc zig inR
      rw [if_neg h3, if_pos (by simp; omega)]
    rw [hv]
    go_enter Tryd.func37, Tryd.ntmps37
    go_wp2_with (go_at_call 38; refine (rnum_pos _ _ (by omega) (by omega)).mono ?_; rintro e w' ⟨rfl, hb⟩)
    go_ret
    exact ⟨by simp, hb⟩

theorem text_any (s : List UInt8) (w : World) (hs : s.length ≤ 140737488355328) :
    Calls Tryd.prog 29 #[.string ⟨s.toArray⟩] w fun e w' => e = .returned (.string ⟨(tenc s).toArray⟩) ∧ Below w.heap.size w w' := by
  have hb2 := (venc_bound s.length (by omega)).2
  go_enter Tryd.func29, Tryd.ntmps29
  go_wp2_with (go_at_call 31; refine (num_pos _ _ (by omega) (by omega)).mono ?_; rw [Int.toNat_natCast]; rintro e w' ⟨rfl, hb⟩)
  go_ret
  exact ⟨by simp [tenc, ByteArray.mk_append_mk], hb⟩
theorem rtext_any (s : List UInt8) (w : World) (hs : s.length ≤ 140737488355328) :
    Calls Tryd.prog 36 #[.string ⟨s.toArray⟩] w fun e w' => e = .returned (.string ⟨(tenc s).toArray⟩) ∧ Below w.heap.size w w' := by
  have hb2 := (venc_bound s.length (by omega)).2
  go_enter Tryd.func36, Tryd.ntmps36
  go_wp2_with (go_at_call 38; refine (rnum_pos _ _ (by omega) (by omega)).mono ?_; rw [Int.toNat_natCast]; rintro e w' ⟨rfl, hb⟩)
  go_ret
  exact ⟨by simp [tenc, ByteArray.mk_append_mk], hb⟩

end Go.Proofs.YtnbhpicmflagcaaDoor
