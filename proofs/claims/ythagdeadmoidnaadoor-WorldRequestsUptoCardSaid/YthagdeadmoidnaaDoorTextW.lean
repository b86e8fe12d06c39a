/- Chapter 02 (code): walks: the reference's Int, both Texts, the encodings of lists. -/
import Derived.Test.YthagdeadmoidnaaDoorCodeW2
import Derived.Test.YthagdeadmoidnaaDoorStr
set_option linter.unusedVariables false
namespace Go.Proofs.YthagdeadmoidnaaDoor
open Go.RowKit
open Go.Lib (hid IsBuilder byteCells)

theorem text_any (s : List UInt8) (w : World) (hs : s.length ≤ 140737488355328) :
    Calls Tryd.prog 24 #[.string ⟨s.toArray⟩] w fun e w' => e = .returned (.string ⟨(tenc s).toArray⟩) ∧ Below w.heap.size w w' := by
  have hb2 := (venc_bound s.length (by omega)).2
  go_enter Tryd.func24, Tryd.ntmps24
  go_wp2_with (go_at_call 26; refine (num_pos _ _ (by omega) (by omega)).mono ?_; rw [Int.toNat_natCast]; rintro e w' ⟨rfl, hb⟩)
  go_ret
  exact ⟨by simp [tenc, ByteArray.mk_append_mk], hb⟩
end Go.Proofs.YthagdeadmoidnaaDoor
