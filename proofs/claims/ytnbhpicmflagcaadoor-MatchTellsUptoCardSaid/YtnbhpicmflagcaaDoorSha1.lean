/- sum.Sha: words; RotateLeft32. -/
import Derived.Test.YtnbhpicmflagcaaDoorU32
import Derived.Test.YtnbhpicmflagcaaDoorRel
set_option linter.unusedVariables false
namespace Go.Proofs.YtnbhpicmflagcaaDoor
open Go.RowKit
open Go.Lib (hid)
/-- a rotated to the right by k -/
def rotW (a : UInt32) (k : Nat) : UInt32 := oW (mulW a (2 ^ (32 - k))) (divW a (2 ^ k))
theorem rot7 (x : UInt32) (w : World) : Calls Tryd.prog 65 #[wv x, .int .i64 (-7)] w fun e w' => e = .returned (wv (rotW x 7)) ∧ w = w' := by
  have hs : bits BinOp.and IntKind.u64 (IntKind.u64.wrap (-7)) 31 = 25 := by decide +kernel
  have hm : (x.toNat : Int) * 33554432 % 4294967296 = ((mulW x 33554432).toNat : Int) := umul32 x 33554432
  have hd : (x.toNat : Int) / 128 = ((divW x 128).toNat : Int) := udiv32 x 128
  have ho := uo32 (mulW x 33554432) (divW x 128)
  have hr : rotW x 7 = oW (mulW x 33554432) (divW x 128) := rfl
  rw [hr]
  clear hr
  go_enter Tryd.func65, Tryd.ntmps65
  go_wp2_with fail
  go_ret
  exact ⟨rfl, rfl⟩
theorem rot18 (x : UInt32) (w : World) : Calls Tryd.prog 65 #[wv x, .int .i64 (-18)] w fun e w' => e = .returned (wv (rotW x 18)) ∧ w = w' := by
  have hs : bits BinOp.and IntKind.u64 (IntKind.u64.wrap (-18)) 31 = 14 := by decide +kernel
  have hm : (x.toNat : Int) * 16384 % 4294967296 = ((mulW x 16384).toNat : Int) := umul32 x 16384
  have hd : (x.toNat : Int) / 262144 = ((divW x 262144).toNat : Int) := udiv32 x 262144
  have ho := uo32 (mulW x 16384) (divW x 262144)
  have hr : rotW x 18 = oW (mulW x 16384) (divW x 262144) := rfl
  rw [hr]
  clear hr
  go_enter Tryd.func65, Tryd.ntmps65
  go_wp2_with fail
  go_ret
  exact ⟨rfl, rfl⟩
theorem rot17 (x : UInt32) (w : World) : Calls Tryd.prog 65 #[wv x, .int .i64 (-17)] w fun e w' => e = .returned (wv (rotW x 17)) ∧ w = w' := by
  have hs : bits BinOp.and IntKind.u64 (IntKind.u64.wrap (-17)) 31 = 15 := by decide +kernel
  have hm : (x.toNat : Int) * 32768 % 4294967296 = ((mulW x 32768).toNat : Int) := umul32 x 32768
  have hd : (x.toNat : Int) / 131072 = ((divW x 131072).toNat : Int) := udiv32 x 131072
  have ho := uo32 (mulW x 32768) (divW x 131072)
  have hr : rotW x 17 = oW (mulW x 32768) (divW x 131072) := rfl
  rw [hr]
  clear hr
  go_enter Tryd.func65, Tryd.ntmps65
  go_wp2_with fail
  go_ret
  exact ⟨rfl, rfl⟩
theorem rot19 (x : UInt32) (w : World) : Calls Tryd.prog 65 #[wv x, .int .i64 (-19)] w fun e w' => e = .returned (wv (rotW x 19)) ∧ w = w' := by
  have hs : bits BinOp.and IntKind.u64 (IntKind.u64.wrap (-19)) 31 = 13 := by decide +kernel
  have hm : (x.toNat : Int) * 8192 % 4294967296 = ((mulW x 8192).toNat : Int) := umul32 x 8192
  have hd : (x.toNat : Int) / 524288 = ((divW x 524288).toNat : Int) := udiv32 x 524288
  have ho := uo32 (mulW x 8192) (divW x 524288)
  have hr : rotW x 19 = oW (mulW x 8192) (divW x 524288) := rfl
  rw [hr]
  clear hr
  go_enter Tryd.func65, Tryd.ntmps65
  go_wp2_with fail
  go_ret
  exact ⟨rfl, rfl⟩
theorem rot6 (x : UInt32) (w : World) : Calls Tryd.prog 65 #[wv x, .int .i64 (-6)] w fun e w' => e = .returned (wv (rotW x 6)) ∧ w = w' := by
  have hs : bits BinOp.and IntKind.u64 (IntKind.u64.wrap (-6)) 31 = 26 := by decide +kernel
  have hm : (x.toNat : Int) * 67108864 % 4294967296 = ((mulW x 67108864).toNat : Int) := umul32 x 67108864
  have hd : (x.toNat : Int) / 64 = ((divW x 64).toNat : Int) := udiv32 x 64
  have ho := uo32 (mulW x 67108864) (divW x 64)
  have hr : rotW x 6 = oW (mulW x 67108864) (divW x 64) := rfl
  rw [hr]
  clear hr
  go_enter Tryd.func65, Tryd.ntmps65
  go_wp2_with fail
  go_ret
  exact ⟨rfl, rfl⟩
theorem rot11 (x : UInt32) (w : World) : Calls Tryd.prog 65 #[wv x, .int .i64 (-11)] w fun e w' => e = .returned (wv (rotW x 11)) ∧ w = w' := by
  have hs : bits BinOp.and IntKind.u64 (IntKind.u64.wrap (-11)) 31 = 21 := by decide +kernel
  have hm : (x.toNat : Int) * 2097152 % 4294967296 = ((mulW x 2097152).toNat : Int) := umul32 x 2097152
  have hd : (x.toNat : Int) / 2048 = ((divW x 2048).toNat : Int) := udiv32 x 2048
  have ho := uo32 (mulW x 2097152) (divW x 2048)
  have hr : rotW x 11 = oW (mulW x 2097152) (divW x 2048) := rfl
  rw [hr]
  clear hr
  go_enter Tryd.func65, Tryd.ntmps65
  go_wp2_with fail
  go_ret
  exact ⟨rfl, rfl⟩
theorem rot25 (x : UInt32) (w : World) : Calls Tryd.prog 65 #[wv x, .int .i64 (-25)] w fun e w' => e = .returned (wv (rotW x 25)) ∧ w = w' := by
  have hs : bits BinOp.and IntKind.u64 (IntKind.u64.wrap (-25)) 31 = 7 := by decide +kernel
  have hm : (x.toNat : Int) * 128 % 4294967296 = ((mulW x 128).toNat : Int) := umul32 x 128
  have hd : (x.toNat : Int) / 33554432 = ((divW x 33554432).toNat : Int) := udiv32 x 33554432
  have ho := uo32 (mulW x 128) (divW x 33554432)
  have hr : rotW x 25 = oW (mulW x 128) (divW x 33554432) := rfl
  rw [hr]
  clear hr
  go_enter Tryd.func65, Tryd.ntmps65
  go_wp2_with fail
  go_ret
  exact ⟨rfl, rfl⟩
theorem rot2 (x : UInt32) (w : World) : Calls Tryd.prog 65 #[wv x, .int .i64 (-2)] w fun e w' => e = .returned (wv (rotW x 2)) ∧ w = w' := by
  have hs : bits BinOp.and IntKind.u64 (IntKind.u64.wrap (-2)) 31 = 30 := by decide +kernel
  have hm : (x.toNat : Int) * 1073741824 % 4294967296 = ((mulW x 1073741824).toNat : Int) := umul32 x 1073741824
  have hd : (x.toNat : Int) / 4 = ((divW x 4).toNat : Int) := udiv32 x 4
  have ho := uo32 (mulW x 1073741824) (divW x 4)
  have hr : rotW x 2 = oW (mulW x 1073741824) (divW x 4) := rfl
  rw [hr]
  clear hr
  go_enter Tryd.func65, Tryd.ntmps65
  go_wp2_with fail
  go_ret
  exact ⟨rfl, rfl⟩
theorem rot13 (x : UInt32) (w : World) : Calls Tryd.prog 65 #[wv x, .int .i64 (-13)] w fun e w' => e = .returned (wv (rotW x 13)) ∧ w = w' := by
  have hs : bits BinOp.and IntKind.u64 (IntKind.u64.wrap (-13)) 31 = 19 := by decide +kernel
  have hm : (x.toNat : Int) * 524288 % 4294967296 = ((mulW x 524288).toNat : Int) := umul32 x 524288
  have hd : (x.toNat : Int) / 8192 = ((divW x 8192).toNat : Int) := udiv32 x 8192
  have ho := uo32 (mulW x 524288) (divW x 8192)
  have hr : rotW x 13 = oW (mulW x 524288) (divW x 8192) := rfl
  rw [hr]
  clear hr
  go_enter Tryd.func65, Tryd.ntmps65
  go_wp2_with fail
  go_ret
  exact ⟨rfl, rfl⟩
theorem rot22 (x : UInt32) (w : World) : Calls Tryd.prog 65 #[wv x, .int .i64 (-22)] w fun e w' => e = .returned (wv (rotW x 22)) ∧ w = w' := by
  have hs : bits BinOp.and IntKind.u64 (IntKind.u64.wrap (-22)) 31 = 10 := by decide +kernel
  have hm : (x.toNat : Int) * 1024 % 4294967296 = ((mulW x 1024).toNat : Int) := umul32 x 1024
  have hd : (x.toNat : Int) / 4194304 = ((divW x 4194304).toNat : Int) := udiv32 x 4194304
  have ho := uo32 (mulW x 1024) (divW x 4194304)
  have hr : rotW x 22 = oW (mulW x 1024) (divW x 4194304) := rfl
  rw [hr]
  clear hr
  go_enter Tryd.func65, Tryd.ntmps65
  go_wp2_with fail
  go_ret
  exact ⟨rfl, rfl⟩
end Go.Proofs.YtnbhpicmflagcaaDoor
