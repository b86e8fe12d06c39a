/- Chapter 01 (num): Text; the law's small example holds. -/
import Derived.Test.YteepjelfohakaaaDoorNumW2
import Derived.Test.YteepjelfohakaaaDoorShelf
import Derived.Lib.AppendIntMem
set_option linter.unusedVariables false
namespace Go.Proofs.YteepjelfohakaaaDoor
open Go.RowKit
open Go.Lib (hid itoa)
def Tab (w : World) : Prop := Lib.TabIs Tryd.prog w "internal/strconv.uint64pow10" .u64 Lib.pow10Tab
theorem Tab.below {w w' : World} (h : Tab w) (hb : Below w.heap.size w w') : Tab w' := Lib.tabBelow_of_tabIs h w' hb
theorem text_any (n : Int) (w : World) (h0 : -9223372036854775808 ≤ n) (h1 : n ≤ 9223372036854775807) (ht : Hid (Tab w)) :
    Calls Tryd.prog 23 #[iv n] w fun e w' => e = .returned (sv (itoa n)) ∧ Below w.heap.size w w' := by
  go_enter Tryd.func23, Tryd.ntmps23
  go_wp2_with fail
  refine (Tryd.strconv_Itoa n h0 h1 _ ht.out).mono ?_
  rintro e w' ⟨rfl, k, os, rfl⟩
  go_wp2_with fail
  go_ret
  exact ⟨rfl, Lib.below_grow _ _ (Nat.le_refl _) _ _⟩

set_option maxRecDepth 100000 in
set_option maxHeartbeats 2000000 in
theorem small_any (w : World) (ht : Hid (Tab w)) : Calls Tryd.prog 7 #[] w fun e w' => e = .returned (.bool true) ∧ Below w.heap.size w w' := by
  go_enter Tryd.func7, Tryd.ntmps7
  go_wp2_with fail
  refine (add_any 9007199254740991 1 _).mono ?_
  rintro e w1 ⟨rfl, rfl⟩
  rw [show add1 9007199254740991 1 = 9007199254740992 by decide, show add2 9007199254740991 1 = true by decide]
  go_wp2_with fail
  refine (add_any 9007199254740992 1 _).mono ?_
  rintro e w1 ⟨rfl, rfl⟩
  rw [show add2 9007199254740992 1 = false by decide]
  go_wp2_with fail
  refine (mul_any (-1073741824) 8388608 _).mono ?_
  rintro e w1 ⟨rfl, rfl⟩
  rw [show mul1 (-1073741824) 8388608 = -9007199254740992 by decide, show mul2 (-1073741824) 8388608 = true by decide]
  go_wp2_with fail
  refine (mul_any 1099511627776 1048576 _).mono ?_
  rintro e w1 ⟨rfl, rfl⟩
  rw [show mul2 1099511627776 1048576 = false by decide]
  go_wp2_with fail
  refine (div_any (-7) 2 _).mono ?_
  rintro e w1 ⟨rfl, rfl⟩
  rw [show div1 (-7) 2 = -3 by decide, show div2 (-7) 2 = true by decide]
  go_wp2_with fail
  refine (mod_any (-7) 2 _).mono ?_
  rintro e w1 ⟨rfl, rfl⟩
  rw [show mod1 (-7) 2 = -1 by decide, show div2 (-7) 2 = true by decide]
  go_wp2_with fail
  refine (div_any 1 0 _).mono ?_
  rintro e w1 ⟨rfl, rfl⟩
  rw [show div2 1 0 = false by decide]
  go_wp2_with fail
  refine (parse_any [45, 51, 48, 53] (-305) 9 _ (by decide)).mono ?_
  rintro e w1 ⟨rfl, hB⟩
  rw [show parse [45, 51, 48, 53] (-305) 9 = some (-305) by decide +kernel]
  go_wp2_with fail
  refine (parse_any [48, 48, 55] 0 9 _ (by decide)).mono ?_
  rintro e w2 ⟨rfl, hb⟩
  rw [show parse [48, 48, 55] 0 9 = none by decide +kernel]
  replace hB := hB.trans (hb.mono hB.size); clear hb
  go_wp2_with fail
  refine (neg_any 5 _).mono ?_
  rintro e w1 ⟨rfl, rfl⟩
  rw [show neg1 5 = -5 by decide, show rng 5 = true by decide]
  go_wp2_with fail
  refine (sub_any (-9007199254740992) 1 _).mono ?_
  rintro e w1 ⟨rfl, rfl⟩
  rw [show sub2 (-9007199254740992) 1 = false by decide]
  go_wp2_with fail
  refine (text_any (-305) _ (by decide) (by decide) (hid (ht.out.below hB))).mono ?_
  rintro e w3 ⟨rfl, hb⟩
  rw [show itoa (-305) = [45, 51, 48, 53] from by
    rw [show (-305 : Int) = -((305 : Nat) : Int) by decide, Lib.itoa_neg 305 (by decide)]
    rw [Lib.decDigits, dif_neg (by decide), Lib.decDigits, dif_neg (by decide), Lib.decDigits, dif_pos (by decide)]; rfl]
  replace hB := hB.trans (hb.mono hB.size); clear hb
  go_wp2_with fail
  refine (clamp_any 5 1 3 _).mono ?_
  rintro e w1 ⟨rfl, rfl⟩
  rw [show clampI 5 1 3 = 3 by decide]
  go_wp2_with fail
  refine (clamp_any 0 1 3 _).mono ?_
  rintro e w1 ⟨rfl, rfl⟩
  rw [show clampI 0 1 3 = 1 by decide]
  go_wp2_with fail
  go_ret
  exact ⟨rfl, hB⟩
end Go.Proofs.YteepjelfohakaaaDoor
