/- Chapter 01 (num): Text; the law's small example holds. -/
import Derived.Test.YtbkdakbhagjkhaaGreatDoorLexW4
import Derived.Test.YtbkdakbhagjkhaaGreatDoorShelf
import Derived.Lib.AppendIntMem
set_option linter.unusedVariables false
namespace Go.Proofs.YtbkdakbhagjkhaaGreatDoor
open Go.RowKit
open Go.Lib (hid itoa)
def Tab (w : World) : Prop := Lib.TabIs Tryz.prog w "internal/strconv.uint64pow10" .u64 Lib.pow10Tab
theorem Tab.below {w w' : World} (h : Tab w) (hb : Below w.heap.size w w') : Tab w':=Lib.tabBelow_of_tabIs h w' hb
theorem text_any (n : Int) (w : World) (h0 : -9223372036854775808 ≤ n) (h1 : n ≤ 9223372036854775807) (ht : Hid (Tab w)) :
  Calls Tryz.prog 14 #[iv n] w fun e w'=>e = .returned (sv (itoa n)) ∧ Below w.heap.size w w':=by
 go_enter Tryz.func14,Tryz.ntmps14
 go_wp2_with fail
 refine (Tryz.strconv_Itoa n h0 h1 _ ht.out).mono ?_; rintro e w' ⟨rfl,k,os,rfl⟩
 go_wp2_with fail
 go_ret; exact ⟨rfl,Lib.below_grow _ _ (Nat.le_refl _) _ _⟩

end Go.Proofs.YtbkdakbhagjkhaaGreatDoor
