/- ask: the table of powers of ten, out of what is laid. -/
import Derived.Test.YtbkdakbhagjkhaaDoorLexT
import Derived.Test.YtbkdakbhagjkhaaDoorLaid
import Derived.Test.YtbkdakbhagjkhaaDoorRows
set_option linter.unusedVariables false
namespace Go.Proofs.YtbkdakbhagjkhaaDoor
open Go.ChangeShapes Go.WideShapes Go.ChangeAt Go.RowKit
theorem tab_of_laid {W : World} (h : laidMetH Tryd.prog Rows.askBlanksRow.laid W) : Tab W:=by
 rw [MakeChecks.laidMetH_plain _ _ _ (by kernel_rfl)] at h; have h2:=laidMet_tail (laidMet_tail h); exact Lib.tabIs_of_head (g:=0) (t:=145) (e:=138) (n:=20) (rest:=[]) (by kernel_rfl) (by kernel_rfl) (by kernel_rfl) (by kernel_rfl) (by kernel_rfl) (by kernel_rfl) h2
end Go.Proofs.YtbkdakbhagjkhaaDoor
