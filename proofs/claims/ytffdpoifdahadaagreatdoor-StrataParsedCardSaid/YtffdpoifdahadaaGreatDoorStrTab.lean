/- strata: the table of powers of ten, out of what is laid. -/
import Derived.Test.YtffdpoifdahadaaGreatDoorLexW8
import Derived.Test.YtffdpoifdahadaaGreatDoorLaid
import Derived.Test.YtffdpoifdahadaaGreatDoorRows
set_option linter.unusedVariables false
namespace Go.Proofs.YtffdpoifdahadaaGreatDoor
open Go.ChangeShapes Go.WideShapes Go.ChangeAt Go.RowKit
theorem pn {W:World} (h:laidMetH Tryz.prog Rows.strataOrderRow.laid W):Tab W:=by
 rw [MakeChecks.laidMetH_plain _ _ _ (by kernel_rfl)] at h; have h2:=jZ (jZ h); exact Lib.tabIs_of_head (g:=0) (t:=201) (e:=149) (n:=20) (rest:=[]) (by kernel_rfl) (by kernel_rfl) (by kernel_rfl) (by kernel_rfl) (by kernel_rfl) (by kernel_rfl) h2
end Go.Proofs.YtffdpoifdahadaaGreatDoor
