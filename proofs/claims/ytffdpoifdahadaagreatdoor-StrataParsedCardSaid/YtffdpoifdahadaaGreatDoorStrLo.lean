/- strata, the laws: what they share. -/
import Derived.Test.YtffdpoifdahadaaGreatDoorStrXf
import Derived.Test.YtffdpoifdahadaaGreatDoorStrXd
import Derived.Test.YtffdpoifdahadaaGreatDoorStrXc
import Derived.Test.YtffdpoifdahadaaGreatDoorAskI
set_option linter.unusedVariables false
set_option linter.unusedSimpArgs false
namespace Go.Proofs.YtffdpoifdahadaaGreatDoor
open Go.RowKit
open Go.Lib (hid)
structure xx (w4:World) (seen:List Nm) (v:Value) (w:World):Prop where
 row:SO w seen v
 ge:∀ k,v.ownBlock=some k->w4.heap.size<=k
 bel:Below w4.heap.size w4 w
theorem xx.below {w4 w w':World} {seen:List Nm} {v:Value} (h:xx w4 seen v w) (hb:Below w.heap.size w w'):xx w4 seen v w' :=
 ⟨aJ h.row (fun k hk=>hb.block k (h.row.lt k hk).2) fun _ _=>zW _,h.ge,h.bel.trans (hb.mono h.bel.size)⟩
end Go.Proofs.YtffdpoifdahadaaGreatDoor
