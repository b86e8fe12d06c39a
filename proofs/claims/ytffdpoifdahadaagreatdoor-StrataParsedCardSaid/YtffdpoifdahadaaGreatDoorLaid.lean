/- What a list of laid variables gives, one by one. -/
import Derived.Test.YtffdpoifdahadaaGreatDoorFrame
import Derived.LaidMore
import Derived.LaidOnce
import Derived.MakeChecks
import Derived.Lib.LaidTab
set_option linter.unusedVariables false
namespace Go.Proofs.YtffdpoifdahadaaGreatDoor
open Go.ChangeShapes Go.WideShapes Go.ChangeAt Go.RowKit
theorem jZ {P:Program} {W:World} {n:String} {d:DataW Unit} {r:List (String × DataW Unit)} (h:laidMet P ((n,d)::r) W):laidMet P r W:=by
 obtain ⟨ps,⟨g,t,cs,fuel,p,q,hg,ht,hvar,hd,hr,rfl⟩,hn,hc⟩:=h; exact ⟨q,hr,(List.nodup_append.1 hn).2.1,fun b off hm=>hc b off (List.mem_append_right _ hm)⟩
end Go.Proofs.YtffdpoifdahadaaGreatDoor
