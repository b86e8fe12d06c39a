/- What a list of laid variables gives, one by one. -/
import Derived.Test.YtbkdakbhagjkhaaGreatDoorFrame
import Derived.LaidMore
import Derived.LaidOnce
import Derived.MakeChecks
import Derived.Lib.LaidTab
set_option linter.unusedVariables false
namespace Go.Proofs.YtbkdakbhagjkhaaGreatDoor
open Go.ChangeShapes Go.WideShapes Go.ChangeAt Go.RowKit
theorem laidMet_tail {P : Program} {W : World} {n : String} {d : DataW Unit} {r : List (String × DataW Unit)} (h : laidMet P ((n,d) :: r) W) : laidMet P r W:=by
 obtain ⟨ps,⟨g,t,cs,fuel,p,q,hg,ht,hvar,hd,hr,rfl⟩,hn,hc⟩:=h; exact ⟨q,hr,(List.nodup_append.1 hn).2.1,fun b off hm=>hc b off (List.mem_append_right _ hm)⟩
theorem wf64 {n : Int} (h : (Lit.int .i64 n).wf = true) : -9223372036854775808 ≤ n ∧ n ≤ 9223372036854775807:=by
 simpa [Lit.wf,IntKind.min,IntKind.max,IntKind.signed,IntKind.bits] using h
end Go.Proofs.YtbkdakbhagjkhaaGreatDoor
