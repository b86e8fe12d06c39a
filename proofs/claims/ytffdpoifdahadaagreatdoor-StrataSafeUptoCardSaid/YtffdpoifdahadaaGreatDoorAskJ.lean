/- ask: side. -/
import Derived.Test.YtffdpoifdahadaaGreatDoorAskI
set_option linter.unusedVariables false
namespace Go.Proofs.YtffdpoifdahadaaGreatDoor
open Go.RowKit
open Go.Lib (hid itoa)
/-- a call that answers with a term, as it is used -/
theorem term_x (pb:Nat) (K:PK) (st:PSt) (w:World) (h:PM pb K st w) :
  Calls Tryz.prog 98 #[pt pb] w fun e w'=>∃ x:Tm,e=.returned (.tuple #[.agg (fcells x),.bool (termP K.ts st).1.isSome])∧(∀ t,(termP K.ts st).1=some t→t=x)∧PM pb K (termP K.ts st).2 w'∧Fr (one pb) w w':=by
 refine (term_any pb K st w h).mono ?_; rintro e w' ⟨rfl,h1,h2⟩; generalize termP K.ts st=r at *; obtain ⟨o,s⟩:=r
 cases o with
 | some t=>exact ⟨t,rfl,fun y hy=>by cases hy; rfl,h1,h2⟩
 | none=>exact ⟨tm0,rfl,(fun y hy=>by cases hy),h1,h2⟩
end Go.Proofs.YtffdpoifdahadaaGreatDoor
