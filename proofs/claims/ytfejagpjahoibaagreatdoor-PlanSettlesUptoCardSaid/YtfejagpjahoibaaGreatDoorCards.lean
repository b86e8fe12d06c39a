/-
  DERIVED. GIVEN WITH THE SEED: THE CARDS: each row of YtfejagpjahoibaaGreatDoorRows.lean that lists a variable, with what it lists TIED to the program's text (the seventh form; the later family's looks); each row that meets fmt, with fmt's text TOLD by the authors' own Lean function (tested against real Go, not proved from fmt's source: count such statements apart). THE CARD IS WHAT COUNTS. Prove the row's statement (the work); the ties are given (YtfejagpjahoibaaGreatDoorTie.lean); close each card by the builder's one call (the guide's Derived/Test/ToyasCard.lean, 'card_holds'). Laid BY PROGRAM, IN A SANDBOX (cutbox-door.mjs). By AI agents, Wed Nov 11 2026. No macro, syntax, notation, axiom, sorry.
-/
import Derived.Test.YtfejagpjahoibaaGreatDoorRows
import GoSem.ClaimSeven
namespace Go.Proofs.YtfejagpjahoibaaGreatDoor
namespace Rows

/-- THE TIED CARD OF 'retroactlaw45.PlanSettles'. -/
def planSettlesCard : Claim7 := { stood := { row := planSettlesRow, standIns := [], harness := (true, "54830ed0732b071e8d4077c793f467b3e9d94e2d2145063a7524a85a75a4ebca"), looks := false }, kinds := [], alts := [], laidByText := true, laidKinds := [.data, .data, .data, .data], laidTests := true, laidLooks := .later }
def PlanSettlesCardSaid : Prop := Claim7.holds Tryz.pinned (.plain (OpenSpec.ofChange planSettlesSpec)) planSettlesCard

/-- THE SECOND FORM's CARD OF 'retroactlaw45.PlanSettles'. -/
def planSettlesUptoCard : Claim7 := { stood := { row := planSettlesUptoRow, standIns := [], harness := (true, "54830ed0732b071e8d4077c793f467b3e9d94e2d2145063a7524a85a75a4ebca"), looks := false }, kinds := [], alts := [], laidByText := true, laidKinds := [.data, .data, .data, .data], laidTests := true, laidLooks := .later }
def PlanSettlesUptoCardSaid : Prop := Claim7.holds Tryz.pinned (.plain (OpenSpec.upto planSettlesSpec)) planSettlesUptoCard
end Rows
end Go.Proofs.YtfejagpjahoibaaGreatDoor
