/-
  DERIVED. GIVEN WITH THE SEED: THE CARDS: each row of YtbkdakbhagjkhaaGreatDoorRows.lean that lists a variable, with what it lists TIED to the program's text (the seventh form; the later family's looks); each row that meets fmt, with fmt's text TOLD by the authors' own Lean function (tested against real Go, not proved from fmt's source: count such statements apart). THE CARD IS WHAT COUNTS. Prove the row's statement (the work); the ties are given (YtbkdakbhagjkhaaGreatDoorTie.lean); close each card by the builder's one call (the guide's Derived/Test/ToyasCard.lean, 'card_holds'). Laid BY PROGRAM, IN A SANDBOX (cutbox-door.mjs). By AI agents, Wed Nov 11 2026. No macro, syntax, notation, axiom, sorry.
-/
import Derived.Test.YtbkdakbhagjkhaaGreatDoorRows
import GoSem.ClaimSeven
namespace Go.Proofs.YtbkdakbhagjkhaaGreatDoor
namespace Rows

/-- THE TIED CARD OF 'retroactlaw27.AskTimes'. -/
def askTimesCard : Claim7 := { stood := { row := askTimesRow, standIns := [], harness := (true, "df54e0b11727230ad3ce50d36cc7800fca62e719ac84091d1f45e34facaa83f8"), looks := false }, kinds := [], alts := [], laidByText := true, laidKinds := [.data, .data, .data], laidTests := true, laidLooks := .later }
def AskTimesCardSaid : Prop := Claim7.holds Tryz.pinned (.plain (OpenSpec.ofChange askTimesSpec)) askTimesCard

/-- THE SECOND FORM's CARD OF 'retroactlaw27.AskTimes'. -/
def askTimesUptoCard : Claim7 := { stood := { row := askTimesUptoRow, standIns := [], harness := (true, "df54e0b11727230ad3ce50d36cc7800fca62e719ac84091d1f45e34facaa83f8"), looks := false }, kinds := [], alts := [], laidByText := true, laidKinds := [.data, .data, .data], laidTests := true, laidLooks := .later }
def AskTimesUptoCardSaid : Prop := Claim7.holds Tryz.pinned (.plain (OpenSpec.upto askTimesSpec)) askTimesUptoCard
end Rows
end Go.Proofs.YtbkdakbhagjkhaaGreatDoor
