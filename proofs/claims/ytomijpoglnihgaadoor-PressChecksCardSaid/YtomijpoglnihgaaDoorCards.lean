/-
  DERIVED. GIVEN WITH THE SEED: THE CARDS: each row of YtomijpoglnihgaaDoorRows.lean that lists a variable, with what it lists TIED to the program's text (the seventh form; the later family's looks); each row that meets fmt, with fmt's text TOLD by the authors' own Lean function (tested against real Go, not proved from fmt's source: count such statements apart). THE CARD IS WHAT COUNTS. Prove the row's statement (the work); the ties are given (YtomijpoglnihgaaDoorTie.lean); close each card by the builder's one call (the guide's Derived/Test/ToyasCard.lean, 'card_holds'). Laid BY PROGRAM, IN A SANDBOX (cutbox-door.mjs). By AI agents, Wed Nov 11 2026. No macro, syntax, notation, axiom, sorry.
-/
import Derived.Test.YtomijpoglnihgaaDoorRows
import GoSem.ClaimSeven
namespace Go.Proofs.YtomijpoglnihgaaDoor
namespace Rows

/-- THE TIED CARD OF 'retroactlaw04.PressChecks'. -/
def pressChecksCard : Claim7 := { stood := { row := pressChecksRow, standIns := [], harness := (true, "0de43520622397c2d38ce270bbc4d4d8711b6de16e4b10e00bae5dd515d5ea4c"), looks := false }, kinds := [], alts := [], laidByText := true, laidKinds := [.data], laidTests := true, laidLooks := .later }
def PressChecksCardSaid : Prop := Claim7.holds Tryd.pinned (.plain (OpenSpec.ofChange pressChecksSpec)) pressChecksCard

/-- THE SECOND FORM's CARD OF 'retroactlaw04.PressChecks'. -/
def pressChecksUptoCard : Claim7 := { stood := { row := pressChecksUptoRow, standIns := [], harness := (true, "0de43520622397c2d38ce270bbc4d4d8711b6de16e4b10e00bae5dd515d5ea4c"), looks := false }, kinds := [], alts := [], laidByText := true, laidKinds := [.data], laidTests := true, laidLooks := .later }
def PressChecksUptoCardSaid : Prop := Claim7.holds Tryd.pinned (.plain (OpenSpec.upto pressChecksSpec)) pressChecksUptoCard
end Rows
end Go.Proofs.YtomijpoglnihgaaDoor
