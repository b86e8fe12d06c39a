/-
  DERIVED. GIVEN WITH THE SEED: THE CARDS: each row of YtffdpoifdahadaaGreatDoorRows.lean that lists a variable, with what it lists TIED to the program's text (the seventh form; the later family's looks); each row that meets fmt, with fmt's text TOLD by the authors' own Lean function (tested against real Go, not proved from fmt's source: count such statements apart). THE CARD IS WHAT COUNTS. Prove the row's statement (the work); the ties are given (YtffdpoifdahadaaGreatDoorTie.lean); close each card by the builder's one call (the guide's Derived/Test/ToyasCard.lean, 'card_holds'). Laid BY PROGRAM, IN A SANDBOX (cutbox-door.mjs). By AI agents, Wed Nov 11 2026. No macro, syntax, notation, axiom, sorry.
-/
import Derived.Test.YtffdpoifdahadaaGreatDoorRows
import GoSem.ClaimSeven
namespace Go.Proofs.YtffdpoifdahadaaGreatDoor
namespace Rows

/-- THE TIED CARD OF 'retroactlaw28.StrataOrder'. -/
def strataOrderCard : Claim7 := { stood := { row := strataOrderRow, standIns := [], harness := (true, "14bd85c51cb055b7c9bd7093795d89eea5861889305c7a4047b0e239512b4998"), looks := true }, kinds := [], alts := [], laidByText := true, laidKinds := [.data, .data, .data], laidTests := true, laidLooks := .later }
def StrataOrderCardSaid : Prop := Claim7.holds Tryz.pinned (.plain (OpenSpec.ofChange strataOrderSpec)) strataOrderCard

/-- THE TIED CARD OF 'retroactlaw28.StrataTurns'. -/
def strataTurnsCard : Claim7 := { stood := { row := strataTurnsRow, standIns := [], harness := (true, "14bd85c51cb055b7c9bd7093795d89eea5861889305c7a4047b0e239512b4998"), looks := true }, kinds := [], alts := [], laidByText := true, laidKinds := [.data, .data, .data], laidTests := true, laidLooks := .later }
def StrataTurnsCardSaid : Prop := Claim7.holds Tryz.pinned (.plain (OpenSpec.ofChange strataTurnsSpec)) strataTurnsCard

/-- THE TIED CARD OF 'retroactlaw28.StrataSafe'. -/
def strataSafeCard : Claim7 := { stood := { row := strataSafeRow, standIns := [], harness := (true, "14bd85c51cb055b7c9bd7093795d89eea5861889305c7a4047b0e239512b4998"), looks := true }, kinds := [], alts := [], laidByText := true, laidKinds := [.data, .data, .data], laidTests := true, laidLooks := .later }
def StrataSafeCardSaid : Prop := Claim7.holds Tryz.pinned (.plain (OpenSpec.ofChange strataSafeSpec)) strataSafeCard

/-- THE TIED CARD OF 'retroactlaw28.StrataLeast'. -/
def strataLeastCard : Claim7 := { stood := { row := strataLeastRow, standIns := [], harness := (true, "14bd85c51cb055b7c9bd7093795d89eea5861889305c7a4047b0e239512b4998"), looks := true }, kinds := [], alts := [], laidByText := true, laidKinds := [.data, .data, .data], laidTests := true, laidLooks := .later }
def StrataLeastCardSaid : Prop := Claim7.holds Tryz.pinned (.plain (OpenSpec.ofChange strataLeastSpec)) strataLeastCard

/-- THE TIED CARD OF 'retroactlaw28.StrataParsed'. -/
def strataParsedCard : Claim7 := { stood := { row := strataParsedRow, standIns := [], harness := (true, "14bd85c51cb055b7c9bd7093795d89eea5861889305c7a4047b0e239512b4998"), looks := true }, kinds := [], alts := [], laidByText := true, laidKinds := [.data, .data, .data], laidTests := true, laidLooks := .later }
def StrataParsedCardSaid : Prop := Claim7.holds Tryz.pinned (.plain (OpenSpec.ofChange strataParsedSpec)) strataParsedCard

/-- THE SECOND FORM's CARD OF 'retroactlaw28.StrataOrder'. -/
def strataOrderUptoCard : Claim7 := { stood := { row := strataOrderUptoRow, standIns := [], harness := (true, "14bd85c51cb055b7c9bd7093795d89eea5861889305c7a4047b0e239512b4998"), looks := true }, kinds := [], alts := [], laidByText := true, laidKinds := [.data, .data, .data], laidTests := true, laidLooks := .later }
def StrataOrderUptoCardSaid : Prop := Claim7.holds Tryz.pinned (.plain (OpenSpec.upto strataOrderSpec)) strataOrderUptoCard

/-- THE SECOND FORM's CARD OF 'retroactlaw28.StrataTurns'. -/
def strataTurnsUptoCard : Claim7 := { stood := { row := strataTurnsUptoRow, standIns := [], harness := (true, "14bd85c51cb055b7c9bd7093795d89eea5861889305c7a4047b0e239512b4998"), looks := true }, kinds := [], alts := [], laidByText := true, laidKinds := [.data, .data, .data], laidTests := true, laidLooks := .later }
def StrataTurnsUptoCardSaid : Prop := Claim7.holds Tryz.pinned (.plain (OpenSpec.upto strataTurnsSpec)) strataTurnsUptoCard

/-- THE SECOND FORM's CARD OF 'retroactlaw28.StrataSafe'. -/
def strataSafeUptoCard : Claim7 := { stood := { row := strataSafeUptoRow, standIns := [], harness := (true, "14bd85c51cb055b7c9bd7093795d89eea5861889305c7a4047b0e239512b4998"), looks := true }, kinds := [], alts := [], laidByText := true, laidKinds := [.data, .data, .data], laidTests := true, laidLooks := .later }
def StrataSafeUptoCardSaid : Prop := Claim7.holds Tryz.pinned (.plain (OpenSpec.upto strataSafeSpec)) strataSafeUptoCard

/-- THE SECOND FORM's CARD OF 'retroactlaw28.StrataLeast'. -/
def strataLeastUptoCard : Claim7 := { stood := { row := strataLeastUptoRow, standIns := [], harness := (true, "14bd85c51cb055b7c9bd7093795d89eea5861889305c7a4047b0e239512b4998"), looks := true }, kinds := [], alts := [], laidByText := true, laidKinds := [.data, .data, .data], laidTests := true, laidLooks := .later }
def StrataLeastUptoCardSaid : Prop := Claim7.holds Tryz.pinned (.plain (OpenSpec.upto strataLeastSpec)) strataLeastUptoCard

/-- THE SECOND FORM's CARD OF 'retroactlaw28.StrataParsed'. -/
def strataParsedUptoCard : Claim7 := { stood := { row := strataParsedUptoRow, standIns := [], harness := (true, "14bd85c51cb055b7c9bd7093795d89eea5861889305c7a4047b0e239512b4998"), looks := true }, kinds := [], alts := [], laidByText := true, laidKinds := [.data, .data, .data], laidTests := true, laidLooks := .later }
def StrataParsedUptoCardSaid : Prop := Claim7.holds Tryz.pinned (.plain (OpenSpec.upto strataParsedSpec)) strataParsedUptoCard
end Rows
end Go.Proofs.YtffdpoifdahadaaGreatDoor
