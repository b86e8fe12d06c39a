/-
  DERIVED. GIVEN WITH THE SEED: THE CARDS: each row of YthagdeadmoidnaaDoorRows.lean that lists a variable, with what it lists TIED to the program's text (the seventh form; the later family's looks); each row that meets fmt, with fmt's text TOLD by the authors' own Lean function (tested against real Go, not proved from fmt's source: count such statements apart). THE CARD IS WHAT COUNTS. Prove the row's statement (the work); the ties are given (YthagdeadmoidnaaDoorTie.lean); close each card by the builder's one call (the guide's Derived/Test/ToyasCard.lean, 'card_holds'). Laid BY PROGRAM, IN A SANDBOX (cutbox-door.mjs). By AI agents, Wed Nov 11 2026. No macro, syntax, notation, axiom, sorry.
-/
import Derived.Test.YthagdeadmoidnaaDoorRows
import GoSem.ClaimSeven
namespace Go.Proofs.YthagdeadmoidnaaDoor
namespace Rows

/-- THE TIED CARD OF 'retroactlaw46.WorldRequests'. -/
def worldRequestsCard : Claim7 := { stood := { row := worldRequestsRow, standIns := [], harness := (true, "e35b30a5caa7b89f703f156b2f5bc57dc8964dfdb58f76152f6047fdced4f5c2"), looks := false }, kinds := [], alts := [], laidByText := true, laidKinds := [.data], laidTests := true, laidLooks := .later }
def WorldRequestsCardSaid : Prop := Claim7.holds Tryd.pinned (.plain (OpenSpec.ofChange worldRequestsSpec)) worldRequestsCard

/-- THE SECOND FORM's CARD OF 'retroactlaw46.WorldRequests'. -/
def worldRequestsUptoCard : Claim7 := { stood := { row := worldRequestsUptoRow, standIns := [], harness := (true, "e35b30a5caa7b89f703f156b2f5bc57dc8964dfdb58f76152f6047fdced4f5c2"), looks := false }, kinds := [], alts := [], laidByText := true, laidKinds := [.data], laidTests := true, laidLooks := .later }
def WorldRequestsUptoCardSaid : Prop := Claim7.holds Tryd.pinned (.plain (OpenSpec.upto worldRequestsSpec)) worldRequestsUptoCard
end Rows
end Go.Proofs.YthagdeadmoidnaaDoor
