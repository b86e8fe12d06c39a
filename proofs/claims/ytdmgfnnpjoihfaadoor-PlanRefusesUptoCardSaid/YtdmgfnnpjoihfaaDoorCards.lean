/-
  DERIVED. GIVEN WITH THE SEED: THE CARDS: each row of YtdmgfnnpjoihfaaDoorRows.lean that lists a variable, with what it lists TIED to the program's text (the seventh form; the later family's looks); each row that meets fmt, with fmt's text TOLD by the authors' own Lean function (tested against real Go, not proved from fmt's source: count such statements apart). THE CARD IS WHAT COUNTS. Prove the row's statement (the work); the ties are given (YtdmgfnnpjoihfaaDoorTie.lean); close each card by the builder's one call (the guide's Derived/Test/ToyasCard.lean, 'card_holds'). Laid BY PROGRAM, IN A SANDBOX (cutbox-door.mjs). By AI agents, Wed Nov 11 2026. No macro, syntax, notation, axiom, sorry.
-/
import Derived.Test.YtdmgfnnpjoihfaaDoorRows
import GoSem.ClaimSeven
namespace Go.Proofs.YtdmgfnnpjoihfaaDoor
namespace Rows

/-- THE TIED CARD OF 'retroactlaw45.PlanLeast'. -/
def planLeastCard : Claim7 := { stood := { row := planLeastRow, standIns := [], harness := (true, "4739d3dd38bd23b106f94576ba25e543baf736985dc317130a02e4e9b3dffe2d"), looks := false }, kinds := [], alts := [], laidByText := true, laidKinds := [.data, .data, .data, .data], laidTests := true, laidLooks := .later }
def PlanLeastCardSaid : Prop := Claim7.holds Tryd.pinned (.plain (OpenSpec.ofChange planLeastSpec)) planLeastCard

/-- THE TIED CARD OF 'retroactlaw45.PlanRefuses'. -/
def planRefusesCard : Claim7 := { stood := { row := planRefusesRow, standIns := [], harness := (true, "4739d3dd38bd23b106f94576ba25e543baf736985dc317130a02e4e9b3dffe2d"), looks := false }, kinds := [], alts := [], laidByText := true, laidKinds := [.data, .data, .data, .data], laidTests := true, laidLooks := .later }
def PlanRefusesCardSaid : Prop := Claim7.holds Tryd.pinned (.plain (OpenSpec.ofChange planRefusesSpec)) planRefusesCard

/-- THE TIED CARD OF 'retroactlaw45.PlanOffers'. -/
def planOffersCard : Claim7 := { stood := { row := planOffersRow, standIns := [], harness := (true, "4739d3dd38bd23b106f94576ba25e543baf736985dc317130a02e4e9b3dffe2d"), looks := false }, kinds := [], alts := [], laidByText := true, laidKinds := [.data, .data, .data, .data], laidTests := true, laidLooks := .later }
def PlanOffersCardSaid : Prop := Claim7.holds Tryd.pinned (.plain (OpenSpec.ofChange planOffersSpec)) planOffersCard

/-- THE SECOND FORM's CARD OF 'retroactlaw45.PlanLeast'. -/
def planLeastUptoCard : Claim7 := { stood := { row := planLeastUptoRow, standIns := [], harness := (true, "4739d3dd38bd23b106f94576ba25e543baf736985dc317130a02e4e9b3dffe2d"), looks := false }, kinds := [], alts := [], laidByText := true, laidKinds := [.data, .data, .data, .data], laidTests := true, laidLooks := .later }
def PlanLeastUptoCardSaid : Prop := Claim7.holds Tryd.pinned (.plain (OpenSpec.upto planLeastSpec)) planLeastUptoCard

/-- THE SECOND FORM's CARD OF 'retroactlaw45.PlanRefuses'. -/
def planRefusesUptoCard : Claim7 := { stood := { row := planRefusesUptoRow, standIns := [], harness := (true, "4739d3dd38bd23b106f94576ba25e543baf736985dc317130a02e4e9b3dffe2d"), looks := false }, kinds := [], alts := [], laidByText := true, laidKinds := [.data, .data, .data, .data], laidTests := true, laidLooks := .later }
def PlanRefusesUptoCardSaid : Prop := Claim7.holds Tryd.pinned (.plain (OpenSpec.upto planRefusesSpec)) planRefusesUptoCard

/-- THE SECOND FORM's CARD OF 'retroactlaw45.PlanOffers'. -/
def planOffersUptoCard : Claim7 := { stood := { row := planOffersUptoRow, standIns := [], harness := (true, "4739d3dd38bd23b106f94576ba25e543baf736985dc317130a02e4e9b3dffe2d"), looks := false }, kinds := [], alts := [], laidByText := true, laidKinds := [.data, .data, .data, .data], laidTests := true, laidLooks := .later }
def PlanOffersUptoCardSaid : Prop := Claim7.holds Tryd.pinned (.plain (OpenSpec.upto planOffersSpec)) planOffersUptoCard
end Rows
end Go.Proofs.YtdmgfnnpjoihfaaDoor
