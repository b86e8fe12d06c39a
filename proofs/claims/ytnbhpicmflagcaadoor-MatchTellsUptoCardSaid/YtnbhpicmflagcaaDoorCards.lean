/-
  DERIVED. GIVEN WITH THE SEED: THE CARDS: each row of YtnbhpicmflagcaaDoorRows.lean that lists a variable, with what it lists TIED to the program's text (the seventh form; the later family's looks); each row that meets fmt, with fmt's text TOLD by the authors' own Lean function (tested against real Go, not proved from fmt's source: count such statements apart). THE CARD IS WHAT COUNTS. Prove the row's statement (the work); the ties are given (YtnbhpicmflagcaaDoorTie.lean); close each card by the builder's one call (the guide's Derived/Test/ToyasCard.lean, 'card_holds'). Laid BY PROGRAM, IN A SANDBOX (cutbox-door.mjs). By AI agents, Wed Nov 11 2026. No macro, syntax, notation, axiom, sorry.
-/
import Derived.Test.YtnbhpicmflagcaaDoorRows
import GoSem.ClaimSeven
namespace Go.Proofs.YtnbhpicmflagcaaDoor
namespace Rows

/-- THE TIED CARD OF 'retroactlaw39.MatchTells'. -/
def matchTellsCard : Claim7 := { stood := { row := matchTellsRow, standIns := [], harness := (true, "cef1b7368e3f7b8948bafa4c71e64333eec748176cebdd04dbbae4ca47806de2"), looks := false }, kinds := [], alts := [], laidByText := true, laidKinds := [.data], laidTests := true, laidLooks := .later }
def MatchTellsCardSaid : Prop := Claim7.holds Tryd.pinned (.plain (OpenSpec.ofChange matchTellsSpec)) matchTellsCard

/-- THE TIED CARD OF 'retroactlaw39.MatchOnce'. -/
def matchOnceCard : Claim7 := { stood := { row := matchOnceRow, standIns := [], harness := (true, "cef1b7368e3f7b8948bafa4c71e64333eec748176cebdd04dbbae4ca47806de2"), looks := false }, kinds := [], alts := [], laidByText := true, laidKinds := [.data], laidTests := true, laidLooks := .later }
def MatchOnceCardSaid : Prop := Claim7.holds Tryd.pinned (.plain (OpenSpec.ofChange matchOnceSpec)) matchOnceCard

/-- THE TIED CARD OF 'retroactlaw39.MatchKeys'. -/
def matchKeysCard : Claim7 := { stood := { row := matchKeysRow, standIns := [], harness := (true, "cef1b7368e3f7b8948bafa4c71e64333eec748176cebdd04dbbae4ca47806de2"), looks := false }, kinds := [], alts := [], laidByText := true, laidKinds := [.data], laidTests := true, laidLooks := .later }
def MatchKeysCardSaid : Prop := Claim7.holds Tryd.pinned (.plain (OpenSpec.ofChange matchKeysSpec)) matchKeysCard

/-- THE TIED CARD OF 'retroactlaw39.MatchOrd'. -/
def matchOrdCard : Claim7 := { stood := { row := matchOrdRow, standIns := [], harness := (true, "cef1b7368e3f7b8948bafa4c71e64333eec748176cebdd04dbbae4ca47806de2"), looks := false }, kinds := [], alts := [], laidByText := true, laidKinds := [.data], laidTests := true, laidLooks := .later }
def MatchOrdCardSaid : Prop := Claim7.holds Tryd.pinned (.plain (OpenSpec.ofChange matchOrdSpec)) matchOrdCard

/-- THE SECOND FORM's CARD OF 'retroactlaw39.MatchTells'. -/
def matchTellsUptoCard : Claim7 := { stood := { row := matchTellsUptoRow, standIns := [], harness := (true, "cef1b7368e3f7b8948bafa4c71e64333eec748176cebdd04dbbae4ca47806de2"), looks := false }, kinds := [], alts := [], laidByText := true, laidKinds := [.data], laidTests := true, laidLooks := .later }
def MatchTellsUptoCardSaid : Prop := Claim7.holds Tryd.pinned (.plain (OpenSpec.upto matchTellsSpec)) matchTellsUptoCard

/-- THE SECOND FORM's CARD OF 'retroactlaw39.MatchOnce'. -/
def matchOnceUptoCard : Claim7 := { stood := { row := matchOnceUptoRow, standIns := [], harness := (true, "cef1b7368e3f7b8948bafa4c71e64333eec748176cebdd04dbbae4ca47806de2"), looks := false }, kinds := [], alts := [], laidByText := true, laidKinds := [.data], laidTests := true, laidLooks := .later }
def MatchOnceUptoCardSaid : Prop := Claim7.holds Tryd.pinned (.plain (OpenSpec.upto matchOnceSpec)) matchOnceUptoCard

/-- THE SECOND FORM's CARD OF 'retroactlaw39.MatchKeys'. -/
def matchKeysUptoCard : Claim7 := { stood := { row := matchKeysUptoRow, standIns := [], harness := (true, "cef1b7368e3f7b8948bafa4c71e64333eec748176cebdd04dbbae4ca47806de2"), looks := false }, kinds := [], alts := [], laidByText := true, laidKinds := [.data], laidTests := true, laidLooks := .later }
def MatchKeysUptoCardSaid : Prop := Claim7.holds Tryd.pinned (.plain (OpenSpec.upto matchKeysSpec)) matchKeysUptoCard

/-- THE SECOND FORM's CARD OF 'retroactlaw39.MatchOrd'. -/
def matchOrdUptoCard : Claim7 := { stood := { row := matchOrdUptoRow, standIns := [], harness := (true, "cef1b7368e3f7b8948bafa4c71e64333eec748176cebdd04dbbae4ca47806de2"), looks := false }, kinds := [], alts := [], laidByText := true, laidKinds := [.data], laidTests := true, laidLooks := .later }
def MatchOrdUptoCardSaid : Prop := Claim7.holds Tryd.pinned (.plain (OpenSpec.upto matchOrdSpec)) matchOrdUptoCard
end Rows
end Go.Proofs.YtnbhpicmflagcaaDoor
