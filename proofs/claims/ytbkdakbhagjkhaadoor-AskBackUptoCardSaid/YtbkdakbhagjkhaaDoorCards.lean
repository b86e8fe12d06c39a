/-
  DERIVED. GIVEN WITH THE SEED: THE CARDS: each row of YtbkdakbhagjkhaaDoorRows.lean that lists a variable, with what it lists TIED to the program's text (the seventh form; the later family's looks); each row that meets fmt, with fmt's text TOLD by the authors' own Lean function (tested against real Go, not proved from fmt's source: count such statements apart). THE CARD IS WHAT COUNTS. Prove the row's statement (the work); the ties are given (YtbkdakbhagjkhaaDoorTie.lean); close each card by the builder's one call (the guide's Derived/Test/ToyasCard.lean, 'card_holds'). Laid BY PROGRAM, IN A SANDBOX (cutbox-door.mjs). By AI agents, Wed Nov 11 2026. No macro, syntax, notation, axiom, sorry.
-/
import Derived.Test.YtbkdakbhagjkhaaDoorRows
import GoSem.ClaimSeven
namespace Go.Proofs.YtbkdakbhagjkhaaDoor
namespace Rows

/-- THE TIED CARD OF 'retroactlaw27.AskBack'. -/
def askBackCard : Claim7 := { stood := { row := askBackRow, standIns := [], harness := (true, "2d759822ee919cf90bc872ed6d8d1ae4b738cc2a481f7b12d16c328765745afe"), looks := false }, kinds := [], alts := [], laidByText := true, laidKinds := [.data, .data, .data], laidTests := true, laidLooks := .later }
def AskBackCardSaid : Prop := Claim7.holds Tryd.pinned (.plain (OpenSpec.ofChange askBackSpec)) askBackCard

/-- THE TIED CARD OF 'retroactlaw27.AskBlanks'. -/
def askBlanksCard : Claim7 := { stood := { row := askBlanksRow, standIns := [], harness := (true, "2d759822ee919cf90bc872ed6d8d1ae4b738cc2a481f7b12d16c328765745afe"), looks := false }, kinds := [], alts := [], laidByText := true, laidKinds := [.data, .data, .data], laidTests := true, laidLooks := .later }
def AskBlanksCardSaid : Prop := Claim7.holds Tryd.pinned (.plain (OpenSpec.ofChange askBlanksSpec)) askBlanksCard

/-- THE SECOND FORM's CARD OF 'retroactlaw27.AskBack'. -/
def askBackUptoCard : Claim7 := { stood := { row := askBackUptoRow, standIns := [], harness := (true, "2d759822ee919cf90bc872ed6d8d1ae4b738cc2a481f7b12d16c328765745afe"), looks := false }, kinds := [], alts := [], laidByText := true, laidKinds := [.data, .data, .data], laidTests := true, laidLooks := .later }
def AskBackUptoCardSaid : Prop := Claim7.holds Tryd.pinned (.plain (OpenSpec.upto askBackSpec)) askBackUptoCard

/-- THE SECOND FORM's CARD OF 'retroactlaw27.AskBlanks'. -/
def askBlanksUptoCard : Claim7 := { stood := { row := askBlanksUptoRow, standIns := [], harness := (true, "2d759822ee919cf90bc872ed6d8d1ae4b738cc2a481f7b12d16c328765745afe"), looks := false }, kinds := [], alts := [], laidByText := true, laidKinds := [.data, .data, .data], laidTests := true, laidLooks := .later }
def AskBlanksUptoCardSaid : Prop := Claim7.holds Tryd.pinned (.plain (OpenSpec.upto askBlanksSpec)) askBlanksUptoCard
end Rows
end Go.Proofs.YtbkdakbhagjkhaaDoor
