/-
  DERIVED. GIVEN WITH THE SEED: THE CARDS: each row of YtajllnahceaipaaDoorRows.lean that lists a variable, with what it lists TIED to the program's text (the seventh form; the later family's looks); each row that meets fmt, with fmt's text TOLD by the authors' own Lean function (tested against real Go, not proved from fmt's source: count such statements apart). THE CARD IS WHAT COUNTS. Prove the row's statement (the work); the ties are given (YtajllnahceaipaaDoorTie.lean); close each card by the builder's one call (the guide's Derived/Test/ToyasCard.lean, 'card_holds'). Laid BY PROGRAM, IN A SANDBOX (cutbox-door.mjs). By AI agents, Wed Nov 11 2026. No macro, syntax, notation, axiom, sorry.
-/
import Derived.Test.YtajllnahceaipaaDoorRows
import GoSem.ClaimSeven
namespace Go.Proofs.YtajllnahceaipaaDoor
namespace Rows

/-- THE TIED CARD OF 'loanwordlaw06.TypesAsk'. -/
def typesAskCard : Claim7 := { stood := { row := typesAskRow, standIns := [], harness := (true, "5fd7218998838f1653aa49b0ceff62a4cebdcd84901066450bd58b8d7f355a4e"), looks := true }, kinds := [], alts := [], laidByText := true, laidKinds := [.data, .data, .data], laidTests := true, laidLooks := .later }
def TypesAskCardSaid : Prop := Claim7.holds Tryd.pinned (.plain (OpenSpec.ofChange typesAskSpec)) typesAskCard

/-- THE TIED CARD OF 'loanwordlaw06.TypesTexts'. -/
def typesTextsCard : Claim7 := { stood := { row := typesTextsRow, standIns := [], harness := (true, "5fd7218998838f1653aa49b0ceff62a4cebdcd84901066450bd58b8d7f355a4e"), looks := true }, kinds := [], alts := [], laidByText := true, laidKinds := [.data, .data, .data], laidTests := true, laidLooks := .later }
def TypesTextsCardSaid : Prop := Claim7.holds Tryd.pinned (.plain (OpenSpec.ofChange typesTextsSpec)) typesTextsCard

/-- THE TIED CARD OF 'loanwordlaw06.TypesOrder'. -/
def typesOrderCard : Claim7 := { stood := { row := typesOrderRow, standIns := [], harness := (true, "5fd7218998838f1653aa49b0ceff62a4cebdcd84901066450bd58b8d7f355a4e"), looks := true }, kinds := [], alts := [], laidByText := true, laidKinds := [.data, .data, .data], laidTests := true, laidLooks := .later }
def TypesOrderCardSaid : Prop := Claim7.holds Tryd.pinned (.plain (OpenSpec.ofChange typesOrderSpec)) typesOrderCard

/-- THE TIED CARD OF 'loanwordlaw06.TypesBack'. -/
def typesBackCard : Claim7 := { stood := { row := typesBackRow, standIns := [], harness := (true, "5fd7218998838f1653aa49b0ceff62a4cebdcd84901066450bd58b8d7f355a4e"), looks := true }, kinds := [], alts := [], laidByText := true, laidKinds := [.data, .data, .data], laidTests := true, laidLooks := .later }
def TypesBackCardSaid : Prop := Claim7.holds Tryd.pinned (.plain (OpenSpec.ofChange typesBackSpec)) typesBackCard

/-- THE TIED CARD OF 'loanwordlaw06.TypesAmong'. -/
def typesAmongCard : Claim7 := { stood := { row := typesAmongRow, standIns := [], harness := (true, "5fd7218998838f1653aa49b0ceff62a4cebdcd84901066450bd58b8d7f355a4e"), looks := true }, kinds := [], alts := [], laidByText := true, laidKinds := [.data, .data, .data], laidTests := true, laidLooks := .later }
def TypesAmongCardSaid : Prop := Claim7.holds Tryd.pinned (.plain (OpenSpec.ofChange typesAmongSpec)) typesAmongCard

/-- THE TIED CARD OF 'loanwordlaw06.TypesTurn'. -/
def typesTurnCard : Claim7 := { stood := { row := typesTurnRow, standIns := [], harness := (true, "5fd7218998838f1653aa49b0ceff62a4cebdcd84901066450bd58b8d7f355a4e"), looks := true }, kinds := [], alts := [], laidByText := true, laidKinds := [.data, .data, .data], laidTests := true, laidLooks := .later }
def TypesTurnCardSaid : Prop := Claim7.holds Tryd.pinned (.plain (OpenSpec.ofChange typesTurnSpec)) typesTurnCard

/-- THE TIED CARD OF 'loanwordlaw06.TypesNumbers'. -/
def typesNumbersCard : Claim7 := { stood := { row := typesNumbersRow, standIns := [], harness := (true, "5fd7218998838f1653aa49b0ceff62a4cebdcd84901066450bd58b8d7f355a4e"), looks := true }, kinds := [], alts := [], laidByText := true, laidKinds := [.data, .data, .data], laidTests := true, laidLooks := .later }
def TypesNumbersCardSaid : Prop := Claim7.holds Tryd.pinned (.plain (OpenSpec.ofChange typesNumbersSpec)) typesNumbersCard

/-- THE SECOND FORM's CARD OF 'loanwordlaw06.TypesAsk'. -/
def typesAskUptoCard : Claim7 := { stood := { row := typesAskUptoRow, standIns := [], harness := (true, "5fd7218998838f1653aa49b0ceff62a4cebdcd84901066450bd58b8d7f355a4e"), looks := true }, kinds := [], alts := [], laidByText := true, laidKinds := [.data, .data, .data], laidTests := true, laidLooks := .later }
def TypesAskUptoCardSaid : Prop := Claim7.holds Tryd.pinned (.plain (OpenSpec.upto typesAskSpec)) typesAskUptoCard

/-- THE SECOND FORM's CARD OF 'loanwordlaw06.TypesTexts'. -/
def typesTextsUptoCard : Claim7 := { stood := { row := typesTextsUptoRow, standIns := [], harness := (true, "5fd7218998838f1653aa49b0ceff62a4cebdcd84901066450bd58b8d7f355a4e"), looks := true }, kinds := [], alts := [], laidByText := true, laidKinds := [.data, .data, .data], laidTests := true, laidLooks := .later }
def TypesTextsUptoCardSaid : Prop := Claim7.holds Tryd.pinned (.plain (OpenSpec.upto typesTextsSpec)) typesTextsUptoCard

/-- THE SECOND FORM's CARD OF 'loanwordlaw06.TypesOrder'. -/
def typesOrderUptoCard : Claim7 := { stood := { row := typesOrderUptoRow, standIns := [], harness := (true, "5fd7218998838f1653aa49b0ceff62a4cebdcd84901066450bd58b8d7f355a4e"), looks := true }, kinds := [], alts := [], laidByText := true, laidKinds := [.data, .data, .data], laidTests := true, laidLooks := .later }
def TypesOrderUptoCardSaid : Prop := Claim7.holds Tryd.pinned (.plain (OpenSpec.upto typesOrderSpec)) typesOrderUptoCard

/-- THE SECOND FORM's CARD OF 'loanwordlaw06.TypesBack'. -/
def typesBackUptoCard : Claim7 := { stood := { row := typesBackUptoRow, standIns := [], harness := (true, "5fd7218998838f1653aa49b0ceff62a4cebdcd84901066450bd58b8d7f355a4e"), looks := true }, kinds := [], alts := [], laidByText := true, laidKinds := [.data, .data, .data], laidTests := true, laidLooks := .later }
def TypesBackUptoCardSaid : Prop := Claim7.holds Tryd.pinned (.plain (OpenSpec.upto typesBackSpec)) typesBackUptoCard

/-- THE SECOND FORM's CARD OF 'loanwordlaw06.TypesAmong'. -/
def typesAmongUptoCard : Claim7 := { stood := { row := typesAmongUptoRow, standIns := [], harness := (true, "5fd7218998838f1653aa49b0ceff62a4cebdcd84901066450bd58b8d7f355a4e"), looks := true }, kinds := [], alts := [], laidByText := true, laidKinds := [.data, .data, .data], laidTests := true, laidLooks := .later }
def TypesAmongUptoCardSaid : Prop := Claim7.holds Tryd.pinned (.plain (OpenSpec.upto typesAmongSpec)) typesAmongUptoCard

/-- THE SECOND FORM's CARD OF 'loanwordlaw06.TypesTurn'. -/
def typesTurnUptoCard : Claim7 := { stood := { row := typesTurnUptoRow, standIns := [], harness := (true, "5fd7218998838f1653aa49b0ceff62a4cebdcd84901066450bd58b8d7f355a4e"), looks := true }, kinds := [], alts := [], laidByText := true, laidKinds := [.data, .data, .data], laidTests := true, laidLooks := .later }
def TypesTurnUptoCardSaid : Prop := Claim7.holds Tryd.pinned (.plain (OpenSpec.upto typesTurnSpec)) typesTurnUptoCard

/-- THE SECOND FORM's CARD OF 'loanwordlaw06.TypesNumbers'. -/
def typesNumbersUptoCard : Claim7 := { stood := { row := typesNumbersUptoRow, standIns := [], harness := (true, "5fd7218998838f1653aa49b0ceff62a4cebdcd84901066450bd58b8d7f355a4e"), looks := true }, kinds := [], alts := [], laidByText := true, laidKinds := [.data, .data, .data], laidTests := true, laidLooks := .later }
def TypesNumbersUptoCardSaid : Prop := Claim7.holds Tryd.pinned (.plain (OpenSpec.upto typesNumbersSpec)) typesNumbersUptoCard
end Rows
end Go.Proofs.YtajllnahceaipaaDoor
