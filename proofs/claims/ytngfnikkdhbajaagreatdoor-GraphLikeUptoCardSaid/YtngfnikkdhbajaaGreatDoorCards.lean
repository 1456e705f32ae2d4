/-
  DERIVED. GIVEN WITH THE SEED: THE CARDS: each row of YtngfnikkdhbajaaGreatDoorRows.lean that lists a variable, with what it lists TIED to the program's text (the seventh form; the later family's looks); each row that meets fmt, with fmt's text TOLD by the authors' own Lean function (tested against real Go, not proved from fmt's source: count such statements apart). THE CARD IS WHAT COUNTS. Prove the row's statement (the work); the ties are given (YtngfnikkdhbajaaGreatDoorTie.lean); close each card by the builder's one call (the guide's Derived/Test/ToyasCard.lean, 'card_holds'). Laid BY PROGRAM, IN A SANDBOX (cutbox-door.mjs). By AI agents, Wed Nov 11 2026. No macro, syntax, notation, axiom, sorry.
-/
import Derived.Test.YtngfnikkdhbajaaGreatDoorRows
import GoSem.ClaimSeven
namespace Go.Proofs.YtngfnikkdhbajaaGreatDoor
namespace Rows

/-- THE TIED CARD OF 'loanwordlaw10.GraphLike'. -/
def graphLikeCard : Claim7 := { stood := { row := graphLikeRow, standIns := [], harness := (true, "d5e19d3970df8f64f338e4d75ba19d9a7f10677072a181a2ac23e434c97846f9"), looks := false }, kinds := [], alts := [], laidByText := true, laidKinds := [.data, .data, .data], laidTests := true, laidLooks := .later }
def GraphLikeCardSaid : Prop := Claim7.holds Tryz.pinned (.plain (OpenSpec.ofChange graphLikeSpec)) graphLikeCard

/-- THE TIED CARD OF 'loanwordlaw10.GraphTexts'. -/
def graphTextsCard : Claim7 := { stood := { row := graphTextsRow, standIns := [], harness := (true, "d5e19d3970df8f64f338e4d75ba19d9a7f10677072a181a2ac23e434c97846f9"), looks := false }, kinds := [], alts := [], laidByText := true, laidKinds := [.data, .data, .data], laidTests := true, laidLooks := .later }
def GraphTextsCardSaid : Prop := Claim7.holds Tryz.pinned (.plain (OpenSpec.ofChange graphTextsSpec)) graphTextsCard

/-- THE TIED CARD OF 'loanwordlaw10.GraphFits'. -/
def graphFitsCard : Claim7 := { stood := { row := graphFitsRow, standIns := [], harness := (true, "d5e19d3970df8f64f338e4d75ba19d9a7f10677072a181a2ac23e434c97846f9"), looks := false }, kinds := [], alts := [], laidByText := true, laidKinds := [.data, .data, .data], laidTests := true, laidLooks := .later }
def GraphFitsCardSaid : Prop := Claim7.holds Tryz.pinned (.plain (OpenSpec.ofChange graphFitsSpec)) graphFitsCard

/-- THE TIED CARD OF 'loanwordlaw10.GraphAsks'. -/
def graphAsksCard : Claim7 := { stood := { row := graphAsksRow, standIns := [], harness := (true, "d5e19d3970df8f64f338e4d75ba19d9a7f10677072a181a2ac23e434c97846f9"), looks := false }, kinds := [], alts := [], laidByText := true, laidKinds := [.data, .data, .data], laidTests := true, laidLooks := .later }
def GraphAsksCardSaid : Prop := Claim7.holds Tryz.pinned (.plain (OpenSpec.ofChange graphAsksSpec)) graphAsksCard

/-- THE SECOND FORM's CARD OF 'loanwordlaw10.GraphLike'. -/
def graphLikeUptoCard : Claim7 := { stood := { row := graphLikeUptoRow, standIns := [], harness := (true, "d5e19d3970df8f64f338e4d75ba19d9a7f10677072a181a2ac23e434c97846f9"), looks := false }, kinds := [], alts := [], laidByText := true, laidKinds := [.data, .data, .data], laidTests := true, laidLooks := .later }
def GraphLikeUptoCardSaid : Prop := Claim7.holds Tryz.pinned (.plain (OpenSpec.upto graphLikeSpec)) graphLikeUptoCard

/-- THE SECOND FORM's CARD OF 'loanwordlaw10.GraphTexts'. -/
def graphTextsUptoCard : Claim7 := { stood := { row := graphTextsUptoRow, standIns := [], harness := (true, "d5e19d3970df8f64f338e4d75ba19d9a7f10677072a181a2ac23e434c97846f9"), looks := false }, kinds := [], alts := [], laidByText := true, laidKinds := [.data, .data, .data], laidTests := true, laidLooks := .later }
def GraphTextsUptoCardSaid : Prop := Claim7.holds Tryz.pinned (.plain (OpenSpec.upto graphTextsSpec)) graphTextsUptoCard

/-- THE SECOND FORM's CARD OF 'loanwordlaw10.GraphFits'. -/
def graphFitsUptoCard : Claim7 := { stood := { row := graphFitsUptoRow, standIns := [], harness := (true, "d5e19d3970df8f64f338e4d75ba19d9a7f10677072a181a2ac23e434c97846f9"), looks := false }, kinds := [], alts := [], laidByText := true, laidKinds := [.data, .data, .data], laidTests := true, laidLooks := .later }
def GraphFitsUptoCardSaid : Prop := Claim7.holds Tryz.pinned (.plain (OpenSpec.upto graphFitsSpec)) graphFitsUptoCard

/-- THE SECOND FORM's CARD OF 'loanwordlaw10.GraphAsks'. -/
def graphAsksUptoCard : Claim7 := { stood := { row := graphAsksUptoRow, standIns := [], harness := (true, "d5e19d3970df8f64f338e4d75ba19d9a7f10677072a181a2ac23e434c97846f9"), looks := false }, kinds := [], alts := [], laidByText := true, laidKinds := [.data, .data, .data], laidTests := true, laidLooks := .later }
def GraphAsksUptoCardSaid : Prop := Claim7.holds Tryz.pinned (.plain (OpenSpec.upto graphAsksSpec)) graphAsksUptoCard
end Rows
end Go.Proofs.YtngfnikkdhbajaaGreatDoor
