/-
  DERIVED. GIVEN WITH THE SEED: THE CARDS: each row of YtgbfpnnimnjbdaaDoorRows.lean that lists a variable, with what it lists TIED to the program's text (the seventh form; the later family's looks); each row that meets fmt, with fmt's text TOLD by the authors' own Lean function (tested against real Go, not proved from fmt's source: count such statements apart). THE CARD IS WHAT COUNTS. Prove the row's statement (the work); the ties are given (YtgbfpnnimnjbdaaDoorTie.lean); close each card by the builder's one call (the guide's Derived/Test/ToyasCard.lean, 'card_holds'). Laid BY PROGRAM, IN A SANDBOX (cutbox-door.mjs). By AI agents, Wed Nov 11 2026. No macro, syntax, notation, axiom, sorry.
-/
import Derived.Test.YtgbfpnnimnjbdaaDoorRows
import GoSem.ClaimSeven
namespace Go.Proofs.YtgbfpnnimnjbdaaDoor
namespace Rows

/-- THE TIED CARD OF 'loanwordlaw01.BitsBytes'. -/
def bitsBytesCard : Claim7 := { stood := { row := bitsBytesRow, standIns := [], harness := (true, "f9875f9cfcb133bd6a3d43746666367eaaa786b6767db9cd8adc632f8b7d28e6"), looks := false }, kinds := [], alts := [], laidByText := true, laidKinds := [.data], laidTests := true, laidLooks := .later }
def BitsBytesCardSaid : Prop := Claim7.holds Tryd.pinned (.plain (OpenSpec.ofChange bitsBytesSpec)) bitsBytesCard

/-- THE TIED CARD OF 'loanwordlaw01.BitsRow'. -/
def bitsRowCard : Claim7 := { stood := { row := bitsRowRow, standIns := [], harness := (true, "f9875f9cfcb133bd6a3d43746666367eaaa786b6767db9cd8adc632f8b7d28e6"), looks := false }, kinds := [], alts := [], laidByText := true, laidKinds := [.data], laidTests := true, laidLooks := .later }
def BitsRowCardSaid : Prop := Claim7.holds Tryd.pinned (.plain (OpenSpec.ofChange bitsRowSpec)) bitsRowCard

/-- THE TIED CARD OF 'loanwordlaw01.BitsTurn'. -/
def bitsTurnCard : Claim7 := { stood := { row := bitsTurnRow, standIns := [], harness := (true, "f9875f9cfcb133bd6a3d43746666367eaaa786b6767db9cd8adc632f8b7d28e6"), looks := false }, kinds := [], alts := [], laidByText := true, laidKinds := [.data], laidTests := true, laidLooks := .later }
def BitsTurnCardSaid : Prop := Claim7.holds Tryd.pinned (.plain (OpenSpec.ofChange bitsTurnSpec)) bitsTurnCard

/-- THE TIED CARD OF 'loanwordlaw01.BitsBack'. -/
def bitsBackCard : Claim7 := { stood := { row := bitsBackRow, standIns := [], harness := (true, "f9875f9cfcb133bd6a3d43746666367eaaa786b6767db9cd8adc632f8b7d28e6"), looks := false }, kinds := [], alts := [], laidByText := true, laidKinds := [.data], laidTests := true, laidLooks := .later }
def BitsBackCardSaid : Prop := Claim7.holds Tryd.pinned (.plain (OpenSpec.ofChange bitsBackSpec)) bitsBackCard

/-- THE TIED CARD OF 'loanwordlaw01.BitsJoin'. -/
def bitsJoinCard : Claim7 := { stood := { row := bitsJoinRow, standIns := [], harness := (true, "f9875f9cfcb133bd6a3d43746666367eaaa786b6767db9cd8adc632f8b7d28e6"), looks := false }, kinds := [], alts := [], laidByText := true, laidKinds := [.data], laidTests := true, laidLooks := .later }
def BitsJoinCardSaid : Prop := Claim7.holds Tryd.pinned (.plain (OpenSpec.ofChange bitsJoinSpec)) bitsJoinCard

/-- THE TIED CARD OF 'loanwordlaw01.BitsLattice'. -/
def bitsLatticeCard : Claim7 := { stood := { row := bitsLatticeRow, standIns := [], harness := (true, "f9875f9cfcb133bd6a3d43746666367eaaa786b6767db9cd8adc632f8b7d28e6"), looks := false }, kinds := [], alts := [], laidByText := true, laidKinds := [.data], laidTests := true, laidLooks := .later }
def BitsLatticeCardSaid : Prop := Claim7.holds Tryd.pinned (.plain (OpenSpec.ofChange bitsLatticeSpec)) bitsLatticeCard

/-- THE SECOND FORM's CARD OF 'loanwordlaw01.BitsBytes'. -/
def bitsBytesUptoCard : Claim7 := { stood := { row := bitsBytesUptoRow, standIns := [], harness := (true, "f9875f9cfcb133bd6a3d43746666367eaaa786b6767db9cd8adc632f8b7d28e6"), looks := false }, kinds := [], alts := [], laidByText := true, laidKinds := [.data], laidTests := true, laidLooks := .later }
def BitsBytesUptoCardSaid : Prop := Claim7.holds Tryd.pinned (.plain (OpenSpec.upto bitsBytesSpec)) bitsBytesUptoCard

/-- THE SECOND FORM's CARD OF 'loanwordlaw01.BitsRow'. -/
def bitsRowUptoCard : Claim7 := { stood := { row := bitsRowUptoRow, standIns := [], harness := (true, "f9875f9cfcb133bd6a3d43746666367eaaa786b6767db9cd8adc632f8b7d28e6"), looks := false }, kinds := [], alts := [], laidByText := true, laidKinds := [.data], laidTests := true, laidLooks := .later }
def BitsRowUptoCardSaid : Prop := Claim7.holds Tryd.pinned (.plain (OpenSpec.upto bitsRowSpec)) bitsRowUptoCard

/-- THE SECOND FORM's CARD OF 'loanwordlaw01.BitsTurn'. -/
def bitsTurnUptoCard : Claim7 := { stood := { row := bitsTurnUptoRow, standIns := [], harness := (true, "f9875f9cfcb133bd6a3d43746666367eaaa786b6767db9cd8adc632f8b7d28e6"), looks := false }, kinds := [], alts := [], laidByText := true, laidKinds := [.data], laidTests := true, laidLooks := .later }
def BitsTurnUptoCardSaid : Prop := Claim7.holds Tryd.pinned (.plain (OpenSpec.upto bitsTurnSpec)) bitsTurnUptoCard

/-- THE SECOND FORM's CARD OF 'loanwordlaw01.BitsBack'. -/
def bitsBackUptoCard : Claim7 := { stood := { row := bitsBackUptoRow, standIns := [], harness := (true, "f9875f9cfcb133bd6a3d43746666367eaaa786b6767db9cd8adc632f8b7d28e6"), looks := false }, kinds := [], alts := [], laidByText := true, laidKinds := [.data], laidTests := true, laidLooks := .later }
def BitsBackUptoCardSaid : Prop := Claim7.holds Tryd.pinned (.plain (OpenSpec.upto bitsBackSpec)) bitsBackUptoCard

/-- THE SECOND FORM's CARD OF 'loanwordlaw01.BitsJoin'. -/
def bitsJoinUptoCard : Claim7 := { stood := { row := bitsJoinUptoRow, standIns := [], harness := (true, "f9875f9cfcb133bd6a3d43746666367eaaa786b6767db9cd8adc632f8b7d28e6"), looks := false }, kinds := [], alts := [], laidByText := true, laidKinds := [.data], laidTests := true, laidLooks := .later }
def BitsJoinUptoCardSaid : Prop := Claim7.holds Tryd.pinned (.plain (OpenSpec.upto bitsJoinSpec)) bitsJoinUptoCard

/-- THE SECOND FORM's CARD OF 'loanwordlaw01.BitsLattice'. -/
def bitsLatticeUptoCard : Claim7 := { stood := { row := bitsLatticeUptoRow, standIns := [], harness := (true, "f9875f9cfcb133bd6a3d43746666367eaaa786b6767db9cd8adc632f8b7d28e6"), looks := false }, kinds := [], alts := [], laidByText := true, laidKinds := [.data], laidTests := true, laidLooks := .later }
def BitsLatticeUptoCardSaid : Prop := Claim7.holds Tryd.pinned (.plain (OpenSpec.upto bitsLatticeSpec)) bitsLatticeUptoCard
end Rows
end Go.Proofs.YtgbfpnnimnjbdaaDoor
