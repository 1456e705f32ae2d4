/-
  DERIVED. GIVEN WITH THE SEED: THE CARDS: each row of YthmakcmiggpoeaaGreatDoorRows.lean that lists a variable, with what it lists TIED to the program's text (the seventh form; the later family's looks); each row that meets fmt, with fmt's text TOLD by the authors' own Lean function (tested against real Go, not proved from fmt's source: count such statements apart). THE CARD IS WHAT COUNTS. Prove the row's statement (the work); the ties are given (YthmakcmiggpoeaaGreatDoorTie.lean); close each card by the builder's one call (the guide's Derived/Test/ToyasCard.lean, 'card_holds'). Laid BY PROGRAM, IN A SANDBOX (cutbox-door.mjs). By AI agents, Wed Nov 11 2026. No macro, syntax, notation, axiom, sorry.
-/
import Derived.Test.YthmakcmiggpoeaaGreatDoorRows
import GoSem.ClaimSeven
namespace Go.Proofs.YthmakcmiggpoeaaGreatDoor
namespace Rows

/-- THE TIED CARD OF 'loanwordlaw15.OutliveAll'. -/
def outliveAllCard : Claim7 := { stood := { row := outliveAllRow, standIns := [], harness := (true, "b764f5b91260284861727b163e65cc09451989e21611b4b23755389c339a0588"), looks := false }, kinds := [], alts := [], laidByText := true, laidKinds := [.data], laidTests := true, laidLooks := .later }
def OutliveAllCardSaid : Prop := Claim7.holds Tryz.pinned (.plain (OpenSpec.ofChange outliveAllSpec)) outliveAllCard

/-- THE TIED CARD OF 'loanwordlaw15.OutliveRows'. -/
def outliveRowsCard : Claim7 := { stood := { row := outliveRowsRow, standIns := [], harness := (true, "b764f5b91260284861727b163e65cc09451989e21611b4b23755389c339a0588"), looks := false }, kinds := [], alts := [], laidByText := true, laidKinds := [.data], laidTests := true, laidLooks := .later }
def OutliveRowsCardSaid : Prop := Claim7.holds Tryz.pinned (.plain (OpenSpec.ofChange outliveRowsSpec)) outliveRowsCard

/-- THE TIED CARD OF 'loanwordlaw15.OutliveFlows'. -/
def outliveFlowsCard : Claim7 := { stood := { row := outliveFlowsRow, standIns := [], harness := (true, "b764f5b91260284861727b163e65cc09451989e21611b4b23755389c339a0588"), looks := false }, kinds := [], alts := [], laidByText := true, laidKinds := [.data], laidTests := true, laidLooks := .later }
def OutliveFlowsCardSaid : Prop := Claim7.holds Tryz.pinned (.plain (OpenSpec.ofChange outliveFlowsSpec)) outliveFlowsCard

/-- THE TIED CARD OF 'loanwordlaw15.OutliveClosure'. -/
def outliveClosureCard : Claim7 := { stood := { row := outliveClosureRow, standIns := [], harness := (true, "b764f5b91260284861727b163e65cc09451989e21611b4b23755389c339a0588"), looks := false }, kinds := [], alts := [], laidByText := true, laidKinds := [.data], laidTests := true, laidLooks := .later }
def OutliveClosureCardSaid : Prop := Claim7.holds Tryz.pinned (.plain (OpenSpec.ofChange outliveClosureSpec)) outliveClosureCard

/-- THE TIED CARD OF 'loanwordlaw16.LoanAll'. -/
def loanAllCard : Claim7 := { stood := { row := loanAllRow, standIns := [], harness := (true, "b764f5b91260284861727b163e65cc09451989e21611b4b23755389c339a0588"), looks := false }, kinds := [], alts := [], laidByText := true, laidKinds := [.data], laidTests := true, laidLooks := .later }
def LoanAllCardSaid : Prop := Claim7.holds Tryz.pinned (.plain (OpenSpec.ofChange loanAllSpec)) loanAllCard

/-- THE TIED CARD OF 'loanwordlaw16.LoanBreaks'. -/
def loanBreaksCard : Claim7 := { stood := { row := loanBreaksRow, standIns := [], harness := (true, "b764f5b91260284861727b163e65cc09451989e21611b4b23755389c339a0588"), looks := false }, kinds := [], alts := [], laidByText := true, laidKinds := [.data], laidTests := true, laidLooks := .later }
def LoanBreaksCardSaid : Prop := Claim7.holds Tryz.pinned (.plain (OpenSpec.ofChange loanBreaksSpec)) loanBreaksCard

/-- THE TIED CARD OF 'loanwordlaw16.LoanDepths'. -/
def loanDepthsCard : Claim7 := { stood := { row := loanDepthsRow, standIns := [], harness := (true, "b764f5b91260284861727b163e65cc09451989e21611b4b23755389c339a0588"), looks := false }, kinds := [], alts := [], laidByText := true, laidKinds := [.data], laidTests := true, laidLooks := .later }
def LoanDepthsCardSaid : Prop := Claim7.holds Tryz.pinned (.plain (OpenSpec.ofChange loanDepthsSpec)) loanDepthsCard

/-- THE TIED CARD OF 'loanwordlaw16.LoanLeast'. -/
def loanLeastCard : Claim7 := { stood := { row := loanLeastRow, standIns := [], harness := (true, "b764f5b91260284861727b163e65cc09451989e21611b4b23755389c339a0588"), looks := false }, kinds := [], alts := [], laidByText := true, laidKinds := [.data], laidTests := true, laidLooks := .later }
def LoanLeastCardSaid : Prop := Claim7.holds Tryz.pinned (.plain (OpenSpec.ofChange loanLeastSpec)) loanLeastCard

/-- THE SECOND FORM's CARD OF 'loanwordlaw15.OutliveAll'. -/
def outliveAllUptoCard : Claim7 := { stood := { row := outliveAllUptoRow, standIns := [], harness := (true, "b764f5b91260284861727b163e65cc09451989e21611b4b23755389c339a0588"), looks := false }, kinds := [], alts := [], laidByText := true, laidKinds := [.data], laidTests := true, laidLooks := .later }
def OutliveAllUptoCardSaid : Prop := Claim7.holds Tryz.pinned (.plain (OpenSpec.upto outliveAllSpec)) outliveAllUptoCard

/-- THE SECOND FORM's CARD OF 'loanwordlaw15.OutliveRows'. -/
def outliveRowsUptoCard : Claim7 := { stood := { row := outliveRowsUptoRow, standIns := [], harness := (true, "b764f5b91260284861727b163e65cc09451989e21611b4b23755389c339a0588"), looks := false }, kinds := [], alts := [], laidByText := true, laidKinds := [.data], laidTests := true, laidLooks := .later }
def OutliveRowsUptoCardSaid : Prop := Claim7.holds Tryz.pinned (.plain (OpenSpec.upto outliveRowsSpec)) outliveRowsUptoCard

/-- THE SECOND FORM's CARD OF 'loanwordlaw15.OutliveFlows'. -/
def outliveFlowsUptoCard : Claim7 := { stood := { row := outliveFlowsUptoRow, standIns := [], harness := (true, "b764f5b91260284861727b163e65cc09451989e21611b4b23755389c339a0588"), looks := false }, kinds := [], alts := [], laidByText := true, laidKinds := [.data], laidTests := true, laidLooks := .later }
def OutliveFlowsUptoCardSaid : Prop := Claim7.holds Tryz.pinned (.plain (OpenSpec.upto outliveFlowsSpec)) outliveFlowsUptoCard

/-- THE SECOND FORM's CARD OF 'loanwordlaw15.OutliveClosure'. -/
def outliveClosureUptoCard : Claim7 := { stood := { row := outliveClosureUptoRow, standIns := [], harness := (true, "b764f5b91260284861727b163e65cc09451989e21611b4b23755389c339a0588"), looks := false }, kinds := [], alts := [], laidByText := true, laidKinds := [.data], laidTests := true, laidLooks := .later }
def OutliveClosureUptoCardSaid : Prop := Claim7.holds Tryz.pinned (.plain (OpenSpec.upto outliveClosureSpec)) outliveClosureUptoCard

/-- THE SECOND FORM's CARD OF 'loanwordlaw16.LoanAll'. -/
def loanAllUptoCard : Claim7 := { stood := { row := loanAllUptoRow, standIns := [], harness := (true, "b764f5b91260284861727b163e65cc09451989e21611b4b23755389c339a0588"), looks := false }, kinds := [], alts := [], laidByText := true, laidKinds := [.data], laidTests := true, laidLooks := .later }
def LoanAllUptoCardSaid : Prop := Claim7.holds Tryz.pinned (.plain (OpenSpec.upto loanAllSpec)) loanAllUptoCard

/-- THE SECOND FORM's CARD OF 'loanwordlaw16.LoanBreaks'. -/
def loanBreaksUptoCard : Claim7 := { stood := { row := loanBreaksUptoRow, standIns := [], harness := (true, "b764f5b91260284861727b163e65cc09451989e21611b4b23755389c339a0588"), looks := false }, kinds := [], alts := [], laidByText := true, laidKinds := [.data], laidTests := true, laidLooks := .later }
def LoanBreaksUptoCardSaid : Prop := Claim7.holds Tryz.pinned (.plain (OpenSpec.upto loanBreaksSpec)) loanBreaksUptoCard

/-- THE SECOND FORM's CARD OF 'loanwordlaw16.LoanDepths'. -/
def loanDepthsUptoCard : Claim7 := { stood := { row := loanDepthsUptoRow, standIns := [], harness := (true, "b764f5b91260284861727b163e65cc09451989e21611b4b23755389c339a0588"), looks := false }, kinds := [], alts := [], laidByText := true, laidKinds := [.data], laidTests := true, laidLooks := .later }
def LoanDepthsUptoCardSaid : Prop := Claim7.holds Tryz.pinned (.plain (OpenSpec.upto loanDepthsSpec)) loanDepthsUptoCard

/-- THE SECOND FORM's CARD OF 'loanwordlaw16.LoanLeast'. -/
def loanLeastUptoCard : Claim7 := { stood := { row := loanLeastUptoRow, standIns := [], harness := (true, "b764f5b91260284861727b163e65cc09451989e21611b4b23755389c339a0588"), looks := false }, kinds := [], alts := [], laidByText := true, laidKinds := [.data], laidTests := true, laidLooks := .later }
def LoanLeastUptoCardSaid : Prop := Claim7.holds Tryz.pinned (.plain (OpenSpec.upto loanLeastSpec)) loanLeastUptoCard
end Rows
end Go.Proofs.YthmakcmiggpoeaaGreatDoor
