/-
  DERIVED. GIVEN WITH THE SEED: THE CARDS: each row of YtekpddhibldojaaGreatDoorRows.lean that lists a variable, with what it lists TIED to the program's text (the seventh form; the later family's looks); each row that meets fmt, with fmt's text TOLD by the authors' own Lean function (tested against real Go, not proved from fmt's source: count such statements apart). THE CARD IS WHAT COUNTS. Prove the row's statement (the work); the ties are given (YtekpddhibldojaaGreatDoorTie.lean); close each card by the builder's one call (the guide's Derived/Test/ToyasCard.lean, 'card_holds'). Laid BY PROGRAM, IN A SANDBOX (cutbox-door.mjs). By AI agents, Wed Nov 11 2026. No macro, syntax, notation, axiom, sorry.
-/
import Derived.Test.YtekpddhibldojaaGreatDoorRows
import GoSem.ClaimSeven
namespace Go.Proofs.YtekpddhibldojaaGreatDoor
namespace Rows

/-- THE TIED CARD OF 'loanwordlaw14.LiveLeast'. -/
def liveLeastCard : Claim7 := { stood := { row := liveLeastRow, standIns := [], harness := (true, "4ce812c1b9dd3d8c7a8a95fe46d40ba96967f5f9f56a8f3d39b81f89a0ffb33e"), looks := false }, kinds := [], alts := [], laidByText := true, laidKinds := [.data], laidTests := true, laidLooks := .later }
def LiveLeastCardSaid : Prop := Claim7.holds Tryz.pinned (.plain (OpenSpec.ofChange liveLeastSpec)) liveLeastCard

/-- THE SECOND FORM's CARD OF 'loanwordlaw14.LiveLeast'. -/
def liveLeastUptoCard : Claim7 := { stood := { row := liveLeastUptoRow, standIns := [], harness := (true, "4ce812c1b9dd3d8c7a8a95fe46d40ba96967f5f9f56a8f3d39b81f89a0ffb33e"), looks := false }, kinds := [], alts := [], laidByText := true, laidKinds := [.data], laidTests := true, laidLooks := .later }
def LiveLeastUptoCardSaid : Prop := Claim7.holds Tryz.pinned (.plain (OpenSpec.upto liveLeastSpec)) liveLeastUptoCard
end Rows
end Go.Proofs.YtekpddhibldojaaGreatDoor
