/-
  DERIVED. GIVEN WITH THE SEED: THE CARDS: each row of YtoblfjmokfldnaaDoorRows.lean that lists a variable, with what it lists TIED to the program's text (the seventh form; the later family's looks); each row that meets fmt, with fmt's text TOLD by the authors' own Lean function (tested against real Go, not proved from fmt's source: count such statements apart). THE CARD IS WHAT COUNTS. Prove the row's statement (the work); the ties are given (YtoblfjmokfldnaaDoorTie.lean); close each card by the builder's one call (the guide's Derived/Test/ToyasCard.lean, 'card_holds'). Laid BY PROGRAM, IN A SANDBOX (cutbox-door.mjs). By AI agents, Wed Nov 11 2026. No macro, syntax, notation, axiom, sorry.
-/
import Derived.Test.YtoblfjmokfldnaaDoorRows
import GoSem.ClaimSeven
namespace Go.Proofs.YtoblfjmokfldnaaDoor
namespace Rows

/-- THE TIED CARD OF 'loanwordlaw20.CertTells'. -/
def certTellsCard : Claim7 := { stood := { row := certTellsRow, standIns := [], harness := (true, "fcf06ad6ac17bb53ec9fe7bb996246e3722417d5db618f502427592ab3a444e4"), looks := true }, kinds := [], alts := [], laidByText := true, laidKinds := [.data], laidTests := true, laidLooks := .later }
def CertTellsCardSaid : Prop := Claim7.holds Tryd.pinned (.plain (OpenSpec.ofChange certTellsSpec)) certTellsCard

/-- THE TIED CARD OF 'loanwordlaw20.CertReads'. -/
def certReadsCard : Claim7 := { stood := { row := certReadsRow, standIns := [], harness := (true, "fcf06ad6ac17bb53ec9fe7bb996246e3722417d5db618f502427592ab3a444e4"), looks := true }, kinds := [], alts := [], laidByText := true, laidKinds := [.data], laidTests := true, laidLooks := .later }
def CertReadsCardSaid : Prop := Claim7.holds Tryd.pinned (.plain (OpenSpec.ofChange certReadsSpec)) certReadsCard

/-- THE TIED CARD OF 'loanwordlaw20.CertLong'. -/
def certLongCard : Claim7 := { stood := { row := certLongRow, standIns := [], harness := (true, "fcf06ad6ac17bb53ec9fe7bb996246e3722417d5db618f502427592ab3a444e4"), looks := true }, kinds := [], alts := [], laidByText := true, laidKinds := [.data], laidTests := true, laidLooks := .later }
def CertLongCardSaid : Prop := Claim7.holds Tryd.pinned (.plain (OpenSpec.ofChange certLongSpec)) certLongCard

/-- THE TIED CARD OF 'loanwordlaw20.CertBack'. -/
def certBackCard : Claim7 := { stood := { row := certBackRow, standIns := [], harness := (true, "fcf06ad6ac17bb53ec9fe7bb996246e3722417d5db618f502427592ab3a444e4"), looks := true }, kinds := [], alts := [], laidByText := true, laidKinds := [.data], laidTests := true, laidLooks := .later }
def CertBackCardSaid : Prop := Claim7.holds Tryd.pinned (.plain (OpenSpec.ofChange certBackSpec)) certBackCard

/-- THE TIED CARD OF 'loanwordlaw20.CertGoes'. -/
def certGoesCard : Claim7 := { stood := { row := certGoesRow, standIns := [], harness := (true, "fcf06ad6ac17bb53ec9fe7bb996246e3722417d5db618f502427592ab3a444e4"), looks := true }, kinds := [], alts := [], laidByText := true, laidKinds := [.data], laidTests := true, laidLooks := .later }
def CertGoesCardSaid : Prop := Claim7.holds Tryd.pinned (.plain (OpenSpec.ofChange certGoesSpec)) certGoesCard

/-- THE TIED CARD OF 'loanwordlaw20.CertParts'. -/
def certPartsCard : Claim7 := { stood := { row := certPartsRow, standIns := [], harness := (true, "fcf06ad6ac17bb53ec9fe7bb996246e3722417d5db618f502427592ab3a444e4"), looks := true }, kinds := [], alts := [], laidByText := true, laidKinds := [.data], laidTests := true, laidLooks := .later }
def CertPartsCardSaid : Prop := Claim7.holds Tryd.pinned (.plain (OpenSpec.ofChange certPartsSpec)) certPartsCard

/-- THE SECOND FORM's CARD OF 'loanwordlaw20.CertTells'. -/
def certTellsUptoCard : Claim7 := { stood := { row := certTellsUptoRow, standIns := [], harness := (true, "fcf06ad6ac17bb53ec9fe7bb996246e3722417d5db618f502427592ab3a444e4"), looks := true }, kinds := [], alts := [], laidByText := true, laidKinds := [.data], laidTests := true, laidLooks := .later }
def CertTellsUptoCardSaid : Prop := Claim7.holds Tryd.pinned (.plain (OpenSpec.upto certTellsSpec)) certTellsUptoCard

/-- THE SECOND FORM's CARD OF 'loanwordlaw20.CertReads'. -/
def certReadsUptoCard : Claim7 := { stood := { row := certReadsUptoRow, standIns := [], harness := (true, "fcf06ad6ac17bb53ec9fe7bb996246e3722417d5db618f502427592ab3a444e4"), looks := true }, kinds := [], alts := [], laidByText := true, laidKinds := [.data], laidTests := true, laidLooks := .later }
def CertReadsUptoCardSaid : Prop := Claim7.holds Tryd.pinned (.plain (OpenSpec.upto certReadsSpec)) certReadsUptoCard

/-- THE SECOND FORM's CARD OF 'loanwordlaw20.CertLong'. -/
def certLongUptoCard : Claim7 := { stood := { row := certLongUptoRow, standIns := [], harness := (true, "fcf06ad6ac17bb53ec9fe7bb996246e3722417d5db618f502427592ab3a444e4"), looks := true }, kinds := [], alts := [], laidByText := true, laidKinds := [.data], laidTests := true, laidLooks := .later }
def CertLongUptoCardSaid : Prop := Claim7.holds Tryd.pinned (.plain (OpenSpec.upto certLongSpec)) certLongUptoCard

/-- THE SECOND FORM's CARD OF 'loanwordlaw20.CertBack'. -/
def certBackUptoCard : Claim7 := { stood := { row := certBackUptoRow, standIns := [], harness := (true, "fcf06ad6ac17bb53ec9fe7bb996246e3722417d5db618f502427592ab3a444e4"), looks := true }, kinds := [], alts := [], laidByText := true, laidKinds := [.data], laidTests := true, laidLooks := .later }
def CertBackUptoCardSaid : Prop := Claim7.holds Tryd.pinned (.plain (OpenSpec.upto certBackSpec)) certBackUptoCard

/-- THE SECOND FORM's CARD OF 'loanwordlaw20.CertGoes'. -/
def certGoesUptoCard : Claim7 := { stood := { row := certGoesUptoRow, standIns := [], harness := (true, "fcf06ad6ac17bb53ec9fe7bb996246e3722417d5db618f502427592ab3a444e4"), looks := true }, kinds := [], alts := [], laidByText := true, laidKinds := [.data], laidTests := true, laidLooks := .later }
def CertGoesUptoCardSaid : Prop := Claim7.holds Tryd.pinned (.plain (OpenSpec.upto certGoesSpec)) certGoesUptoCard

/-- THE SECOND FORM's CARD OF 'loanwordlaw20.CertParts'. -/
def certPartsUptoCard : Claim7 := { stood := { row := certPartsUptoRow, standIns := [], harness := (true, "fcf06ad6ac17bb53ec9fe7bb996246e3722417d5db618f502427592ab3a444e4"), looks := true }, kinds := [], alts := [], laidByText := true, laidKinds := [.data], laidTests := true, laidLooks := .later }
def CertPartsUptoCardSaid : Prop := Claim7.holds Tryd.pinned (.plain (OpenSpec.upto certPartsSpec)) certPartsUptoCard
end Rows
end Go.Proofs.YtoblfjmokfldnaaDoor
