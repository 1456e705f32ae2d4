/-
  NARROWER THAN 'FOR EVERY INPUT', by the rows' own cells (each row's printed sentence says how): CertTells: laid · CertReads: laid · CertLong: laid · CertBack: laid · CertGoes: laid · CertParts: laid.
  DERIVED. THE GIVEN ROWS OF THIS SEAT. 6 by the template 'for every input the law returns true; each argument reads behind the call as it read before'; 0 by the template 'total and deterministic' (their statements: YtoblfjmokfldnaaDoorTotals.lean).
  GIVEN WITH THE SEED: the statements are not yours to turn. If you find one false, say at which input.
  Laid BY PROGRAM, IN A SANDBOX (cutbox-rows.mjs): the forced cells as the released guide's own fill.sh prints them over the translation ea1ac26c3e285754… (all of the seat's roots in one cut). By AI agents, Wed Nov 11 2026. No macro, syntax, notation, axiom, sorry.
-/
import Derived.Test.YtoblfjmokfldnaaDoorChecked
import GoSem.Claim
import GoSem.ClaimJoined
import GoSem.ClaimMapViews
import Derived.JoinedTies
import Derived.KernelRfl
namespace Go.Proofs.YtoblfjmokfldnaaDoor
/- THE CELL 'sum', in the pinned program and in every row, IS THE sha256 OF THE DUMP (.gsa) THAT YtoblfjmokfldnaaDoorProg.lean LOADS. Nothing in Lean hashes anything: it is a label: what it is worth is what the hold of that sum in a sandbox is worth. -/
noncomputable def Tryd.pinned : Pinned := { name := "ytoblfjmokfldnaadoor", sum := "ea1ac26c3e285754815714f38ec363edeab54f8454ab3626c709faec7ab6c570", checked := Tryd.checked }
namespace Rows
def none {H : Type} : Left H := { results := [], args := [] }

/- WHAT THE LISTED PACKAGE-LEVEL VARIABLES READ AS WHEN THE CALL BEGINS. Each datum BY PROGRAM (the guide's laid-datum.mjs) off the statement by which the dump's own 'gosem.cut.vars' lays the variable. In a bare row this is a premise. The card (YtoblfjmokfldnaaDoorCards.lean) ties it to the program's text. -/
def laid_math_bits_deBruijn64tab {H : Type} : DataW H := .agg [.lit (.int .u8 0), .lit (.int .u8 1), .lit (.int .u8 56), .lit (.int .u8 2), .lit (.int .u8 57), .lit (.int .u8 49), .lit (.int .u8 28), .lit (.int .u8 3), .lit (.int .u8 61), .lit (.int .u8 58), .lit (.int .u8 42), .lit (.int .u8 50), .lit (.int .u8 38), .lit (.int .u8 29), .lit (.int .u8 17), .lit (.int .u8 4), .lit (.int .u8 62), .lit (.int .u8 47), .lit (.int .u8 59), .lit (.int .u8 36), .lit (.int .u8 45), .lit (.int .u8 43), .lit (.int .u8 51), .lit (.int .u8 22), .lit (.int .u8 53), .lit (.int .u8 39), .lit (.int .u8 33), .lit (.int .u8 30), .lit (.int .u8 24), .lit (.int .u8 18), .lit (.int .u8 12), .lit (.int .u8 5), .lit (.int .u8 63), .lit (.int .u8 55), .lit (.int .u8 48), .lit (.int .u8 27), .lit (.int .u8 60), .lit (.int .u8 41), .lit (.int .u8 37), .lit (.int .u8 16), .lit (.int .u8 46), .lit (.int .u8 35), .lit (.int .u8 44), .lit (.int .u8 21), .lit (.int .u8 52), .lit (.int .u8 32), .lit (.int .u8 23), .lit (.int .u8 11), .lit (.int .u8 54), .lit (.int .u8 26), .lit (.int .u8 40), .lit (.int .u8 15), .lit (.int .u8 34), .lit (.int .u8 20), .lit (.int .u8 31), .lit (.int .u8 10), .lit (.int .u8 25), .lit (.int .u8 14), .lit (.int .u8 19), .lit (.int .u8 9), .lit (.int .u8 13), .lit (.int .u8 8), .lit (.int .u8 7), .lit (.int .u8 6)]

/-- 'loanwordlaw20.CertTells': WHATEVER THE INPUT: true; the input reads as it did. -/
def certTellsSpec : ChangeSpec := { name := "certTells", fn := fun _ => fun
  | [d1, d2] => { results := [.lit (.bool true)], args := [d1, d2] }
  | _ => none }
def certTellsRow : OpenClaim := { program := "ytoblfjmokfldnaadoor", sum := "ea1ac26c3e285754815714f38ec363edeab54f8454ab3626c709faec7ab6c570", func := "loanword/loanwordlaw20.CertTells", spec := "certTells", unfollowed := true, recurses := true, named := ["math/bits.deBruijn64tab"], apart := false, laid := [("math/bits.deBruijn64tab", laid_math_bits_deBruijn64tab)] }
def CertTellsSaid : Prop := certTellsRow.holds Tryd.pinned (OpenSpec.ofChange certTellsSpec)

/-- ITS FALSE NEIGHBOUR: 'it returns false'. Refute it at one input. -/
def certTellsWrong : ChangeSpec := { name := "certTells", fn := fun _ => fun
  | [d1, d2] => { results := [.lit (.bool false)], args := [d1, d2] }
  | _ => none }
def CertTellsWrongFalsely : Prop := certTellsRow.holds Tryd.pinned (OpenSpec.ofChange certTellsWrong)

/-- 'loanwordlaw20.CertReads': WHATEVER THE INPUT: true; the input reads as it did. -/
def certReadsSpec : ChangeSpec := { name := "certReads", fn := fun _ => fun
  | [d1, d2] => { results := [.lit (.bool true)], args := [d1, d2] }
  | _ => none }
def certReadsRow : OpenClaim := { program := "ytoblfjmokfldnaadoor", sum := "ea1ac26c3e285754815714f38ec363edeab54f8454ab3626c709faec7ab6c570", func := "loanword/loanwordlaw20.CertReads", spec := "certReads", unfollowed := true, recurses := true, named := ["math/bits.deBruijn64tab"], apart := false, laid := [("math/bits.deBruijn64tab", laid_math_bits_deBruijn64tab)] }
def CertReadsSaid : Prop := certReadsRow.holds Tryd.pinned (OpenSpec.ofChange certReadsSpec)

/-- ITS FALSE NEIGHBOUR: 'it returns false'. Refute it at one input. -/
def certReadsWrong : ChangeSpec := { name := "certReads", fn := fun _ => fun
  | [d1, d2] => { results := [.lit (.bool false)], args := [d1, d2] }
  | _ => none }
def CertReadsWrongFalsely : Prop := certReadsRow.holds Tryd.pinned (OpenSpec.ofChange certReadsWrong)

/-- 'loanwordlaw20.CertLong': WHATEVER THE INPUT: true; the input reads as it did. -/
def certLongSpec : ChangeSpec := { name := "certLong", fn := fun _ => fun
  | [d] => { results := [.lit (.bool true)], args := [d] }
  | _ => none }
def certLongRow : OpenClaim := { program := "ytoblfjmokfldnaadoor", sum := "ea1ac26c3e285754815714f38ec363edeab54f8454ab3626c709faec7ab6c570", func := "loanword/loanwordlaw20.CertLong", spec := "certLong", unfollowed := true, recurses := true, named := ["math/bits.deBruijn64tab"], apart := false, laid := [("math/bits.deBruijn64tab", laid_math_bits_deBruijn64tab)] }
def CertLongSaid : Prop := certLongRow.holds Tryd.pinned (OpenSpec.ofChange certLongSpec)

/-- ITS FALSE NEIGHBOUR: 'it returns false'. Refute it at one input. -/
def certLongWrong : ChangeSpec := { name := "certLong", fn := fun _ => fun
  | [d] => { results := [.lit (.bool false)], args := [d] }
  | _ => none }
def CertLongWrongFalsely : Prop := certLongRow.holds Tryd.pinned (OpenSpec.ofChange certLongWrong)

/-- 'loanwordlaw20.CertBack': WHATEVER THE INPUT: true; the input reads as it did. -/
def certBackSpec : ChangeSpec := { name := "certBack", fn := fun _ => fun
  | [d1, d2, d3] => { results := [.lit (.bool true)], args := [d1, d2, d3] }
  | _ => none }
def certBackRow : OpenClaim := { program := "ytoblfjmokfldnaadoor", sum := "ea1ac26c3e285754815714f38ec363edeab54f8454ab3626c709faec7ab6c570", func := "loanword/loanwordlaw20.CertBack", spec := "certBack", unfollowed := true, recurses := true, named := ["math/bits.deBruijn64tab"], apart := false, laid := [("math/bits.deBruijn64tab", laid_math_bits_deBruijn64tab)] }
def CertBackSaid : Prop := certBackRow.holds Tryd.pinned (OpenSpec.ofChange certBackSpec)

/-- ITS FALSE NEIGHBOUR: 'it returns false'. Refute it at one input. -/
def certBackWrong : ChangeSpec := { name := "certBack", fn := fun _ => fun
  | [d1, d2, d3] => { results := [.lit (.bool false)], args := [d1, d2, d3] }
  | _ => none }
def CertBackWrongFalsely : Prop := certBackRow.holds Tryd.pinned (OpenSpec.ofChange certBackWrong)

/-- 'loanwordlaw20.CertGoes': WHATEVER THE INPUT: true; the input reads as it did. -/
def certGoesSpec : ChangeSpec := { name := "certGoes", fn := fun _ => fun
  | [d1, d2] => { results := [.lit (.bool true)], args := [d1, d2] }
  | _ => none }
def certGoesRow : OpenClaim := { program := "ytoblfjmokfldnaadoor", sum := "ea1ac26c3e285754815714f38ec363edeab54f8454ab3626c709faec7ab6c570", func := "loanword/loanwordlaw20.CertGoes", spec := "certGoes", unfollowed := true, recurses := true, named := ["math/bits.deBruijn64tab"], apart := false, laid := [("math/bits.deBruijn64tab", laid_math_bits_deBruijn64tab)] }
def CertGoesSaid : Prop := certGoesRow.holds Tryd.pinned (OpenSpec.ofChange certGoesSpec)

/-- ITS FALSE NEIGHBOUR: 'it returns false'. Refute it at one input. -/
def certGoesWrong : ChangeSpec := { name := "certGoes", fn := fun _ => fun
  | [d1, d2] => { results := [.lit (.bool false)], args := [d1, d2] }
  | _ => none }
def CertGoesWrongFalsely : Prop := certGoesRow.holds Tryd.pinned (OpenSpec.ofChange certGoesWrong)

/-- 'loanwordlaw20.CertParts': WHATEVER THE INPUT: true; the input reads as it did. -/
def certPartsSpec : ChangeSpec := { name := "certParts", fn := fun _ => fun
  | [d] => { results := [.lit (.bool true)], args := [d] }
  | _ => none }
def certPartsRow : OpenClaim := { program := "ytoblfjmokfldnaadoor", sum := "ea1ac26c3e285754815714f38ec363edeab54f8454ab3626c709faec7ab6c570", func := "loanword/loanwordlaw20.CertParts", spec := "certParts", unfollowed := true, recurses := true, named := ["math/bits.deBruijn64tab"], apart := false, laid := [("math/bits.deBruijn64tab", laid_math_bits_deBruijn64tab)] }
def CertPartsSaid : Prop := certPartsRow.holds Tryd.pinned (OpenSpec.ofChange certPartsSpec)

/-- ITS FALSE NEIGHBOUR: 'it returns false'. Refute it at one input. -/
def certPartsWrong : ChangeSpec := { name := "certParts", fn := fun _ => fun
  | [d] => { results := [.lit (.bool false)], args := [d] }
  | _ => none }
def CertPartsWrongFalsely : Prop := certPartsRow.holds Tryd.pinned (OpenSpec.ofChange certPartsWrong)

/- THE SECOND FORM. 'bulk': how many values and letters a reading holds, each counted each time it is reached (what is shared counts as often as it is met; a slice's spare places count too). A statement '..UptoSaid' is the law's where the arguments, and the package variables that the reading takes, are together of bulk at most 1048576: NARROWER than '..Said'. Prove '..Said' where nothing that the law and all that it calls make is longer than what came in: it says more and counts as full. Else prove '..UptoSaid'. A law counts once. -/
mutual
def uptoBulk {H : Type} : DataW H → Nat
  | .lit (.string bytes) => bytes.length + 1
  | .lit _ => 1
  | .nil => 1
  | .ptr d => uptoBulk d + 1
  | .slice elems spare => uptoBulkAll elems + uptoBulkAll spare + 1
  | .agg parts => uptoBulkAll parts + 1
  | .iface _ d => uptoBulk d + 1
  | .map entries => uptoBulkEntries entries + 1
  | .held _ => 1
def uptoBulkAll {H : Type} : List (DataW H) → Nat
  | [] => 0
  | d :: r => uptoBulk d + uptoBulkAll r
def uptoBulkEntries {H : Type} : List (Lit × DataW H) → Nat
  | [] => 0
  | x :: r => uptoBulkEntry x + uptoBulkEntries r
def uptoBulkEntry {H : Type} : Lit × DataW H → Nat
  | (.string bytes, d) => bytes.length + uptoBulk d + 1
  | (_, d) => uptoBulk d + 1
 end
def uptoSmall : (H : Type) → List (DataW H) → Bool := fun _ ds => decide (uptoBulkAll ds ≤ 1048576)
def OpenSpec.upto (s : _root_.Go.ChangeSpec) : _root_.Go.OpenSpec := { _root_.Go.OpenSpec.ofChange s with cond := some uptoSmall }

/-- 'loanwordlaw20.CertTells', WHERE WHAT IT READS IS OF BULK AT MOST 1048576: true; the input reads as it did. -/
def certTellsUptoRow : OpenClaim := { program := "ytoblfjmokfldnaadoor", sum := "ea1ac26c3e285754815714f38ec363edeab54f8454ab3626c709faec7ab6c570", func := "loanword/loanwordlaw20.CertTells", spec := "certTells", unfollowed := true, recurses := true, named := ["math/bits.deBruijn64tab"], apart := false, laid := [("math/bits.deBruijn64tab", laid_math_bits_deBruijn64tab)], narrowed := true }
def CertTellsUptoSaid : Prop := certTellsUptoRow.holds Tryd.pinned (OpenSpec.upto certTellsSpec)

/-- 'loanwordlaw20.CertReads', WHERE WHAT IT READS IS OF BULK AT MOST 1048576: true; the input reads as it did. -/
def certReadsUptoRow : OpenClaim := { program := "ytoblfjmokfldnaadoor", sum := "ea1ac26c3e285754815714f38ec363edeab54f8454ab3626c709faec7ab6c570", func := "loanword/loanwordlaw20.CertReads", spec := "certReads", unfollowed := true, recurses := true, named := ["math/bits.deBruijn64tab"], apart := false, laid := [("math/bits.deBruijn64tab", laid_math_bits_deBruijn64tab)], narrowed := true }
def CertReadsUptoSaid : Prop := certReadsUptoRow.holds Tryd.pinned (OpenSpec.upto certReadsSpec)

/-- 'loanwordlaw20.CertLong', WHERE WHAT IT READS IS OF BULK AT MOST 1048576: true; the input reads as it did. -/
def certLongUptoRow : OpenClaim := { program := "ytoblfjmokfldnaadoor", sum := "ea1ac26c3e285754815714f38ec363edeab54f8454ab3626c709faec7ab6c570", func := "loanword/loanwordlaw20.CertLong", spec := "certLong", unfollowed := true, recurses := true, named := ["math/bits.deBruijn64tab"], apart := false, laid := [("math/bits.deBruijn64tab", laid_math_bits_deBruijn64tab)], narrowed := true }
def CertLongUptoSaid : Prop := certLongUptoRow.holds Tryd.pinned (OpenSpec.upto certLongSpec)

/-- 'loanwordlaw20.CertBack', WHERE WHAT IT READS IS OF BULK AT MOST 1048576: true; the input reads as it did. -/
def certBackUptoRow : OpenClaim := { program := "ytoblfjmokfldnaadoor", sum := "ea1ac26c3e285754815714f38ec363edeab54f8454ab3626c709faec7ab6c570", func := "loanword/loanwordlaw20.CertBack", spec := "certBack", unfollowed := true, recurses := true, named := ["math/bits.deBruijn64tab"], apart := false, laid := [("math/bits.deBruijn64tab", laid_math_bits_deBruijn64tab)], narrowed := true }
def CertBackUptoSaid : Prop := certBackUptoRow.holds Tryd.pinned (OpenSpec.upto certBackSpec)

/-- 'loanwordlaw20.CertGoes', WHERE WHAT IT READS IS OF BULK AT MOST 1048576: true; the input reads as it did. -/
def certGoesUptoRow : OpenClaim := { program := "ytoblfjmokfldnaadoor", sum := "ea1ac26c3e285754815714f38ec363edeab54f8454ab3626c709faec7ab6c570", func := "loanword/loanwordlaw20.CertGoes", spec := "certGoes", unfollowed := true, recurses := true, named := ["math/bits.deBruijn64tab"], apart := false, laid := [("math/bits.deBruijn64tab", laid_math_bits_deBruijn64tab)], narrowed := true }
def CertGoesUptoSaid : Prop := certGoesUptoRow.holds Tryd.pinned (OpenSpec.upto certGoesSpec)

/-- 'loanwordlaw20.CertParts', WHERE WHAT IT READS IS OF BULK AT MOST 1048576: true; the input reads as it did. -/
def certPartsUptoRow : OpenClaim := { program := "ytoblfjmokfldnaadoor", sum := "ea1ac26c3e285754815714f38ec363edeab54f8454ab3626c709faec7ab6c570", func := "loanword/loanwordlaw20.CertParts", spec := "certParts", unfollowed := true, recurses := true, named := ["math/bits.deBruijn64tab"], apart := false, laid := [("math/bits.deBruijn64tab", laid_math_bits_deBruijn64tab)], narrowed := true }
def CertPartsUptoSaid : Prop := certPartsUptoRow.holds Tryd.pinned (OpenSpec.upto certPartsSpec)

end Rows
end Go.Proofs.YtoblfjmokfldnaaDoor
