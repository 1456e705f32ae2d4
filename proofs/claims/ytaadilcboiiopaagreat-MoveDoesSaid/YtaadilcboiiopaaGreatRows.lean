/-
  NARROWER THAN 'FOR EVERY INPUT', by the rows' own cells (each row's printed sentence says how): MoveDoes: loops · MoveWhole: loops · MoveUses: loops.
  DERIVED. THE GIVEN ROWS OF THIS SEAT. 3 by the template 'for every input the law returns true; each argument reads behind the call as it read before'; 0 by the template 'total and deterministic' (their statements: YtaadilcboiiopaaGreatTotals.lean).
  GIVEN WITH THE SEED: the statements are not yours to turn. If you find one false, say at which input.
  Laid BY PROGRAM, IN A SANDBOX (cutbox-rows.mjs): the forced cells as the released guide's own fill.sh prints them over the translation 5f65fdf546403775… (all of the seat's roots in one cut). By AI agents, Wed Nov 11 2026. No macro, syntax, notation, axiom, sorry.
-/
import Derived.Test.YtaadilcboiiopaaGreatChecked
import GoSem.Claim
import GoSem.ClaimJoined
import GoSem.ClaimMapViews
import Derived.JoinedTies
import Derived.KernelRfl
namespace Go.Proofs.YtaadilcboiiopaaGreat
/- THE CELL 'sum', in the pinned program and in every row, IS THE sha256 OF THE DUMP (.gsa) THAT YtaadilcboiiopaaGreatProg.lean LOADS. Nothing in Lean hashes anything: it is a label: what it is worth is what the hold of that sum in a sandbox is worth. -/
noncomputable def Tryz.pinned : Pinned := { name := "ytaadilcboiiopaagreat", sum := "5f65fdf5464037753741052a14589b1df9d409adf01bd7959fef7672268ec1ec", checked := Tryz.checked }
namespace Rows
def none {H : Type} : Left H := { results := [], args := [] }

/-- 'loanwordlaw17.MoveDoes': WHATEVER THE INPUT: true; the input reads as it did. -/
def moveDoesSpec : ChangeSpec := { name := "moveDoes", fn := fun _ => fun
  | [d1, d2, d3, d4] => { results := [.lit (.bool true)], args := [d1, d2, d3, d4] }
  | _ => none }
def moveDoesRow : OpenClaim := { program := "ytaadilcboiiopaagreat", sum := "5f65fdf5464037753741052a14589b1df9d409adf01bd7959fef7672268ec1ec", func := "loanword/loanwordlaw17.MoveDoes", spec := "moveDoes", unfollowed := true, recurses := true, loops := true, apart := false }
def MoveDoesSaid : Prop := moveDoesRow.holds Tryz.pinned (OpenSpec.ofChange moveDoesSpec)

/-- ITS FALSE NEIGHBOUR: 'it returns false'. Refute it at one input. -/
def moveDoesWrong : ChangeSpec := { name := "moveDoes", fn := fun _ => fun
  | [d1, d2, d3, d4] => { results := [.lit (.bool false)], args := [d1, d2, d3, d4] }
  | _ => none }
def MoveDoesWrongFalsely : Prop := moveDoesRow.holds Tryz.pinned (OpenSpec.ofChange moveDoesWrong)

/-- 'loanwordlaw17.MoveWhole': WHATEVER THE INPUT: true; the input reads as it did. -/
def moveWholeSpec : ChangeSpec := { name := "moveWhole", fn := fun _ => fun
  | [d1, d2, d3, d4, d5] => { results := [.lit (.bool true)], args := [d1, d2, d3, d4, d5] }
  | _ => none }
def moveWholeRow : OpenClaim := { program := "ytaadilcboiiopaagreat", sum := "5f65fdf5464037753741052a14589b1df9d409adf01bd7959fef7672268ec1ec", func := "loanword/loanwordlaw17.MoveWhole", spec := "moveWhole", unfollowed := true, recurses := true, loops := true, apart := false }
def MoveWholeSaid : Prop := moveWholeRow.holds Tryz.pinned (OpenSpec.ofChange moveWholeSpec)

/-- ITS FALSE NEIGHBOUR: 'it returns false'. Refute it at one input. -/
def moveWholeWrong : ChangeSpec := { name := "moveWhole", fn := fun _ => fun
  | [d1, d2, d3, d4, d5] => { results := [.lit (.bool false)], args := [d1, d2, d3, d4, d5] }
  | _ => none }
def MoveWholeWrongFalsely : Prop := moveWholeRow.holds Tryz.pinned (OpenSpec.ofChange moveWholeWrong)

/-- 'loanwordlaw17.MoveUses': WHATEVER THE INPUT: true; the input reads as it did. -/
def moveUsesSpec : ChangeSpec := { name := "moveUses", fn := fun _ => fun
  | [d1, d2, d3] => { results := [.lit (.bool true)], args := [d1, d2, d3] }
  | _ => none }
def moveUsesRow : OpenClaim := { program := "ytaadilcboiiopaagreat", sum := "5f65fdf5464037753741052a14589b1df9d409adf01bd7959fef7672268ec1ec", func := "loanword/loanwordlaw17.MoveUses", spec := "moveUses", unfollowed := true, recurses := true, loops := true, apart := false }
def MoveUsesSaid : Prop := moveUsesRow.holds Tryz.pinned (OpenSpec.ofChange moveUsesSpec)

/-- ITS FALSE NEIGHBOUR: 'it returns false'. Refute it at one input. -/
def moveUsesWrong : ChangeSpec := { name := "moveUses", fn := fun _ => fun
  | [d1, d2, d3] => { results := [.lit (.bool false)], args := [d1, d2, d3] }
  | _ => none }
def MoveUsesWrongFalsely : Prop := moveUsesRow.holds Tryz.pinned (OpenSpec.ofChange moveUsesWrong)

/- THE SECOND FORM. 'bulk': how many values and letters a reading holds, each counted each time it is reached (what is shared counts as often as it is met; a slice's spare places count too). A statement '..UptoSaid' is the law's where the arguments, and the package variables that the reading takes, are together of bulk at most 1048576: NARROWER than '..Said'. Prove '..Said' where nothing that the law and all that it calls make is longer than what came in: it says more and counts as full. Else prove '..UptoSaid'. A law counts once. -/
mutual
def uptoBulk {H : Type} : DataW H → Nat
  | .lit (.string bytes) => bytes.length + 1
  | .lit _ => 1
  | .nil => 1
  | .ptr d => uptoBulk d + 1
  | .slice elems spare => uptoBulkAll elems + uptoBulkAll spare + 1
  | .agg parts => uptoBulkAll parts + 1
  | .iface _ d => uptoBulk d + 1
  | .map entries => uptoBulkEntries entries + 1
  | .held _ => 1
def uptoBulkAll {H : Type} : List (DataW H) → Nat
  | [] => 0
  | d :: r => uptoBulk d + uptoBulkAll r
def uptoBulkEntries {H : Type} : List (Lit × DataW H) → Nat
  | [] => 0
  | x :: r => uptoBulkEntry x + uptoBulkEntries r
def uptoBulkEntry {H : Type} : Lit × DataW H → Nat
  | (.string bytes, d) => bytes.length + uptoBulk d + 1
  | (_, d) => uptoBulk d + 1
 end
def uptoSmall : (H : Type) → List (DataW H) → Bool := fun _ ds => decide (uptoBulkAll ds ≤ 1048576)
def OpenSpec.upto (s : _root_.Go.ChangeSpec) : _root_.Go.OpenSpec := { _root_.Go.OpenSpec.ofChange s with cond := some uptoSmall }

/-- 'loanwordlaw17.MoveDoes', WHERE WHAT IT READS IS OF BULK AT MOST 1048576: true; the input reads as it did. -/
def moveDoesUptoRow : OpenClaim := { program := "ytaadilcboiiopaagreat", sum := "5f65fdf5464037753741052a14589b1df9d409adf01bd7959fef7672268ec1ec", func := "loanword/loanwordlaw17.MoveDoes", spec := "moveDoes", unfollowed := true, recurses := true, loops := true, apart := false, narrowed := true }
def MoveDoesUptoSaid : Prop := moveDoesUptoRow.holds Tryz.pinned (OpenSpec.upto moveDoesSpec)

/-- 'loanwordlaw17.MoveWhole', WHERE WHAT IT READS IS OF BULK AT MOST 1048576: true; the input reads as it did. -/
def moveWholeUptoRow : OpenClaim := { program := "ytaadilcboiiopaagreat", sum := "5f65fdf5464037753741052a14589b1df9d409adf01bd7959fef7672268ec1ec", func := "loanword/loanwordlaw17.MoveWhole", spec := "moveWhole", unfollowed := true, recurses := true, loops := true, apart := false, narrowed := true }
def MoveWholeUptoSaid : Prop := moveWholeUptoRow.holds Tryz.pinned (OpenSpec.upto moveWholeSpec)

/-- 'loanwordlaw17.MoveUses', WHERE WHAT IT READS IS OF BULK AT MOST 1048576: true; the input reads as it did. -/
def moveUsesUptoRow : OpenClaim := { program := "ytaadilcboiiopaagreat", sum := "5f65fdf5464037753741052a14589b1df9d409adf01bd7959fef7672268ec1ec", func := "loanword/loanwordlaw17.MoveUses", spec := "moveUses", unfollowed := true, recurses := true, loops := true, apart := false, narrowed := true }
def MoveUsesUptoSaid : Prop := moveUsesUptoRow.holds Tryz.pinned (OpenSpec.upto moveUsesSpec)

end Rows
end Go.Proofs.YtaadilcboiiopaaGreat
