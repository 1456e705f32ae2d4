/-
  NARROWER THAN 'FOR EVERY INPUT', by the rows' own cells (each row's printed sentence says how): RegionTurns: loops · RegionOnce: loops · RegionShapes: loops.
  DERIVED. THE GIVEN ROWS OF THIS SEAT. 3 by the template 'for every input the law returns true; each argument reads behind the call as it read before'; 0 by the template 'total and deterministic' (their statements: YtngfnikkdhbajaaTotals.lean).
  GIVEN WITH THE SEED: the statements are not yours to turn. If you find one false, say at which input.
  Laid BY PROGRAM, IN A SANDBOX (cutbox-rows.mjs): the forced cells as the released guide's own fill.sh prints them over the translation 8cd0728ad943b5e2… (all of the seat's roots in one cut). By AI agents, Wed Nov 11 2026. No macro, syntax, notation, axiom, sorry.
-/
import Derived.Test.YtngfnikkdhbajaaChecked
import GoSem.Claim
import GoSem.ClaimJoined
import GoSem.ClaimMapViews
import Derived.JoinedTies
import Derived.KernelRfl
namespace Go.Proofs.Ytngfnikkdhbajaa
/- THE CELL 'sum', in the pinned program and in every row, IS THE sha256 OF THE DUMP (.gsa) THAT YtngfnikkdhbajaaProg.lean LOADS. Nothing in Lean hashes anything: it is a label: what it is worth is what the hold of that sum in a sandbox is worth. -/
noncomputable def Try.pinned : Pinned := { name := "ytngfnikkdhbajaa", sum := "8cd0728ad943b5e2d5d847c341a8f069000368ce38f10c6dff679833bed4a96f", checked := Try.checked }
namespace Rows
def none {H : Type} : Left H := { results := [], args := [] }

/-- 'loanwordlaw13.RegionTurns': WHATEVER THE INPUT: true; the input reads as it did. -/
def regionTurnsSpec : ChangeSpec := { name := "regionTurns", fn := fun _ => fun
  | [d1, d2] => { results := [.lit (.bool true)], args := [d1, d2] }
  | _ => none }
def regionTurnsRow : OpenClaim := { program := "ytngfnikkdhbajaa", sum := "8cd0728ad943b5e2d5d847c341a8f069000368ce38f10c6dff679833bed4a96f", func := "loanword/loanwordlaw13.RegionTurns", spec := "regionTurns", unfollowed := true, recurses := true, loops := true, apart := false }
def RegionTurnsSaid : Prop := regionTurnsRow.holds Try.pinned (OpenSpec.ofChange regionTurnsSpec)

/-- ITS FALSE NEIGHBOUR: 'it returns false'. Refute it at one input. -/
def regionTurnsWrong : ChangeSpec := { name := "regionTurns", fn := fun _ => fun
  | [d1, d2] => { results := [.lit (.bool false)], args := [d1, d2] }
  | _ => none }
def RegionTurnsWrongFalsely : Prop := regionTurnsRow.holds Try.pinned (OpenSpec.ofChange regionTurnsWrong)

/-- 'loanwordlaw13.RegionOnce': WHATEVER THE INPUT: true; the input reads as it did. -/
def regionOnceSpec : ChangeSpec := { name := "regionOnce", fn := fun _ => fun
  | [d1, d2] => { results := [.lit (.bool true)], args := [d1, d2] }
  | _ => none }
def regionOnceRow : OpenClaim := { program := "ytngfnikkdhbajaa", sum := "8cd0728ad943b5e2d5d847c341a8f069000368ce38f10c6dff679833bed4a96f", func := "loanword/loanwordlaw13.RegionOnce", spec := "regionOnce", unfollowed := true, recurses := true, loops := true, apart := false }
def RegionOnceSaid : Prop := regionOnceRow.holds Try.pinned (OpenSpec.ofChange regionOnceSpec)

/-- ITS FALSE NEIGHBOUR: 'it returns false'. Refute it at one input. -/
def regionOnceWrong : ChangeSpec := { name := "regionOnce", fn := fun _ => fun
  | [d1, d2] => { results := [.lit (.bool false)], args := [d1, d2] }
  | _ => none }
def RegionOnceWrongFalsely : Prop := regionOnceRow.holds Try.pinned (OpenSpec.ofChange regionOnceWrong)

/-- 'loanwordlaw13.RegionShapes': WHATEVER THE INPUT: true; the input reads as it did. -/
def regionShapesSpec : ChangeSpec := { name := "regionShapes", fn := fun _ => fun
  | [d1, d2, d3] => { results := [.lit (.bool true)], args := [d1, d2, d3] }
  | _ => none }
def regionShapesRow : OpenClaim := { program := "ytngfnikkdhbajaa", sum := "8cd0728ad943b5e2d5d847c341a8f069000368ce38f10c6dff679833bed4a96f", func := "loanword/loanwordlaw13.RegionShapes", spec := "regionShapes", unfollowed := true, recurses := true, loops := true, apart := false }
def RegionShapesSaid : Prop := regionShapesRow.holds Try.pinned (OpenSpec.ofChange regionShapesSpec)

/-- ITS FALSE NEIGHBOUR: 'it returns false'. Refute it at one input. -/
def regionShapesWrong : ChangeSpec := { name := "regionShapes", fn := fun _ => fun
  | [d1, d2, d3] => { results := [.lit (.bool false)], args := [d1, d2, d3] }
  | _ => none }
def RegionShapesWrongFalsely : Prop := regionShapesRow.holds Try.pinned (OpenSpec.ofChange regionShapesWrong)

/- THE SECOND FORM. 'bulk': how many values and letters a reading holds, each counted each time it is reached (what is shared counts as often as it is met; a slice's spare places count too). A statement '..UptoSaid' is the law's where the arguments, and the package variables that the reading takes, are together of bulk at most 1048576: NARROWER than '..Said'. Prove '..Said' where nothing that the law and all that it calls make is longer than what came in: it says more and counts as full. Else prove '..UptoSaid'. A law counts once. -/
mutual
def uptoBulk {H : Type} : DataW H → Nat
  | .lit (.string bytes) => bytes.length + 1
  | .lit _ => 1
  | .nil => 1
  | .ptr d => uptoBulk d + 1
  | .slice elems spare => uptoBulkAll elems + uptoBulkAll spare + 1
  | .agg parts => uptoBulkAll parts + 1
  | .iface _ d => uptoBulk d + 1
  | .map entries => uptoBulkEntries entries + 1
  | .held _ => 1
def uptoBulkAll {H : Type} : List (DataW H) → Nat
  | [] => 0
  | d :: r => uptoBulk d + uptoBulkAll r
def uptoBulkEntries {H : Type} : List (Lit × DataW H) → Nat
  | [] => 0
  | x :: r => uptoBulkEntry x + uptoBulkEntries r
def uptoBulkEntry {H : Type} : Lit × DataW H → Nat
  | (.string bytes, d) => bytes.length + uptoBulk d + 1
  | (_, d) => uptoBulk d + 1
 end
def uptoSmall : (H : Type) → List (DataW H) → Bool := fun _ ds => decide (uptoBulkAll ds ≤ 1048576)
def OpenSpec.upto (s : _root_.Go.ChangeSpec) : _root_.Go.OpenSpec := { _root_.Go.OpenSpec.ofChange s with cond := some uptoSmall }

/-- 'loanwordlaw13.RegionTurns', WHERE WHAT IT READS IS OF BULK AT MOST 1048576: true; the input reads as it did. -/
def regionTurnsUptoRow : OpenClaim := { program := "ytngfnikkdhbajaa", sum := "8cd0728ad943b5e2d5d847c341a8f069000368ce38f10c6dff679833bed4a96f", func := "loanword/loanwordlaw13.RegionTurns", spec := "regionTurns", unfollowed := true, recurses := true, loops := true, apart := false, narrowed := true }
def RegionTurnsUptoSaid : Prop := regionTurnsUptoRow.holds Try.pinned (OpenSpec.upto regionTurnsSpec)

/-- 'loanwordlaw13.RegionOnce', WHERE WHAT IT READS IS OF BULK AT MOST 1048576: true; the input reads as it did. -/
def regionOnceUptoRow : OpenClaim := { program := "ytngfnikkdhbajaa", sum := "8cd0728ad943b5e2d5d847c341a8f069000368ce38f10c6dff679833bed4a96f", func := "loanword/loanwordlaw13.RegionOnce", spec := "regionOnce", unfollowed := true, recurses := true, loops := true, apart := false, narrowed := true }
def RegionOnceUptoSaid : Prop := regionOnceUptoRow.holds Try.pinned (OpenSpec.upto regionOnceSpec)

/-- 'loanwordlaw13.RegionShapes', WHERE WHAT IT READS IS OF BULK AT MOST 1048576: true; the input reads as it did. -/
def regionShapesUptoRow : OpenClaim := { program := "ytngfnikkdhbajaa", sum := "8cd0728ad943b5e2d5d847c341a8f069000368ce38f10c6dff679833bed4a96f", func := "loanword/loanwordlaw13.RegionShapes", spec := "regionShapes", unfollowed := true, recurses := true, loops := true, apart := false, narrowed := true }
def RegionShapesUptoSaid : Prop := regionShapesUptoRow.holds Try.pinned (OpenSpec.upto regionShapesSpec)

end Rows
end Go.Proofs.Ytngfnikkdhbajaa
