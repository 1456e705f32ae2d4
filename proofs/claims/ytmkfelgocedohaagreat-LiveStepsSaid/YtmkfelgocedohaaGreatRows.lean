/-
  NARROWER THAN 'FOR EVERY INPUT', by the rows' own cells (each row's printed sentence says how): FlowPoints: loops · FlowWhole: loops · FlowWays: loops · FlowAbove: loops · LiveRows: loops · LiveWays: loops · FlowReach: loops · FlowOrder: loops · LiveSteps: loops.
  DERIVED. THE GIVEN ROWS OF THIS SEAT. 9 by the template 'for every input the law returns true; each argument reads behind the call as it read before'; 0 by the template 'total and deterministic' (their statements: YtmkfelgocedohaaGreatTotals.lean).
  GIVEN WITH THE SEED: the statements are not yours to turn. If you find one false, say at which input.
  Laid BY PROGRAM, IN A SANDBOX (cutbox-rows.mjs): the forced cells as the released guide's own fill.sh prints them over the translation fd8f9443351a2708… (all of the seat's roots in one cut). By AI agents, Wed Nov 11 2026. No macro, syntax, notation, axiom, sorry.
-/
import Derived.Test.YtmkfelgocedohaaGreatChecked
import GoSem.Claim
import GoSem.ClaimJoined
import GoSem.ClaimMapViews
import Derived.JoinedTies
import Derived.KernelRfl
namespace Go.Proofs.YtmkfelgocedohaaGreat
/- THE CELL 'sum', in the pinned program and in every row, IS THE sha256 OF THE DUMP (.gsa) THAT YtmkfelgocedohaaGreatProg.lean LOADS. Nothing in Lean hashes anything: it is a label: what it is worth is what the hold of that sum in a sandbox is worth. -/
noncomputable def Tryz.pinned : Pinned := { name := "ytmkfelgocedohaagreat", sum := "fd8f9443351a2708df802e2c9f8f87c9840944c1964dc4f038ba1029a7bbf482", checked := Tryz.checked }
namespace Rows
def none {H : Type} : Left H := { results := [], args := [] }

/-- 'loanwordlaw12.FlowPoints': WHATEVER THE INPUT: true; the input reads as it did. -/
def flowPointsSpec : ChangeSpec := { name := "flowPoints", fn := fun _ => fun
  | [d1, d2, d3, d4] => { results := [.lit (.bool true)], args := [d1, d2, d3, d4] }
  | _ => none }
def flowPointsRow : OpenClaim := { program := "ytmkfelgocedohaagreat", sum := "fd8f9443351a2708df802e2c9f8f87c9840944c1964dc4f038ba1029a7bbf482", func := "loanword/loanwordlaw12.FlowPoints", spec := "flowPoints", unfollowed := true, recurses := true, loops := true, apart := false }
def FlowPointsSaid : Prop := flowPointsRow.holds Tryz.pinned (OpenSpec.ofChange flowPointsSpec)

/-- ITS FALSE NEIGHBOUR: 'it returns false'. Refute it at one input. -/
def flowPointsWrong : ChangeSpec := { name := "flowPoints", fn := fun _ => fun
  | [d1, d2, d3, d4] => { results := [.lit (.bool false)], args := [d1, d2, d3, d4] }
  | _ => none }
def FlowPointsWrongFalsely : Prop := flowPointsRow.holds Tryz.pinned (OpenSpec.ofChange flowPointsWrong)

/-- 'loanwordlaw12.FlowWhole': WHATEVER THE INPUT: true; the input reads as it did. -/
def flowWholeSpec : ChangeSpec := { name := "flowWhole", fn := fun _ => fun
  | [d1, d2] => { results := [.lit (.bool true)], args := [d1, d2] }
  | _ => none }
def flowWholeRow : OpenClaim := { program := "ytmkfelgocedohaagreat", sum := "fd8f9443351a2708df802e2c9f8f87c9840944c1964dc4f038ba1029a7bbf482", func := "loanword/loanwordlaw12.FlowWhole", spec := "flowWhole", unfollowed := true, recurses := true, loops := true, apart := false }
def FlowWholeSaid : Prop := flowWholeRow.holds Tryz.pinned (OpenSpec.ofChange flowWholeSpec)

/-- ITS FALSE NEIGHBOUR: 'it returns false'. Refute it at one input. -/
def flowWholeWrong : ChangeSpec := { name := "flowWhole", fn := fun _ => fun
  | [d1, d2] => { results := [.lit (.bool false)], args := [d1, d2] }
  | _ => none }
def FlowWholeWrongFalsely : Prop := flowWholeRow.holds Tryz.pinned (OpenSpec.ofChange flowWholeWrong)

/-- 'loanwordlaw12.FlowWays': WHATEVER THE INPUT: true; the input reads as it did. -/
def flowWaysSpec : ChangeSpec := { name := "flowWays", fn := fun _ => fun
  | [d1, d2, d3, d4, d5] => { results := [.lit (.bool true)], args := [d1, d2, d3, d4, d5] }
  | _ => none }
def flowWaysRow : OpenClaim := { program := "ytmkfelgocedohaagreat", sum := "fd8f9443351a2708df802e2c9f8f87c9840944c1964dc4f038ba1029a7bbf482", func := "loanword/loanwordlaw12.FlowWays", spec := "flowWays", unfollowed := true, recurses := true, loops := true, apart := false }
def FlowWaysSaid : Prop := flowWaysRow.holds Tryz.pinned (OpenSpec.ofChange flowWaysSpec)

/-- ITS FALSE NEIGHBOUR: 'it returns false'. Refute it at one input. -/
def flowWaysWrong : ChangeSpec := { name := "flowWays", fn := fun _ => fun
  | [d1, d2, d3, d4, d5] => { results := [.lit (.bool false)], args := [d1, d2, d3, d4, d5] }
  | _ => none }
def FlowWaysWrongFalsely : Prop := flowWaysRow.holds Tryz.pinned (OpenSpec.ofChange flowWaysWrong)

/-- 'loanwordlaw12.FlowAbove': WHATEVER THE INPUT: true; the input reads as it did. -/
def flowAboveSpec : ChangeSpec := { name := "flowAbove", fn := fun _ => fun
  | [d1, d2, d3] => { results := [.lit (.bool true)], args := [d1, d2, d3] }
  | _ => none }
def flowAboveRow : OpenClaim := { program := "ytmkfelgocedohaagreat", sum := "fd8f9443351a2708df802e2c9f8f87c9840944c1964dc4f038ba1029a7bbf482", func := "loanword/loanwordlaw12.FlowAbove", spec := "flowAbove", unfollowed := true, recurses := true, loops := true, apart := false }
def FlowAboveSaid : Prop := flowAboveRow.holds Tryz.pinned (OpenSpec.ofChange flowAboveSpec)

/-- ITS FALSE NEIGHBOUR: 'it returns false'. Refute it at one input. -/
def flowAboveWrong : ChangeSpec := { name := "flowAbove", fn := fun _ => fun
  | [d1, d2, d3] => { results := [.lit (.bool false)], args := [d1, d2, d3] }
  | _ => none }
def FlowAboveWrongFalsely : Prop := flowAboveRow.holds Tryz.pinned (OpenSpec.ofChange flowAboveWrong)

/-- 'loanwordlaw14.LiveRows': WHATEVER THE INPUT: true; the input reads as it did. -/
def liveRowsSpec : ChangeSpec := { name := "liveRows", fn := fun _ => fun
  | [d1, d2, d3] => { results := [.lit (.bool true)], args := [d1, d2, d3] }
  | _ => none }
def liveRowsRow : OpenClaim := { program := "ytmkfelgocedohaagreat", sum := "fd8f9443351a2708df802e2c9f8f87c9840944c1964dc4f038ba1029a7bbf482", func := "loanword/loanwordlaw14.LiveRows", spec := "liveRows", unfollowed := true, recurses := true, loops := true, apart := false }
def LiveRowsSaid : Prop := liveRowsRow.holds Tryz.pinned (OpenSpec.ofChange liveRowsSpec)

/-- ITS FALSE NEIGHBOUR: 'it returns false'. Refute it at one input. -/
def liveRowsWrong : ChangeSpec := { name := "liveRows", fn := fun _ => fun
  | [d1, d2, d3] => { results := [.lit (.bool false)], args := [d1, d2, d3] }
  | _ => none }
def LiveRowsWrongFalsely : Prop := liveRowsRow.holds Tryz.pinned (OpenSpec.ofChange liveRowsWrong)

/-- 'loanwordlaw14.LiveWays': WHATEVER THE INPUT: true; the input reads as it did. -/
def liveWaysSpec : ChangeSpec := { name := "liveWays", fn := fun _ => fun
  | [d1, d2, d3, d4, d5] => { results := [.lit (.bool true)], args := [d1, d2, d3, d4, d5] }
  | _ => none }
def liveWaysRow : OpenClaim := { program := "ytmkfelgocedohaagreat", sum := "fd8f9443351a2708df802e2c9f8f87c9840944c1964dc4f038ba1029a7bbf482", func := "loanword/loanwordlaw14.LiveWays", spec := "liveWays", unfollowed := true, recurses := true, loops := true, apart := false }
def LiveWaysSaid : Prop := liveWaysRow.holds Tryz.pinned (OpenSpec.ofChange liveWaysSpec)

/-- ITS FALSE NEIGHBOUR: 'it returns false'. Refute it at one input. -/
def liveWaysWrong : ChangeSpec := { name := "liveWays", fn := fun _ => fun
  | [d1, d2, d3, d4, d5] => { results := [.lit (.bool false)], args := [d1, d2, d3, d4, d5] }
  | _ => none }
def LiveWaysWrongFalsely : Prop := liveWaysRow.holds Tryz.pinned (OpenSpec.ofChange liveWaysWrong)

/-- 'loanwordlaw12.FlowReach': WHATEVER THE INPUT: true; the input reads as it did. -/
def flowReachSpec : ChangeSpec := { name := "flowReach", fn := fun _ => fun
  | [d1, d2, d3] => { results := [.lit (.bool true)], args := [d1, d2, d3] }
  | _ => none }
def flowReachRow : OpenClaim := { program := "ytmkfelgocedohaagreat", sum := "fd8f9443351a2708df802e2c9f8f87c9840944c1964dc4f038ba1029a7bbf482", func := "loanword/loanwordlaw12.FlowReach", spec := "flowReach", unfollowed := true, recurses := true, loops := true, apart := false }
def FlowReachSaid : Prop := flowReachRow.holds Tryz.pinned (OpenSpec.ofChange flowReachSpec)

/-- ITS FALSE NEIGHBOUR: 'it returns false'. Refute it at one input. -/
def flowReachWrong : ChangeSpec := { name := "flowReach", fn := fun _ => fun
  | [d1, d2, d3] => { results := [.lit (.bool false)], args := [d1, d2, d3] }
  | _ => none }
def FlowReachWrongFalsely : Prop := flowReachRow.holds Tryz.pinned (OpenSpec.ofChange flowReachWrong)

/-- 'loanwordlaw12.FlowOrder': WHATEVER THE INPUT: true; the input reads as it did. -/
def flowOrderSpec : ChangeSpec := { name := "flowOrder", fn := fun _ => fun
  | [d1, d2] => { results := [.lit (.bool true)], args := [d1, d2] }
  | _ => none }
def flowOrderRow : OpenClaim := { program := "ytmkfelgocedohaagreat", sum := "fd8f9443351a2708df802e2c9f8f87c9840944c1964dc4f038ba1029a7bbf482", func := "loanword/loanwordlaw12.FlowOrder", spec := "flowOrder", unfollowed := true, recurses := true, loops := true, apart := false }
def FlowOrderSaid : Prop := flowOrderRow.holds Tryz.pinned (OpenSpec.ofChange flowOrderSpec)

/-- ITS FALSE NEIGHBOUR: 'it returns false'. Refute it at one input. -/
def flowOrderWrong : ChangeSpec := { name := "flowOrder", fn := fun _ => fun
  | [d1, d2] => { results := [.lit (.bool false)], args := [d1, d2] }
  | _ => none }
def FlowOrderWrongFalsely : Prop := flowOrderRow.holds Tryz.pinned (OpenSpec.ofChange flowOrderWrong)

/-- 'loanwordlaw14.LiveSteps': WHATEVER THE INPUT: true; the input reads as it did. -/
def liveStepsSpec : ChangeSpec := { name := "liveSteps", fn := fun _ => fun
  | [d1, d2, d3] => { results := [.lit (.bool true)], args := [d1, d2, d3] }
  | _ => none }
def liveStepsRow : OpenClaim := { program := "ytmkfelgocedohaagreat", sum := "fd8f9443351a2708df802e2c9f8f87c9840944c1964dc4f038ba1029a7bbf482", func := "loanword/loanwordlaw14.LiveSteps", spec := "liveSteps", unfollowed := true, recurses := true, loops := true, apart := false }
def LiveStepsSaid : Prop := liveStepsRow.holds Tryz.pinned (OpenSpec.ofChange liveStepsSpec)

/-- ITS FALSE NEIGHBOUR: 'it returns false'. Refute it at one input. -/
def liveStepsWrong : ChangeSpec := { name := "liveSteps", fn := fun _ => fun
  | [d1, d2, d3] => { results := [.lit (.bool false)], args := [d1, d2, d3] }
  | _ => none }
def LiveStepsWrongFalsely : Prop := liveStepsRow.holds Tryz.pinned (OpenSpec.ofChange liveStepsWrong)

/- THE SECOND FORM. 'bulk': how many values and letters a reading holds, each counted each time it is reached (what is shared counts as often as it is met; a slice's spare places count too). A statement '..UptoSaid' is the law's where the arguments, and the package variables that the reading takes, are together of bulk at most 1048576: NARROWER than '..Said'. Prove '..Said' where nothing that the law and all that it calls make is longer than what came in: it says more and counts as full. Else prove '..UptoSaid'. A law counts once. -/
mutual
def uptoBulk {H : Type} : DataW H → Nat
  | .lit (.string bytes) => bytes.length + 1
  | .lit _ => 1
  | .nil => 1
  | .ptr d => uptoBulk d + 1
  | .slice elems spare => uptoBulkAll elems + uptoBulkAll spare + 1
  | .agg parts => uptoBulkAll parts + 1
  | .iface _ d => uptoBulk d + 1
  | .map entries => uptoBulkEntries entries + 1
  | .held _ => 1
def uptoBulkAll {H : Type} : List (DataW H) → Nat
  | [] => 0
  | d :: r => uptoBulk d + uptoBulkAll r
def uptoBulkEntries {H : Type} : List (Lit × DataW H) → Nat
  | [] => 0
  | x :: r => uptoBulkEntry x + uptoBulkEntries r
def uptoBulkEntry {H : Type} : Lit × DataW H → Nat
  | (.string bytes, d) => bytes.length + uptoBulk d + 1
  | (_, d) => uptoBulk d + 1
 end
def uptoSmall : (H : Type) → List (DataW H) → Bool := fun _ ds => decide (uptoBulkAll ds ≤ 1048576)
def OpenSpec.upto (s : _root_.Go.ChangeSpec) : _root_.Go.OpenSpec := { _root_.Go.OpenSpec.ofChange s with cond := some uptoSmall }

/-- 'loanwordlaw12.FlowPoints', WHERE WHAT IT READS IS OF BULK AT MOST 1048576: true; the input reads as it did. -/
def flowPointsUptoRow : OpenClaim := { program := "ytmkfelgocedohaagreat", sum := "fd8f9443351a2708df802e2c9f8f87c9840944c1964dc4f038ba1029a7bbf482", func := "loanword/loanwordlaw12.FlowPoints", spec := "flowPoints", unfollowed := true, recurses := true, loops := true, apart := false, narrowed := true }
def FlowPointsUptoSaid : Prop := flowPointsUptoRow.holds Tryz.pinned (OpenSpec.upto flowPointsSpec)

/-- 'loanwordlaw12.FlowWhole', WHERE WHAT IT READS IS OF BULK AT MOST 1048576: true; the input reads as it did. -/
def flowWholeUptoRow : OpenClaim := { program := "ytmkfelgocedohaagreat", sum := "fd8f9443351a2708df802e2c9f8f87c9840944c1964dc4f038ba1029a7bbf482", func := "loanword/loanwordlaw12.FlowWhole", spec := "flowWhole", unfollowed := true, recurses := true, loops := true, apart := false, narrowed := true }
def FlowWholeUptoSaid : Prop := flowWholeUptoRow.holds Tryz.pinned (OpenSpec.upto flowWholeSpec)

/-- 'loanwordlaw12.FlowWays', WHERE WHAT IT READS IS OF BULK AT MOST 1048576: true; the input reads as it did. -/
def flowWaysUptoRow : OpenClaim := { program := "ytmkfelgocedohaagreat", sum := "fd8f9443351a2708df802e2c9f8f87c9840944c1964dc4f038ba1029a7bbf482", func := "loanword/loanwordlaw12.FlowWays", spec := "flowWays", unfollowed := true, recurses := true, loops := true, apart := false, narrowed := true }
def FlowWaysUptoSaid : Prop := flowWaysUptoRow.holds Tryz.pinned (OpenSpec.upto flowWaysSpec)

/-- 'loanwordlaw12.FlowAbove', WHERE WHAT IT READS IS OF BULK AT MOST 1048576: true; the input reads as it did. -/
def flowAboveUptoRow : OpenClaim := { program := "ytmkfelgocedohaagreat", sum := "fd8f9443351a2708df802e2c9f8f87c9840944c1964dc4f038ba1029a7bbf482", func := "loanword/loanwordlaw12.FlowAbove", spec := "flowAbove", unfollowed := true, recurses := true, loops := true, apart := false, narrowed := true }
def FlowAboveUptoSaid : Prop := flowAboveUptoRow.holds Tryz.pinned (OpenSpec.upto flowAboveSpec)

/-- 'loanwordlaw14.LiveRows', WHERE WHAT IT READS IS OF BULK AT MOST 1048576: true; the input reads as it did. -/
def liveRowsUptoRow : OpenClaim := { program := "ytmkfelgocedohaagreat", sum := "fd8f9443351a2708df802e2c9f8f87c9840944c1964dc4f038ba1029a7bbf482", func := "loanword/loanwordlaw14.LiveRows", spec := "liveRows", unfollowed := true, recurses := true, loops := true, apart := false, narrowed := true }
def LiveRowsUptoSaid : Prop := liveRowsUptoRow.holds Tryz.pinned (OpenSpec.upto liveRowsSpec)

/-- 'loanwordlaw14.LiveWays', WHERE WHAT IT READS IS OF BULK AT MOST 1048576: true; the input reads as it did. -/
def liveWaysUptoRow : OpenClaim := { program := "ytmkfelgocedohaagreat", sum := "fd8f9443351a2708df802e2c9f8f87c9840944c1964dc4f038ba1029a7bbf482", func := "loanword/loanwordlaw14.LiveWays", spec := "liveWays", unfollowed := true, recurses := true, loops := true, apart := false, narrowed := true }
def LiveWaysUptoSaid : Prop := liveWaysUptoRow.holds Tryz.pinned (OpenSpec.upto liveWaysSpec)

/-- 'loanwordlaw12.FlowReach', WHERE WHAT IT READS IS OF BULK AT MOST 1048576: true; the input reads as it did. -/
def flowReachUptoRow : OpenClaim := { program := "ytmkfelgocedohaagreat", sum := "fd8f9443351a2708df802e2c9f8f87c9840944c1964dc4f038ba1029a7bbf482", func := "loanword/loanwordlaw12.FlowReach", spec := "flowReach", unfollowed := true, recurses := true, loops := true, apart := false, narrowed := true }
def FlowReachUptoSaid : Prop := flowReachUptoRow.holds Tryz.pinned (OpenSpec.upto flowReachSpec)

/-- 'loanwordlaw12.FlowOrder', WHERE WHAT IT READS IS OF BULK AT MOST 1048576: true; the input reads as it did. -/
def flowOrderUptoRow : OpenClaim := { program := "ytmkfelgocedohaagreat", sum := "fd8f9443351a2708df802e2c9f8f87c9840944c1964dc4f038ba1029a7bbf482", func := "loanword/loanwordlaw12.FlowOrder", spec := "flowOrder", unfollowed := true, recurses := true, loops := true, apart := false, narrowed := true }
def FlowOrderUptoSaid : Prop := flowOrderUptoRow.holds Tryz.pinned (OpenSpec.upto flowOrderSpec)

/-- 'loanwordlaw14.LiveSteps', WHERE WHAT IT READS IS OF BULK AT MOST 1048576: true; the input reads as it did. -/
def liveStepsUptoRow : OpenClaim := { program := "ytmkfelgocedohaagreat", sum := "fd8f9443351a2708df802e2c9f8f87c9840944c1964dc4f038ba1029a7bbf482", func := "loanword/loanwordlaw14.LiveSteps", spec := "liveSteps", unfollowed := true, recurses := true, loops := true, apart := false, narrowed := true }
def LiveStepsUptoSaid : Prop := liveStepsUptoRow.holds Tryz.pinned (OpenSpec.upto liveStepsSpec)

end Rows
end Go.Proofs.YtmkfelgocedohaaGreat
