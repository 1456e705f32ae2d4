/-
  NARROWER THAN 'FOR EVERY INPUT', by the rows' own cells (each row's printed sentence says how): OutliveAll: loops, laid · OutliveRows: loops, laid · OutliveFlows: loops, laid · OutliveClosure: laid · LoanAll: loops, laid · LoanBreaks: loops, laid · LoanDepths: loops, laid · LoanLeast: loops, laid.
  DERIVED. THE GIVEN ROWS OF THIS SEAT. 8 by the template 'for every input the law returns true; each argument reads behind the call as it read before'; 0 by the template 'total and deterministic' (their statements: YthmakcmiggpoeaaGreatDoorTotals.lean).
  GIVEN WITH THE SEED: the statements are not yours to turn. If you find one false, say at which input.
  Laid BY PROGRAM, IN A SANDBOX (cutbox-rows.mjs): the forced cells as the released guide's own fill.sh prints them over the translation ba0487889b66080b… (all of the seat's roots in one cut). By AI agents, Wed Nov 11 2026. No macro, syntax, notation, axiom, sorry.
-/
import Derived.Test.YthmakcmiggpoeaaGreatDoorChecked
import GoSem.Claim
import GoSem.ClaimJoined
import GoSem.ClaimMapViews
import Derived.JoinedTies
import Derived.KernelRfl
namespace Go.Proofs.YthmakcmiggpoeaaGreatDoor
/- THE CELL 'sum', in the pinned program and in every row, IS THE sha256 OF THE DUMP (.gsa) THAT YthmakcmiggpoeaaGreatDoorProg.lean LOADS. Nothing in Lean hashes anything: it is a label: what it is worth is what the hold of that sum in a sandbox is worth. -/
noncomputable def Tryz.pinned : Pinned := { name := "ythmakcmiggpoeaagreatdoor", sum := "ba0487889b66080ba68c25635d85bf2c09818fcfaba4eb0023322ab840b0a331", checked := Tryz.checked }
namespace Rows
def none {H : Type} : Left H := { results := [], args := [] }

/- WHAT THE LISTED PACKAGE-LEVEL VARIABLES READ AS WHEN THE CALL BEGINS. Each datum BY PROGRAM (the guide's laid-datum.mjs) off the statement by which the dump's own 'gosem.cut.vars' lays the variable. In a bare row this is a premise. The card (YthmakcmiggpoeaaGreatDoorCards.lean) ties it to the program's text. -/
def laid_math_bits_deBruijn64tab {H : Type} : DataW H := .agg [.lit (.int .u8 0), .lit (.int .u8 1), .lit (.int .u8 56), .lit (.int .u8 2), .lit (.int .u8 57), .lit (.int .u8 49), .lit (.int .u8 28), .lit (.int .u8 3), .lit (.int .u8 61), .lit (.int .u8 58), .lit (.int .u8 42), .lit (.int .u8 50), .lit (.int .u8 38), .lit (.int .u8 29), .lit (.int .u8 17), .lit (.int .u8 4), .lit (.int .u8 62), .lit (.int .u8 47), .lit (.int .u8 59), .lit (.int .u8 36), .lit (.int .u8 45), .lit (.int .u8 43), .lit (.int .u8 51), .lit (.int .u8 22), .lit (.int .u8 53), .lit (.int .u8 39), .lit (.int .u8 33), .lit (.int .u8 30), .lit (.int .u8 24), .lit (.int .u8 18), .lit (.int .u8 12), .lit (.int .u8 5), .lit (.int .u8 63), .lit (.int .u8 55), .lit (.int .u8 48), .lit (.int .u8 27), .lit (.int .u8 60), .lit (.int .u8 41), .lit (.int .u8 37), .lit (.int .u8 16), .lit (.int .u8 46), .lit (.int .u8 35), .lit (.int .u8 44), .lit (.int .u8 21), .lit (.int .u8 52), .lit (.int .u8 32), .lit (.int .u8 23), .lit (.int .u8 11), .lit (.int .u8 54), .lit (.int .u8 26), .lit (.int .u8 40), .lit (.int .u8 15), .lit (.int .u8 34), .lit (.int .u8 20), .lit (.int .u8 31), .lit (.int .u8 10), .lit (.int .u8 25), .lit (.int .u8 14), .lit (.int .u8 19), .lit (.int .u8 9), .lit (.int .u8 13), .lit (.int .u8 8), .lit (.int .u8 7), .lit (.int .u8 6)]

/-- 'loanwordlaw15.OutliveAll': WHATEVER THE INPUT: true; the input reads as it did. -/
def outliveAllSpec : ChangeSpec := { name := "outliveAll", fn := fun _ => fun
  | [d1, d2, d3] => { results := [.lit (.bool true)], args := [d1, d2, d3] }
  | _ => none }
def outliveAllRow : OpenClaim := { program := "ythmakcmiggpoeaagreatdoor", sum := "ba0487889b66080ba68c25635d85bf2c09818fcfaba4eb0023322ab840b0a331", func := "loanword/loanwordlaw15.OutliveAll", spec := "outliveAll", unfollowed := true, recurses := true, named := ["math/bits.deBruijn64tab"], loops := true, plainKeys := false, apart := false, laid := [("math/bits.deBruijn64tab", laid_math_bits_deBruijn64tab)] }
def OutliveAllSaid : Prop := outliveAllRow.holds Tryz.pinned (OpenSpec.ofChange outliveAllSpec)

/-- ITS FALSE NEIGHBOUR: 'it returns false'. Refute it at one input. -/
def outliveAllWrong : ChangeSpec := { name := "outliveAll", fn := fun _ => fun
  | [d1, d2, d3] => { results := [.lit (.bool false)], args := [d1, d2, d3] }
  | _ => none }
def OutliveAllWrongFalsely : Prop := outliveAllRow.holds Tryz.pinned (OpenSpec.ofChange outliveAllWrong)

/-- 'loanwordlaw15.OutliveRows': WHATEVER THE INPUT: true; the input reads as it did. -/
def outliveRowsSpec : ChangeSpec := { name := "outliveRows", fn := fun _ => fun
  | [d1, d2, d3, d4, d5, d6] => { results := [.lit (.bool true)], args := [d1, d2, d3, d4, d5, d6] }
  | _ => none }
def outliveRowsRow : OpenClaim := { program := "ythmakcmiggpoeaagreatdoor", sum := "ba0487889b66080ba68c25635d85bf2c09818fcfaba4eb0023322ab840b0a331", func := "loanword/loanwordlaw15.OutliveRows", spec := "outliveRows", unfollowed := true, recurses := true, named := ["math/bits.deBruijn64tab"], loops := true, plainKeys := false, apart := false, laid := [("math/bits.deBruijn64tab", laid_math_bits_deBruijn64tab)] }
def OutliveRowsSaid : Prop := outliveRowsRow.holds Tryz.pinned (OpenSpec.ofChange outliveRowsSpec)

/-- ITS FALSE NEIGHBOUR: 'it returns false'. Refute it at one input. -/
def outliveRowsWrong : ChangeSpec := { name := "outliveRows", fn := fun _ => fun
  | [d1, d2, d3, d4, d5, d6] => { results := [.lit (.bool false)], args := [d1, d2, d3, d4, d5, d6] }
  | _ => none }
def OutliveRowsWrongFalsely : Prop := outliveRowsRow.holds Tryz.pinned (OpenSpec.ofChange outliveRowsWrong)

/-- 'loanwordlaw15.OutliveFlows': WHATEVER THE INPUT: true; the input reads as it did. -/
def outliveFlowsSpec : ChangeSpec := { name := "outliveFlows", fn := fun _ => fun
  | [d1, d2] => { results := [.lit (.bool true)], args := [d1, d2] }
  | _ => none }
def outliveFlowsRow : OpenClaim := { program := "ythmakcmiggpoeaagreatdoor", sum := "ba0487889b66080ba68c25635d85bf2c09818fcfaba4eb0023322ab840b0a331", func := "loanword/loanwordlaw15.OutliveFlows", spec := "outliveFlows", unfollowed := true, recurses := true, named := ["math/bits.deBruijn64tab"], loops := true, plainKeys := false, apart := false, laid := [("math/bits.deBruijn64tab", laid_math_bits_deBruijn64tab)] }
def OutliveFlowsSaid : Prop := outliveFlowsRow.holds Tryz.pinned (OpenSpec.ofChange outliveFlowsSpec)

/-- ITS FALSE NEIGHBOUR: 'it returns false'. Refute it at one input. -/
def outliveFlowsWrong : ChangeSpec := { name := "outliveFlows", fn := fun _ => fun
  | [d1, d2] => { results := [.lit (.bool false)], args := [d1, d2] }
  | _ => none }
def OutliveFlowsWrongFalsely : Prop := outliveFlowsRow.holds Tryz.pinned (OpenSpec.ofChange outliveFlowsWrong)

/-- 'loanwordlaw15.OutliveClosure': WHATEVER THE INPUT: true; the input reads as it did. -/
def outliveClosureSpec : ChangeSpec := { name := "outliveClosure", fn := fun _ => fun
  | [d1, d2, d3] => { results := [.lit (.bool true)], args := [d1, d2, d3] }
  | _ => none }
def outliveClosureRow : OpenClaim := { program := "ythmakcmiggpoeaagreatdoor", sum := "ba0487889b66080ba68c25635d85bf2c09818fcfaba4eb0023322ab840b0a331", func := "loanword/loanwordlaw15.OutliveClosure", spec := "outliveClosure", unfollowed := true, recurses := true, named := ["math/bits.deBruijn64tab"], plainKeys := false, apart := false, laid := [("math/bits.deBruijn64tab", laid_math_bits_deBruijn64tab)] }
def OutliveClosureSaid : Prop := outliveClosureRow.holds Tryz.pinned (OpenSpec.ofChange outliveClosureSpec)

/-- ITS FALSE NEIGHBOUR: 'it returns false'. Refute it at one input. -/
def outliveClosureWrong : ChangeSpec := { name := "outliveClosure", fn := fun _ => fun
  | [d1, d2, d3] => { results := [.lit (.bool false)], args := [d1, d2, d3] }
  | _ => none }
def OutliveClosureWrongFalsely : Prop := outliveClosureRow.holds Tryz.pinned (OpenSpec.ofChange outliveClosureWrong)

/-- 'loanwordlaw16.LoanAll': WHATEVER THE INPUT: true; the input reads as it did. -/
def loanAllSpec : ChangeSpec := { name := "loanAll", fn := fun _ => fun
  | [d1, d2, d3] => { results := [.lit (.bool true)], args := [d1, d2, d3] }
  | _ => none }
def loanAllRow : OpenClaim := { program := "ythmakcmiggpoeaagreatdoor", sum := "ba0487889b66080ba68c25635d85bf2c09818fcfaba4eb0023322ab840b0a331", func := "loanword/loanwordlaw16.LoanAll", spec := "loanAll", unfollowed := true, recurses := true, named := ["math/bits.deBruijn64tab"], loops := true, plainKeys := false, apart := false, laid := [("math/bits.deBruijn64tab", laid_math_bits_deBruijn64tab)] }
def LoanAllSaid : Prop := loanAllRow.holds Tryz.pinned (OpenSpec.ofChange loanAllSpec)

/-- ITS FALSE NEIGHBOUR: 'it returns false'. Refute it at one input. -/
def loanAllWrong : ChangeSpec := { name := "loanAll", fn := fun _ => fun
  | [d1, d2, d3] => { results := [.lit (.bool false)], args := [d1, d2, d3] }
  | _ => none }
def LoanAllWrongFalsely : Prop := loanAllRow.holds Tryz.pinned (OpenSpec.ofChange loanAllWrong)

/-- 'loanwordlaw16.LoanBreaks': WHATEVER THE INPUT: true; the input reads as it did. -/
def loanBreaksSpec : ChangeSpec := { name := "loanBreaks", fn := fun _ => fun
  | [d1, d2, d3, d4] => { results := [.lit (.bool true)], args := [d1, d2, d3, d4] }
  | _ => none }
def loanBreaksRow : OpenClaim := { program := "ythmakcmiggpoeaagreatdoor", sum := "ba0487889b66080ba68c25635d85bf2c09818fcfaba4eb0023322ab840b0a331", func := "loanword/loanwordlaw16.LoanBreaks", spec := "loanBreaks", unfollowed := true, recurses := true, named := ["math/bits.deBruijn64tab"], loops := true, plainKeys := false, apart := false, laid := [("math/bits.deBruijn64tab", laid_math_bits_deBruijn64tab)] }
def LoanBreaksSaid : Prop := loanBreaksRow.holds Tryz.pinned (OpenSpec.ofChange loanBreaksSpec)

/-- ITS FALSE NEIGHBOUR: 'it returns false'. Refute it at one input. -/
def loanBreaksWrong : ChangeSpec := { name := "loanBreaks", fn := fun _ => fun
  | [d1, d2, d3, d4] => { results := [.lit (.bool false)], args := [d1, d2, d3, d4] }
  | _ => none }
def LoanBreaksWrongFalsely : Prop := loanBreaksRow.holds Tryz.pinned (OpenSpec.ofChange loanBreaksWrong)

/-- 'loanwordlaw16.LoanDepths': WHATEVER THE INPUT: true; the input reads as it did. -/
def loanDepthsSpec : ChangeSpec := { name := "loanDepths", fn := fun _ => fun
  | [d1, d2, d3, d4, d5] => { results := [.lit (.bool true)], args := [d1, d2, d3, d4, d5] }
  | _ => none }
def loanDepthsRow : OpenClaim := { program := "ythmakcmiggpoeaagreatdoor", sum := "ba0487889b66080ba68c25635d85bf2c09818fcfaba4eb0023322ab840b0a331", func := "loanword/loanwordlaw16.LoanDepths", spec := "loanDepths", unfollowed := true, recurses := true, named := ["math/bits.deBruijn64tab"], loops := true, plainKeys := false, apart := false, laid := [("math/bits.deBruijn64tab", laid_math_bits_deBruijn64tab)] }
def LoanDepthsSaid : Prop := loanDepthsRow.holds Tryz.pinned (OpenSpec.ofChange loanDepthsSpec)

/-- ITS FALSE NEIGHBOUR: 'it returns false'. Refute it at one input. -/
def loanDepthsWrong : ChangeSpec := { name := "loanDepths", fn := fun _ => fun
  | [d1, d2, d3, d4, d5] => { results := [.lit (.bool false)], args := [d1, d2, d3, d4, d5] }
  | _ => none }
def LoanDepthsWrongFalsely : Prop := loanDepthsRow.holds Tryz.pinned (OpenSpec.ofChange loanDepthsWrong)

/-- 'loanwordlaw16.LoanLeast': WHATEVER THE INPUT: true; the input reads as it did. -/
def loanLeastSpec : ChangeSpec := { name := "loanLeast", fn := fun _ => fun
  | [d1, d2, d3, d4] => { results := [.lit (.bool true)], args := [d1, d2, d3, d4] }
  | _ => none }
def loanLeastRow : OpenClaim := { program := "ythmakcmiggpoeaagreatdoor", sum := "ba0487889b66080ba68c25635d85bf2c09818fcfaba4eb0023322ab840b0a331", func := "loanword/loanwordlaw16.LoanLeast", spec := "loanLeast", unfollowed := true, recurses := true, named := ["math/bits.deBruijn64tab"], loops := true, plainKeys := false, apart := false, laid := [("math/bits.deBruijn64tab", laid_math_bits_deBruijn64tab)] }
def LoanLeastSaid : Prop := loanLeastRow.holds Tryz.pinned (OpenSpec.ofChange loanLeastSpec)

/-- ITS FALSE NEIGHBOUR: 'it returns false'. Refute it at one input. -/
def loanLeastWrong : ChangeSpec := { name := "loanLeast", fn := fun _ => fun
  | [d1, d2, d3, d4] => { results := [.lit (.bool false)], args := [d1, d2, d3, d4] }
  | _ => none }
def LoanLeastWrongFalsely : Prop := loanLeastRow.holds Tryz.pinned (OpenSpec.ofChange loanLeastWrong)

/- THE SECOND FORM. 'bulk': how many values and letters a reading holds, each counted each time it is reached (what is shared counts as often as it is met; a slice's spare places count too). A statement '..UptoSaid' is the law's where the arguments, and the package variables that the reading takes, are together of bulk at most 1048576: NARROWER than '..Said'. Prove '..Said' where nothing that the law and all that it calls make is longer than what came in: it says more and counts as full. Else prove '..UptoSaid'. A law counts once. -/
mutual
def uptoBulk {H : Type} : DataW H → Nat
  | .lit (.string bytes) => bytes.length + 1
  | .lit _ => 1
  | .nil => 1
  | .ptr d => uptoBulk d + 1
  | .slice elems spare => uptoBulkAll elems + uptoBulkAll spare + 1
  | .agg parts => uptoBulkAll parts + 1
  | .iface _ d => uptoBulk d + 1
  | .map entries => uptoBulkEntries entries + 1
  | .held _ => 1
def uptoBulkAll {H : Type} : List (DataW H) → Nat
  | [] => 0
  | d :: r => uptoBulk d + uptoBulkAll r
def uptoBulkEntries {H : Type} : List (Lit × DataW H) → Nat
  | [] => 0
  | x :: r => uptoBulkEntry x + uptoBulkEntries r
def uptoBulkEntry {H : Type} : Lit × DataW H → Nat
  | (.string bytes, d) => bytes.length + uptoBulk d + 1
  | (_, d) => uptoBulk d + 1
 end
def uptoSmall : (H : Type) → List (DataW H) → Bool := fun _ ds => decide (uptoBulkAll ds ≤ 1048576)
def OpenSpec.upto (s : _root_.Go.ChangeSpec) : _root_.Go.OpenSpec := { _root_.Go.OpenSpec.ofChange s with cond := some uptoSmall }

/-- 'loanwordlaw15.OutliveAll', WHERE WHAT IT READS IS OF BULK AT MOST 1048576: true; the input reads as it did. -/
def outliveAllUptoRow : OpenClaim := { program := "ythmakcmiggpoeaagreatdoor", sum := "ba0487889b66080ba68c25635d85bf2c09818fcfaba4eb0023322ab840b0a331", func := "loanword/loanwordlaw15.OutliveAll", spec := "outliveAll", unfollowed := true, recurses := true, named := ["math/bits.deBruijn64tab"], loops := true, plainKeys := false, apart := false, laid := [("math/bits.deBruijn64tab", laid_math_bits_deBruijn64tab)], narrowed := true }
def OutliveAllUptoSaid : Prop := outliveAllUptoRow.holds Tryz.pinned (OpenSpec.upto outliveAllSpec)

/-- 'loanwordlaw15.OutliveRows', WHERE WHAT IT READS IS OF BULK AT MOST 1048576: true; the input reads as it did. -/
def outliveRowsUptoRow : OpenClaim := { program := "ythmakcmiggpoeaagreatdoor", sum := "ba0487889b66080ba68c25635d85bf2c09818fcfaba4eb0023322ab840b0a331", func := "loanword/loanwordlaw15.OutliveRows", spec := "outliveRows", unfollowed := true, recurses := true, named := ["math/bits.deBruijn64tab"], loops := true, plainKeys := false, apart := false, laid := [("math/bits.deBruijn64tab", laid_math_bits_deBruijn64tab)], narrowed := true }
def OutliveRowsUptoSaid : Prop := outliveRowsUptoRow.holds Tryz.pinned (OpenSpec.upto outliveRowsSpec)

/-- 'loanwordlaw15.OutliveFlows', WHERE WHAT IT READS IS OF BULK AT MOST 1048576: true; the input reads as it did. -/
def outliveFlowsUptoRow : OpenClaim := { program := "ythmakcmiggpoeaagreatdoor", sum := "ba0487889b66080ba68c25635d85bf2c09818fcfaba4eb0023322ab840b0a331", func := "loanword/loanwordlaw15.OutliveFlows", spec := "outliveFlows", unfollowed := true, recurses := true, named := ["math/bits.deBruijn64tab"], loops := true, plainKeys := false, apart := false, laid := [("math/bits.deBruijn64tab", laid_math_bits_deBruijn64tab)], narrowed := true }
def OutliveFlowsUptoSaid : Prop := outliveFlowsUptoRow.holds Tryz.pinned (OpenSpec.upto outliveFlowsSpec)

/-- 'loanwordlaw15.OutliveClosure', WHERE WHAT IT READS IS OF BULK AT MOST 1048576: true; the input reads as it did. -/
def outliveClosureUptoRow : OpenClaim := { program := "ythmakcmiggpoeaagreatdoor", sum := "ba0487889b66080ba68c25635d85bf2c09818fcfaba4eb0023322ab840b0a331", func := "loanword/loanwordlaw15.OutliveClosure", spec := "outliveClosure", unfollowed := true, recurses := true, named := ["math/bits.deBruijn64tab"], plainKeys := false, apart := false, laid := [("math/bits.deBruijn64tab", laid_math_bits_deBruijn64tab)], narrowed := true }
def OutliveClosureUptoSaid : Prop := outliveClosureUptoRow.holds Tryz.pinned (OpenSpec.upto outliveClosureSpec)

/-- 'loanwordlaw16.LoanAll', WHERE WHAT IT READS IS OF BULK AT MOST 1048576: true; the input reads as it did. -/
def loanAllUptoRow : OpenClaim := { program := "ythmakcmiggpoeaagreatdoor", sum := "ba0487889b66080ba68c25635d85bf2c09818fcfaba4eb0023322ab840b0a331", func := "loanword/loanwordlaw16.LoanAll", spec := "loanAll", unfollowed := true, recurses := true, named := ["math/bits.deBruijn64tab"], loops := true, plainKeys := false, apart := false, laid := [("math/bits.deBruijn64tab", laid_math_bits_deBruijn64tab)], narrowed := true }
def LoanAllUptoSaid : Prop := loanAllUptoRow.holds Tryz.pinned (OpenSpec.upto loanAllSpec)

/-- 'loanwordlaw16.LoanBreaks', WHERE WHAT IT READS IS OF BULK AT MOST 1048576: true; the input reads as it did. -/
def loanBreaksUptoRow : OpenClaim := { program := "ythmakcmiggpoeaagreatdoor", sum := "ba0487889b66080ba68c25635d85bf2c09818fcfaba4eb0023322ab840b0a331", func := "loanword/loanwordlaw16.LoanBreaks", spec := "loanBreaks", unfollowed := true, recurses := true, named := ["math/bits.deBruijn64tab"], loops := true, plainKeys := false, apart := false, laid := [("math/bits.deBruijn64tab", laid_math_bits_deBruijn64tab)], narrowed := true }
def LoanBreaksUptoSaid : Prop := loanBreaksUptoRow.holds Tryz.pinned (OpenSpec.upto loanBreaksSpec)

/-- 'loanwordlaw16.LoanDepths', WHERE WHAT IT READS IS OF BULK AT MOST 1048576: true; the input reads as it did. -/
def loanDepthsUptoRow : OpenClaim := { program := "ythmakcmiggpoeaagreatdoor", sum := "ba0487889b66080ba68c25635d85bf2c09818fcfaba4eb0023322ab840b0a331", func := "loanword/loanwordlaw16.LoanDepths", spec := "loanDepths", unfollowed := true, recurses := true, named := ["math/bits.deBruijn64tab"], loops := true, plainKeys := false, apart := false, laid := [("math/bits.deBruijn64tab", laid_math_bits_deBruijn64tab)], narrowed := true }
def LoanDepthsUptoSaid : Prop := loanDepthsUptoRow.holds Tryz.pinned (OpenSpec.upto loanDepthsSpec)

/-- 'loanwordlaw16.LoanLeast', WHERE WHAT IT READS IS OF BULK AT MOST 1048576: true; the input reads as it did. -/
def loanLeastUptoRow : OpenClaim := { program := "ythmakcmiggpoeaagreatdoor", sum := "ba0487889b66080ba68c25635d85bf2c09818fcfaba4eb0023322ab840b0a331", func := "loanword/loanwordlaw16.LoanLeast", spec := "loanLeast", unfollowed := true, recurses := true, named := ["math/bits.deBruijn64tab"], loops := true, plainKeys := false, apart := false, laid := [("math/bits.deBruijn64tab", laid_math_bits_deBruijn64tab)], narrowed := true }
def LoanLeastUptoSaid : Prop := loanLeastUptoRow.holds Tryz.pinned (OpenSpec.upto loanLeastSpec)

end Rows
end Go.Proofs.YthmakcmiggpoeaaGreatDoor
