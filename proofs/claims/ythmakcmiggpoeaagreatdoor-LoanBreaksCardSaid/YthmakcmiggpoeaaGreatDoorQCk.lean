/-
  Openings: what an argument that is a list of rows tells.
  loanwordlaw16.LoanLeast: whatever the input, the law returns true and the input reads as it did.
  The last texts of LoanDepths and LoanBreaks.
-/
import Derived.Test.YthmakcmiggpoeaaGreatDoorQCi
import Derived.Test.YthmakcmiggpoeaaGreatDoorQCf
import Derived.Test.YthmakcmiggpoeaaGreatDoorQCj
set_option maxRecDepth 100000
set_option maxHeartbeats 8000000
set_option linter.unusedVariables false
set_option linter.unusedSimpArgs false
section
namespace Go.Proofs
open Go.Sh Go.BM
end Go.Proofs
namespace Go.Proofs.YthmakcmiggpoeaaGreatDoor.openG
open Go.Sh Go.ChangeShapes Go.WideShapes Go.ChangeAt Go.RowKit
set_option maxRecDepth 100000
end Go.Proofs.YthmakcmiggpoeaaGreatDoor.openG
end
section
namespace Go.Proofs.YthmakcmiggpoeaaGreatDoor.loanLeast
open Go.Sh Go.ChangeShapes Go.WideShapes Go.ChangeAt Go.RowKit openG
end Go.Proofs.YthmakcmiggpoeaaGreatDoor.loanLeast
end
section
end
