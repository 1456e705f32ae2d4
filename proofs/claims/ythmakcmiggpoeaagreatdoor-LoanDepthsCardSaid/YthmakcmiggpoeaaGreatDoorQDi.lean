/-
  Contracts and plain laws that the last text leans on.
-/
import Derived.Test.YthmakcmiggpoeaaGreatDoorQDh
import Derived.Test.YthmakcmiggpoeaaGreatDoorQDf
import Derived.Test.YthmakcmiggpoeaaGreatDoorQDe
set_option maxRecDepth 100000
set_option maxHeartbeats 8000000
set_option linter.unusedVariables false
set_option linter.unusedSimpArgs false
section
namespace Go.Proofs.YthmakcmiggpoeaaGreatDoor.loanBreaks
open Go.Sh Go.ChangeShapes Go.WideShapes Go.ChangeAt Go.RowKit openG
end Go.Proofs.YthmakcmiggpoeaaGreatDoor.loanBreaks
end
section
namespace Go.Proofs
open Go.Sh Go.RowKit Go.BM
end Go.Proofs
end
