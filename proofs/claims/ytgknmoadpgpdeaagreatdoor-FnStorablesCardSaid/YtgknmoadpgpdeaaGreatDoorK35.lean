/- The texts CloneH, CloneS, one behind the other. -/
import Derived.Test.YtgknmoadpgpdeaaGreatDoorK13
import Derived.Lib.Walk
import Derived.Lib.SliceRun
import Derived.Laws.AppendOwn
import Derived.WalkKit
namespace Go.Proofs
open Go.RowKit Go.Lib
set_option linter.unusedVariables false
end Go.Proofs
namespace Go.Proofs.YtgknmoadpgpdeaaGreatDoor.Ev
open Go Go.RowKit
set_option linter.unusedVariables false
set_option linter.unusedSimpArgs false
noncomputable section
end
end Go.Proofs.YtgknmoadpgpdeaaGreatDoor.Ev
