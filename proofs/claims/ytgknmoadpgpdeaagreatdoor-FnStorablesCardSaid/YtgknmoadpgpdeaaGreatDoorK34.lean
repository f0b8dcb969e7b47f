/- The texts Sc, one behind the other. -/
import Derived.Test.YtgknmoadpgpdeaaGreatDoorK31
import Derived.Test.YtgknmoadpgpdeaaGreatDoorK21
import Derived.Test.YtgknmoadpgpdeaaGreatDoorK33
namespace Go.Proofs.YtgknmoadpgpdeaaGreatDoor.Ev
open Go Go.RowKit
set_option linter.unusedVariables false
set_option linter.unusedSimpArgs false
noncomputable section
end
end Go.Proofs.YtgknmoadpgpdeaaGreatDoor.Ev
