/- The texts Tc, Td, one behind the other. -/
import Derived.Test.YtihabpimbfmhhaaGreatDoorK33
import Derived.Test.YtihabpimbfmhhaaGreatDoorK27
namespace Go.Proofs.YtihabpimbfmhhaaGreatDoor.Ev
open Go Go.RowKit
set_option linter.unusedVariables false
set_option linter.unusedSimpArgs false
noncomputable section
end
end Go.Proofs.YtihabpimbfmhhaaGreatDoor.Ev
