/- The texts Tb, one behind the other. -/
import Derived.Test.YtihabpimbfmhhaaGreatDoorK26
import Derived.Lib.IndexMore
namespace Go.Proofs.YtihabpimbfmhhaaGreatDoor.Ev
open Go Go.RowKit
set_option linter.unusedVariables false
set_option linter.unusedSimpArgs false
noncomputable section
end
end Go.Proofs.YtihabpimbfmhhaaGreatDoor.Ev
