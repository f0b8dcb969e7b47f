/- The texts Sc, one behind the other. -/
import Derived.Test.YtihabpimbfmhhaaGreatDoorK37
import Derived.Test.YtihabpimbfmhhaaGreatDoorK23
import Derived.Test.YtihabpimbfmhhaaGreatDoorK39
namespace Go.Proofs.YtihabpimbfmhhaaGreatDoor.Ev
open Go Go.RowKit
set_option linter.unusedVariables false
set_option linter.unusedSimpArgs false
noncomputable section
end
end Go.Proofs.YtihabpimbfmhhaaGreatDoor.Ev
