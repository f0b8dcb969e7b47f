/- The texts Ra, Rb, Rc, Rd, Re, Rf, Rg, Rh, Ri, Rj, Rk, Rl, one behind the other. -/
import Derived.Test.YtihabpimbfmhhaaGreatDoorK32
import Derived.Test.YtihabpimbfmhhaaGreatDoorK38
import Derived.Test.YtihabpimbfmhhaaGreatDoorK13
namespace Go.Proofs.YtihabpimbfmhhaaGreatDoor.Ev
open Go Go.RowKit
set_option linter.unusedVariables false
set_option linter.unusedSimpArgs false
noncomputable section
def h11:aa:=[72,84,84,80,47,49,46,49]
end
end Go.Proofs.YtihabpimbfmhhaaGreatDoor.Ev
