/- The texts AnyH, one behind the other. -/
import Derived.Test.YtihabpimbfmhhaaGreatDoorK29
import Derived.Lib.OthersKept
import Derived.Laws.RangeAny
import Derived.Laws.Runes
import Derived.StillTactics
namespace Go.Proofs.YtihabpimbfmhhaaGreatDoor.Ev
open Go Go.RowKit Go.Proofs Go.Shelf
variable {P:Program} {ρ:Ren}
end Go.Proofs.YtihabpimbfmhhaaGreatDoor.Ev
