/- The texts AnyH, one behind the other. -/
import Derived.Test.YtgknmoadpgpdeaaGreatDoorK24
import Derived.Lib.OthersKept
import Derived.Laws.RangeAny
import Derived.Laws.Runes
import Derived.StillTactics
namespace Go.Proofs.YtgknmoadpgpdeaaGreatDoor.Ev
open Go Go.RowKit Go.Proofs Go.Shelf
variable {P: Program} {ρ: Ren}
end Go.Proofs.YtgknmoadpgpdeaaGreatDoor.Ev
