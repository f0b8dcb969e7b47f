/- The texts Ya, Yb, Yc, Yd, Ye, Yf, Yg, ContS, Yh, Yi, Yj, Yk, Yl, Ym, Yn, Yo, Za, Zb, Zc, Zd, Ze, Zf, one behind the other. -/
import Derived.Test.YtihabpimbfmhhaaGreatDoorK34
import Derived.Test.YtihabpimbfmhhaaGreatDoorK32
import Derived.Test.YtihabpimbfmhhaaGreatDoorK13
import Derived.Test.YtihabpimbfmhhaaGreatDoorK29
namespace Go.Proofs.YtihabpimbfmhhaaGreatDoor.Ev
open Go Go.RowKit
set_option linter.unusedVariables false
set_option linter.unusedSimpArgs false
noncomputable section
end
end Go.Proofs.YtihabpimbfmhhaaGreatDoor.Ev
