/- The texts Lay0, one behind the other. -/
import Derived.Test.YtmigffdeghfbhaaK12
import Derived.LaidSub
import Derived.MakeChecks
import Derived.LaidMore
import Derived.SizedLaws
import Derived.Handed
import Derived.Shelf.Vars
import Derived.Stop.LaidErr
namespace Go.Proofs.Ytmigffdeghfbhaa.Ev
open Go Go.RowKit
theorem max_of {W : World} (h : W.ShapedOpen Try.prog) : MaxInt W := fun g hg => by
  exact absurd hg (by rw [show Try.prog.globalNamed "internal/bytealg.MaxLen" = none by kernel_rfl]; intro e; cases e)
theorem errAt_none {W : World} {n : String} (h : Try.prog.globalNamed n = none) : ErrAt n W := fun g hg => by rw [h] at hg; cases hg
variable {H : Type} {enc : TypeId × Value → H}
end Go.Proofs.Ytmigffdeghfbhaa.Ev
