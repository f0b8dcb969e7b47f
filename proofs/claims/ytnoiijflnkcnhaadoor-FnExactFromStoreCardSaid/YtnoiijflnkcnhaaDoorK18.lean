/- The texts Lay0, one behind the other. -/
import Derived.Test.YtnoiijflnkcnhaaDoorK12
import Derived.LaidSub
import Derived.MakeChecks
import Derived.LaidMore
namespace Go.Proofs.YtnoiijflnkcnhaaDoor.Ev
open Go Go.RowKit
theorem laid_of {W : World} {l : List (String × DataW Unit)} (h : laidMetH Tryd.prog l W) (h1 : (l.all fun x => x.2.handleName?.isNone) = true)
    (h2 : (l.filter fun x => x.1 == "internal/strconv.uint64pow10") = [("internal/strconv.uint64pow10", Lib.tabData .u64 Lib.pow10Tab)]) : Laid W := by
  rw [MakeChecks.laidMetH_plain _ _ _ h1] at h
  have h3 := h.filter fun x => x.1 == "internal/strconv.uint64pow10"
  rw [h2] at h3
  exact .inr (Lib.tabIs_of_head (g := 0) (t := 84) (e := 77) (n := 20) (by kernel_rfl) (by kernel_rfl) (by kernel_rfl) (by kernel_rfl) (by kernel_rfl) (by kernel_rfl) h3)
end Go.Proofs.YtnoiijflnkcnhaaDoor.Ev
