/- The texts Tc, Td, Ya, Yb, Yc, Yd, Ye, Yf, Yg, ContS, Yh, Yi, Yj, Yk, Yl, Ym, Yn, Yo, Za, Zb, one behind the other. -/
import Derived.Test.YtdknaddanjpdaaaGreatDoorK24
import Derived.Test.YtdknaddanjpdaaaGreatDoorK22
import Derived.Test.YtdknaddanjpdaaaGreatDoorK12
namespace Go.Proofs.YtdknaddanjpdaaaGreatDoor.Ev
open Go Go.RowKit
set_option linter.unusedVariables false
set_option linter.unusedSimpArgs false
noncomputable section



end
end Go.Proofs.YtdknaddanjpdaaaGreatDoor.Ev

namespace Go.Proofs.YtdknaddanjpdaaaGreatDoor.Ev
open Go Go.RowKit
set_option linter.unusedVariables false
set_option linter.unusedSimpArgs false
noncomputable section

end
end Go.Proofs.YtdknaddanjpdaaaGreatDoor.Ev

namespace Go.Proofs.YtdknaddanjpdaaaGreatDoor.Ev
open Go Go.RowKit
set_option linter.unusedVariables false
set_option linter.unusedSimpArgs false
noncomputable section

end
end Go.Proofs.YtdknaddanjpdaaaGreatDoor.Ev

namespace Go.Proofs.YtdknaddanjpdaaaGreatDoor.Ev
open Go Go.RowKit
set_option linter.unusedVariables false
set_option linter.unusedSimpArgs false
noncomputable section

end
end Go.Proofs.YtdknaddanjpdaaaGreatDoor.Ev

namespace Go.Proofs.YtdknaddanjpdaaaGreatDoor.Ev
open Go Go.RowKit
set_option linter.unusedVariables false
set_option linter.unusedSimpArgs false
noncomputable section

end
end Go.Proofs.YtdknaddanjpdaaaGreatDoor.Ev

namespace Go.Proofs.YtdknaddanjpdaaaGreatDoor.Ev
open Go Go.RowKit
set_option linter.unusedVariables false
set_option linter.unusedSimpArgs false
noncomputable section

end
end Go.Proofs.YtdknaddanjpdaaaGreatDoor.Ev

namespace Go.Proofs.YtdknaddanjpdaaaGreatDoor.Ev
open Go Go.RowKit
set_option linter.unusedVariables false
set_option linter.unusedSimpArgs false
noncomputable section

end
end Go.Proofs.YtdknaddanjpdaaaGreatDoor.Ev

namespace Go.Proofs.YtdknaddanjpdaaaGreatDoor.Ev
open Go Go.RowKit
set_option linter.unusedVariables false
set_option linter.unusedSimpArgs false
noncomputable section

def iGet_C : SC := [⟨90, _, iValues_okQ⟩]
def iGet_br (l : List Fd) (name : Bytes) : Br := (Br.ite (isM name) (Br.ite (decide (((List.length (vals l name)) : Int) = 0)) (Br.ret (AV.tup ((AV.str ([] : Bytes)) :: ((AV.bool false) :: []))) []) (Br.ite (decide (0 < ((List.length (vals l name)) : Int))) (Br.ret (AV.tup ((AV.str (List.getD (vals l name) 0 ([] : Bytes))) :: ((AV.bool true) :: []))) []) Br.fail)) Br.fail)
def iGet_s : List AV → List Ob → Br
  | [.sh (.pair .str .str) l, .str name], [] => iGet_br l name
  | _, _ => .fail
theorem iGet_ok : Sound Kx 39 iGet_s := sound_br (C := iGet_C) (O := O0) Tryz.func39 (by kernel_rfl) fun args objs => by
  unfold iGet_s; split
  · exact .inr (by kernel_rfl)
  · exact .inl rfl

theorem iGet_okQ : Sound Kx 39 sGet2_s := iGet_ok.of fun args objs r h => by
  unfold sGet2_s at h; split at h
  · rename_i l name
    obtain ⟨h1, h2⟩ := ite_some h
    cases h2
    show (iGet_br l name).val = some (.tup [.str ((vals l name).getD 0 []), .bool (hasP l name)], [])
    unfold iGet_br hasP
    rw [h1]
    cases hv : vals l name with
    | nil => rfl
    | cons a v =>
      rw [decide_eq_false (show ¬ ((a :: v).length : Int) = 0 by simp only [List.length_cons]; omega), decide_eq_true (show (0 : Int) < ((a :: v).length : Int) by simp only [List.length_cons]; omega), decide_eq_true (show 0 < (a :: v).length by simp)]
      rfl
  · cases h
end
end Go.Proofs.YtdknaddanjpdaaaGreatDoor.Ev
