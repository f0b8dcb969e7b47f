/- The program's own context: its table of types is true. -/
import Derived.Test.YtmigffdeghfbhaaEvT
import Derived.Test.YtmigffdeghfbhaaEv27
namespace Go.Proofs.Ytmigffdeghfbhaa.Ev
open Go Go.RowKit
noncomputable def Kx : Ctx := ctx Try.prog tab (fun _ => True) 0
theorem tabOk1 : (tab.map fun p => lookT Try.prog p.1) = tab.map fun p => want p.2 := by kernel_rfl
theorem tabOk2 : (tab.all fun p => selfOk tab p.2) = true := by kernel_rfl
theorem tabOk3 : Try.prog.follows .mixedOrders = true := by kernel_rfl
theorem tabOk4 : (tab.all fun p => !p.2.flat || flatT Try.prog p.1 p.2.cts) = true := by kernel_rfl
theorem KOk : Kx.Ok := ctx_ok tabOk1 tabOk2 tabOk3 tabOk4 (fun _ _ _ _ _ _ _ => trivial)
end Go.Proofs.Ytmigffdeghfbhaa.Ev
