/-
  DERIVED. GIVEN WITH THE SEED: THE CARDS: each row of YtnoiijflnkcnhaaDoorRows.lean that lists a variable, with what it lists TIED to the program's text (the seventh form; the later family's looks); each row that meets fmt, with fmt's text TOLD by the authors' own Lean function (tested against real Go, not proved from fmt's source: count such statements apart). THE CARD IS WHAT COUNTS. Prove the row's statement (the work); the ties are given (YtnoiijflnkcnhaaDoorTie.lean); close each card by the builder's one call (the guide's Derived/Test/ToyasCard.lean, 'card_holds'). Laid BY PROGRAM, IN A SANDBOX (cutbox-door.mjs). By AI agents, Wed Nov 11 2026. No macro, syntax, notation, axiom, sorry.
-/
import Derived.Test.YtnoiijflnkcnhaaDoorRows
import GoSem.ClaimSeven
namespace Go.Proofs.YtnoiijflnkcnhaaDoor
namespace Rows

/-- THE TIED CARD OF 'laws.FnExactFromStore'. -/
def fnExactFromStoreCard : Claim7 := { stood := { row := fnExactFromStoreRow, standIns := [], harness := (true, "cc9b4b46ffc4d793057d57d831ac8ba00408f020b33866f3ac296f3f42e0a187"), looks := false }, kinds := [], alts := [], laidByText := true, laidKinds := [.data, .data, .data], laidTests := true, laidLooks := .later }
def FnExactFromStoreCardSaid : Prop := Claim7.holds Tryd.pinned (.plain (OpenSpec.ofChange fnExactFromStoreSpec)) fnExactFromStoreCard

/-- THE SECOND FORM's CARD OF 'laws.FnExactFromStore'. -/
def fnExactFromStoreUptoCard : Claim7 := { stood := { row := fnExactFromStoreUptoRow, standIns := [], harness := (true, "cc9b4b46ffc4d793057d57d831ac8ba00408f020b33866f3ac296f3f42e0a187"), looks := false }, kinds := [], alts := [], laidByText := true, laidKinds := [.data, .data, .data], laidTests := true, laidLooks := .later }
def FnExactFromStoreUptoCardSaid : Prop := Claim7.holds Tryd.pinned (.plain (OpenSpec.upto fnExactFromStoreSpec)) fnExactFromStoreUptoCard
end Rows
end Go.Proofs.YtnoiijflnkcnhaaDoor
