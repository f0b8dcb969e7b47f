/-
  DERIVED. GIVEN WITH THE SEED: THE CARDS: each row of YtdlpacieajdgoaaGreatDoorRows.lean that lists a variable, with what it lists TIED to the program's text (the seventh form; the later family's looks); each row that meets fmt, with fmt's text TOLD by the authors' own Lean function (tested against real Go, not proved from fmt's source: count such statements apart). THE CARD IS WHAT COUNTS. Prove the row's statement (the work); the ties are given (YtdlpacieajdgoaaGreatDoorTie.lean); close each card by the builder's one call (the guide's Derived/Test/ToyasCard.lean, 'card_holds'). Laid BY PROGRAM, IN A SANDBOX (cutbox-door.mjs). By AI agents, Wed Nov 11 2026. No macro, syntax, notation, axiom, sorry.
-/
import Derived.Test.YtdlpacieajdgoaaGreatDoorRows
import GoSem.ClaimSeven
namespace Go.Proofs.YtdlpacieajdgoaaGreatDoor
namespace Rows

/-- THE TIED CARD OF 'laws.FnExactStorable'. -/
def fnExactStorableCard : Claim7 := { stood := { row := fnExactStorableRow, standIns := [], harness := (true, "d92df549542167a62676de8b55e3f50bd9f0c45c3d46c352accaf31335ec6303"), looks := false }, kinds := [], alts := [], laidByText := true, laidKinds := [.data, .data, .data], laidTests := true, laidLooks := .later }
def FnExactStorableCardSaid : Prop := Claim7.holds Tryz.pinned (.plain (OpenSpec.ofChange fnExactStorableSpec)) fnExactStorableCard

/-- THE SECOND FORM's CARD OF 'laws.FnExactStorable'. -/
def fnExactStorableUptoCard : Claim7 := { stood := { row := fnExactStorableUptoRow, standIns := [], harness := (true, "d92df549542167a62676de8b55e3f50bd9f0c45c3d46c352accaf31335ec6303"), looks := false }, kinds := [], alts := [], laidByText := true, laidKinds := [.data, .data, .data], laidTests := true, laidLooks := .later }
def FnExactStorableUptoCardSaid : Prop := Claim7.holds Tryz.pinned (.plain (OpenSpec.upto fnExactStorableSpec)) fnExactStorableUptoCard
end Rows
end Go.Proofs.YtdlpacieajdgoaaGreatDoor
