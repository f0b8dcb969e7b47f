/-
  DERIVED. GIVEN WITH THE SEED: THE CARDS: each row of YtihabpimbfmhhaaGreatDoorRows.lean that lists a variable, with what it lists TIED to the program's text (the seventh form; the later family's looks); each row that meets fmt, with fmt's text TOLD by the authors' own Lean function (tested against real Go, not proved from fmt's source: count such statements apart). THE CARD IS WHAT COUNTS. Prove the row's statement (the work); the ties are given (YtihabpimbfmhhaaGreatDoorTie.lean); close each card by the builder's one call (the guide's Derived/Test/ToyasCard.lean, 'card_holds'). Laid BY PROGRAM, IN A SANDBOX (cutbox-door.mjs). By AI agents, Wed Nov 11 2026. No macro, syntax, notation, axiom, sorry.
-/
import Derived.Test.YtihabpimbfmhhaaGreatDoorRows
import GoSem.ClaimSeven
namespace Go.Proofs.YtihabpimbfmhhaaGreatDoor
namespace Rows

/-- THE TIED CARD OF 'laws.FnExactDrop'. -/
def fnExactDropCard : Claim7 := { stood := { row := fnExactDropRow, standIns := [], harness := (true, "4db937921675b84f354b1c05a7bcd1184ebf667e8c30f7965e4ae80d9093682a"), looks := true }, kinds := [], alts := [], laidByText := true, laidKinds := [.data, .data, .data, .data, .sentinel, .sentinel, .pinned], laidTests := true, laidLooks := .later }
def FnExactDropCardSaid : Prop := Claim7.holds Tryz.pinned (.plain (OpenSpec.ofChange fnExactDropSpec)) fnExactDropCard

/-- THE TIED CARD OF 'laws.FnExactPut'. -/
def fnExactPutCard : Claim7 := { stood := { row := fnExactPutRow, standIns := [], harness := (true, "4db937921675b84f354b1c05a7bcd1184ebf667e8c30f7965e4ae80d9093682a"), looks := true }, kinds := [], alts := [], laidByText := true, laidKinds := [.data, .data, .data, .data, .sentinel, .sentinel, .pinned], laidTests := true, laidLooks := .later }
def FnExactPutCardSaid : Prop := Claim7.holds Tryz.pinned (.plain (OpenSpec.ofChange fnExactPutSpec)) fnExactPutCard

/-- THE TIED CARD OF 'laws.FnExactApply'. -/
def fnExactApplyCard : Claim7 := { stood := { row := fnExactApplyRow, standIns := [], harness := (true, "4db937921675b84f354b1c05a7bcd1184ebf667e8c30f7965e4ae80d9093682a"), looks := true }, kinds := [], alts := [], laidByText := true, laidKinds := [.data, .data, .data, .data, .sentinel, .sentinel, .pinned], laidTests := true, laidLooks := .later }
def FnExactApplyCardSaid : Prop := Claim7.holds Tryz.pinned (.plain (OpenSpec.ofChange fnExactApplySpec)) fnExactApplyCard

/-- THE TIED CARD OF 'laws.FnExactCacheOf'. -/
def fnExactCacheOfCard : Claim7 := { stood := { row := fnExactCacheOfRow, standIns := [], harness := (true, "4db937921675b84f354b1c05a7bcd1184ebf667e8c30f7965e4ae80d9093682a"), looks := true }, kinds := [], alts := [], laidByText := true, laidKinds := [.data, .data, .data, .data, .sentinel, .sentinel, .pinned], laidTests := true, laidLooks := .later }
def FnExactCacheOfCardSaid : Prop := Claim7.holds Tryz.pinned (.plain (OpenSpec.ofChange fnExactCacheOfSpec)) fnExactCacheOfCard

/-- THE TIED CARD OF 'laws.FnOrigins'. -/
def fnOriginsCard : Claim7 := { stood := { row := fnOriginsRow, standIns := [], harness := (true, "4db937921675b84f354b1c05a7bcd1184ebf667e8c30f7965e4ae80d9093682a"), looks := true }, kinds := [], alts := [], laidByText := true, laidKinds := [.data, .data, .data, .data, .sentinel, .sentinel, .pinned], laidTests := true, laidLooks := .later }
def FnOriginsCardSaid : Prop := Claim7.holds Tryz.pinned (.plain (OpenSpec.ofChange fnOriginsSpec)) fnOriginsCard

/-- THE SECOND FORM's CARD OF 'laws.FnExactDrop'. -/
def fnExactDropUptoCard : Claim7 := { stood := { row := fnExactDropUptoRow, standIns := [], harness := (true, "4db937921675b84f354b1c05a7bcd1184ebf667e8c30f7965e4ae80d9093682a"), looks := true }, kinds := [], alts := [], laidByText := true, laidKinds := [.data, .data, .data, .data, .sentinel, .sentinel, .pinned], laidTests := true, laidLooks := .later }
def FnExactDropUptoCardSaid : Prop := Claim7.holds Tryz.pinned (.plain (OpenSpec.upto fnExactDropSpec)) fnExactDropUptoCard

/-- THE SECOND FORM's CARD OF 'laws.FnExactPut'. -/
def fnExactPutUptoCard : Claim7 := { stood := { row := fnExactPutUptoRow, standIns := [], harness := (true, "4db937921675b84f354b1c05a7bcd1184ebf667e8c30f7965e4ae80d9093682a"), looks := true }, kinds := [], alts := [], laidByText := true, laidKinds := [.data, .data, .data, .data, .sentinel, .sentinel, .pinned], laidTests := true, laidLooks := .later }
def FnExactPutUptoCardSaid : Prop := Claim7.holds Tryz.pinned (.plain (OpenSpec.upto fnExactPutSpec)) fnExactPutUptoCard

/-- THE SECOND FORM's CARD OF 'laws.FnExactApply'. -/
def fnExactApplyUptoCard : Claim7 := { stood := { row := fnExactApplyUptoRow, standIns := [], harness := (true, "4db937921675b84f354b1c05a7bcd1184ebf667e8c30f7965e4ae80d9093682a"), looks := true }, kinds := [], alts := [], laidByText := true, laidKinds := [.data, .data, .data, .data, .sentinel, .sentinel, .pinned], laidTests := true, laidLooks := .later }
def FnExactApplyUptoCardSaid : Prop := Claim7.holds Tryz.pinned (.plain (OpenSpec.upto fnExactApplySpec)) fnExactApplyUptoCard

/-- THE SECOND FORM's CARD OF 'laws.FnExactCacheOf'. -/
def fnExactCacheOfUptoCard : Claim7 := { stood := { row := fnExactCacheOfUptoRow, standIns := [], harness := (true, "4db937921675b84f354b1c05a7bcd1184ebf667e8c30f7965e4ae80d9093682a"), looks := true }, kinds := [], alts := [], laidByText := true, laidKinds := [.data, .data, .data, .data, .sentinel, .sentinel, .pinned], laidTests := true, laidLooks := .later }
def FnExactCacheOfUptoCardSaid : Prop := Claim7.holds Tryz.pinned (.plain (OpenSpec.upto fnExactCacheOfSpec)) fnExactCacheOfUptoCard

/-- THE SECOND FORM's CARD OF 'laws.FnOrigins'. -/
def fnOriginsUptoCard : Claim7 := { stood := { row := fnOriginsUptoRow, standIns := [], harness := (true, "4db937921675b84f354b1c05a7bcd1184ebf667e8c30f7965e4ae80d9093682a"), looks := true }, kinds := [], alts := [], laidByText := true, laidKinds := [.data, .data, .data, .data, .sentinel, .sentinel, .pinned], laidTests := true, laidLooks := .later }
def FnOriginsUptoCardSaid : Prop := Claim7.holds Tryz.pinned (.plain (OpenSpec.upto fnOriginsSpec)) fnOriginsUptoCard
end Rows
end Go.Proofs.YtihabpimbfmhhaaGreatDoor
