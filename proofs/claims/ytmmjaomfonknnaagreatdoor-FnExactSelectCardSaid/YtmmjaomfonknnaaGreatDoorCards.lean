/-
  DERIVED. GIVEN WITH THE SEED: THE CARDS: each row of YtmmjaomfonknnaaGreatDoorRows.lean that lists a variable, with what it lists TIED to the program's text (the seventh form; the later family's looks); each row that meets fmt, with fmt's text TOLD by the authors' own Lean function (tested against real Go, not proved from fmt's source: count such statements apart). THE CARD IS WHAT COUNTS. Prove the row's statement (the work); the ties are given (YtmmjaomfonknnaaGreatDoorTie.lean); close each card by the builder's one call (the guide's Derived/Test/ToyasCard.lean, 'card_holds'). Laid BY PROGRAM, IN A SANDBOX (cutbox-door.mjs). By AI agents, Wed Nov 11 2026. No macro, syntax, notation, axiom, sorry.
-/
import Derived.Test.YtmmjaomfonknnaaGreatDoorRows
import GoSem.ClaimSeven
namespace Go.Proofs.YtmmjaomfonknnaaGreatDoor
namespace Rows

/-- THE TIED CARD OF 'laws.FnExactEntrySize'. -/
def fnExactEntrySizeCard : Claim7 := { stood := { row := fnExactEntrySizeRow, standIns := [], harness := (true, "df359452c9c397c0165b5821f77a74255bb2c3b26d0ee488d1444dbaf33a49db"), looks := true }, kinds := [], alts := [], laidByText := true, laidKinds := [.data, .data, .data, .data, .sentinel, .sentinel, .pinned], laidTests := true, laidLooks := .later }
def FnExactEntrySizeCardSaid : Prop := Claim7.holds Tryz.pinned (.plain (OpenSpec.ofChange fnExactEntrySizeSpec)) fnExactEntrySizeCard

/-- THE TIED CARD OF 'laws.FnExactCacheOk'. -/
def fnExactCacheOkCard : Claim7 := { stood := { row := fnExactCacheOkRow, standIns := [], harness := (true, "df359452c9c397c0165b5821f77a74255bb2c3b26d0ee488d1444dbaf33a49db"), looks := true }, kinds := [], alts := [], laidByText := true, laidKinds := [.data, .data, .data, .data, .sentinel, .sentinel, .pinned], laidTests := true, laidLooks := .later }
def FnExactCacheOkCardSaid : Prop := Claim7.holds Tryz.pinned (.plain (OpenSpec.ofChange fnExactCacheOkSpec)) fnExactCacheOkCard

/-- THE TIED CARD OF 'laws.FnExactCacheSize'. -/
def fnExactCacheSizeCard : Claim7 := { stood := { row := fnExactCacheSizeRow, standIns := [], harness := (true, "df359452c9c397c0165b5821f77a74255bb2c3b26d0ee488d1444dbaf33a49db"), looks := true }, kinds := [], alts := [], laidByText := true, laidKinds := [.data, .data, .data, .data, .sentinel, .sentinel, .pinned], laidTests := true, laidLooks := .later }
def FnExactCacheSizeCardSaid : Prop := Claim7.holds Tryz.pinned (.plain (OpenSpec.ofChange fnExactCacheSizeSpec)) fnExactCacheSizeCard

/-- THE TIED CARD OF 'laws.FnExactValidators'. -/
def fnExactValidatorsCard : Claim7 := { stood := { row := fnExactValidatorsRow, standIns := [], harness := (true, "df359452c9c397c0165b5821f77a74255bb2c3b26d0ee488d1444dbaf33a49db"), looks := true }, kinds := [], alts := [], laidByText := true, laidKinds := [.data, .data, .data, .data, .sentinel, .sentinel, .pinned], laidTests := true, laidLooks := .later }
def FnExactValidatorsCardSaid : Prop := Claim7.holds Tryz.pinned (.plain (OpenSpec.ofChange fnExactValidatorsSpec)) fnExactValidatorsCard

/-- THE TIED CARD OF 'laws.FnExactUnmodified'. -/
def fnExactUnmodifiedCard : Claim7 := { stood := { row := fnExactUnmodifiedRow, standIns := [], harness := (true, "df359452c9c397c0165b5821f77a74255bb2c3b26d0ee488d1444dbaf33a49db"), looks := true }, kinds := [], alts := [], laidByText := true, laidKinds := [.data, .data, .data, .data, .sentinel, .sentinel, .pinned], laidTests := true, laidLooks := .later }
def FnExactUnmodifiedCardSaid : Prop := Claim7.holds Tryz.pinned (.plain (OpenSpec.ofChange fnExactUnmodifiedSpec)) fnExactUnmodifiedCard

/-- THE TIED CARD OF 'laws.FnExactChosen'. -/
def fnExactChosenCard : Claim7 := { stood := { row := fnExactChosenRow, standIns := [], harness := (true, "df359452c9c397c0165b5821f77a74255bb2c3b26d0ee488d1444dbaf33a49db"), looks := true }, kinds := [], alts := [], laidByText := true, laidKinds := [.data, .data, .data, .data, .sentinel, .sentinel, .pinned], laidTests := true, laidLooks := .later }
def FnExactChosenCardSaid : Prop := Claim7.holds Tryz.pinned (.plain (OpenSpec.ofChange fnExactChosenSpec)) fnExactChosenCard

/-- THE TIED CARD OF 'laws.FnExactSelect'. -/
def fnExactSelectCard : Claim7 := { stood := { row := fnExactSelectRow, standIns := [], harness := (true, "df359452c9c397c0165b5821f77a74255bb2c3b26d0ee488d1444dbaf33a49db"), looks := true }, kinds := [], alts := [], laidByText := true, laidKinds := [.data, .data, .data, .data, .sentinel, .sentinel, .pinned], laidTests := true, laidLooks := .later }
def FnExactSelectCardSaid : Prop := Claim7.holds Tryz.pinned (.plain (OpenSpec.ofChange fnExactSelectSpec)) fnExactSelectCard

/-- THE SECOND FORM's CARD OF 'laws.FnExactEntrySize'. -/
def fnExactEntrySizeUptoCard : Claim7 := { stood := { row := fnExactEntrySizeUptoRow, standIns := [], harness := (true, "df359452c9c397c0165b5821f77a74255bb2c3b26d0ee488d1444dbaf33a49db"), looks := true }, kinds := [], alts := [], laidByText := true, laidKinds := [.data, .data, .data, .data, .sentinel, .sentinel, .pinned], laidTests := true, laidLooks := .later }
def FnExactEntrySizeUptoCardSaid : Prop := Claim7.holds Tryz.pinned (.plain (OpenSpec.upto fnExactEntrySizeSpec)) fnExactEntrySizeUptoCard

/-- THE SECOND FORM's CARD OF 'laws.FnExactCacheOk'. -/
def fnExactCacheOkUptoCard : Claim7 := { stood := { row := fnExactCacheOkUptoRow, standIns := [], harness := (true, "df359452c9c397c0165b5821f77a74255bb2c3b26d0ee488d1444dbaf33a49db"), looks := true }, kinds := [], alts := [], laidByText := true, laidKinds := [.data, .data, .data, .data, .sentinel, .sentinel, .pinned], laidTests := true, laidLooks := .later }
def FnExactCacheOkUptoCardSaid : Prop := Claim7.holds Tryz.pinned (.plain (OpenSpec.upto fnExactCacheOkSpec)) fnExactCacheOkUptoCard

/-- THE SECOND FORM's CARD OF 'laws.FnExactCacheSize'. -/
def fnExactCacheSizeUptoCard : Claim7 := { stood := { row := fnExactCacheSizeUptoRow, standIns := [], harness := (true, "df359452c9c397c0165b5821f77a74255bb2c3b26d0ee488d1444dbaf33a49db"), looks := true }, kinds := [], alts := [], laidByText := true, laidKinds := [.data, .data, .data, .data, .sentinel, .sentinel, .pinned], laidTests := true, laidLooks := .later }
def FnExactCacheSizeUptoCardSaid : Prop := Claim7.holds Tryz.pinned (.plain (OpenSpec.upto fnExactCacheSizeSpec)) fnExactCacheSizeUptoCard

/-- THE SECOND FORM's CARD OF 'laws.FnExactValidators'. -/
def fnExactValidatorsUptoCard : Claim7 := { stood := { row := fnExactValidatorsUptoRow, standIns := [], harness := (true, "df359452c9c397c0165b5821f77a74255bb2c3b26d0ee488d1444dbaf33a49db"), looks := true }, kinds := [], alts := [], laidByText := true, laidKinds := [.data, .data, .data, .data, .sentinel, .sentinel, .pinned], laidTests := true, laidLooks := .later }
def FnExactValidatorsUptoCardSaid : Prop := Claim7.holds Tryz.pinned (.plain (OpenSpec.upto fnExactValidatorsSpec)) fnExactValidatorsUptoCard

/-- THE SECOND FORM's CARD OF 'laws.FnExactUnmodified'. -/
def fnExactUnmodifiedUptoCard : Claim7 := { stood := { row := fnExactUnmodifiedUptoRow, standIns := [], harness := (true, "df359452c9c397c0165b5821f77a74255bb2c3b26d0ee488d1444dbaf33a49db"), looks := true }, kinds := [], alts := [], laidByText := true, laidKinds := [.data, .data, .data, .data, .sentinel, .sentinel, .pinned], laidTests := true, laidLooks := .later }
def FnExactUnmodifiedUptoCardSaid : Prop := Claim7.holds Tryz.pinned (.plain (OpenSpec.upto fnExactUnmodifiedSpec)) fnExactUnmodifiedUptoCard

/-- THE SECOND FORM's CARD OF 'laws.FnExactChosen'. -/
def fnExactChosenUptoCard : Claim7 := { stood := { row := fnExactChosenUptoRow, standIns := [], harness := (true, "df359452c9c397c0165b5821f77a74255bb2c3b26d0ee488d1444dbaf33a49db"), looks := true }, kinds := [], alts := [], laidByText := true, laidKinds := [.data, .data, .data, .data, .sentinel, .sentinel, .pinned], laidTests := true, laidLooks := .later }
def FnExactChosenUptoCardSaid : Prop := Claim7.holds Tryz.pinned (.plain (OpenSpec.upto fnExactChosenSpec)) fnExactChosenUptoCard

/-- THE SECOND FORM's CARD OF 'laws.FnExactSelect'. -/
def fnExactSelectUptoCard : Claim7 := { stood := { row := fnExactSelectUptoRow, standIns := [], harness := (true, "df359452c9c397c0165b5821f77a74255bb2c3b26d0ee488d1444dbaf33a49db"), looks := true }, kinds := [], alts := [], laidByText := true, laidKinds := [.data, .data, .data, .data, .sentinel, .sentinel, .pinned], laidTests := true, laidLooks := .later }
def FnExactSelectUptoCardSaid : Prop := Claim7.holds Tryz.pinned (.plain (OpenSpec.upto fnExactSelectSpec)) fnExactSelectUptoCard
end Rows
end Go.Proofs.YtmmjaomfonknnaaGreatDoor
