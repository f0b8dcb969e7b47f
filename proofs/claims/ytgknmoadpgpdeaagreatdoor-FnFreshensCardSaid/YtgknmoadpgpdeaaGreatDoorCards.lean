/-
  DERIVED. GIVEN WITH THE SEED: THE CARDS: each row of YtgknmoadpgpdeaaGreatDoorRows.lean that lists a variable, with what it lists TIED to the program's text (the seventh form; the later family's looks); each row that meets fmt, with fmt's text TOLD by the authors' own Lean function (tested against real Go, not proved from fmt's source: count such statements apart). THE CARD IS WHAT COUNTS. Prove the row's statement (the work); the ties are given (YtgknmoadpgpdeaaGreatDoorTie.lean); close each card by the builder's one call (the guide's Derived/Test/ToyasCard.lean, 'card_holds'). Laid BY PROGRAM, IN A SANDBOX (cutbox-door.mjs). By AI agents, Wed Nov 11 2026. No macro, syntax, notation, axiom, sorry.
-/
import Derived.Test.YtgknmoadpgpdeaaGreatDoorRows
import GoSem.ClaimSeven
namespace Go.Proofs.YtgknmoadpgpdeaaGreatDoor
namespace Rows

/-- THE TIED CARD OF 'laws.FnExactDrop'. -/
def fnExactDropCard : Claim7 := { stood := { row := fnExactDropRow, standIns := [], harness := (true, "a8e0517f8d91c2ee9c6c6ee7ee8015bc2cfa8600536a0de61ce2883bea27e8a2"), looks := true }, kinds := [], alts := [], laidByText := true, laidKinds := [.data, .data, .data, .data, .sentinel, .sentinel, .pinned], laidTests := true, laidLooks := .later }
def FnExactDropCardSaid : Prop := Claim7.holds Tryz.pinned (.plain (OpenSpec.ofChange fnExactDropSpec)) fnExactDropCard

/-- THE TIED CARD OF 'laws.FnExactPut'. -/
def fnExactPutCard : Claim7 := { stood := { row := fnExactPutRow, standIns := [], harness := (true, "a8e0517f8d91c2ee9c6c6ee7ee8015bc2cfa8600536a0de61ce2883bea27e8a2"), looks := true }, kinds := [], alts := [], laidByText := true, laidKinds := [.data, .data, .data, .data, .sentinel, .sentinel, .pinned], laidTests := true, laidLooks := .later }
def FnExactPutCardSaid : Prop := Claim7.holds Tryz.pinned (.plain (OpenSpec.ofChange fnExactPutSpec)) fnExactPutCard

/-- THE TIED CARD OF 'laws.FnTags'. -/
def fnTagsCard : Claim7 := { stood := { row := fnTagsRow, standIns := [], harness := (true, "a8e0517f8d91c2ee9c6c6ee7ee8015bc2cfa8600536a0de61ce2883bea27e8a2"), looks := true }, kinds := [], alts := [], laidByText := true, laidKinds := [.data, .data, .data, .data, .sentinel, .sentinel, .pinned], laidTests := true, laidLooks := .later }
def FnTagsCardSaid : Prop := Claim7.holds Tryz.pinned (.plain (OpenSpec.ofChange fnTagsSpec)) fnTagsCard

/-- THE TIED CARD OF 'laws.FnAsks'. -/
def fnAsksCard : Claim7 := { stood := { row := fnAsksRow, standIns := [], harness := (true, "a8e0517f8d91c2ee9c6c6ee7ee8015bc2cfa8600536a0de61ce2883bea27e8a2"), looks := true }, kinds := [], alts := [], laidByText := true, laidKinds := [.data, .data, .data, .data, .sentinel, .sentinel, .pinned], laidTests := true, laidLooks := .later }
def FnAsksCardSaid : Prop := Claim7.holds Tryz.pinned (.plain (OpenSpec.ofChange fnAsksSpec)) fnAsksCard

/-- THE TIED CARD OF 'laws.FnStorables'. -/
def fnStorablesCard : Claim7 := { stood := { row := fnStorablesRow, standIns := [], harness := (true, "a8e0517f8d91c2ee9c6c6ee7ee8015bc2cfa8600536a0de61ce2883bea27e8a2"), looks := true }, kinds := [], alts := [], laidByText := true, laidKinds := [.data, .data, .data, .data, .sentinel, .sentinel, .pinned], laidTests := true, laidLooks := .later }
def FnStorablesCardSaid : Prop := Claim7.holds Tryz.pinned (.plain (OpenSpec.ofChange fnStorablesSpec)) fnStorablesCard

/-- THE TIED CARD OF 'laws.FnFreshens'. -/
def fnFreshensCard : Claim7 := { stood := { row := fnFreshensRow, standIns := [], harness := (true, "a8e0517f8d91c2ee9c6c6ee7ee8015bc2cfa8600536a0de61ce2883bea27e8a2"), looks := true }, kinds := [], alts := [], laidByText := true, laidKinds := [.data, .data, .data, .data, .sentinel, .sentinel, .pinned], laidTests := true, laidLooks := .later }
def FnFreshensCardSaid : Prop := Claim7.holds Tryz.pinned (.plain (OpenSpec.ofChange fnFreshensSpec)) fnFreshensCard

/-- THE SECOND FORM's CARD OF 'laws.FnExactDrop'. -/
def fnExactDropUptoCard : Claim7 := { stood := { row := fnExactDropUptoRow, standIns := [], harness := (true, "a8e0517f8d91c2ee9c6c6ee7ee8015bc2cfa8600536a0de61ce2883bea27e8a2"), looks := true }, kinds := [], alts := [], laidByText := true, laidKinds := [.data, .data, .data, .data, .sentinel, .sentinel, .pinned], laidTests := true, laidLooks := .later }
def FnExactDropUptoCardSaid : Prop := Claim7.holds Tryz.pinned (.plain (OpenSpec.upto fnExactDropSpec)) fnExactDropUptoCard

/-- THE SECOND FORM's CARD OF 'laws.FnExactPut'. -/
def fnExactPutUptoCard : Claim7 := { stood := { row := fnExactPutUptoRow, standIns := [], harness := (true, "a8e0517f8d91c2ee9c6c6ee7ee8015bc2cfa8600536a0de61ce2883bea27e8a2"), looks := true }, kinds := [], alts := [], laidByText := true, laidKinds := [.data, .data, .data, .data, .sentinel, .sentinel, .pinned], laidTests := true, laidLooks := .later }
def FnExactPutUptoCardSaid : Prop := Claim7.holds Tryz.pinned (.plain (OpenSpec.upto fnExactPutSpec)) fnExactPutUptoCard

/-- THE SECOND FORM's CARD OF 'laws.FnTags'. -/
def fnTagsUptoCard : Claim7 := { stood := { row := fnTagsUptoRow, standIns := [], harness := (true, "a8e0517f8d91c2ee9c6c6ee7ee8015bc2cfa8600536a0de61ce2883bea27e8a2"), looks := true }, kinds := [], alts := [], laidByText := true, laidKinds := [.data, .data, .data, .data, .sentinel, .sentinel, .pinned], laidTests := true, laidLooks := .later }
def FnTagsUptoCardSaid : Prop := Claim7.holds Tryz.pinned (.plain (OpenSpec.upto fnTagsSpec)) fnTagsUptoCard

/-- THE SECOND FORM's CARD OF 'laws.FnAsks'. -/
def fnAsksUptoCard : Claim7 := { stood := { row := fnAsksUptoRow, standIns := [], harness := (true, "a8e0517f8d91c2ee9c6c6ee7ee8015bc2cfa8600536a0de61ce2883bea27e8a2"), looks := true }, kinds := [], alts := [], laidByText := true, laidKinds := [.data, .data, .data, .data, .sentinel, .sentinel, .pinned], laidTests := true, laidLooks := .later }
def FnAsksUptoCardSaid : Prop := Claim7.holds Tryz.pinned (.plain (OpenSpec.upto fnAsksSpec)) fnAsksUptoCard

/-- THE SECOND FORM's CARD OF 'laws.FnStorables'. -/
def fnStorablesUptoCard : Claim7 := { stood := { row := fnStorablesUptoRow, standIns := [], harness := (true, "a8e0517f8d91c2ee9c6c6ee7ee8015bc2cfa8600536a0de61ce2883bea27e8a2"), looks := true }, kinds := [], alts := [], laidByText := true, laidKinds := [.data, .data, .data, .data, .sentinel, .sentinel, .pinned], laidTests := true, laidLooks := .later }
def FnStorablesUptoCardSaid : Prop := Claim7.holds Tryz.pinned (.plain (OpenSpec.upto fnStorablesSpec)) fnStorablesUptoCard

/-- THE SECOND FORM's CARD OF 'laws.FnFreshens'. -/
def fnFreshensUptoCard : Claim7 := { stood := { row := fnFreshensUptoRow, standIns := [], harness := (true, "a8e0517f8d91c2ee9c6c6ee7ee8015bc2cfa8600536a0de61ce2883bea27e8a2"), looks := true }, kinds := [], alts := [], laidByText := true, laidKinds := [.data, .data, .data, .data, .sentinel, .sentinel, .pinned], laidTests := true, laidLooks := .later }
def FnFreshensUptoCardSaid : Prop := Claim7.holds Tryz.pinned (.plain (OpenSpec.upto fnFreshensSpec)) fnFreshensUptoCard
end Rows
end Go.Proofs.YtgknmoadpgpdeaaGreatDoor
