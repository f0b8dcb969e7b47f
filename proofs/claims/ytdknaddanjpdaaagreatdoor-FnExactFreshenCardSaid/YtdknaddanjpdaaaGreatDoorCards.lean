/-
  DERIVED. GIVEN WITH THE SEED: THE CARDS: each row of YtdknaddanjpdaaaGreatDoorRows.lean that lists a variable, with what it lists TIED to the program's text (the seventh form; the later family's looks); each row that meets fmt, with fmt's text TOLD by the authors' own Lean function (tested against real Go, not proved from fmt's source: count such statements apart). THE CARD IS WHAT COUNTS. Prove the row's statement (the work); the ties are given (YtdknaddanjpdaaaGreatDoorTie.lean); close each card by the builder's one call (the guide's Derived/Test/ToyasCard.lean, 'card_holds'). Laid BY PROGRAM, IN A SANDBOX (cutbox-door.mjs). By AI agents, Wed Nov 11 2026. No macro, syntax, notation, axiom, sorry.
-/
import Derived.Test.YtdknaddanjpdaaaGreatDoorRows
import GoSem.ClaimSeven
namespace Go.Proofs.YtdknaddanjpdaaaGreatDoor
namespace Rows

/-- THE TIED CARD OF 'laws.FnExactValidators'. -/
def fnExactValidatorsCard : Claim7 := { stood := { row := fnExactValidatorsRow, standIns := [], harness := (true, "10dc61bc3a530c66be45ad793815e2ac2c9a996960a8719ed37c89fe6bf1e4bb"), looks := true }, kinds := [], alts := [], laidByText := true, laidKinds := [.data, .data, .data, .data, .sentinel, .sentinel, .pinned], laidTests := true, laidLooks := .later }
def FnExactValidatorsCardSaid : Prop := Claim7.holds Tryz.pinned (.plain (OpenSpec.ofChange fnExactValidatorsSpec)) fnExactValidatorsCard

/-- THE TIED CARD OF 'laws.FnExactUnmodified'. -/
def fnExactUnmodifiedCard : Claim7 := { stood := { row := fnExactUnmodifiedRow, standIns := [], harness := (true, "10dc61bc3a530c66be45ad793815e2ac2c9a996960a8719ed37c89fe6bf1e4bb"), looks := true }, kinds := [], alts := [], laidByText := true, laidKinds := [.data, .data, .data, .data, .sentinel, .sentinel, .pinned], laidTests := true, laidLooks := .later }
def FnExactUnmodifiedCardSaid : Prop := Claim7.holds Tryz.pinned (.plain (OpenSpec.ofChange fnExactUnmodifiedSpec)) fnExactUnmodifiedCard

/-- THE TIED CARD OF 'laws.FnExactTouched'. -/
def fnExactTouchedCard : Claim7 := { stood := { row := fnExactTouchedRow, standIns := [], harness := (true, "10dc61bc3a530c66be45ad793815e2ac2c9a996960a8719ed37c89fe6bf1e4bb"), looks := true }, kinds := [], alts := [], laidByText := true, laidKinds := [.data, .data, .data, .data, .sentinel, .sentinel, .pinned], laidTests := true, laidLooks := .later }
def FnExactTouchedCardSaid : Prop := Claim7.holds Tryz.pinned (.plain (OpenSpec.ofChange fnExactTouchedSpec)) fnExactTouchedCard

/-- THE TIED CARD OF 'laws.FnExactFreshen'. -/
def fnExactFreshenCard : Claim7 := { stood := { row := fnExactFreshenRow, standIns := [], harness := (true, "10dc61bc3a530c66be45ad793815e2ac2c9a996960a8719ed37c89fe6bf1e4bb"), looks := true }, kinds := [], alts := [], laidByText := true, laidKinds := [.data, .data, .data, .data, .sentinel, .sentinel, .pinned], laidTests := true, laidLooks := .later }
def FnExactFreshenCardSaid : Prop := Claim7.holds Tryz.pinned (.plain (OpenSpec.ofChange fnExactFreshenSpec)) fnExactFreshenCard

/-- THE SECOND FORM's CARD OF 'laws.FnExactValidators'. -/
def fnExactValidatorsUptoCard : Claim7 := { stood := { row := fnExactValidatorsUptoRow, standIns := [], harness := (true, "10dc61bc3a530c66be45ad793815e2ac2c9a996960a8719ed37c89fe6bf1e4bb"), looks := true }, kinds := [], alts := [], laidByText := true, laidKinds := [.data, .data, .data, .data, .sentinel, .sentinel, .pinned], laidTests := true, laidLooks := .later }
def FnExactValidatorsUptoCardSaid : Prop := Claim7.holds Tryz.pinned (.plain (OpenSpec.upto fnExactValidatorsSpec)) fnExactValidatorsUptoCard

/-- THE SECOND FORM's CARD OF 'laws.FnExactUnmodified'. -/
def fnExactUnmodifiedUptoCard : Claim7 := { stood := { row := fnExactUnmodifiedUptoRow, standIns := [], harness := (true, "10dc61bc3a530c66be45ad793815e2ac2c9a996960a8719ed37c89fe6bf1e4bb"), looks := true }, kinds := [], alts := [], laidByText := true, laidKinds := [.data, .data, .data, .data, .sentinel, .sentinel, .pinned], laidTests := true, laidLooks := .later }
def FnExactUnmodifiedUptoCardSaid : Prop := Claim7.holds Tryz.pinned (.plain (OpenSpec.upto fnExactUnmodifiedSpec)) fnExactUnmodifiedUptoCard

/-- THE SECOND FORM's CARD OF 'laws.FnExactTouched'. -/
def fnExactTouchedUptoCard : Claim7 := { stood := { row := fnExactTouchedUptoRow, standIns := [], harness := (true, "10dc61bc3a530c66be45ad793815e2ac2c9a996960a8719ed37c89fe6bf1e4bb"), looks := true }, kinds := [], alts := [], laidByText := true, laidKinds := [.data, .data, .data, .data, .sentinel, .sentinel, .pinned], laidTests := true, laidLooks := .later }
def FnExactTouchedUptoCardSaid : Prop := Claim7.holds Tryz.pinned (.plain (OpenSpec.upto fnExactTouchedSpec)) fnExactTouchedUptoCard

/-- THE SECOND FORM's CARD OF 'laws.FnExactFreshen'. -/
def fnExactFreshenUptoCard : Claim7 := { stood := { row := fnExactFreshenUptoRow, standIns := [], harness := (true, "10dc61bc3a530c66be45ad793815e2ac2c9a996960a8719ed37c89fe6bf1e4bb"), looks := true }, kinds := [], alts := [], laidByText := true, laidKinds := [.data, .data, .data, .data, .sentinel, .sentinel, .pinned], laidTests := true, laidLooks := .later }
def FnExactFreshenUptoCardSaid : Prop := Claim7.holds Tryz.pinned (.plain (OpenSpec.upto fnExactFreshenSpec)) fnExactFreshenUptoCard
end Rows
end Go.Proofs.YtdknaddanjpdaaaGreatDoor
