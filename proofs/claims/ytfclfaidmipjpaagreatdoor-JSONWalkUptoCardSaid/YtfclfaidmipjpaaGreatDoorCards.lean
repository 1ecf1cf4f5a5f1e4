/-
  DERIVED. GIVEN WITH THE SEED: THE CARDS: each row of YtfclfaidmipjpaaGreatDoorRows.lean that lists a variable, with what it lists TIED to the program's text (the seventh form; the later family's looks); each row that meets fmt, with fmt's text TOLD by the authors' own Lean function (tested against real Go, not proved from fmt's source: count such statements apart). THE CARD IS WHAT COUNTS. Prove the row's statement (the work); the ties are given (YtfclfaidmipjpaaGreatDoorTie.lean); close each card by the builder's one call (the guide's Derived/Test/ToyasCard.lean, 'card_holds'). Laid BY PROGRAM, IN A SANDBOX (cutbox-door.mjs). By AI agents, Wed Nov 11 2026. No macro, syntax, notation, axiom, sorry.
-/
import Derived.Test.YtfclfaidmipjpaaGreatDoorRows
import GoSem.ClaimSeven
namespace Go.Proofs.YtfclfaidmipjpaaGreatDoor
namespace Rows

/-- THE TIED CARD OF 'lexiconlaw08.JSONTexts'. -/
def jSONTextsCard : Claim7 := { stood := { row := jSONTextsRow, standIns := [], harness := (true, "8b81532cc4a86fa0fa5db682dce0806762a57c395d3367c0fc52b9fa7d54a80f"), looks := true }, kinds := [], alts := [], laidByText := true, laidKinds := [.data, .data, .data, .data, .sentinel, .sentinel, .pinned], laidTests := true, laidLooks := .later }
def JSONTextsCardSaid : Prop := Claim7.holds Tryz.pinned (.plain (OpenSpec.ofChange jSONTextsSpec)) jSONTextsCard

/-- THE TIED CARD OF 'lexiconlaw08.JSONPaths'. -/
def jSONPathsCard : Claim7 := { stood := { row := jSONPathsRow, standIns := [], harness := (true, "8b81532cc4a86fa0fa5db682dce0806762a57c395d3367c0fc52b9fa7d54a80f"), looks := true }, kinds := [], alts := [], laidByText := true, laidKinds := [.data, .data, .data, .data, .sentinel, .sentinel, .pinned], laidTests := true, laidLooks := .later }
def JSONPathsCardSaid : Prop := Claim7.holds Tryz.pinned (.plain (OpenSpec.ofChange jSONPathsSpec)) jSONPathsCard

/-- THE TIED CARD OF 'lexiconlaw08.JSONWalk'. -/
def jSONWalkCard : Claim7 := { stood := { row := jSONWalkRow, standIns := [], harness := (true, "8b81532cc4a86fa0fa5db682dce0806762a57c395d3367c0fc52b9fa7d54a80f"), looks := true }, kinds := [], alts := [], laidByText := true, laidKinds := [.data, .data, .data, .data, .sentinel, .sentinel, .pinned], laidTests := true, laidLooks := .later }
def JSONWalkCardSaid : Prop := Claim7.holds Tryz.pinned (.plain (OpenSpec.ofChange jSONWalkSpec)) jSONWalkCard

/-- THE TIED CARD OF 'lexiconlaw08.JSONQuotes'. -/
def jSONQuotesCard : Claim7 := { stood := { row := jSONQuotesRow, standIns := [], harness := (true, "8b81532cc4a86fa0fa5db682dce0806762a57c395d3367c0fc52b9fa7d54a80f"), looks := true }, kinds := [], alts := [], laidByText := true, laidKinds := [.data, .data, .data, .data, .sentinel, .sentinel, .pinned], laidTests := true, laidLooks := .later }
def JSONQuotesCardSaid : Prop := Claim7.holds Tryz.pinned (.plain (OpenSpec.ofChange jSONQuotesSpec)) jSONQuotesCard

/-- THE TIED CARD OF 'lexiconlaw08.JSONBounds'. -/
def jSONBoundsCard : Claim7 := { stood := { row := jSONBoundsRow, standIns := [], harness := (true, "8b81532cc4a86fa0fa5db682dce0806762a57c395d3367c0fc52b9fa7d54a80f"), looks := true }, kinds := [], alts := [], laidByText := true, laidKinds := [.data, .data, .data, .data, .sentinel, .sentinel, .pinned], laidTests := true, laidLooks := .later }
def JSONBoundsCardSaid : Prop := Claim7.holds Tryz.pinned (.plain (OpenSpec.ofChange jSONBoundsSpec)) jSONBoundsCard

/-- THE TIED CARD OF 'lexiconlaw08.JSONEqual'. -/
def jSONEqualCard : Claim7 := { stood := { row := jSONEqualRow, standIns := [], harness := (true, "8b81532cc4a86fa0fa5db682dce0806762a57c395d3367c0fc52b9fa7d54a80f"), looks := true }, kinds := [], alts := [], laidByText := true, laidKinds := [.data, .data, .data, .data, .sentinel, .sentinel, .pinned], laidTests := true, laidLooks := .later }
def JSONEqualCardSaid : Prop := Claim7.holds Tryz.pinned (.plain (OpenSpec.ofChange jSONEqualSpec)) jSONEqualCard

/-- THE TIED CARD OF 'lexiconlaw08.JSONBack'. -/
def jSONBackCard : Claim7 := { stood := { row := jSONBackRow, standIns := [], harness := (true, "8b81532cc4a86fa0fa5db682dce0806762a57c395d3367c0fc52b9fa7d54a80f"), looks := true }, kinds := [], alts := [], laidByText := true, laidKinds := [.data, .data, .data, .data, .sentinel, .sentinel, .pinned], laidTests := true, laidLooks := .later }
def JSONBackCardSaid : Prop := Claim7.holds Tryz.pinned (.plain (OpenSpec.ofChange jSONBackSpec)) jSONBackCard

/-- THE TIED CARD OF 'lexiconlaw08.JSONOneText'. -/
def jSONOneTextCard : Claim7 := { stood := { row := jSONOneTextRow, standIns := [], harness := (true, "8b81532cc4a86fa0fa5db682dce0806762a57c395d3367c0fc52b9fa7d54a80f"), looks := true }, kinds := [], alts := [], laidByText := true, laidKinds := [.data, .data, .data, .data, .sentinel, .sentinel, .pinned], laidTests := true, laidLooks := .later }
def JSONOneTextCardSaid : Prop := Claim7.holds Tryz.pinned (.plain (OpenSpec.ofChange jSONOneTextSpec)) jSONOneTextCard

/-- THE TIED CARD OF 'lexiconlaw08.JSONValues'. -/
def jSONValuesCard : Claim7 := { stood := { row := jSONValuesRow, standIns := [], harness := (true, "8b81532cc4a86fa0fa5db682dce0806762a57c395d3367c0fc52b9fa7d54a80f"), looks := true }, kinds := [], alts := [], laidByText := true, laidKinds := [.data, .data, .data, .data, .sentinel, .sentinel, .pinned], laidTests := true, laidLooks := .later }
def JSONValuesCardSaid : Prop := Claim7.holds Tryz.pinned (.plain (OpenSpec.ofChange jSONValuesSpec)) jSONValuesCard

/-- THE SECOND FORM's CARD OF 'lexiconlaw08.JSONTexts'. -/
def jSONTextsUptoCard : Claim7 := { stood := { row := jSONTextsUptoRow, standIns := [], harness := (true, "8b81532cc4a86fa0fa5db682dce0806762a57c395d3367c0fc52b9fa7d54a80f"), looks := true }, kinds := [], alts := [], laidByText := true, laidKinds := [.data, .data, .data, .data, .sentinel, .sentinel, .pinned], laidTests := true, laidLooks := .later }
def JSONTextsUptoCardSaid : Prop := Claim7.holds Tryz.pinned (.plain (OpenSpec.upto jSONTextsSpec)) jSONTextsUptoCard

/-- THE SECOND FORM's CARD OF 'lexiconlaw08.JSONPaths'. -/
def jSONPathsUptoCard : Claim7 := { stood := { row := jSONPathsUptoRow, standIns := [], harness := (true, "8b81532cc4a86fa0fa5db682dce0806762a57c395d3367c0fc52b9fa7d54a80f"), looks := true }, kinds := [], alts := [], laidByText := true, laidKinds := [.data, .data, .data, .data, .sentinel, .sentinel, .pinned], laidTests := true, laidLooks := .later }
def JSONPathsUptoCardSaid : Prop := Claim7.holds Tryz.pinned (.plain (OpenSpec.upto jSONPathsSpec)) jSONPathsUptoCard

/-- THE SECOND FORM's CARD OF 'lexiconlaw08.JSONWalk'. -/
def jSONWalkUptoCard : Claim7 := { stood := { row := jSONWalkUptoRow, standIns := [], harness := (true, "8b81532cc4a86fa0fa5db682dce0806762a57c395d3367c0fc52b9fa7d54a80f"), looks := true }, kinds := [], alts := [], laidByText := true, laidKinds := [.data, .data, .data, .data, .sentinel, .sentinel, .pinned], laidTests := true, laidLooks := .later }
def JSONWalkUptoCardSaid : Prop := Claim7.holds Tryz.pinned (.plain (OpenSpec.upto jSONWalkSpec)) jSONWalkUptoCard

/-- THE SECOND FORM's CARD OF 'lexiconlaw08.JSONQuotes'. -/
def jSONQuotesUptoCard : Claim7 := { stood := { row := jSONQuotesUptoRow, standIns := [], harness := (true, "8b81532cc4a86fa0fa5db682dce0806762a57c395d3367c0fc52b9fa7d54a80f"), looks := true }, kinds := [], alts := [], laidByText := true, laidKinds := [.data, .data, .data, .data, .sentinel, .sentinel, .pinned], laidTests := true, laidLooks := .later }
def JSONQuotesUptoCardSaid : Prop := Claim7.holds Tryz.pinned (.plain (OpenSpec.upto jSONQuotesSpec)) jSONQuotesUptoCard

/-- THE SECOND FORM's CARD OF 'lexiconlaw08.JSONBounds'. -/
def jSONBoundsUptoCard : Claim7 := { stood := { row := jSONBoundsUptoRow, standIns := [], harness := (true, "8b81532cc4a86fa0fa5db682dce0806762a57c395d3367c0fc52b9fa7d54a80f"), looks := true }, kinds := [], alts := [], laidByText := true, laidKinds := [.data, .data, .data, .data, .sentinel, .sentinel, .pinned], laidTests := true, laidLooks := .later }
def JSONBoundsUptoCardSaid : Prop := Claim7.holds Tryz.pinned (.plain (OpenSpec.upto jSONBoundsSpec)) jSONBoundsUptoCard

/-- THE SECOND FORM's CARD OF 'lexiconlaw08.JSONEqual'. -/
def jSONEqualUptoCard : Claim7 := { stood := { row := jSONEqualUptoRow, standIns := [], harness := (true, "8b81532cc4a86fa0fa5db682dce0806762a57c395d3367c0fc52b9fa7d54a80f"), looks := true }, kinds := [], alts := [], laidByText := true, laidKinds := [.data, .data, .data, .data, .sentinel, .sentinel, .pinned], laidTests := true, laidLooks := .later }
def JSONEqualUptoCardSaid : Prop := Claim7.holds Tryz.pinned (.plain (OpenSpec.upto jSONEqualSpec)) jSONEqualUptoCard

/-- THE SECOND FORM's CARD OF 'lexiconlaw08.JSONBack'. -/
def jSONBackUptoCard : Claim7 := { stood := { row := jSONBackUptoRow, standIns := [], harness := (true, "8b81532cc4a86fa0fa5db682dce0806762a57c395d3367c0fc52b9fa7d54a80f"), looks := true }, kinds := [], alts := [], laidByText := true, laidKinds := [.data, .data, .data, .data, .sentinel, .sentinel, .pinned], laidTests := true, laidLooks := .later }
def JSONBackUptoCardSaid : Prop := Claim7.holds Tryz.pinned (.plain (OpenSpec.upto jSONBackSpec)) jSONBackUptoCard

/-- THE SECOND FORM's CARD OF 'lexiconlaw08.JSONOneText'. -/
def jSONOneTextUptoCard : Claim7 := { stood := { row := jSONOneTextUptoRow, standIns := [], harness := (true, "8b81532cc4a86fa0fa5db682dce0806762a57c395d3367c0fc52b9fa7d54a80f"), looks := true }, kinds := [], alts := [], laidByText := true, laidKinds := [.data, .data, .data, .data, .sentinel, .sentinel, .pinned], laidTests := true, laidLooks := .later }
def JSONOneTextUptoCardSaid : Prop := Claim7.holds Tryz.pinned (.plain (OpenSpec.upto jSONOneTextSpec)) jSONOneTextUptoCard

/-- THE SECOND FORM's CARD OF 'lexiconlaw08.JSONValues'. -/
def jSONValuesUptoCard : Claim7 := { stood := { row := jSONValuesUptoRow, standIns := [], harness := (true, "8b81532cc4a86fa0fa5db682dce0806762a57c395d3367c0fc52b9fa7d54a80f"), looks := true }, kinds := [], alts := [], laidByText := true, laidKinds := [.data, .data, .data, .data, .sentinel, .sentinel, .pinned], laidTests := true, laidLooks := .later }
def JSONValuesUptoCardSaid : Prop := Claim7.holds Tryz.pinned (.plain (OpenSpec.upto jSONValuesSpec)) jSONValuesUptoCard
end Rows
end Go.Proofs.YtfclfaidmipjpaaGreatDoor
