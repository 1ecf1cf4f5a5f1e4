/-
  DERIVED. GIVEN WITH THE SEED: THE CARDS: each row of YtkakmjdfecbhaaaDoorRows.lean that lists a variable, with what it lists TIED to the program's text (the seventh form; the later family's looks); each row that meets fmt, with fmt's text TOLD by the authors' own Lean function (tested against real Go, not proved from fmt's source: count such statements apart). THE CARD IS WHAT COUNTS. Prove the row's statement (the work); the ties are given (YtkakmjdfecbhaaaDoorTie.lean); close each card by the builder's one call (the guide's Derived/Test/ToyasCard.lean, 'card_holds'). Laid BY PROGRAM, IN A SANDBOX (cutbox-door.mjs). By AI agents, Wed Nov 11 2026. No macro, syntax, notation, axiom, sorry.
-/
import Derived.Test.YtkakmjdfecbhaaaDoorRows
import GoSem.ClaimSeven
namespace Go.Proofs.YtkakmjdfecbhaaaDoor
namespace Rows

/-- THE TIED CARD OF 'lexiconlaw07.DecimalTexts'. -/
def decimalTextsCard : Claim7 := { stood := { row := decimalTextsRow, standIns := [], harness := (true, "bcc0a5c3bd41ea542a4e4601d056641aa6392303e450781cd6052e4e4d2ca065"), looks := false }, kinds := [], alts := [], laidByText := true, laidKinds := [.data, .data, .data, .data, .pinned], laidTests := true, laidLooks := .later }
def DecimalTextsCardSaid : Prop := Claim7.holds Tryd.pinned (.plain (OpenSpec.ofChange decimalTextsSpec)) decimalTextsCard

/-- THE TIED CARD OF 'lexiconlaw07.DecimalBack'. -/
def decimalBackCard : Claim7 := { stood := { row := decimalBackRow, standIns := [], harness := (true, "bcc0a5c3bd41ea542a4e4601d056641aa6392303e450781cd6052e4e4d2ca065"), looks := false }, kinds := [], alts := [], laidByText := true, laidKinds := [.data, .data, .data, .data, .pinned], laidTests := true, laidLooks := .later }
def DecimalBackCardSaid : Prop := Claim7.holds Tryd.pinned (.plain (OpenSpec.ofChange decimalBackSpec)) decimalBackCard

/-- THE TIED CARD OF 'lexiconlaw07.DecimalBounds'. -/
def decimalBoundsCard : Claim7 := { stood := { row := decimalBoundsRow, standIns := [], harness := (true, "bcc0a5c3bd41ea542a4e4601d056641aa6392303e450781cd6052e4e4d2ca065"), looks := false }, kinds := [], alts := [], laidByText := true, laidKinds := [.data, .data, .data, .data, .pinned], laidTests := true, laidLooks := .later }
def DecimalBoundsCardSaid : Prop := Claim7.holds Tryd.pinned (.plain (OpenSpec.ofChange decimalBoundsSpec)) decimalBoundsCard

/-- THE TIED CARD OF 'lexiconlaw07.DecimalOrder'. -/
def decimalOrderCard : Claim7 := { stood := { row := decimalOrderRow, standIns := [], harness := (true, "bcc0a5c3bd41ea542a4e4601d056641aa6392303e450781cd6052e4e4d2ca065"), looks := false }, kinds := [], alts := [], laidByText := true, laidKinds := [.data, .data, .data, .data, .pinned], laidTests := true, laidLooks := .later }
def DecimalOrderCardSaid : Prop := Claim7.holds Tryd.pinned (.plain (OpenSpec.ofChange decimalOrderSpec)) decimalOrderCard

/-- THE TIED CARD OF 'lexiconlaw07.DecimalShares'. -/
def decimalSharesCard : Claim7 := { stood := { row := decimalSharesRow, standIns := [], harness := (true, "bcc0a5c3bd41ea542a4e4601d056641aa6392303e450781cd6052e4e4d2ca065"), looks := false }, kinds := [], alts := [], laidByText := true, laidKinds := [.data, .data, .data, .data, .pinned], laidTests := true, laidLooks := .later }
def DecimalSharesCardSaid : Prop := Claim7.holds Tryd.pinned (.plain (OpenSpec.ofChange decimalSharesSpec)) decimalSharesCard

/-- THE SECOND FORM's CARD OF 'lexiconlaw07.DecimalTexts'. -/
def decimalTextsUptoCard : Claim7 := { stood := { row := decimalTextsUptoRow, standIns := [], harness := (true, "bcc0a5c3bd41ea542a4e4601d056641aa6392303e450781cd6052e4e4d2ca065"), looks := false }, kinds := [], alts := [], laidByText := true, laidKinds := [.data, .data, .data, .data, .pinned], laidTests := true, laidLooks := .later }
def DecimalTextsUptoCardSaid : Prop := Claim7.holds Tryd.pinned (.plain (OpenSpec.upto decimalTextsSpec)) decimalTextsUptoCard

/-- THE SECOND FORM's CARD OF 'lexiconlaw07.DecimalBack'. -/
def decimalBackUptoCard : Claim7 := { stood := { row := decimalBackUptoRow, standIns := [], harness := (true, "bcc0a5c3bd41ea542a4e4601d056641aa6392303e450781cd6052e4e4d2ca065"), looks := false }, kinds := [], alts := [], laidByText := true, laidKinds := [.data, .data, .data, .data, .pinned], laidTests := true, laidLooks := .later }
def DecimalBackUptoCardSaid : Prop := Claim7.holds Tryd.pinned (.plain (OpenSpec.upto decimalBackSpec)) decimalBackUptoCard

/-- THE SECOND FORM's CARD OF 'lexiconlaw07.DecimalBounds'. -/
def decimalBoundsUptoCard : Claim7 := { stood := { row := decimalBoundsUptoRow, standIns := [], harness := (true, "bcc0a5c3bd41ea542a4e4601d056641aa6392303e450781cd6052e4e4d2ca065"), looks := false }, kinds := [], alts := [], laidByText := true, laidKinds := [.data, .data, .data, .data, .pinned], laidTests := true, laidLooks := .later }
def DecimalBoundsUptoCardSaid : Prop := Claim7.holds Tryd.pinned (.plain (OpenSpec.upto decimalBoundsSpec)) decimalBoundsUptoCard

/-- THE SECOND FORM's CARD OF 'lexiconlaw07.DecimalOrder'. -/
def decimalOrderUptoCard : Claim7 := { stood := { row := decimalOrderUptoRow, standIns := [], harness := (true, "bcc0a5c3bd41ea542a4e4601d056641aa6392303e450781cd6052e4e4d2ca065"), looks := false }, kinds := [], alts := [], laidByText := true, laidKinds := [.data, .data, .data, .data, .pinned], laidTests := true, laidLooks := .later }
def DecimalOrderUptoCardSaid : Prop := Claim7.holds Tryd.pinned (.plain (OpenSpec.upto decimalOrderSpec)) decimalOrderUptoCard

/-- THE SECOND FORM's CARD OF 'lexiconlaw07.DecimalShares'. -/
def decimalSharesUptoCard : Claim7 := { stood := { row := decimalSharesUptoRow, standIns := [], harness := (true, "bcc0a5c3bd41ea542a4e4601d056641aa6392303e450781cd6052e4e4d2ca065"), looks := false }, kinds := [], alts := [], laidByText := true, laidKinds := [.data, .data, .data, .data, .pinned], laidTests := true, laidLooks := .later }
def DecimalSharesUptoCardSaid : Prop := Claim7.holds Tryd.pinned (.plain (OpenSpec.upto decimalSharesSpec)) decimalSharesUptoCard
end Rows
end Go.Proofs.YtkakmjdfecbhaaaDoor
