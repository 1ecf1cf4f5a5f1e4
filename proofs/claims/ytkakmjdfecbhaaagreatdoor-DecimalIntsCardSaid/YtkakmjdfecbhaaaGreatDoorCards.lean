/-
  DERIVED. GIVEN WITH THE SEED: THE CARDS: each row of YtkakmjdfecbhaaaGreatDoorRows.lean that lists a variable, with what it lists TIED to the program's text (the seventh form; the later family's looks); each row that meets fmt, with fmt's text TOLD by the authors' own Lean function (tested against real Go, not proved from fmt's source: count such statements apart). THE CARD IS WHAT COUNTS. Prove the row's statement (the work); the ties are given (YtkakmjdfecbhaaaGreatDoorTie.lean); close each card by the builder's one call (the guide's Derived/Test/ToyasCard.lean, 'card_holds'). Laid BY PROGRAM, IN A SANDBOX (cutbox-door.mjs). By AI agents, Wed Nov 11 2026. No macro, syntax, notation, axiom, sorry.
-/
import Derived.Test.YtkakmjdfecbhaaaGreatDoorRows
import GoSem.ClaimSeven
namespace Go.Proofs.YtkakmjdfecbhaaaGreatDoor
namespace Rows

/-- THE TIED CARD OF 'lexiconlaw07.DecimalSums'. -/
def decimalSumsCard : Claim7 := { stood := { row := decimalSumsRow, standIns := [], harness := (true, "f7b7734ebffcc61abe71302f7022b43d42c3c4c10ff6fddfd5f348f615442957"), looks := true }, kinds := [], alts := [], laidByText := true, laidKinds := [.data, .data, .data, .data, .pinned], laidTests := true, laidLooks := .later }
def DecimalSumsCardSaid : Prop := Claim7.holds Tryz.pinned (.plain (OpenSpec.ofChange decimalSumsSpec)) decimalSumsCard

/-- THE TIED CARD OF 'lexiconlaw07.DecimalMultiples'. -/
def decimalMultiplesCard : Claim7 := { stood := { row := decimalMultiplesRow, standIns := [], harness := (true, "f7b7734ebffcc61abe71302f7022b43d42c3c4c10ff6fddfd5f348f615442957"), looks := true }, kinds := [], alts := [], laidByText := true, laidKinds := [.data, .data, .data, .data, .pinned], laidTests := true, laidLooks := .later }
def DecimalMultiplesCardSaid : Prop := Claim7.holds Tryz.pinned (.plain (OpenSpec.ofChange decimalMultiplesSpec)) decimalMultiplesCard

/-- THE TIED CARD OF 'lexiconlaw07.DecimalInts'. -/
def decimalIntsCard : Claim7 := { stood := { row := decimalIntsRow, standIns := [], harness := (true, "f7b7734ebffcc61abe71302f7022b43d42c3c4c10ff6fddfd5f348f615442957"), looks := true }, kinds := [], alts := [], laidByText := true, laidKinds := [.data, .data, .data, .data, .sentinel, .sentinel, .pinned], laidTests := true, laidLooks := .later }
def DecimalIntsCardSaid : Prop := Claim7.holds Tryz.pinned (.plain (OpenSpec.ofChange decimalIntsSpec)) decimalIntsCard

/-- THE SECOND FORM's CARD OF 'lexiconlaw07.DecimalSums'. -/
def decimalSumsUptoCard : Claim7 := { stood := { row := decimalSumsUptoRow, standIns := [], harness := (true, "f7b7734ebffcc61abe71302f7022b43d42c3c4c10ff6fddfd5f348f615442957"), looks := true }, kinds := [], alts := [], laidByText := true, laidKinds := [.data, .data, .data, .data, .pinned], laidTests := true, laidLooks := .later }
def DecimalSumsUptoCardSaid : Prop := Claim7.holds Tryz.pinned (.plain (OpenSpec.upto decimalSumsSpec)) decimalSumsUptoCard

/-- THE SECOND FORM's CARD OF 'lexiconlaw07.DecimalMultiples'. -/
def decimalMultiplesUptoCard : Claim7 := { stood := { row := decimalMultiplesUptoRow, standIns := [], harness := (true, "f7b7734ebffcc61abe71302f7022b43d42c3c4c10ff6fddfd5f348f615442957"), looks := true }, kinds := [], alts := [], laidByText := true, laidKinds := [.data, .data, .data, .data, .pinned], laidTests := true, laidLooks := .later }
def DecimalMultiplesUptoCardSaid : Prop := Claim7.holds Tryz.pinned (.plain (OpenSpec.upto decimalMultiplesSpec)) decimalMultiplesUptoCard

/-- THE SECOND FORM's CARD OF 'lexiconlaw07.DecimalInts'. -/
def decimalIntsUptoCard : Claim7 := { stood := { row := decimalIntsUptoRow, standIns := [], harness := (true, "f7b7734ebffcc61abe71302f7022b43d42c3c4c10ff6fddfd5f348f615442957"), looks := true }, kinds := [], alts := [], laidByText := true, laidKinds := [.data, .data, .data, .data, .sentinel, .sentinel, .pinned], laidTests := true, laidLooks := .later }
def DecimalIntsUptoCardSaid : Prop := Claim7.holds Tryz.pinned (.plain (OpenSpec.upto decimalIntsSpec)) decimalIntsUptoCard
end Rows
end Go.Proofs.YtkakmjdfecbhaaaGreatDoor
