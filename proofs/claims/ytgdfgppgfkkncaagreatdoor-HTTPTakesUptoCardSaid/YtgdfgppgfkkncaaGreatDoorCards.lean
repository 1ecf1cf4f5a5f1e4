/-
  DERIVED. GIVEN WITH THE SEED: THE CARDS: each row of YtgdfgppgfkkncaaGreatDoorRows.lean that lists a variable, with what it lists TIED to the program's text (the seventh form; the later family's looks); each row that meets fmt, with fmt's text TOLD by the authors' own Lean function (tested against real Go, not proved from fmt's source: count such statements apart). THE CARD IS WHAT COUNTS. Prove the row's statement (the work); the ties are given (YtgdfgppgfkkncaaGreatDoorTie.lean); close each card by the builder's one call (the guide's Derived/Test/ToyasCard.lean, 'card_holds'). Laid BY PROGRAM, IN A SANDBOX (cutbox-door.mjs). By AI agents, Wed Nov 11 2026. No macro, syntax, notation, axiom, sorry.
-/
import Derived.Test.YtgdfgppgfkkncaaGreatDoorRows
import GoSem.ClaimSeven
namespace Go.Proofs.YtgdfgppgfkkncaaGreatDoor
namespace Rows

/-- THE TIED CARD OF 'lexiconlaw28.HTTPTakes'. -/
def hTTPTakesCard : Claim7 := { stood := { row := hTTPTakesRow, standIns := [], harness := (true, "4b967358dea6de64aa66a115170af1da66e41de60b56d7c6ef97647de2d553b2"), looks := true }, kinds := [], alts := [], laidByText := true, laidKinds := [.data, .data, .data, .data, .sentinel, .sentinel, .pinned, .pinned], laidTests := true, laidLooks := .later }
def HTTPTakesCardSaid : Prop := Claim7.holds Tryz.pinned (.plain (OpenSpec.ofChange hTTPTakesSpec)) hTTPTakesCard

/-- THE TIED CARD OF 'lexiconlaw28.HTTPHeads'. -/
def hTTPHeadsCard : Claim7 := { stood := { row := hTTPHeadsRow, standIns := [], harness := (true, "4b967358dea6de64aa66a115170af1da66e41de60b56d7c6ef97647de2d553b2"), looks := true }, kinds := [], alts := [], laidByText := true, laidKinds := [.data, .data, .data, .data, .sentinel, .sentinel, .pinned, .pinned], laidTests := true, laidLooks := .later }
def HTTPHeadsCardSaid : Prop := Claim7.holds Tryz.pinned (.plain (OpenSpec.ofChange hTTPHeadsSpec)) hTTPHeadsCard

/-- THE TIED CARD OF 'lexiconlaw28.HTTPBounds'. -/
def hTTPBoundsCard : Claim7 := { stood := { row := hTTPBoundsRow, standIns := [], harness := (true, "4b967358dea6de64aa66a115170af1da66e41de60b56d7c6ef97647de2d553b2"), looks := true }, kinds := [], alts := [], laidByText := true, laidKinds := [.data, .data, .data, .data, .sentinel, .sentinel, .pinned, .pinned], laidTests := true, laidLooks := .later }
def HTTPBoundsCardSaid : Prop := Claim7.holds Tryz.pinned (.plain (OpenSpec.ofChange hTTPBoundsSpec)) hTTPBoundsCard

/-- THE TIED CARD OF 'lexiconlaw28.HTTPPieces'. -/
def hTTPPiecesCard : Claim7 := { stood := { row := hTTPPiecesRow, standIns := [], harness := (true, "4b967358dea6de64aa66a115170af1da66e41de60b56d7c6ef97647de2d553b2"), looks := true }, kinds := [], alts := [], laidByText := true, laidKinds := [.data, .data, .data, .data, .sentinel, .sentinel, .pinned, .pinned], laidTests := true, laidLooks := .later }
def HTTPPiecesCardSaid : Prop := Claim7.holds Tryz.pinned (.plain (OpenSpec.ofChange hTTPPiecesSpec)) hTTPPiecesCard

/-- THE TIED CARD OF 'lexiconlaw28.HTTPReplies'. -/
def hTTPRepliesCard : Claim7 := { stood := { row := hTTPRepliesRow, standIns := [], harness := (true, "4b967358dea6de64aa66a115170af1da66e41de60b56d7c6ef97647de2d553b2"), looks := true }, kinds := [], alts := [], laidByText := true, laidKinds := [.data, .data, .data, .data, .sentinel, .sentinel, .pinned, .pinned], laidTests := true, laidLooks := .later }
def HTTPRepliesCardSaid : Prop := Claim7.holds Tryz.pinned (.plain (OpenSpec.ofChange hTTPRepliesSpec)) hTTPRepliesCard

/-- THE TIED CARD OF 'lexiconlaw28.HTTPPuts'. -/
def hTTPPutsCard : Claim7 := { stood := { row := hTTPPutsRow, standIns := [], harness := (true, "4b967358dea6de64aa66a115170af1da66e41de60b56d7c6ef97647de2d553b2"), looks := true }, kinds := [], alts := [], laidByText := true, laidKinds := [.data, .data, .data, .data, .sentinel, .sentinel, .sentinel, .pinned, .pinned], laidTests := true, laidLooks := .later }
def HTTPPutsCardSaid : Prop := Claim7.holds Tryz.pinned (.plain (OpenSpec.ofChange hTTPPutsSpec)) hTTPPutsCard

/-- THE TIED CARD OF 'lexiconlaw28.HTTPBack'. -/
def hTTPBackCard : Claim7 := { stood := { row := hTTPBackRow, standIns := [], harness := (true, "4b967358dea6de64aa66a115170af1da66e41de60b56d7c6ef97647de2d553b2"), looks := true }, kinds := [], alts := [], laidByText := true, laidKinds := [.data, .data, .data, .data, .sentinel, .sentinel, .sentinel, .pinned, .pinned], laidTests := true, laidLooks := .later }
def HTTPBackCardSaid : Prop := Claim7.holds Tryz.pinned (.plain (OpenSpec.ofChange hTTPBackSpec)) hTTPBackCard

/-- THE SECOND FORM's CARD OF 'lexiconlaw28.HTTPTakes'. -/
def hTTPTakesUptoCard : Claim7 := { stood := { row := hTTPTakesUptoRow, standIns := [], harness := (true, "4b967358dea6de64aa66a115170af1da66e41de60b56d7c6ef97647de2d553b2"), looks := true }, kinds := [], alts := [], laidByText := true, laidKinds := [.data, .data, .data, .data, .sentinel, .sentinel, .pinned, .pinned], laidTests := true, laidLooks := .later }
def HTTPTakesUptoCardSaid : Prop := Claim7.holds Tryz.pinned (.plain (OpenSpec.upto hTTPTakesSpec)) hTTPTakesUptoCard

/-- THE SECOND FORM's CARD OF 'lexiconlaw28.HTTPHeads'. -/
def hTTPHeadsUptoCard : Claim7 := { stood := { row := hTTPHeadsUptoRow, standIns := [], harness := (true, "4b967358dea6de64aa66a115170af1da66e41de60b56d7c6ef97647de2d553b2"), looks := true }, kinds := [], alts := [], laidByText := true, laidKinds := [.data, .data, .data, .data, .sentinel, .sentinel, .pinned, .pinned], laidTests := true, laidLooks := .later }
def HTTPHeadsUptoCardSaid : Prop := Claim7.holds Tryz.pinned (.plain (OpenSpec.upto hTTPHeadsSpec)) hTTPHeadsUptoCard

/-- THE SECOND FORM's CARD OF 'lexiconlaw28.HTTPBounds'. -/
def hTTPBoundsUptoCard : Claim7 := { stood := { row := hTTPBoundsUptoRow, standIns := [], harness := (true, "4b967358dea6de64aa66a115170af1da66e41de60b56d7c6ef97647de2d553b2"), looks := true }, kinds := [], alts := [], laidByText := true, laidKinds := [.data, .data, .data, .data, .sentinel, .sentinel, .pinned, .pinned], laidTests := true, laidLooks := .later }
def HTTPBoundsUptoCardSaid : Prop := Claim7.holds Tryz.pinned (.plain (OpenSpec.upto hTTPBoundsSpec)) hTTPBoundsUptoCard

/-- THE SECOND FORM's CARD OF 'lexiconlaw28.HTTPPieces'. -/
def hTTPPiecesUptoCard : Claim7 := { stood := { row := hTTPPiecesUptoRow, standIns := [], harness := (true, "4b967358dea6de64aa66a115170af1da66e41de60b56d7c6ef97647de2d553b2"), looks := true }, kinds := [], alts := [], laidByText := true, laidKinds := [.data, .data, .data, .data, .sentinel, .sentinel, .pinned, .pinned], laidTests := true, laidLooks := .later }
def HTTPPiecesUptoCardSaid : Prop := Claim7.holds Tryz.pinned (.plain (OpenSpec.upto hTTPPiecesSpec)) hTTPPiecesUptoCard

/-- THE SECOND FORM's CARD OF 'lexiconlaw28.HTTPReplies'. -/
def hTTPRepliesUptoCard : Claim7 := { stood := { row := hTTPRepliesUptoRow, standIns := [], harness := (true, "4b967358dea6de64aa66a115170af1da66e41de60b56d7c6ef97647de2d553b2"), looks := true }, kinds := [], alts := [], laidByText := true, laidKinds := [.data, .data, .data, .data, .sentinel, .sentinel, .pinned, .pinned], laidTests := true, laidLooks := .later }
def HTTPRepliesUptoCardSaid : Prop := Claim7.holds Tryz.pinned (.plain (OpenSpec.upto hTTPRepliesSpec)) hTTPRepliesUptoCard

/-- THE SECOND FORM's CARD OF 'lexiconlaw28.HTTPPuts'. -/
def hTTPPutsUptoCard : Claim7 := { stood := { row := hTTPPutsUptoRow, standIns := [], harness := (true, "4b967358dea6de64aa66a115170af1da66e41de60b56d7c6ef97647de2d553b2"), looks := true }, kinds := [], alts := [], laidByText := true, laidKinds := [.data, .data, .data, .data, .sentinel, .sentinel, .sentinel, .pinned, .pinned], laidTests := true, laidLooks := .later }
def HTTPPutsUptoCardSaid : Prop := Claim7.holds Tryz.pinned (.plain (OpenSpec.upto hTTPPutsSpec)) hTTPPutsUptoCard

/-- THE SECOND FORM's CARD OF 'lexiconlaw28.HTTPBack'. -/
def hTTPBackUptoCard : Claim7 := { stood := { row := hTTPBackUptoRow, standIns := [], harness := (true, "4b967358dea6de64aa66a115170af1da66e41de60b56d7c6ef97647de2d553b2"), looks := true }, kinds := [], alts := [], laidByText := true, laidKinds := [.data, .data, .data, .data, .sentinel, .sentinel, .sentinel, .pinned, .pinned], laidTests := true, laidLooks := .later }
def HTTPBackUptoCardSaid : Prop := Claim7.holds Tryz.pinned (.plain (OpenSpec.upto hTTPBackSpec)) hTTPBackUptoCard
end Rows
end Go.Proofs.YtgdfgppgfkkncaaGreatDoor
