/-
  DERIVED. GIVEN WITH THE SEED: THE CARDS: each row of YtcblpehnkogfdaaGreatDoorRows.lean that lists a variable, with what it lists TIED to the program's text (the seventh form; the later family's looks); each row that meets fmt, with fmt's text TOLD by the authors' own Lean function (tested against real Go, not proved from fmt's source: count such statements apart). THE CARD IS WHAT COUNTS. Prove the row's statement (the work); the ties are given (YtcblpehnkogfdaaGreatDoorTie.lean); close each card by the builder's one call (the guide's Derived/Test/ToyasCard.lean, 'card_holds'). Laid BY PROGRAM, IN A SANDBOX (cutbox-door.mjs). By AI agents, Wed Nov 11 2026. No macro, syntax, notation, axiom, sorry.
-/
import Derived.Test.YtcblpehnkogfdaaGreatDoorRows
import GoSem.ClaimSeven
namespace Go.Proofs.YtcblpehnkogfdaaGreatDoor
namespace Rows

/-- THE TIED CARD OF 'foliantlaw48.ShowDoes'. -/
def showDoesCard : Claim7 := { stood := { row := showDoesRow, standIns := [], harness := (true, "29b0c0ddf03aa5bdf421e28c7948fb502423f57a92f672d7b56e1df8e66e1329"), looks := true }, kinds := [], alts := [], laidByText := true, laidKinds := [.data, .listed, .data, .pinned], laidTests := true, laidLooks := .later }
def ShowDoesCardSaid : Prop := Claim7.holds Tryz.pinned (.plain (OpenSpec.ofChange showDoesSpec)) showDoesCard

/-- THE TIED CARD OF 'foliantlaw48.ShowMoves'. -/
def showMovesCard : Claim7 := { stood := { row := showMovesRow, standIns := [], harness := (true, "29b0c0ddf03aa5bdf421e28c7948fb502423f57a92f672d7b56e1df8e66e1329"), looks := true }, kinds := [], alts := [], laidByText := true, laidKinds := [.data, .listed, .data, .pinned], laidTests := true, laidLooks := .later }
def ShowMovesCardSaid : Prop := Claim7.holds Tryz.pinned (.plain (OpenSpec.ofChange showMovesSpec)) showMovesCard

/-- THE TIED CARD OF 'foliantlaw48.ShowPieces'. -/
def showPiecesCard : Claim7 := { stood := { row := showPiecesRow, standIns := [], harness := (true, "29b0c0ddf03aa5bdf421e28c7948fb502423f57a92f672d7b56e1df8e66e1329"), looks := true }, kinds := [], alts := [], laidByText := true, laidKinds := [.data, .listed, .data, .pinned], laidTests := true, laidLooks := .later }
def ShowPiecesCardSaid : Prop := Claim7.holds Tryz.pinned (.plain (OpenSpec.ofChange showPiecesSpec)) showPiecesCard

/-- THE TIED CARD OF 'foliantlaw48.ShowPlaces'. -/
def showPlacesCard : Claim7 := { stood := { row := showPlacesRow, standIns := [], harness := (true, "29b0c0ddf03aa5bdf421e28c7948fb502423f57a92f672d7b56e1df8e66e1329"), looks := true }, kinds := [], alts := [], laidByText := true, laidKinds := [.data, .listed, .data, .pinned], laidTests := true, laidLooks := .later }
def ShowPlacesCardSaid : Prop := Claim7.holds Tryz.pinned (.plain (OpenSpec.ofChange showPlacesSpec)) showPlacesCard

/-- THE SECOND FORM's CARD OF 'foliantlaw48.ShowDoes'. -/
def showDoesUptoCard : Claim7 := { stood := { row := showDoesUptoRow, standIns := [], harness := (true, "29b0c0ddf03aa5bdf421e28c7948fb502423f57a92f672d7b56e1df8e66e1329"), looks := true }, kinds := [], alts := [], laidByText := true, laidKinds := [.data, .listed, .data, .pinned], laidTests := true, laidLooks := .later }
def ShowDoesUptoCardSaid : Prop := Claim7.holds Tryz.pinned (.plain (OpenSpec.upto showDoesSpec)) showDoesUptoCard

/-- THE SECOND FORM's CARD OF 'foliantlaw48.ShowMoves'. -/
def showMovesUptoCard : Claim7 := { stood := { row := showMovesUptoRow, standIns := [], harness := (true, "29b0c0ddf03aa5bdf421e28c7948fb502423f57a92f672d7b56e1df8e66e1329"), looks := true }, kinds := [], alts := [], laidByText := true, laidKinds := [.data, .listed, .data, .pinned], laidTests := true, laidLooks := .later }
def ShowMovesUptoCardSaid : Prop := Claim7.holds Tryz.pinned (.plain (OpenSpec.upto showMovesSpec)) showMovesUptoCard

/-- THE SECOND FORM's CARD OF 'foliantlaw48.ShowPieces'. -/
def showPiecesUptoCard : Claim7 := { stood := { row := showPiecesUptoRow, standIns := [], harness := (true, "29b0c0ddf03aa5bdf421e28c7948fb502423f57a92f672d7b56e1df8e66e1329"), looks := true }, kinds := [], alts := [], laidByText := true, laidKinds := [.data, .listed, .data, .pinned], laidTests := true, laidLooks := .later }
def ShowPiecesUptoCardSaid : Prop := Claim7.holds Tryz.pinned (.plain (OpenSpec.upto showPiecesSpec)) showPiecesUptoCard

/-- THE SECOND FORM's CARD OF 'foliantlaw48.ShowPlaces'. -/
def showPlacesUptoCard : Claim7 := { stood := { row := showPlacesUptoRow, standIns := [], harness := (true, "29b0c0ddf03aa5bdf421e28c7948fb502423f57a92f672d7b56e1df8e66e1329"), looks := true }, kinds := [], alts := [], laidByText := true, laidKinds := [.data, .listed, .data, .pinned], laidTests := true, laidLooks := .later }
def ShowPlacesUptoCardSaid : Prop := Claim7.holds Tryz.pinned (.plain (OpenSpec.upto showPlacesSpec)) showPlacesUptoCard
end Rows
end Go.Proofs.YtcblpehnkogfdaaGreatDoor
