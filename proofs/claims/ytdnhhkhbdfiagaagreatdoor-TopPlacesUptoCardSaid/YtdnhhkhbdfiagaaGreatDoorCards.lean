/-
  DERIVED. GIVEN WITH THE SEED: THE CARDS: each row of YtdnhhkhbdfiagaaGreatDoorRows.lean that lists a variable, with what it lists TIED to the program's text (the seventh form; the later family's looks); each row that meets fmt, with fmt's text TOLD by the authors' own Lean function (tested against real Go, not proved from fmt's source: count such statements apart). THE CARD IS WHAT COUNTS. Prove the row's statement (the work); the ties are given (YtdnhhkhbdfiagaaGreatDoorTie.lean); close each card by the builder's one call (the guide's Derived/Test/ToyasCard.lean, 'card_holds'). Laid BY PROGRAM, IN A SANDBOX (cutbox-door.mjs). By AI agents, Wed Nov 11 2026. No macro, syntax, notation, axiom, sorry.
-/
import Derived.Test.YtdnhhkhbdfiagaaGreatDoorRows
import GoSem.ClaimSeven
namespace Go.Proofs.YtdnhhkhbdfiagaaGreatDoor
namespace Rows

/-- THE TIED CARD OF 'folianttop.TopPlaces'. -/
def topPlacesCard : Claim7 := { stood := { row := topPlacesRow, standIns := [], harness := (true, "2b05529b76683ddc3ae3427fc2f81e6dbc70b02566065f215bbe940412328afa"), looks := true }, kinds := [], alts := [], laidByText := true, laidKinds := [.data, .data, .data, .data, .widerDeep, .mapped, .widerDeep, .pinned], laidTests := true, laidLooks := .later }
def TopPlacesCardSaid : Prop := Claim7.holds Tryz.pinned (.plain (OpenSpec.ofChange topPlacesSpec)) topPlacesCard

/-- THE SECOND FORM's CARD OF 'folianttop.TopPlaces'. -/
def topPlacesUptoCard : Claim7 := { stood := { row := topPlacesUptoRow, standIns := [], harness := (true, "2b05529b76683ddc3ae3427fc2f81e6dbc70b02566065f215bbe940412328afa"), looks := true }, kinds := [], alts := [], laidByText := true, laidKinds := [.data, .data, .data, .data, .widerDeep, .mapped, .widerDeep, .pinned], laidTests := true, laidLooks := .later }
def TopPlacesUptoCardSaid : Prop := Claim7.holds Tryz.pinned (.plain (OpenSpec.upto topPlacesSpec)) topPlacesUptoCard
end Rows
end Go.Proofs.YtdnhhkhbdfiagaaGreatDoor
