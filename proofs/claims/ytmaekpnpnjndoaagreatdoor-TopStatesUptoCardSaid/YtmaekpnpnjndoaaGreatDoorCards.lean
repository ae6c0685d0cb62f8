/-
  DERIVED. GIVEN WITH THE SEED: THE CARDS: each row of YtmaekpnpnjndoaaGreatDoorRows.lean that lists a variable, with what it lists TIED to the program's text (the seventh form; the later family's looks); each row that meets fmt, with fmt's text TOLD by the authors' own Lean function (tested against real Go, not proved from fmt's source: count such statements apart). THE CARD IS WHAT COUNTS. Prove the row's statement (the work); the ties are given (YtmaekpnpnjndoaaGreatDoorTie.lean); close each card by the builder's one call (the guide's Derived/Test/ToyasCard.lean, 'card_holds'). Laid BY PROGRAM, IN A SANDBOX (cutbox-door.mjs). By AI agents, Wed Nov 11 2026. No macro, syntax, notation, axiom, sorry.
-/
import Derived.Test.YtmaekpnpnjndoaaGreatDoorRows
import GoSem.ClaimSeven
namespace Go.Proofs.YtmaekpnpnjndoaaGreatDoor
namespace Rows

/-- THE TIED CARD OF 'folianttop.TopStates'. -/
def topStatesCard : Claim7 := { stood := { row := topStatesRow, standIns := [], harness := (true, "efc9469ed3aff6bf61fc6e1e2258ee29817f57f747a0e4250291686f2b30fdb8"), looks := true }, kinds := [], alts := [], laidByText := true, laidKinds := [.data, .data, .data, .data, .listed, .data, .pinned], laidTests := true, laidLooks := .later }
def TopStatesCardSaid : Prop := Claim7.holds Tryz.pinned (.plain (OpenSpec.ofChange topStatesSpec)) topStatesCard

/-- THE SECOND FORM's CARD OF 'folianttop.TopStates'. -/
def topStatesUptoCard : Claim7 := { stood := { row := topStatesUptoRow, standIns := [], harness := (true, "efc9469ed3aff6bf61fc6e1e2258ee29817f57f747a0e4250291686f2b30fdb8"), looks := true }, kinds := [], alts := [], laidByText := true, laidKinds := [.data, .data, .data, .data, .listed, .data, .pinned], laidTests := true, laidLooks := .later }
def TopStatesUptoCardSaid : Prop := Claim7.holds Tryz.pinned (.plain (OpenSpec.upto topStatesSpec)) topStatesUptoCard
end Rows
end Go.Proofs.YtmaekpnpnjndoaaGreatDoor
