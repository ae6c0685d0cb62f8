/-
  DERIVED. GIVEN WITH THE SEED: THE CARDS: each row of YtcblpehnkogfdaaDoorRows.lean that lists a variable, with what it lists TIED to the program's text (the seventh form; the later family's looks); each row that meets fmt, with fmt's text TOLD by the authors' own Lean function (tested against real Go, not proved from fmt's source: count such statements apart). THE CARD IS WHAT COUNTS. Prove the row's statement (the work); the ties are given (YtcblpehnkogfdaaDoorTie.lean); close each card by the builder's one call (the guide's Derived/Test/ToyasCard.lean, 'card_holds'). Laid BY PROGRAM, IN A SANDBOX (cutbox-door.mjs). By AI agents, Wed Nov 11 2026. No macro, syntax, notation, axiom, sorry.
-/
import Derived.Test.YtcblpehnkogfdaaDoorRows
import GoSem.ClaimSeven
namespace Go.Proofs.YtcblpehnkogfdaaDoor
namespace Rows

/-- THE TIED CARD OF 'folianttop.TopComposed'. -/
def topComposedCard : Claim7 := { stood := { row := topComposedRow, standIns := [], harness := (true, "0f7c24aa101cff00a4c2cd056579fee428bafad878039780e95d072fff421f59"), looks := true }, kinds := [], alts := [], laidByText := true, laidKinds := [.data, .listed, .data, .pinned], laidTests := true, laidLooks := .later }
def TopComposedCardSaid : Prop := Claim7.holds Tryd.pinned (.plain (OpenSpec.ofChange topComposedSpec)) topComposedCard

/-- THE SECOND FORM's CARD OF 'folianttop.TopComposed'. -/
def topComposedUptoCard : Claim7 := { stood := { row := topComposedUptoRow, standIns := [], harness := (true, "0f7c24aa101cff00a4c2cd056579fee428bafad878039780e95d072fff421f59"), looks := true }, kinds := [], alts := [], laidByText := true, laidKinds := [.data, .listed, .data, .pinned], laidTests := true, laidLooks := .later }
def TopComposedUptoCardSaid : Prop := Claim7.holds Tryd.pinned (.plain (OpenSpec.upto topComposedSpec)) topComposedUptoCard
end Rows
end Go.Proofs.YtcblpehnkogfdaaDoor
