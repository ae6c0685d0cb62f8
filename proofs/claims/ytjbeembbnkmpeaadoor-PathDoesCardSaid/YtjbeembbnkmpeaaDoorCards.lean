/-
  DERIVED. GIVEN WITH THE SEED: THE CARDS: each row of YtjbeembbnkmpeaaDoorRows.lean that lists a variable, with what it lists TIED to the program's text (the seventh form; the later family's looks); each row that meets fmt, with fmt's text TOLD by the authors' own Lean function (tested against real Go, not proved from fmt's source: count such statements apart). THE CARD IS WHAT COUNTS. Prove the row's statement (the work); the ties are given (YtjbeembbnkmpeaaDoorTie.lean); close each card by the builder's one call (the guide's Derived/Test/ToyasCard.lean, 'card_holds'). Laid BY PROGRAM, IN A SANDBOX (cutbox-door.mjs). By AI agents, Wed Nov 11 2026. No macro, syntax, notation, axiom, sorry.
-/
import Derived.Test.YtjbeembbnkmpeaaDoorRows
import GoSem.ClaimSeven
namespace Go.Proofs.YtjbeembbnkmpeaaDoor
namespace Rows

/-- THE TIED CARD OF 'folianttop.TopComposed'. -/
def topComposedCard : Claim7 := { stood := { row := topComposedRow, standIns := [], harness := (true, "a4b9324a3866ae89395afa5edc7dc2d99124470b209aec5035b7e55b92afe7a7"), looks := true }, kinds := [], alts := [], laidByText := true, laidKinds := [.data, .listed, .data, .pinned], laidTests := true, laidLooks := .later }
def TopComposedCardSaid : Prop := Claim7.holds Tryd.pinned (.plain (OpenSpec.ofChange topComposedSpec)) topComposedCard

/-- THE TIED CARD OF 'folianttop.TopPaths'. -/
def topPathsCard : Claim7 := { stood := { row := topPathsRow, standIns := [], harness := (true, "a4b9324a3866ae89395afa5edc7dc2d99124470b209aec5035b7e55b92afe7a7"), looks := true }, kinds := [], alts := [], laidByText := true, laidKinds := [.listed, .data, .mapped], laidTests := true, laidLooks := .later }
def TopPathsCardSaid : Prop := Claim7.holds Tryd.pinned (.plain (OpenSpec.ofChange topPathsSpec)) topPathsCard

/-- THE TIED CARD OF 'foliantlaw45.PathDoes'. -/
def pathDoesCard : Claim7 := { stood := { row := pathDoesRow, standIns := [], harness := (true, "a4b9324a3866ae89395afa5edc7dc2d99124470b209aec5035b7e55b92afe7a7"), looks := true }, kinds := [], alts := [], laidByText := true, laidKinds := [.listed, .data, .mapped], laidTests := true, laidLooks := .later }
def PathDoesCardSaid : Prop := Claim7.holds Tryd.pinned (.plain (OpenSpec.ofChange pathDoesSpec)) pathDoesCard

/-- THE TIED CARD OF 'foliantlaw45.PathClosed'. -/
def pathClosedCard : Claim7 := { stood := { row := pathClosedRow, standIns := [], harness := (true, "a4b9324a3866ae89395afa5edc7dc2d99124470b209aec5035b7e55b92afe7a7"), looks := true }, kinds := [], alts := [], laidByText := true, laidKinds := [.listed, .data, .mapped], laidTests := true, laidLooks := .later }
def PathClosedCardSaid : Prop := Claim7.holds Tryd.pinned (.plain (OpenSpec.ofChange pathClosedSpec)) pathClosedCard

/-- THE TIED CARD OF 'foliantlaw45.PathStays'. -/
def pathStaysCard : Claim7 := { stood := { row := pathStaysRow, standIns := [], harness := (true, "a4b9324a3866ae89395afa5edc7dc2d99124470b209aec5035b7e55b92afe7a7"), looks := true }, kinds := [], alts := [], laidByText := true, laidKinds := [.listed, .data, .mapped], laidTests := true, laidLooks := .later }
def PathStaysCardSaid : Prop := Claim7.holds Tryd.pinned (.plain (OpenSpec.ofChange pathStaysSpec)) pathStaysCard

/-- THE TIED CARD OF 'foliantlaw45.PathLed'. -/
def pathLedCard : Claim7 := { stood := { row := pathLedRow, standIns := [], harness := (true, "a4b9324a3866ae89395afa5edc7dc2d99124470b209aec5035b7e55b92afe7a7"), looks := true }, kinds := [], alts := [], laidByText := true, laidKinds := [.listed, .data, .mapped], laidTests := true, laidLooks := .later }
def PathLedCardSaid : Prop := Claim7.holds Tryd.pinned (.plain (OpenSpec.ofChange pathLedSpec)) pathLedCard

/-- THE TIED CARD OF 'foliantlaw44.StateDoes'. -/
def stateDoesCard : Claim7 := { stood := { row := stateDoesRow, standIns := [], harness := (true, "a4b9324a3866ae89395afa5edc7dc2d99124470b209aec5035b7e55b92afe7a7"), looks := true }, kinds := [], alts := [], laidByText := true, laidKinds := [.listed, .data], laidTests := true, laidLooks := .later }
def StateDoesCardSaid : Prop := Claim7.holds Tryd.pinned (.plain (OpenSpec.ofChange stateDoesSpec)) stateDoesCard

/-- THE TIED CARD OF 'foliantlaw44.StateBack'. -/
def stateBackCard : Claim7 := { stood := { row := stateBackRow, standIns := [], harness := (true, "a4b9324a3866ae89395afa5edc7dc2d99124470b209aec5035b7e55b92afe7a7"), looks := true }, kinds := [], alts := [], laidByText := true, laidKinds := [.listed, .data], laidTests := true, laidLooks := .later }
def StateBackCardSaid : Prop := Claim7.holds Tryd.pinned (.plain (OpenSpec.ofChange stateBackSpec)) stateBackCard

/-- THE TIED CARD OF 'foliantlaw44.StateStays'. -/
def stateStaysCard : Claim7 := { stood := { row := stateStaysRow, standIns := [], harness := (true, "a4b9324a3866ae89395afa5edc7dc2d99124470b209aec5035b7e55b92afe7a7"), looks := true }, kinds := [], alts := [], laidByText := true, laidKinds := [.listed, .data], laidTests := true, laidLooks := .later }
def StateStaysCardSaid : Prop := Claim7.holds Tryd.pinned (.plain (OpenSpec.ofChange stateStaysSpec)) stateStaysCard

/-- THE TIED CARD OF 'foliantlaw44.StateSame'. -/
def stateSameCard : Claim7 := { stood := { row := stateSameRow, standIns := [], harness := (true, "a4b9324a3866ae89395afa5edc7dc2d99124470b209aec5035b7e55b92afe7a7"), looks := true }, kinds := [], alts := [], laidByText := true, laidKinds := [.listed, .data], laidTests := true, laidLooks := .later }
def StateSameCardSaid : Prop := Claim7.holds Tryd.pinned (.plain (OpenSpec.ofChange stateSameSpec)) stateSameCard

/-- THE SECOND FORM's CARD OF 'folianttop.TopComposed'. -/
def topComposedUptoCard : Claim7 := { stood := { row := topComposedUptoRow, standIns := [], harness := (true, "a4b9324a3866ae89395afa5edc7dc2d99124470b209aec5035b7e55b92afe7a7"), looks := true }, kinds := [], alts := [], laidByText := true, laidKinds := [.data, .listed, .data, .pinned], laidTests := true, laidLooks := .later }
def TopComposedUptoCardSaid : Prop := Claim7.holds Tryd.pinned (.plain (OpenSpec.upto topComposedSpec)) topComposedUptoCard

/-- THE SECOND FORM's CARD OF 'folianttop.TopPaths'. -/
def topPathsUptoCard : Claim7 := { stood := { row := topPathsUptoRow, standIns := [], harness := (true, "a4b9324a3866ae89395afa5edc7dc2d99124470b209aec5035b7e55b92afe7a7"), looks := true }, kinds := [], alts := [], laidByText := true, laidKinds := [.listed, .data, .mapped], laidTests := true, laidLooks := .later }
def TopPathsUptoCardSaid : Prop := Claim7.holds Tryd.pinned (.plain (OpenSpec.upto topPathsSpec)) topPathsUptoCard

/-- THE SECOND FORM's CARD OF 'foliantlaw45.PathDoes'. -/
def pathDoesUptoCard : Claim7 := { stood := { row := pathDoesUptoRow, standIns := [], harness := (true, "a4b9324a3866ae89395afa5edc7dc2d99124470b209aec5035b7e55b92afe7a7"), looks := true }, kinds := [], alts := [], laidByText := true, laidKinds := [.listed, .data, .mapped], laidTests := true, laidLooks := .later }
def PathDoesUptoCardSaid : Prop := Claim7.holds Tryd.pinned (.plain (OpenSpec.upto pathDoesSpec)) pathDoesUptoCard

/-- THE SECOND FORM's CARD OF 'foliantlaw45.PathClosed'. -/
def pathClosedUptoCard : Claim7 := { stood := { row := pathClosedUptoRow, standIns := [], harness := (true, "a4b9324a3866ae89395afa5edc7dc2d99124470b209aec5035b7e55b92afe7a7"), looks := true }, kinds := [], alts := [], laidByText := true, laidKinds := [.listed, .data, .mapped], laidTests := true, laidLooks := .later }
def PathClosedUptoCardSaid : Prop := Claim7.holds Tryd.pinned (.plain (OpenSpec.upto pathClosedSpec)) pathClosedUptoCard

/-- THE SECOND FORM's CARD OF 'foliantlaw45.PathStays'. -/
def pathStaysUptoCard : Claim7 := { stood := { row := pathStaysUptoRow, standIns := [], harness := (true, "a4b9324a3866ae89395afa5edc7dc2d99124470b209aec5035b7e55b92afe7a7"), looks := true }, kinds := [], alts := [], laidByText := true, laidKinds := [.listed, .data, .mapped], laidTests := true, laidLooks := .later }
def PathStaysUptoCardSaid : Prop := Claim7.holds Tryd.pinned (.plain (OpenSpec.upto pathStaysSpec)) pathStaysUptoCard

/-- THE SECOND FORM's CARD OF 'foliantlaw45.PathLed'. -/
def pathLedUptoCard : Claim7 := { stood := { row := pathLedUptoRow, standIns := [], harness := (true, "a4b9324a3866ae89395afa5edc7dc2d99124470b209aec5035b7e55b92afe7a7"), looks := true }, kinds := [], alts := [], laidByText := true, laidKinds := [.listed, .data, .mapped], laidTests := true, laidLooks := .later }
def PathLedUptoCardSaid : Prop := Claim7.holds Tryd.pinned (.plain (OpenSpec.upto pathLedSpec)) pathLedUptoCard

/-- THE SECOND FORM's CARD OF 'foliantlaw44.StateDoes'. -/
def stateDoesUptoCard : Claim7 := { stood := { row := stateDoesUptoRow, standIns := [], harness := (true, "a4b9324a3866ae89395afa5edc7dc2d99124470b209aec5035b7e55b92afe7a7"), looks := true }, kinds := [], alts := [], laidByText := true, laidKinds := [.listed, .data], laidTests := true, laidLooks := .later }
def StateDoesUptoCardSaid : Prop := Claim7.holds Tryd.pinned (.plain (OpenSpec.upto stateDoesSpec)) stateDoesUptoCard

/-- THE SECOND FORM's CARD OF 'foliantlaw44.StateBack'. -/
def stateBackUptoCard : Claim7 := { stood := { row := stateBackUptoRow, standIns := [], harness := (true, "a4b9324a3866ae89395afa5edc7dc2d99124470b209aec5035b7e55b92afe7a7"), looks := true }, kinds := [], alts := [], laidByText := true, laidKinds := [.listed, .data], laidTests := true, laidLooks := .later }
def StateBackUptoCardSaid : Prop := Claim7.holds Tryd.pinned (.plain (OpenSpec.upto stateBackSpec)) stateBackUptoCard

/-- THE SECOND FORM's CARD OF 'foliantlaw44.StateStays'. -/
def stateStaysUptoCard : Claim7 := { stood := { row := stateStaysUptoRow, standIns := [], harness := (true, "a4b9324a3866ae89395afa5edc7dc2d99124470b209aec5035b7e55b92afe7a7"), looks := true }, kinds := [], alts := [], laidByText := true, laidKinds := [.listed, .data], laidTests := true, laidLooks := .later }
def StateStaysUptoCardSaid : Prop := Claim7.holds Tryd.pinned (.plain (OpenSpec.upto stateStaysSpec)) stateStaysUptoCard

/-- THE SECOND FORM's CARD OF 'foliantlaw44.StateSame'. -/
def stateSameUptoCard : Claim7 := { stood := { row := stateSameUptoRow, standIns := [], harness := (true, "a4b9324a3866ae89395afa5edc7dc2d99124470b209aec5035b7e55b92afe7a7"), looks := true }, kinds := [], alts := [], laidByText := true, laidKinds := [.listed, .data], laidTests := true, laidLooks := .later }
def StateSameUptoCardSaid : Prop := Claim7.holds Tryd.pinned (.plain (OpenSpec.upto stateSameSpec)) stateSameUptoCard
end Rows
end Go.Proofs.YtjbeembbnkmpeaaDoor
