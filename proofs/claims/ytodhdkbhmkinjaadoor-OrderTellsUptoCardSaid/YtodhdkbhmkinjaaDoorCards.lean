/-
  DERIVED. GIVEN WITH THE SEED: THE CARDS: each row of YtodhdkbhmkinjaaDoorRows.lean that lists a variable, with what it lists TIED to the program's text (the seventh form; the later family's looks); each row that meets fmt, with fmt's text TOLD by the authors' own Lean function (tested against real Go, not proved from fmt's source: count such statements apart). THE CARD IS WHAT COUNTS. Prove the row's statement (the work); the ties are given (YtodhdkbhmkinjaaDoorTie.lean); close each card by the builder's one call (the guide's Derived/Test/ToyasCard.lean, 'card_holds'). Laid BY PROGRAM, IN A SANDBOX (cutbox-door.mjs). By AI agents, Wed Nov 11 2026. No macro, syntax, notation, axiom, sorry.
-/
import Derived.Test.YtodhdkbhmkinjaaDoorRows
import GoSem.ClaimSeven
namespace Go.Proofs.YtodhdkbhmkinjaaDoor
namespace Rows

/-- THE TIED CARD OF 'foliantlaw50.OrderTells'. -/
def orderTellsCard : Claim7 := { stood := { row := orderTellsRow, standIns := [], harness := (true, "1c8e41ee742f9dff115252b8965df950d9685c45b0e64851b61c4236de9a0dd6"), looks := false }, kinds := [], alts := [], laidByText := true, laidKinds := [.data, .pinned], laidTests := true, laidLooks := .later }
def OrderTellsCardSaid : Prop := Claim7.holds Tryd.pinned (.plain (OpenSpec.ofChange orderTellsSpec)) orderTellsCard

/-- THE TIED CARD OF 'foliantlaw50.OrderLines'. -/
def orderLinesCard : Claim7 := { stood := { row := orderLinesRow, standIns := [], harness := (true, "1c8e41ee742f9dff115252b8965df950d9685c45b0e64851b61c4236de9a0dd6"), looks := false }, kinds := [], alts := [], laidByText := true, laidKinds := [.data, .pinned], laidTests := true, laidLooks := .later }
def OrderLinesCardSaid : Prop := Claim7.holds Tryd.pinned (.plain (OpenSpec.ofChange orderLinesSpec)) orderLinesCard

/-- THE TIED CARD OF 'foliantlaw50.OrderKeeps'. -/
def orderKeepsCard : Claim7 := { stood := { row := orderKeepsRow, standIns := [], harness := (true, "1c8e41ee742f9dff115252b8965df950d9685c45b0e64851b61c4236de9a0dd6"), looks := false }, kinds := [], alts := [], laidByText := true, laidKinds := [.data, .pinned], laidTests := true, laidLooks := .later }
def OrderKeepsCardSaid : Prop := Claim7.holds Tryd.pinned (.plain (OpenSpec.ofChange orderKeepsSpec)) orderKeepsCard

/-- THE TIED CARD OF 'foliantlaw50.OrderMoves'. -/
def orderMovesCard : Claim7 := { stood := { row := orderMovesRow, standIns := [], harness := (true, "1c8e41ee742f9dff115252b8965df950d9685c45b0e64851b61c4236de9a0dd6"), looks := false }, kinds := [], alts := [], laidByText := true, laidKinds := [.data, .pinned], laidTests := true, laidLooks := .later }
def OrderMovesCardSaid : Prop := Claim7.holds Tryd.pinned (.plain (OpenSpec.ofChange orderMovesSpec)) orderMovesCard

/-- THE TIED CARD OF 'foliantlaw50.OrderList'. -/
def orderListCard : Claim7 := { stood := { row := orderListRow, standIns := [], harness := (true, "1c8e41ee742f9dff115252b8965df950d9685c45b0e64851b61c4236de9a0dd6"), looks := false }, kinds := [], alts := [], laidByText := true, laidKinds := [.data, .pinned], laidTests := true, laidLooks := .later }
def OrderListCardSaid : Prop := Claim7.holds Tryd.pinned (.plain (OpenSpec.ofChange orderListSpec)) orderListCard

/-- THE SECOND FORM's CARD OF 'foliantlaw50.OrderTells'. -/
def orderTellsUptoCard : Claim7 := { stood := { row := orderTellsUptoRow, standIns := [], harness := (true, "1c8e41ee742f9dff115252b8965df950d9685c45b0e64851b61c4236de9a0dd6"), looks := false }, kinds := [], alts := [], laidByText := true, laidKinds := [.data, .pinned], laidTests := true, laidLooks := .later }
def OrderTellsUptoCardSaid : Prop := Claim7.holds Tryd.pinned (.plain (OpenSpec.upto orderTellsSpec)) orderTellsUptoCard

/-- THE SECOND FORM's CARD OF 'foliantlaw50.OrderLines'. -/
def orderLinesUptoCard : Claim7 := { stood := { row := orderLinesUptoRow, standIns := [], harness := (true, "1c8e41ee742f9dff115252b8965df950d9685c45b0e64851b61c4236de9a0dd6"), looks := false }, kinds := [], alts := [], laidByText := true, laidKinds := [.data, .pinned], laidTests := true, laidLooks := .later }
def OrderLinesUptoCardSaid : Prop := Claim7.holds Tryd.pinned (.plain (OpenSpec.upto orderLinesSpec)) orderLinesUptoCard

/-- THE SECOND FORM's CARD OF 'foliantlaw50.OrderKeeps'. -/
def orderKeepsUptoCard : Claim7 := { stood := { row := orderKeepsUptoRow, standIns := [], harness := (true, "1c8e41ee742f9dff115252b8965df950d9685c45b0e64851b61c4236de9a0dd6"), looks := false }, kinds := [], alts := [], laidByText := true, laidKinds := [.data, .pinned], laidTests := true, laidLooks := .later }
def OrderKeepsUptoCardSaid : Prop := Claim7.holds Tryd.pinned (.plain (OpenSpec.upto orderKeepsSpec)) orderKeepsUptoCard

/-- THE SECOND FORM's CARD OF 'foliantlaw50.OrderMoves'. -/
def orderMovesUptoCard : Claim7 := { stood := { row := orderMovesUptoRow, standIns := [], harness := (true, "1c8e41ee742f9dff115252b8965df950d9685c45b0e64851b61c4236de9a0dd6"), looks := false }, kinds := [], alts := [], laidByText := true, laidKinds := [.data, .pinned], laidTests := true, laidLooks := .later }
def OrderMovesUptoCardSaid : Prop := Claim7.holds Tryd.pinned (.plain (OpenSpec.upto orderMovesSpec)) orderMovesUptoCard

/-- THE SECOND FORM's CARD OF 'foliantlaw50.OrderList'. -/
def orderListUptoCard : Claim7 := { stood := { row := orderListUptoRow, standIns := [], harness := (true, "1c8e41ee742f9dff115252b8965df950d9685c45b0e64851b61c4236de9a0dd6"), looks := false }, kinds := [], alts := [], laidByText := true, laidKinds := [.data, .pinned], laidTests := true, laidLooks := .later }
def OrderListUptoCardSaid : Prop := Claim7.holds Tryd.pinned (.plain (OpenSpec.upto orderListSpec)) orderListUptoCard
end Rows
end Go.Proofs.YtodhdkbhmkinjaaDoor
