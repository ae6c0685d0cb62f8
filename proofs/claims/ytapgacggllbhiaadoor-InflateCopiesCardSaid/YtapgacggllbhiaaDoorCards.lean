/-
  DERIVED. GIVEN WITH THE SEED: THE CARDS: each row of YtapgacggllbhiaaDoorRows.lean that lists a variable, with what it lists TIED to the program's text (the seventh form; the later family's looks); each row that meets fmt, with fmt's text TOLD by the authors' own Lean function (tested against real Go, not proved from fmt's source: count such statements apart). THE CARD IS WHAT COUNTS. Prove the row's statement (the work); the ties are given (YtapgacggllbhiaaDoorTie.lean); close each card by the builder's one call (the guide's Derived/Test/ToyasCard.lean, 'card_holds'). Laid BY PROGRAM, IN A SANDBOX (cutbox-door.mjs). By AI agents, Wed Nov 11 2026. No macro, syntax, notation, axiom, sorry.
-/
import Derived.Test.YtapgacggllbhiaaDoorRows
import GoSem.ClaimSeven
namespace Go.Proofs.YtapgacggllbhiaaDoor
namespace Rows

/-- THE TIED CARD OF 'foliantlaw11.InflateTells'. -/
def inflateTellsCard : Claim7 := { stood := { row := inflateTellsRow, standIns := [], harness := (true, "3f9655c1a8dd7b7e7f5bd09218f042d522e69c82c32b74272c44eee94e187d9e"), looks := true }, kinds := [], alts := [], laidByText := true, laidKinds := [.widerDeep, .mapped], laidTests := true, laidLooks := .later }
def InflateTellsCardSaid : Prop := Claim7.holds Tryd.pinned (.plain (OpenSpec.ofChange inflateTellsSpec)) inflateTellsCard

/-- THE TIED CARD OF 'foliantlaw11.InflateStored'. -/
def inflateStoredCard : Claim7 := { stood := { row := inflateStoredRow, standIns := [], harness := (true, "3f9655c1a8dd7b7e7f5bd09218f042d522e69c82c32b74272c44eee94e187d9e"), looks := true }, kinds := [], alts := [], laidByText := true, laidKinds := [.widerDeep, .mapped], laidTests := true, laidLooks := .later }
def InflateStoredCardSaid : Prop := Claim7.holds Tryd.pinned (.plain (OpenSpec.ofChange inflateStoredSpec)) inflateStoredCard

/-- THE TIED CARD OF 'foliantlaw11.InflateEnds'. -/
def inflateEndsCard : Claim7 := { stood := { row := inflateEndsRow, standIns := [], harness := (true, "3f9655c1a8dd7b7e7f5bd09218f042d522e69c82c32b74272c44eee94e187d9e"), looks := true }, kinds := [], alts := [], laidByText := true, laidKinds := [.widerDeep, .mapped], laidTests := true, laidLooks := .later }
def InflateEndsCardSaid : Prop := Claim7.holds Tryd.pinned (.plain (OpenSpec.ofChange inflateEndsSpec)) inflateEndsCard

/-- THE TIED CARD OF 'foliantlaw11.InflateCovers'. -/
def inflateCoversCard : Claim7 := { stood := { row := inflateCoversRow, standIns := [], harness := (true, "3f9655c1a8dd7b7e7f5bd09218f042d522e69c82c32b74272c44eee94e187d9e"), looks := true }, kinds := [], alts := [], laidByText := true, laidKinds := [.widerDeep, .mapped], laidTests := true, laidLooks := .later }
def InflateCoversCardSaid : Prop := Claim7.holds Tryd.pinned (.plain (OpenSpec.ofChange inflateCoversSpec)) inflateCoversCard

/-- THE TIED CARD OF 'foliantlaw11.InflateCopies'. -/
def inflateCopiesCard : Claim7 := { stood := { row := inflateCopiesRow, standIns := [], harness := (true, "3f9655c1a8dd7b7e7f5bd09218f042d522e69c82c32b74272c44eee94e187d9e"), looks := true }, kinds := [], alts := [], laidByText := true, laidKinds := [.widerDeep, .mapped], laidTests := true, laidLooks := .later }
def InflateCopiesCardSaid : Prop := Claim7.holds Tryd.pinned (.plain (OpenSpec.ofChange inflateCopiesSpec)) inflateCopiesCard

/-- THE SECOND FORM's CARD OF 'foliantlaw11.InflateTells'. -/
def inflateTellsUptoCard : Claim7 := { stood := { row := inflateTellsUptoRow, standIns := [], harness := (true, "3f9655c1a8dd7b7e7f5bd09218f042d522e69c82c32b74272c44eee94e187d9e"), looks := true }, kinds := [], alts := [], laidByText := true, laidKinds := [.widerDeep, .mapped], laidTests := true, laidLooks := .later }
def InflateTellsUptoCardSaid : Prop := Claim7.holds Tryd.pinned (.plain (OpenSpec.upto inflateTellsSpec)) inflateTellsUptoCard

/-- THE SECOND FORM's CARD OF 'foliantlaw11.InflateStored'. -/
def inflateStoredUptoCard : Claim7 := { stood := { row := inflateStoredUptoRow, standIns := [], harness := (true, "3f9655c1a8dd7b7e7f5bd09218f042d522e69c82c32b74272c44eee94e187d9e"), looks := true }, kinds := [], alts := [], laidByText := true, laidKinds := [.widerDeep, .mapped], laidTests := true, laidLooks := .later }
def InflateStoredUptoCardSaid : Prop := Claim7.holds Tryd.pinned (.plain (OpenSpec.upto inflateStoredSpec)) inflateStoredUptoCard

/-- THE SECOND FORM's CARD OF 'foliantlaw11.InflateEnds'. -/
def inflateEndsUptoCard : Claim7 := { stood := { row := inflateEndsUptoRow, standIns := [], harness := (true, "3f9655c1a8dd7b7e7f5bd09218f042d522e69c82c32b74272c44eee94e187d9e"), looks := true }, kinds := [], alts := [], laidByText := true, laidKinds := [.widerDeep, .mapped], laidTests := true, laidLooks := .later }
def InflateEndsUptoCardSaid : Prop := Claim7.holds Tryd.pinned (.plain (OpenSpec.upto inflateEndsSpec)) inflateEndsUptoCard

/-- THE SECOND FORM's CARD OF 'foliantlaw11.InflateCovers'. -/
def inflateCoversUptoCard : Claim7 := { stood := { row := inflateCoversUptoRow, standIns := [], harness := (true, "3f9655c1a8dd7b7e7f5bd09218f042d522e69c82c32b74272c44eee94e187d9e"), looks := true }, kinds := [], alts := [], laidByText := true, laidKinds := [.widerDeep, .mapped], laidTests := true, laidLooks := .later }
def InflateCoversUptoCardSaid : Prop := Claim7.holds Tryd.pinned (.plain (OpenSpec.upto inflateCoversSpec)) inflateCoversUptoCard

/-- THE SECOND FORM's CARD OF 'foliantlaw11.InflateCopies'. -/
def inflateCopiesUptoCard : Claim7 := { stood := { row := inflateCopiesUptoRow, standIns := [], harness := (true, "3f9655c1a8dd7b7e7f5bd09218f042d522e69c82c32b74272c44eee94e187d9e"), looks := true }, kinds := [], alts := [], laidByText := true, laidKinds := [.widerDeep, .mapped], laidTests := true, laidLooks := .later }
def InflateCopiesUptoCardSaid : Prop := Claim7.holds Tryd.pinned (.plain (OpenSpec.upto inflateCopiesSpec)) inflateCopiesUptoCard
end Rows
end Go.Proofs.YtapgacggllbhiaaDoor
