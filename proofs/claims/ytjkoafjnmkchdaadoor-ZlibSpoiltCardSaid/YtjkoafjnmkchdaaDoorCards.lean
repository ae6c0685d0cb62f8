/-
  DERIVED. GIVEN WITH THE SEED: THE CARDS: each row of YtjkoafjnmkchdaaDoorRows.lean that lists a variable, with what it lists TIED to the program's text (the seventh form; the later family's looks); each row that meets fmt, with fmt's text TOLD by the authors' own Lean function (tested against real Go, not proved from fmt's source: count such statements apart). THE CARD IS WHAT COUNTS. Prove the row's statement (the work); the ties are given (YtjkoafjnmkchdaaDoorTie.lean); close each card by the builder's one call (the guide's Derived/Test/ToyasCard.lean, 'card_holds'). Laid BY PROGRAM, IN A SANDBOX (cutbox-door.mjs). By AI agents, Wed Nov 11 2026. No macro, syntax, notation, axiom, sorry.
-/
import Derived.Test.YtjkoafjnmkchdaaDoorRows
import GoSem.ClaimSeven
namespace Go.Proofs.YtjkoafjnmkchdaaDoor
namespace Rows

/-- THE TIED CARD OF 'foliantlaw13.ZlibSums'. -/
def zlibSumsCard : Claim7 := { stood := { row := zlibSumsRow, standIns := [], harness := (true, "891ac2c0b4f929e176aa4c319113aec33d634465356951c3ba4231e1a175a6f4"), looks := true }, kinds := [], alts := [], laidByText := true, laidKinds := [.widerDeep, .mapped], laidTests := true, laidLooks := .later }
def ZlibSumsCardSaid : Prop := Claim7.holds Tryd.pinned (.plain (OpenSpec.ofChange zlibSumsSpec)) zlibSumsCard

/-- THE TIED CARD OF 'foliantlaw13.ZlibBack'. -/
def zlibBackCard : Claim7 := { stood := { row := zlibBackRow, standIns := [], harness := (true, "891ac2c0b4f929e176aa4c319113aec33d634465356951c3ba4231e1a175a6f4"), looks := true }, kinds := [], alts := [], laidByText := true, laidKinds := [.widerDeep, .mapped], laidTests := true, laidLooks := .later }
def ZlibBackCardSaid : Prop := Claim7.holds Tryd.pinned (.plain (OpenSpec.ofChange zlibBackSpec)) zlibBackCard

/-- THE TIED CARD OF 'foliantlaw13.ZlibSpoilt'. -/
def zlibSpoiltCard : Claim7 := { stood := { row := zlibSpoiltRow, standIns := [], harness := (true, "891ac2c0b4f929e176aa4c319113aec33d634465356951c3ba4231e1a175a6f4"), looks := true }, kinds := [], alts := [], laidByText := true, laidKinds := [.widerDeep, .mapped], laidTests := true, laidLooks := .later }
def ZlibSpoiltCardSaid : Prop := Claim7.holds Tryd.pinned (.plain (OpenSpec.ofChange zlibSpoiltSpec)) zlibSpoiltCard

/-- THE TIED CARD OF 'folianttop.TopFlate'. -/
def topFlateCard : Claim7 := { stood := { row := topFlateRow, standIns := [], harness := (true, "891ac2c0b4f929e176aa4c319113aec33d634465356951c3ba4231e1a175a6f4"), looks := true }, kinds := [], alts := [], laidByText := true, laidKinds := [.widerDeep, .mapped], laidTests := true, laidLooks := .later }
def TopFlateCardSaid : Prop := Claim7.holds Tryd.pinned (.plain (OpenSpec.ofChange topFlateSpec)) topFlateCard

/-- THE TIED CARD OF 'folianttop.TopCopies'. -/
def topCopiesCard : Claim7 := { stood := { row := topCopiesRow, standIns := [], harness := (true, "891ac2c0b4f929e176aa4c319113aec33d634465356951c3ba4231e1a175a6f4"), looks := true }, kinds := [], alts := [], laidByText := true, laidKinds := [.widerDeep, .mapped], laidTests := true, laidLooks := .later }
def TopCopiesCardSaid : Prop := Claim7.holds Tryd.pinned (.plain (OpenSpec.ofChange topCopiesSpec)) topCopiesCard

/-- THE SECOND FORM's CARD OF 'foliantlaw13.ZlibSums'. -/
def zlibSumsUptoCard : Claim7 := { stood := { row := zlibSumsUptoRow, standIns := [], harness := (true, "891ac2c0b4f929e176aa4c319113aec33d634465356951c3ba4231e1a175a6f4"), looks := true }, kinds := [], alts := [], laidByText := true, laidKinds := [.widerDeep, .mapped], laidTests := true, laidLooks := .later }
def ZlibSumsUptoCardSaid : Prop := Claim7.holds Tryd.pinned (.plain (OpenSpec.upto zlibSumsSpec)) zlibSumsUptoCard

/-- THE SECOND FORM's CARD OF 'foliantlaw13.ZlibBack'. -/
def zlibBackUptoCard : Claim7 := { stood := { row := zlibBackUptoRow, standIns := [], harness := (true, "891ac2c0b4f929e176aa4c319113aec33d634465356951c3ba4231e1a175a6f4"), looks := true }, kinds := [], alts := [], laidByText := true, laidKinds := [.widerDeep, .mapped], laidTests := true, laidLooks := .later }
def ZlibBackUptoCardSaid : Prop := Claim7.holds Tryd.pinned (.plain (OpenSpec.upto zlibBackSpec)) zlibBackUptoCard

/-- THE SECOND FORM's CARD OF 'foliantlaw13.ZlibSpoilt'. -/
def zlibSpoiltUptoCard : Claim7 := { stood := { row := zlibSpoiltUptoRow, standIns := [], harness := (true, "891ac2c0b4f929e176aa4c319113aec33d634465356951c3ba4231e1a175a6f4"), looks := true }, kinds := [], alts := [], laidByText := true, laidKinds := [.widerDeep, .mapped], laidTests := true, laidLooks := .later }
def ZlibSpoiltUptoCardSaid : Prop := Claim7.holds Tryd.pinned (.plain (OpenSpec.upto zlibSpoiltSpec)) zlibSpoiltUptoCard

/-- THE SECOND FORM's CARD OF 'folianttop.TopFlate'. -/
def topFlateUptoCard : Claim7 := { stood := { row := topFlateUptoRow, standIns := [], harness := (true, "891ac2c0b4f929e176aa4c319113aec33d634465356951c3ba4231e1a175a6f4"), looks := true }, kinds := [], alts := [], laidByText := true, laidKinds := [.widerDeep, .mapped], laidTests := true, laidLooks := .later }
def TopFlateUptoCardSaid : Prop := Claim7.holds Tryd.pinned (.plain (OpenSpec.upto topFlateSpec)) topFlateUptoCard

/-- THE SECOND FORM's CARD OF 'folianttop.TopCopies'. -/
def topCopiesUptoCard : Claim7 := { stood := { row := topCopiesUptoRow, standIns := [], harness := (true, "891ac2c0b4f929e176aa4c319113aec33d634465356951c3ba4231e1a175a6f4"), looks := true }, kinds := [], alts := [], laidByText := true, laidKinds := [.widerDeep, .mapped], laidTests := true, laidLooks := .later }
def TopCopiesUptoCardSaid : Prop := Claim7.holds Tryd.pinned (.plain (OpenSpec.upto topCopiesSpec)) topCopiesUptoCard
end Rows
end Go.Proofs.YtjkoafjnmkchdaaDoor
