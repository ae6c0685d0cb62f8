/-
  DERIVED. GIVEN WITH THE SEED: THE CARDS: each row of YtjkoafjnmkchdaaGreatDoorRows.lean that lists a variable, with what it lists TIED to the program's text (the seventh form; the later family's looks); each row that meets fmt, with fmt's text TOLD by the authors' own Lean function (tested against real Go, not proved from fmt's source: count such statements apart). THE CARD IS WHAT COUNTS. Prove the row's statement (the work); the ties are given (YtjkoafjnmkchdaaGreatDoorTie.lean); close each card by the builder's one call (the guide's Derived/Test/ToyasCard.lean, 'card_holds'). Laid BY PROGRAM, IN A SANDBOX (cutbox-door.mjs). By AI agents, Wed Nov 11 2026. No macro, syntax, notation, axiom, sorry.
-/
import Derived.Test.YtjkoafjnmkchdaaGreatDoorRows
import GoSem.ClaimSeven
namespace Go.Proofs.YtjkoafjnmkchdaaGreatDoor
namespace Rows

/-- THE TIED CARD OF 'foliantlaw13.ZlibUnwraps'. -/
def zlibUnwrapsCard : Claim7 := { stood := { row := zlibUnwrapsRow, standIns := [], harness := (true, "72c13979f1431f1ee76f2a43fe8f91b72ce7f2e7a13b763e0bc8131dda7fcc23"), looks := true }, kinds := [], alts := [], laidByText := true, laidKinds := [.widerDeep, .mapped], laidTests := true, laidLooks := .later }
def ZlibUnwrapsCardSaid : Prop := Claim7.holds Tryz.pinned (.plain (OpenSpec.ofChange zlibUnwrapsSpec)) zlibUnwrapsCard

/-- THE TIED CARD OF 'folianttop.TopSums'. -/
def topSumsCard : Claim7 := { stood := { row := topSumsRow, standIns := [], harness := (true, "72c13979f1431f1ee76f2a43fe8f91b72ce7f2e7a13b763e0bc8131dda7fcc23"), looks := true }, kinds := [], alts := [], laidByText := true, laidKinds := [.widerDeep, .mapped], laidTests := true, laidLooks := .later }
def TopSumsCardSaid : Prop := Claim7.holds Tryz.pinned (.plain (OpenSpec.ofChange topSumsSpec)) topSumsCard

/-- THE SECOND FORM's CARD OF 'foliantlaw13.ZlibUnwraps'. -/
def zlibUnwrapsUptoCard : Claim7 := { stood := { row := zlibUnwrapsUptoRow, standIns := [], harness := (true, "72c13979f1431f1ee76f2a43fe8f91b72ce7f2e7a13b763e0bc8131dda7fcc23"), looks := true }, kinds := [], alts := [], laidByText := true, laidKinds := [.widerDeep, .mapped], laidTests := true, laidLooks := .later }
def ZlibUnwrapsUptoCardSaid : Prop := Claim7.holds Tryz.pinned (.plain (OpenSpec.upto zlibUnwrapsSpec)) zlibUnwrapsUptoCard

/-- THE SECOND FORM's CARD OF 'folianttop.TopSums'. -/
def topSumsUptoCard : Claim7 := { stood := { row := topSumsUptoRow, standIns := [], harness := (true, "72c13979f1431f1ee76f2a43fe8f91b72ce7f2e7a13b763e0bc8131dda7fcc23"), looks := true }, kinds := [], alts := [], laidByText := true, laidKinds := [.widerDeep, .mapped], laidTests := true, laidLooks := .later }
def TopSumsUptoCardSaid : Prop := Claim7.holds Tryz.pinned (.plain (OpenSpec.upto topSumsSpec)) topSumsUptoCard
end Rows
end Go.Proofs.YtjkoafjnmkchdaaGreatDoor
