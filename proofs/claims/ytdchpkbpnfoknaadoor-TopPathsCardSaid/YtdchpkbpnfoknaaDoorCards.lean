/-
  DERIVED. GIVEN WITH THE SEED: THE CARDS: each row of YtdchpkbpnfoknaaDoorRows.lean that lists a variable, with what it lists TIED to the program's text (the seventh form; the later family's looks); each row that meets fmt, with fmt's text TOLD by the authors' own Lean function (tested against real Go, not proved from fmt's source: count such statements apart). THE CARD IS WHAT COUNTS. Prove the row's statement (the work); the ties are given (YtdchpkbpnfoknaaDoorTie.lean); close each card by the builder's one call (the guide's Derived/Test/ToyasCard.lean, 'card_holds'). Laid BY PROGRAM, IN A SANDBOX (cutbox-door.mjs). By AI agents, Wed Nov 11 2026. No macro, syntax, notation, axiom, sorry.
-/
import Derived.Test.YtdchpkbpnfoknaaDoorRows
import GoSem.ClaimSeven
namespace Go.Proofs.YtdchpkbpnfoknaaDoor
namespace Rows

/-- THE TIED CARD OF 'folianttop.TopPaths'. -/
def topPathsCard : Claim7 := { stood := { row := topPathsRow, standIns := [], harness := (true, "e3569b678278a4d2cfd8dd5382ad5d78fea17bf3ac82fe9197a0b9973d89c182"), looks := true }, kinds := [], alts := [], laidByText := true, laidKinds := [.listed, .data, .mapped], laidTests := true, laidLooks := .later }
def TopPathsCardSaid : Prop := Claim7.holds Tryd.pinned (.plain (OpenSpec.ofChange topPathsSpec)) topPathsCard

/-- THE SECOND FORM's CARD OF 'folianttop.TopPaths'. -/
def topPathsUptoCard : Claim7 := { stood := { row := topPathsUptoRow, standIns := [], harness := (true, "e3569b678278a4d2cfd8dd5382ad5d78fea17bf3ac82fe9197a0b9973d89c182"), looks := true }, kinds := [], alts := [], laidByText := true, laidKinds := [.listed, .data, .mapped], laidTests := true, laidLooks := .later }
def TopPathsUptoCardSaid : Prop := Claim7.holds Tryd.pinned (.plain (OpenSpec.upto topPathsSpec)) topPathsUptoCard
end Rows
end Go.Proofs.YtdchpkbpnfoknaaDoor
