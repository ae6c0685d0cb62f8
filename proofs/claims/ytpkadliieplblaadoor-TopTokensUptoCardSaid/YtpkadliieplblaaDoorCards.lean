/-
  DERIVED. GIVEN WITH THE SEED: THE CARDS: each row of YtpkadliieplblaaDoorRows.lean that lists a variable, with what it lists TIED to the program's text (the seventh form; the later family's looks); each row that meets fmt, with fmt's text TOLD by the authors' own Lean function (tested against real Go, not proved from fmt's source: count such statements apart). THE CARD IS WHAT COUNTS. Prove the row's statement (the work); the ties are given (YtpkadliieplblaaDoorTie.lean); close each card by the builder's one call (the guide's Derived/Test/ToyasCard.lean, 'card_holds'). Laid BY PROGRAM, IN A SANDBOX (cutbox-door.mjs). By AI agents, Wed Nov 11 2026. No macro, syntax, notation, axiom, sorry.
-/
import Derived.Test.YtpkadliieplblaaDoorRows
import GoSem.ClaimSeven
namespace Go.Proofs.YtpkadliieplblaaDoor
namespace Rows

/-- THE TIED CARD OF 'folianttop.TopRemarks'. -/
def topRemarksCard : Claim7 := { stood := { row := topRemarksRow, standIns := [], harness := (true, "2ba001b5e077e2f7cdf5d8fabf61467c20054079a087e53f728ebc376e178437"), looks := true }, kinds := [], alts := [], laidByText := true, laidKinds := [.data, .pinned], laidTests := true, laidLooks := .later }
def TopRemarksCardSaid : Prop := Claim7.holds Tryd.pinned (.plain (OpenSpec.ofChange topRemarksSpec)) topRemarksCard

/-- THE TIED CARD OF 'folianttop.TopTokens'. -/
def topTokensCard : Claim7 := { stood := { row := topTokensRow, standIns := [], harness := (true, "2ba001b5e077e2f7cdf5d8fabf61467c20054079a087e53f728ebc376e178437"), looks := true }, kinds := [], alts := [], laidByText := true, laidKinds := [.data, .data, .data, .data, .pinned], laidTests := true, laidLooks := .later }
def TopTokensCardSaid : Prop := Claim7.holds Tryd.pinned (.plain (OpenSpec.ofChange topTokensSpec)) topTokensCard

/-- THE SECOND FORM's CARD OF 'folianttop.TopRemarks'. -/
def topRemarksUptoCard : Claim7 := { stood := { row := topRemarksUptoRow, standIns := [], harness := (true, "2ba001b5e077e2f7cdf5d8fabf61467c20054079a087e53f728ebc376e178437"), looks := true }, kinds := [], alts := [], laidByText := true, laidKinds := [.data, .pinned], laidTests := true, laidLooks := .later }
def TopRemarksUptoCardSaid : Prop := Claim7.holds Tryd.pinned (.plain (OpenSpec.upto topRemarksSpec)) topRemarksUptoCard

/-- THE SECOND FORM's CARD OF 'folianttop.TopTokens'. -/
def topTokensUptoCard : Claim7 := { stood := { row := topTokensUptoRow, standIns := [], harness := (true, "2ba001b5e077e2f7cdf5d8fabf61467c20054079a087e53f728ebc376e178437"), looks := true }, kinds := [], alts := [], laidByText := true, laidKinds := [.data, .data, .data, .data, .pinned], laidTests := true, laidLooks := .later }
def TopTokensUptoCardSaid : Prop := Claim7.holds Tryd.pinned (.plain (OpenSpec.upto topTokensSpec)) topTokensUptoCard
end Rows
end Go.Proofs.YtpkadliieplblaaDoor
