/-
  NARROWER THAN 'FOR EVERY INPUT', by the rows' own cells (each row's printed sentence says how): InflateTells: laid · InflateStored: laid · InflateEnds: laid · InflateCovers: laid · InflateCopies: laid.
  DERIVED. THE GIVEN ROWS OF THIS SEAT. 5 by the template 'for every input the law returns true; each argument reads behind the call as it read before'; 0 by the template 'total and deterministic' (their statements: YtapgacggllbhiaaDoorTotals.lean).
  GIVEN WITH THE SEED: the statements are not yours to turn. If you find one false, say at which input.
  Laid BY PROGRAM, IN A SANDBOX (cutbox-rows.mjs): the forced cells as the released guide's own fill.sh prints them over the translation c2d7739b7960b96e… (all of the seat's roots in one cut). By AI agents, Wed Nov 11 2026. No macro, syntax, notation, axiom, sorry.
-/
import Derived.Test.YtapgacggllbhiaaDoorChecked
import GoSem.Claim
import GoSem.ClaimJoined
import GoSem.ClaimMapViews
import Derived.JoinedTies
import Derived.KernelRfl
namespace Go.Proofs.YtapgacggllbhiaaDoor
/- THE CELL 'sum', in the pinned program and in every row, IS THE sha256 OF THE DUMP (.gsa) THAT YtapgacggllbhiaaDoorProg.lean LOADS. Nothing in Lean hashes anything: it is a label: what it is worth is what the hold of that sum in a sandbox is worth. -/
noncomputable def Tryd.pinned : Pinned := { name := "ytapgacggllbhiaadoor", sum := "c2d7739b7960b96ed6715a61054e9afe98b036696230c1a853d5b92f5898e1c2", checked := Tryd.checked }
namespace Rows
def none {H : Type} : Left H := { results := [], args := [] }

/- WHAT THE LISTED PACKAGE-LEVEL VARIABLES READ AS WHEN THE CALL BEGINS. Each datum BY PROGRAM (the guide's laid-datum.mjs) off the statement by which the dump's own 'gosem.cut.vars' lays the variable. In a bare row this is a premise. The card (YtapgacggllbhiaaDoorCards.lean) ties it to the program's text. -/
def laid_foliant_inflate_order {H : Type} : DataW H := .agg [.lit (.int .i64 16), .lit (.int .i64 17), .lit (.int .i64 18), .lit (.int .i64 0), .lit (.int .i64 8), .lit (.int .i64 7), .lit (.int .i64 9), .lit (.int .i64 6), .lit (.int .i64 10), .lit (.int .i64 5), .lit (.int .i64 11), .lit (.int .i64 4), .lit (.int .i64 12), .lit (.int .i64 3), .lit (.int .i64 13), .lit (.int .i64 2), .lit (.int .i64 14), .lit (.int .i64 1), .lit (.int .i64 15)]
def laid_foliant_inflate_repeats {H : Type} : DataW H := .map [(.int .i64 16, .agg [.lit (.int .i64 3), .lit (.int .i64 2)]), (.int .i64 17, .agg [.lit (.int .i64 3), .lit (.int .i64 3)]), (.int .i64 18, .agg [.lit (.int .i64 11), .lit (.int .i64 7)])]

/-- 'foliantlaw11.InflateTells': WHATEVER THE INPUT: true; the input reads as it did. -/
def inflateTellsSpec : ChangeSpec := { name := "inflateTells", fn := fun _ => fun
  | [d1, d2, d3, d4] => { results := [.lit (.bool true)], args := [d1, d2, d3, d4] }
  | _ => none }
def inflateTellsRow : OpenClaim := { program := "ytapgacggllbhiaadoor", sum := "c2d7739b7960b96ed6715a61054e9afe98b036696230c1a853d5b92f5898e1c2", func := "foliant/foliantlaw11.InflateTells", spec := "inflateTells", unfollowed := true, recurses := true, named := ["foliant/inflate.order", "foliant/inflate.repeats"], apart := false, laid := [("foliant/inflate.order", laid_foliant_inflate_order), ("foliant/inflate.repeats", laid_foliant_inflate_repeats)] }
def InflateTellsSaid : Prop := inflateTellsRow.holds Tryd.pinned (OpenSpec.ofChange inflateTellsSpec)

/-- ITS FALSE NEIGHBOUR: 'it returns false'. Refute it at one input. -/
def inflateTellsWrong : ChangeSpec := { name := "inflateTells", fn := fun _ => fun
  | [d1, d2, d3, d4] => { results := [.lit (.bool false)], args := [d1, d2, d3, d4] }
  | _ => none }
def InflateTellsWrongFalsely : Prop := inflateTellsRow.holds Tryd.pinned (OpenSpec.ofChange inflateTellsWrong)

/-- 'foliantlaw11.InflateStored': WHATEVER THE INPUT: true; the input reads as it did. -/
def inflateStoredSpec : ChangeSpec := { name := "inflateStored", fn := fun _ => fun
  | [d] => { results := [.lit (.bool true)], args := [d] }
  | _ => none }
def inflateStoredRow : OpenClaim := { program := "ytapgacggllbhiaadoor", sum := "c2d7739b7960b96ed6715a61054e9afe98b036696230c1a853d5b92f5898e1c2", func := "foliant/foliantlaw11.InflateStored", spec := "inflateStored", unfollowed := true, recurses := true, named := ["foliant/inflate.order", "foliant/inflate.repeats"], apart := false, laid := [("foliant/inflate.order", laid_foliant_inflate_order), ("foliant/inflate.repeats", laid_foliant_inflate_repeats)] }
def InflateStoredSaid : Prop := inflateStoredRow.holds Tryd.pinned (OpenSpec.ofChange inflateStoredSpec)

/-- ITS FALSE NEIGHBOUR: 'it returns false'. Refute it at one input. -/
def inflateStoredWrong : ChangeSpec := { name := "inflateStored", fn := fun _ => fun
  | [d] => { results := [.lit (.bool false)], args := [d] }
  | _ => none }
def InflateStoredWrongFalsely : Prop := inflateStoredRow.holds Tryd.pinned (OpenSpec.ofChange inflateStoredWrong)

/-- 'foliantlaw11.InflateEnds': WHATEVER THE INPUT: true; the input reads as it did. -/
def inflateEndsSpec : ChangeSpec := { name := "inflateEnds", fn := fun _ => fun
  | [d1, d2, d3, d4] => { results := [.lit (.bool true)], args := [d1, d2, d3, d4] }
  | _ => none }
def inflateEndsRow : OpenClaim := { program := "ytapgacggllbhiaadoor", sum := "c2d7739b7960b96ed6715a61054e9afe98b036696230c1a853d5b92f5898e1c2", func := "foliant/foliantlaw11.InflateEnds", spec := "inflateEnds", unfollowed := true, recurses := true, named := ["foliant/inflate.order", "foliant/inflate.repeats"], apart := false, laid := [("foliant/inflate.order", laid_foliant_inflate_order), ("foliant/inflate.repeats", laid_foliant_inflate_repeats)] }
def InflateEndsSaid : Prop := inflateEndsRow.holds Tryd.pinned (OpenSpec.ofChange inflateEndsSpec)

/-- ITS FALSE NEIGHBOUR: 'it returns false'. Refute it at one input. -/
def inflateEndsWrong : ChangeSpec := { name := "inflateEnds", fn := fun _ => fun
  | [d1, d2, d3, d4] => { results := [.lit (.bool false)], args := [d1, d2, d3, d4] }
  | _ => none }
def InflateEndsWrongFalsely : Prop := inflateEndsRow.holds Tryd.pinned (OpenSpec.ofChange inflateEndsWrong)

/-- 'foliantlaw11.InflateCovers': WHATEVER THE INPUT: true; the input reads as it did. -/
def inflateCoversSpec : ChangeSpec := { name := "inflateCovers", fn := fun _ => fun
  | [] => { results := [.lit (.bool true)], args := [] }
  | _ => none }
def inflateCoversRow : OpenClaim := { program := "ytapgacggllbhiaadoor", sum := "c2d7739b7960b96ed6715a61054e9afe98b036696230c1a853d5b92f5898e1c2", func := "foliant/foliantlaw11.InflateCovers", spec := "inflateCovers", unfollowed := true, recurses := true, named := ["foliant/inflate.order", "foliant/inflate.repeats"], apart := false, laid := [("foliant/inflate.order", laid_foliant_inflate_order), ("foliant/inflate.repeats", laid_foliant_inflate_repeats)] }
def InflateCoversSaid : Prop := inflateCoversRow.holds Tryd.pinned (OpenSpec.ofChange inflateCoversSpec)

/-- ITS FALSE NEIGHBOUR: 'it returns false'. Refute it at one input. -/
def inflateCoversWrong : ChangeSpec := { name := "inflateCovers", fn := fun _ => fun
  | [] => { results := [.lit (.bool false)], args := [] }
  | _ => none }
def InflateCoversWrongFalsely : Prop := inflateCoversRow.holds Tryd.pinned (OpenSpec.ofChange inflateCoversWrong)

/-- 'foliantlaw11.InflateCopies': WHATEVER THE INPUT: true; the input reads as it did. -/
def inflateCopiesSpec : ChangeSpec := { name := "inflateCopies", fn := fun _ => fun
  | [d1, d2] => { results := [.lit (.bool true)], args := [d1, d2] }
  | _ => none }
def inflateCopiesRow : OpenClaim := { program := "ytapgacggllbhiaadoor", sum := "c2d7739b7960b96ed6715a61054e9afe98b036696230c1a853d5b92f5898e1c2", func := "foliant/foliantlaw11.InflateCopies", spec := "inflateCopies", unfollowed := true, recurses := true, named := ["foliant/inflate.order", "foliant/inflate.repeats"], apart := false, laid := [("foliant/inflate.order", laid_foliant_inflate_order), ("foliant/inflate.repeats", laid_foliant_inflate_repeats)] }
def InflateCopiesSaid : Prop := inflateCopiesRow.holds Tryd.pinned (OpenSpec.ofChange inflateCopiesSpec)

/-- ITS FALSE NEIGHBOUR: 'it returns false'. Refute it at one input. -/
def inflateCopiesWrong : ChangeSpec := { name := "inflateCopies", fn := fun _ => fun
  | [d1, d2] => { results := [.lit (.bool false)], args := [d1, d2] }
  | _ => none }
def InflateCopiesWrongFalsely : Prop := inflateCopiesRow.holds Tryd.pinned (OpenSpec.ofChange inflateCopiesWrong)

/- THE SECOND FORM. 'bulk': how many values and letters a reading holds, each counted each time it is reached (what is shared counts as often as it is met; a slice's spare places count too). A statement '..UptoSaid' is the law's where the arguments, and the package variables that the reading takes, are together of bulk at most 1048576: NARROWER than '..Said'. Prove '..Said' where nothing that the law and all that it calls make is longer than what came in: it says more and counts as full. Else prove '..UptoSaid'. A law counts once. -/
mutual
def uptoBulk {H : Type} : DataW H → Nat
  | .lit (.string bytes) => bytes.length + 1
  | .lit _ => 1
  | .nil => 1
  | .ptr d => uptoBulk d + 1
  | .slice elems spare => uptoBulkAll elems + uptoBulkAll spare + 1
  | .agg parts => uptoBulkAll parts + 1
  | .iface _ d => uptoBulk d + 1
  | .map entries => uptoBulkEntries entries + 1
  | .held _ => 1
def uptoBulkAll {H : Type} : List (DataW H) → Nat
  | [] => 0
  | d :: r => uptoBulk d + uptoBulkAll r
def uptoBulkEntries {H : Type} : List (Lit × DataW H) → Nat
  | [] => 0
  | x :: r => uptoBulkEntry x + uptoBulkEntries r
def uptoBulkEntry {H : Type} : Lit × DataW H → Nat
  | (.string bytes, d) => bytes.length + uptoBulk d + 1
  | (_, d) => uptoBulk d + 1
 end
def uptoSmall : (H : Type) → List (DataW H) → Bool := fun _ ds => decide (uptoBulkAll ds ≤ 1048576)
def OpenSpec.upto (s : _root_.Go.ChangeSpec) : _root_.Go.OpenSpec := { _root_.Go.OpenSpec.ofChange s with cond := some uptoSmall }

/-- 'foliantlaw11.InflateTells', WHERE WHAT IT READS IS OF BULK AT MOST 1048576: true; the input reads as it did. -/
def inflateTellsUptoRow : OpenClaim := { program := "ytapgacggllbhiaadoor", sum := "c2d7739b7960b96ed6715a61054e9afe98b036696230c1a853d5b92f5898e1c2", func := "foliant/foliantlaw11.InflateTells", spec := "inflateTells", unfollowed := true, recurses := true, named := ["foliant/inflate.order", "foliant/inflate.repeats"], apart := false, laid := [("foliant/inflate.order", laid_foliant_inflate_order), ("foliant/inflate.repeats", laid_foliant_inflate_repeats)], narrowed := true }
def InflateTellsUptoSaid : Prop := inflateTellsUptoRow.holds Tryd.pinned (OpenSpec.upto inflateTellsSpec)

/-- 'foliantlaw11.InflateStored', WHERE WHAT IT READS IS OF BULK AT MOST 1048576: true; the input reads as it did. -/
def inflateStoredUptoRow : OpenClaim := { program := "ytapgacggllbhiaadoor", sum := "c2d7739b7960b96ed6715a61054e9afe98b036696230c1a853d5b92f5898e1c2", func := "foliant/foliantlaw11.InflateStored", spec := "inflateStored", unfollowed := true, recurses := true, named := ["foliant/inflate.order", "foliant/inflate.repeats"], apart := false, laid := [("foliant/inflate.order", laid_foliant_inflate_order), ("foliant/inflate.repeats", laid_foliant_inflate_repeats)], narrowed := true }
def InflateStoredUptoSaid : Prop := inflateStoredUptoRow.holds Tryd.pinned (OpenSpec.upto inflateStoredSpec)

/-- 'foliantlaw11.InflateEnds', WHERE WHAT IT READS IS OF BULK AT MOST 1048576: true; the input reads as it did. -/
def inflateEndsUptoRow : OpenClaim := { program := "ytapgacggllbhiaadoor", sum := "c2d7739b7960b96ed6715a61054e9afe98b036696230c1a853d5b92f5898e1c2", func := "foliant/foliantlaw11.InflateEnds", spec := "inflateEnds", unfollowed := true, recurses := true, named := ["foliant/inflate.order", "foliant/inflate.repeats"], apart := false, laid := [("foliant/inflate.order", laid_foliant_inflate_order), ("foliant/inflate.repeats", laid_foliant_inflate_repeats)], narrowed := true }
def InflateEndsUptoSaid : Prop := inflateEndsUptoRow.holds Tryd.pinned (OpenSpec.upto inflateEndsSpec)

/-- 'foliantlaw11.InflateCovers', WHERE WHAT IT READS IS OF BULK AT MOST 1048576: true; the input reads as it did. -/
def inflateCoversUptoRow : OpenClaim := { program := "ytapgacggllbhiaadoor", sum := "c2d7739b7960b96ed6715a61054e9afe98b036696230c1a853d5b92f5898e1c2", func := "foliant/foliantlaw11.InflateCovers", spec := "inflateCovers", unfollowed := true, recurses := true, named := ["foliant/inflate.order", "foliant/inflate.repeats"], apart := false, laid := [("foliant/inflate.order", laid_foliant_inflate_order), ("foliant/inflate.repeats", laid_foliant_inflate_repeats)], narrowed := true }
def InflateCoversUptoSaid : Prop := inflateCoversUptoRow.holds Tryd.pinned (OpenSpec.upto inflateCoversSpec)

/-- 'foliantlaw11.InflateCopies', WHERE WHAT IT READS IS OF BULK AT MOST 1048576: true; the input reads as it did. -/
def inflateCopiesUptoRow : OpenClaim := { program := "ytapgacggllbhiaadoor", sum := "c2d7739b7960b96ed6715a61054e9afe98b036696230c1a853d5b92f5898e1c2", func := "foliant/foliantlaw11.InflateCopies", spec := "inflateCopies", unfollowed := true, recurses := true, named := ["foliant/inflate.order", "foliant/inflate.repeats"], apart := false, laid := [("foliant/inflate.order", laid_foliant_inflate_order), ("foliant/inflate.repeats", laid_foliant_inflate_repeats)], narrowed := true }
def InflateCopiesUptoSaid : Prop := inflateCopiesUptoRow.holds Tryd.pinned (OpenSpec.upto inflateCopiesSpec)

end Rows
end Go.Proofs.YtapgacggllbhiaaDoor
