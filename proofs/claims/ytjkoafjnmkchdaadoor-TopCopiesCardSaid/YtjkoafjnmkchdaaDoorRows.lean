/-
  NARROWER THAN 'FOR EVERY INPUT', by the rows' own cells (each row's printed sentence says how): ZlibSums: laid · ZlibBack: laid · ZlibSpoilt: laid · TopFlate: laid · TopCopies: laid.
  DERIVED. THE GIVEN ROWS OF THIS SEAT. 5 by the template 'for every input the law returns true; each argument reads behind the call as it read before'; 0 by the template 'total and deterministic' (their statements: YtjkoafjnmkchdaaDoorTotals.lean).
  GIVEN WITH THE SEED: the statements are not yours to turn. If you find one false, say at which input.
  Laid BY PROGRAM, IN A SANDBOX (cutbox-rows.mjs): the forced cells as the released guide's own fill.sh prints them over the translation d4b287aa8d9b9f9a… (all of the seat's roots in one cut). By AI agents, Wed Nov 11 2026. No macro, syntax, notation, axiom, sorry.
-/
import Derived.Test.YtjkoafjnmkchdaaDoorChecked
import GoSem.Claim
import GoSem.ClaimJoined
import GoSem.ClaimMapViews
import Derived.JoinedTies
import Derived.KernelRfl
namespace Go.Proofs.YtjkoafjnmkchdaaDoor
/- THE CELL 'sum', in the pinned program and in every row, IS THE sha256 OF THE DUMP (.gsa) THAT YtjkoafjnmkchdaaDoorProg.lean LOADS. Nothing in Lean hashes anything: it is a label: what it is worth is what the hold of that sum in a sandbox is worth. -/
noncomputable def Tryd.pinned : Pinned := { name := "ytjkoafjnmkchdaadoor", sum := "d4b287aa8d9b9f9a8d520fdc845afcf17b0181018fdc128cc978fc128153e20d", checked := Tryd.checked }
namespace Rows
def none {H : Type} : Left H := { results := [], args := [] }

/- WHAT THE LISTED PACKAGE-LEVEL VARIABLES READ AS WHEN THE CALL BEGINS. Each datum BY PROGRAM (the guide's laid-datum.mjs) off the statement by which the dump's own 'gosem.cut.vars' lays the variable. In a bare row this is a premise. The card (YtjkoafjnmkchdaaDoorCards.lean) ties it to the program's text. -/
def laid_foliant_inflate_order {H : Type} : DataW H := .agg [.lit (.int .i64 16), .lit (.int .i64 17), .lit (.int .i64 18), .lit (.int .i64 0), .lit (.int .i64 8), .lit (.int .i64 7), .lit (.int .i64 9), .lit (.int .i64 6), .lit (.int .i64 10), .lit (.int .i64 5), .lit (.int .i64 11), .lit (.int .i64 4), .lit (.int .i64 12), .lit (.int .i64 3), .lit (.int .i64 13), .lit (.int .i64 2), .lit (.int .i64 14), .lit (.int .i64 1), .lit (.int .i64 15)]
def laid_foliant_inflate_repeats {H : Type} : DataW H := .map [(.int .i64 16, .agg [.lit (.int .i64 3), .lit (.int .i64 2)]), (.int .i64 17, .agg [.lit (.int .i64 3), .lit (.int .i64 3)]), (.int .i64 18, .agg [.lit (.int .i64 11), .lit (.int .i64 7)])]

/-- 'foliantlaw13.ZlibSums': WHATEVER THE INPUT: true; the input reads as it did. -/
def zlibSumsSpec : ChangeSpec := { name := "zlibSums", fn := fun _ => fun
  | [d1, d2, d3] => { results := [.lit (.bool true)], args := [d1, d2, d3] }
  | _ => none }
def zlibSumsRow : OpenClaim := { program := "ytjkoafjnmkchdaadoor", sum := "d4b287aa8d9b9f9a8d520fdc845afcf17b0181018fdc128cc978fc128153e20d", func := "foliant/foliantlaw13.ZlibSums", spec := "zlibSums", unfollowed := true, recurses := true, named := ["foliant/inflate.order", "foliant/inflate.repeats"], apart := false, laid := [("foliant/inflate.order", laid_foliant_inflate_order), ("foliant/inflate.repeats", laid_foliant_inflate_repeats)] }
def ZlibSumsSaid : Prop := zlibSumsRow.holds Tryd.pinned (OpenSpec.ofChange zlibSumsSpec)

/-- ITS FALSE NEIGHBOUR: 'it returns false'. Refute it at one input. -/
def zlibSumsWrong : ChangeSpec := { name := "zlibSums", fn := fun _ => fun
  | [d1, d2, d3] => { results := [.lit (.bool false)], args := [d1, d2, d3] }
  | _ => none }
def ZlibSumsWrongFalsely : Prop := zlibSumsRow.holds Tryd.pinned (OpenSpec.ofChange zlibSumsWrong)

/-- 'foliantlaw13.ZlibBack': WHATEVER THE INPUT: true; the input reads as it did. -/
def zlibBackSpec : ChangeSpec := { name := "zlibBack", fn := fun _ => fun
  | [d1, d2, d3] => { results := [.lit (.bool true)], args := [d1, d2, d3] }
  | _ => none }
def zlibBackRow : OpenClaim := { program := "ytjkoafjnmkchdaadoor", sum := "d4b287aa8d9b9f9a8d520fdc845afcf17b0181018fdc128cc978fc128153e20d", func := "foliant/foliantlaw13.ZlibBack", spec := "zlibBack", unfollowed := true, recurses := true, named := ["foliant/inflate.order", "foliant/inflate.repeats"], apart := false, laid := [("foliant/inflate.order", laid_foliant_inflate_order), ("foliant/inflate.repeats", laid_foliant_inflate_repeats)] }
def ZlibBackSaid : Prop := zlibBackRow.holds Tryd.pinned (OpenSpec.ofChange zlibBackSpec)

/-- ITS FALSE NEIGHBOUR: 'it returns false'. Refute it at one input. -/
def zlibBackWrong : ChangeSpec := { name := "zlibBack", fn := fun _ => fun
  | [d1, d2, d3] => { results := [.lit (.bool false)], args := [d1, d2, d3] }
  | _ => none }
def ZlibBackWrongFalsely : Prop := zlibBackRow.holds Tryd.pinned (OpenSpec.ofChange zlibBackWrong)

/-- 'foliantlaw13.ZlibSpoilt': WHATEVER THE INPUT: true; the input reads as it did. -/
def zlibSpoiltSpec : ChangeSpec := { name := "zlibSpoilt", fn := fun _ => fun
  | [d1, d2, d3, d4] => { results := [.lit (.bool true)], args := [d1, d2, d3, d4] }
  | _ => none }
def zlibSpoiltRow : OpenClaim := { program := "ytjkoafjnmkchdaadoor", sum := "d4b287aa8d9b9f9a8d520fdc845afcf17b0181018fdc128cc978fc128153e20d", func := "foliant/foliantlaw13.ZlibSpoilt", spec := "zlibSpoilt", unfollowed := true, recurses := true, named := ["foliant/inflate.order", "foliant/inflate.repeats"], apart := false, laid := [("foliant/inflate.order", laid_foliant_inflate_order), ("foliant/inflate.repeats", laid_foliant_inflate_repeats)] }
def ZlibSpoiltSaid : Prop := zlibSpoiltRow.holds Tryd.pinned (OpenSpec.ofChange zlibSpoiltSpec)

/-- ITS FALSE NEIGHBOUR: 'it returns false'. Refute it at one input. -/
def zlibSpoiltWrong : ChangeSpec := { name := "zlibSpoilt", fn := fun _ => fun
  | [d1, d2, d3, d4] => { results := [.lit (.bool false)], args := [d1, d2, d3, d4] }
  | _ => none }
def ZlibSpoiltWrongFalsely : Prop := zlibSpoiltRow.holds Tryd.pinned (OpenSpec.ofChange zlibSpoiltWrong)

/-- 'folianttop.TopFlate': WHATEVER THE INPUT: true; the input reads as it did. -/
def topFlateSpec : ChangeSpec := { name := "topFlate", fn := fun _ => fun
  | [d1, d2, d3] => { results := [.lit (.bool true)], args := [d1, d2, d3] }
  | _ => none }
def topFlateRow : OpenClaim := { program := "ytjkoafjnmkchdaadoor", sum := "d4b287aa8d9b9f9a8d520fdc845afcf17b0181018fdc128cc978fc128153e20d", func := "foliant/folianttop.TopFlate", spec := "topFlate", unfollowed := true, recurses := true, named := ["foliant/inflate.order", "foliant/inflate.repeats"], apart := false, laid := [("foliant/inflate.order", laid_foliant_inflate_order), ("foliant/inflate.repeats", laid_foliant_inflate_repeats)] }
def TopFlateSaid : Prop := topFlateRow.holds Tryd.pinned (OpenSpec.ofChange topFlateSpec)

/-- ITS FALSE NEIGHBOUR: 'it returns false'. Refute it at one input. -/
def topFlateWrong : ChangeSpec := { name := "topFlate", fn := fun _ => fun
  | [d1, d2, d3] => { results := [.lit (.bool false)], args := [d1, d2, d3] }
  | _ => none }
def TopFlateWrongFalsely : Prop := topFlateRow.holds Tryd.pinned (OpenSpec.ofChange topFlateWrong)

/-- 'folianttop.TopCopies': WHATEVER THE INPUT: true; the input reads as it did. -/
def topCopiesSpec : ChangeSpec := { name := "topCopies", fn := fun _ => fun
  | [d] => { results := [.lit (.bool true)], args := [d] }
  | _ => none }
def topCopiesRow : OpenClaim := { program := "ytjkoafjnmkchdaadoor", sum := "d4b287aa8d9b9f9a8d520fdc845afcf17b0181018fdc128cc978fc128153e20d", func := "foliant/folianttop.TopCopies", spec := "topCopies", unfollowed := true, recurses := true, named := ["foliant/inflate.order", "foliant/inflate.repeats"], apart := false, laid := [("foliant/inflate.order", laid_foliant_inflate_order), ("foliant/inflate.repeats", laid_foliant_inflate_repeats)] }
def TopCopiesSaid : Prop := topCopiesRow.holds Tryd.pinned (OpenSpec.ofChange topCopiesSpec)

/-- ITS FALSE NEIGHBOUR: 'it returns false'. Refute it at one input. -/
def topCopiesWrong : ChangeSpec := { name := "topCopies", fn := fun _ => fun
  | [d] => { results := [.lit (.bool false)], args := [d] }
  | _ => none }
def TopCopiesWrongFalsely : Prop := topCopiesRow.holds Tryd.pinned (OpenSpec.ofChange topCopiesWrong)

/- THE SECOND FORM. 'bulk': how many values and letters a reading holds, each counted each time it is reached (what is shared counts as often as it is met; a slice's spare places count too). A statement '..UptoSaid' is the law's where the arguments, and the package variables that the reading takes, are together of bulk at most 1048576: NARROWER than '..Said'. Prove '..Said' where nothing that the law and all that it calls make is longer than what came in: it says more and counts as full. Else prove '..UptoSaid'. A law counts once. -/
mutual
def uptoBulk {H : Type} : DataW H → Nat
  | .lit (.string bytes) => bytes.length + 1
  | .lit _ => 1
  | .nil => 1
  | .ptr d => uptoBulk d + 1
  | .slice elems spare => uptoBulkAll elems + uptoBulkAll spare + 1
  | .agg parts => uptoBulkAll parts + 1
  | .iface _ d => uptoBulk d + 1
  | .map entries => uptoBulkEntries entries + 1
  | .held _ => 1
def uptoBulkAll {H : Type} : List (DataW H) → Nat
  | [] => 0
  | d :: r => uptoBulk d + uptoBulkAll r
def uptoBulkEntries {H : Type} : List (Lit × DataW H) → Nat
  | [] => 0
  | x :: r => uptoBulkEntry x + uptoBulkEntries r
def uptoBulkEntry {H : Type} : Lit × DataW H → Nat
  | (.string bytes, d) => bytes.length + uptoBulk d + 1
  | (_, d) => uptoBulk d + 1
 end
def uptoSmall : (H : Type) → List (DataW H) → Bool := fun _ ds => decide (uptoBulkAll ds ≤ 1048576)
def OpenSpec.upto (s : _root_.Go.ChangeSpec) : _root_.Go.OpenSpec := { _root_.Go.OpenSpec.ofChange s with cond := some uptoSmall }

/-- 'foliantlaw13.ZlibSums', WHERE WHAT IT READS IS OF BULK AT MOST 1048576: true; the input reads as it did. -/
def zlibSumsUptoRow : OpenClaim := { program := "ytjkoafjnmkchdaadoor", sum := "d4b287aa8d9b9f9a8d520fdc845afcf17b0181018fdc128cc978fc128153e20d", func := "foliant/foliantlaw13.ZlibSums", spec := "zlibSums", unfollowed := true, recurses := true, named := ["foliant/inflate.order", "foliant/inflate.repeats"], apart := false, laid := [("foliant/inflate.order", laid_foliant_inflate_order), ("foliant/inflate.repeats", laid_foliant_inflate_repeats)], narrowed := true }
def ZlibSumsUptoSaid : Prop := zlibSumsUptoRow.holds Tryd.pinned (OpenSpec.upto zlibSumsSpec)

/-- 'foliantlaw13.ZlibBack', WHERE WHAT IT READS IS OF BULK AT MOST 1048576: true; the input reads as it did. -/
def zlibBackUptoRow : OpenClaim := { program := "ytjkoafjnmkchdaadoor", sum := "d4b287aa8d9b9f9a8d520fdc845afcf17b0181018fdc128cc978fc128153e20d", func := "foliant/foliantlaw13.ZlibBack", spec := "zlibBack", unfollowed := true, recurses := true, named := ["foliant/inflate.order", "foliant/inflate.repeats"], apart := false, laid := [("foliant/inflate.order", laid_foliant_inflate_order), ("foliant/inflate.repeats", laid_foliant_inflate_repeats)], narrowed := true }
def ZlibBackUptoSaid : Prop := zlibBackUptoRow.holds Tryd.pinned (OpenSpec.upto zlibBackSpec)

/-- 'foliantlaw13.ZlibSpoilt', WHERE WHAT IT READS IS OF BULK AT MOST 1048576: true; the input reads as it did. -/
def zlibSpoiltUptoRow : OpenClaim := { program := "ytjkoafjnmkchdaadoor", sum := "d4b287aa8d9b9f9a8d520fdc845afcf17b0181018fdc128cc978fc128153e20d", func := "foliant/foliantlaw13.ZlibSpoilt", spec := "zlibSpoilt", unfollowed := true, recurses := true, named := ["foliant/inflate.order", "foliant/inflate.repeats"], apart := false, laid := [("foliant/inflate.order", laid_foliant_inflate_order), ("foliant/inflate.repeats", laid_foliant_inflate_repeats)], narrowed := true }
def ZlibSpoiltUptoSaid : Prop := zlibSpoiltUptoRow.holds Tryd.pinned (OpenSpec.upto zlibSpoiltSpec)

/-- 'folianttop.TopFlate', WHERE WHAT IT READS IS OF BULK AT MOST 1048576: true; the input reads as it did. -/
def topFlateUptoRow : OpenClaim := { program := "ytjkoafjnmkchdaadoor", sum := "d4b287aa8d9b9f9a8d520fdc845afcf17b0181018fdc128cc978fc128153e20d", func := "foliant/folianttop.TopFlate", spec := "topFlate", unfollowed := true, recurses := true, named := ["foliant/inflate.order", "foliant/inflate.repeats"], apart := false, laid := [("foliant/inflate.order", laid_foliant_inflate_order), ("foliant/inflate.repeats", laid_foliant_inflate_repeats)], narrowed := true }
def TopFlateUptoSaid : Prop := topFlateUptoRow.holds Tryd.pinned (OpenSpec.upto topFlateSpec)

/-- 'folianttop.TopCopies', WHERE WHAT IT READS IS OF BULK AT MOST 1048576: true; the input reads as it did. -/
def topCopiesUptoRow : OpenClaim := { program := "ytjkoafjnmkchdaadoor", sum := "d4b287aa8d9b9f9a8d520fdc845afcf17b0181018fdc128cc978fc128153e20d", func := "foliant/folianttop.TopCopies", spec := "topCopies", unfollowed := true, recurses := true, named := ["foliant/inflate.order", "foliant/inflate.repeats"], apart := false, laid := [("foliant/inflate.order", laid_foliant_inflate_order), ("foliant/inflate.repeats", laid_foliant_inflate_repeats)], narrowed := true }
def TopCopiesUptoSaid : Prop := topCopiesUptoRow.holds Tryd.pinned (OpenSpec.upto topCopiesSpec)

end Rows
end Go.Proofs.YtjkoafjnmkchdaaDoor
