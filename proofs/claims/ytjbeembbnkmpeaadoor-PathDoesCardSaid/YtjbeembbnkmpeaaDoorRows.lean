/-
  NARROWER THAN 'FOR EVERY INPUT', by the rows' own cells (each row's printed sentence says how): TopComposed: laid · TopPaths: laid · PathDoes: loops, laid · PathClosed: loops, laid · PathStays: loops, laid · PathLed: loops, laid · StateDoes: loops, laid · StateBack: loops, laid · StateStays: loops, laid · StateSame: laid.
  DERIVED. THE GIVEN ROWS OF THIS SEAT. 10 by the template 'for every input the law returns true; each argument reads behind the call as it read before'; 0 by the template 'total and deterministic' (their statements: YtjbeembbnkmpeaaDoorTotals.lean).
  GIVEN WITH THE SEED: the statements are not yours to turn. If you find one false, say at which input.
  Laid BY PROGRAM, IN A SANDBOX (cutbox-rows.mjs): the forced cells as the released guide's own fill.sh prints them over the translation 4924bc03563b91af… (all of the seat's roots in one cut). By AI agents, Wed Nov 11 2026. No macro, syntax, notation, axiom, sorry.
-/
import Derived.Test.YtjbeembbnkmpeaaDoorChecked
import GoSem.PinnedTables
import GoSem.Claim
import GoSem.ClaimJoined
import GoSem.ClaimMapViews
import Derived.JoinedTies
import Derived.KernelRfl
namespace Go.Proofs.YtjbeembbnkmpeaaDoor
/- THE CELL 'sum', in the pinned program and in every row, IS THE sha256 OF THE DUMP (.gsa) THAT YtjbeembbnkmpeaaDoorProg.lean LOADS. Nothing in Lean hashes anything: it is a label: what it is worth is what the hold of that sum in a sandbox is worth. -/
noncomputable def Tryd.pinned : Pinned := { name := "ytjbeembbnkmpeaadoor", sum := "4924bc03563b91afd5bd3b389c2eafd394dbc400bc6669fe2dcb23a6f0ec1a07", checked := Tryd.checked }
namespace Rows
def none {H : Type} : Left H := { results := [], args := [] }

/- WHAT THE LISTED PACKAGE-LEVEL VARIABLES READ AS WHEN THE CALL BEGINS. Each datum BY PROGRAM (the guide's laid-datum.mjs) off the statement by which the dump's own 'gosem.cut.vars' lays the variable. In a bare row this is a premise. The card (YtjbeembbnkmpeaaDoorCards.lean) ties it to the program's text. -/
def laid_unicode_utf8_acceptRanges {H : Type} : DataW H := .agg [.agg [.lit (.int .u8 128), .lit (.int .u8 191)], .agg [.lit (.int .u8 160), .lit (.int .u8 191)], .agg [.lit (.int .u8 128), .lit (.int .u8 159)], .agg [.lit (.int .u8 144), .lit (.int .u8 191)], .agg [.lit (.int .u8 128), .lit (.int .u8 143)], .agg [.lit (.int .u8 0), .lit (.int .u8 0)], .agg [.lit (.int .u8 0), .lit (.int .u8 0)], .agg [.lit (.int .u8 0), .lit (.int .u8 0)], .agg [.lit (.int .u8 0), .lit (.int .u8 0)], .agg [.lit (.int .u8 0), .lit (.int .u8 0)], .agg [.lit (.int .u8 0), .lit (.int .u8 0)], .agg [.lit (.int .u8 0), .lit (.int .u8 0)], .agg [.lit (.int .u8 0), .lit (.int .u8 0)], .agg [.lit (.int .u8 0), .lit (.int .u8 0)], .agg [.lit (.int .u8 0), .lit (.int .u8 0)], .agg [.lit (.int .u8 0), .lit (.int .u8 0)]]
def laid_unicode_White_Space {H : Type} : DataW H := .ptr (.agg [.slice [.agg [.lit (.int .u16 9), .lit (.int .u16 13), .lit (.int .u16 1)], .agg [.lit (.int .u16 32), .lit (.int .u16 133), .lit (.int .u16 101)], .agg [.lit (.int .u16 160), .lit (.int .u16 5760), .lit (.int .u16 5600)], .agg [.lit (.int .u16 8192), .lit (.int .u16 8202), .lit (.int .u16 1)], .agg [.lit (.int .u16 8232), .lit (.int .u16 8233), .lit (.int .u16 1)], .agg [.lit (.int .u16 8239), .lit (.int .u16 8287), .lit (.int .u16 48)], .agg [.lit (.int .u16 12288), .lit (.int .u16 12288), .lit (.int .u16 1)]] [], .nil, .lit (.int .i64 2)])
def laid_strings_asciiSpace {H : Type} : DataW H := .agg [.lit (.int .u8 0), .lit (.int .u8 0), .lit (.int .u8 0), .lit (.int .u8 0), .lit (.int .u8 0), .lit (.int .u8 0), .lit (.int .u8 0), .lit (.int .u8 0), .lit (.int .u8 0), .lit (.int .u8 1), .lit (.int .u8 1), .lit (.int .u8 1), .lit (.int .u8 1), .lit (.int .u8 1), .lit (.int .u8 0), .lit (.int .u8 0), .lit (.int .u8 0), .lit (.int .u8 0), .lit (.int .u8 0), .lit (.int .u8 0), .lit (.int .u8 0), .lit (.int .u8 0), .lit (.int .u8 0), .lit (.int .u8 0), .lit (.int .u8 0), .lit (.int .u8 0), .lit (.int .u8 0), .lit (.int .u8 0), .lit (.int .u8 0), .lit (.int .u8 0), .lit (.int .u8 0), .lit (.int .u8 0), .lit (.int .u8 1), .lit (.int .u8 0), .lit (.int .u8 0), .lit (.int .u8 0), .lit (.int .u8 0), .lit (.int .u8 0), .lit (.int .u8 0), .lit (.int .u8 0), .lit (.int .u8 0), .lit (.int .u8 0), .lit (.int .u8 0), .lit (.int .u8 0), .lit (.int .u8 0), .lit (.int .u8 0), .lit (.int .u8 0), .lit (.int .u8 0), .lit (.int .u8 0), .lit (.int .u8 0), .lit (.int .u8 0), .lit (.int .u8 0), .lit (.int .u8 0), .lit (.int .u8 0), .lit (.int .u8 0), .lit (.int .u8 0), .lit (.int .u8 0), .lit (.int .u8 0), .lit (.int .u8 0), .lit (.int .u8 0), .lit (.int .u8 0), .lit (.int .u8 0), .lit (.int .u8 0), .lit (.int .u8 0), .lit (.int .u8 0), .lit (.int .u8 0), .lit (.int .u8 0), .lit (.int .u8 0), .lit (.int .u8 0), .lit (.int .u8 0), .lit (.int .u8 0), .lit (.int .u8 0), .lit (.int .u8 0), .lit (.int .u8 0), .lit (.int .u8 0), .lit (.int .u8 0), .lit (.int .u8 0), .lit (.int .u8 0), .lit (.int .u8 0), .lit (.int .u8 0), .lit (.int .u8 0), .lit (.int .u8 0), .lit (.int .u8 0), .lit (.int .u8 0), .lit (.int .u8 0), .lit (.int .u8 0), .lit (.int .u8 0), .lit (.int .u8 0), .lit (.int .u8 0), .lit (.int .u8 0), .lit (.int .u8 0), .lit (.int .u8 0), .lit (.int .u8 0), .lit (.int .u8 0), .lit (.int .u8 0), .lit (.int .u8 0), .lit (.int .u8 0), .lit (.int .u8 0), .lit (.int .u8 0), .lit (.int .u8 0), .lit (.int .u8 0), .lit (.int .u8 0), .lit (.int .u8 0), .lit (.int .u8 0), .lit (.int .u8 0), .lit (.int .u8 0), .lit (.int .u8 0), .lit (.int .u8 0), .lit (.int .u8 0), .lit (.int .u8 0), .lit (.int .u8 0), .lit (.int .u8 0), .lit (.int .u8 0), .lit (.int .u8 0), .lit (.int .u8 0), .lit (.int .u8 0), .lit (.int .u8 0), .lit (.int .u8 0), .lit (.int .u8 0), .lit (.int .u8 0), .lit (.int .u8 0), .lit (.int .u8 0), .lit (.int .u8 0), .lit (.int .u8 0), .lit (.int .u8 0), .lit (.int .u8 0), .lit (.int .u8 0), .lit (.int .u8 0), .lit (.int .u8 0), .lit (.int .u8 0), .lit (.int .u8 0), .lit (.int .u8 0), .lit (.int .u8 0), .lit (.int .u8 0), .lit (.int .u8 0), .lit (.int .u8 0), .lit (.int .u8 0), .lit (.int .u8 0), .lit (.int .u8 0), .lit (.int .u8 0), .lit (.int .u8 0), .lit (.int .u8 0), .lit (.int .u8 0), .lit (.int .u8 0), .lit (.int .u8 0), .lit (.int .u8 0), .lit (.int .u8 0), .lit (.int .u8 0), .lit (.int .u8 0), .lit (.int .u8 0), .lit (.int .u8 0), .lit (.int .u8 0), .lit (.int .u8 0), .lit (.int .u8 0), .lit (.int .u8 0), .lit (.int .u8 0), .lit (.int .u8 0), .lit (.int .u8 0), .lit (.int .u8 0), .lit (.int .u8 0), .lit (.int .u8 0), .lit (.int .u8 0), .lit (.int .u8 0), .lit (.int .u8 0), .lit (.int .u8 0), .lit (.int .u8 0), .lit (.int .u8 0), .lit (.int .u8 0), .lit (.int .u8 0), .lit (.int .u8 0), .lit (.int .u8 0), .lit (.int .u8 0), .lit (.int .u8 0), .lit (.int .u8 0), .lit (.int .u8 0), .lit (.int .u8 0), .lit (.int .u8 0), .lit (.int .u8 0), .lit (.int .u8 0), .lit (.int .u8 0), .lit (.int .u8 0), .lit (.int .u8 0), .lit (.int .u8 0), .lit (.int .u8 0), .lit (.int .u8 0), .lit (.int .u8 0), .lit (.int .u8 0), .lit (.int .u8 0), .lit (.int .u8 0), .lit (.int .u8 0), .lit (.int .u8 0), .lit (.int .u8 0), .lit (.int .u8 0), .lit (.int .u8 0), .lit (.int .u8 0), .lit (.int .u8 0), .lit (.int .u8 0), .lit (.int .u8 0), .lit (.int .u8 0), .lit (.int .u8 0), .lit (.int .u8 0), .lit (.int .u8 0), .lit (.int .u8 0), .lit (.int .u8 0), .lit (.int .u8 0), .lit (.int .u8 0), .lit (.int .u8 0), .lit (.int .u8 0), .lit (.int .u8 0), .lit (.int .u8 0), .lit (.int .u8 0), .lit (.int .u8 0), .lit (.int .u8 0), .lit (.int .u8 0), .lit (.int .u8 0), .lit (.int .u8 0), .lit (.int .u8 0), .lit (.int .u8 0), .lit (.int .u8 0), .lit (.int .u8 0), .lit (.int .u8 0), .lit (.int .u8 0), .lit (.int .u8 0), .lit (.int .u8 0), .lit (.int .u8 0), .lit (.int .u8 0), .lit (.int .u8 0), .lit (.int .u8 0), .lit (.int .u8 0), .lit (.int .u8 0), .lit (.int .u8 0), .lit (.int .u8 0), .lit (.int .u8 0), .lit (.int .u8 0), .lit (.int .u8 0), .lit (.int .u8 0), .lit (.int .u8 0), .lit (.int .u8 0), .lit (.int .u8 0), .lit (.int .u8 0), .lit (.int .u8 0), .lit (.int .u8 0), .lit (.int .u8 0), .lit (.int .u8 0), .lit (.int .u8 0), .lit (.int .u8 0), .lit (.int .u8 0), .lit (.int .u8 0), .lit (.int .u8 0), .lit (.int .u8 0), .lit (.int .u8 0), .lit (.int .u8 0), .lit (.int .u8 0), .lit (.int .u8 0), .lit (.int .u8 0), .lit (.int .u8 0)]
/-- One of Go's own tables, pinned by name: the form's constant. -/
def laid_unicode_utf8_first : DataW Unit := Go.Pinned.utf8First
def laid_foliant_path_paints {H : Type} : DataW H := .map [(.string [66], .agg [.lit (.int .i64 5), .lit (.bool false)]), (.string [66, 42], .agg [.lit (.int .i64 7), .lit (.bool false)]), (.string [70], .agg [.lit (.int .i64 1), .lit (.bool false)]), (.string [83], .agg [.lit (.int .i64 4), .lit (.bool false)]), (.string [98], .agg [.lit (.int .i64 5), .lit (.bool true)]), (.string [98, 42], .agg [.lit (.int .i64 7), .lit (.bool true)]), (.string [102], .agg [.lit (.int .i64 1), .lit (.bool false)]), (.string [102, 42], .agg [.lit (.int .i64 3), .lit (.bool false)]), (.string [110], .agg [.lit (.int .i64 0), .lit (.bool false)]), (.string [115], .agg [.lit (.int .i64 4), .lit (.bool true)])]

/-- 'folianttop.TopComposed': WHATEVER THE INPUT: true; the input reads as it did. -/
def topComposedSpec : ChangeSpec := { name := "topComposed", fn := fun _ => fun
  | [d1, d2, d3, d4, d5] => { results := [.lit (.bool true)], args := [d1, d2, d3, d4, d5] }
  | _ => none }
def topComposedRow : OpenClaim := { program := "ytjbeembbnkmpeaadoor", sum := "4924bc03563b91afd5bd3b389c2eafd394dbc400bc6669fe2dcb23a6f0ec1a07", func := "foliant/folianttop.TopComposed", spec := "topComposed", inPlace := ["internal/bytealg.IndexByteString"], unfollowed := true, recurses := true, named := ["unicode/utf8.first", "unicode/utf8.acceptRanges", "strings.asciiSpace", "unicode.White_Space"], apart := false, laid := [("unicode/utf8.acceptRanges", laid_unicode_utf8_acceptRanges), ("unicode.White_Space", laid_unicode_White_Space), ("strings.asciiSpace", laid_strings_asciiSpace), ("unicode/utf8.first", laid_unicode_utf8_first)] }
def TopComposedSaid : Prop := topComposedRow.holds Tryd.pinned (OpenSpec.ofChange topComposedSpec)

/-- ITS FALSE NEIGHBOUR: 'it returns false'. Refute it at one input. -/
def topComposedWrong : ChangeSpec := { name := "topComposed", fn := fun _ => fun
  | [d1, d2, d3, d4, d5] => { results := [.lit (.bool false)], args := [d1, d2, d3, d4, d5] }
  | _ => none }
def TopComposedWrongFalsely : Prop := topComposedRow.holds Tryd.pinned (OpenSpec.ofChange topComposedWrong)

/-- 'folianttop.TopPaths': WHATEVER THE INPUT: true; the input reads as it did. -/
def topPathsSpec : ChangeSpec := { name := "topPaths", fn := fun _ => fun
  | [d1, d2, d3, d4, d5, d6, d7] => { results := [.lit (.bool true)], args := [d1, d2, d3, d4, d5, d6, d7] }
  | _ => none }
def topPathsRow : OpenClaim := { program := "ytjbeembbnkmpeaadoor", sum := "4924bc03563b91afd5bd3b389c2eafd394dbc400bc6669fe2dcb23a6f0ec1a07", func := "foliant/folianttop.TopPaths", spec := "topPaths", inPlace := ["internal/bytealg.IndexByteString"], unfollowed := true, recurses := true, named := ["strings.asciiSpace", "unicode.White_Space", "foliant/path.paints"], apart := false, laid := [("unicode.White_Space", laid_unicode_White_Space), ("strings.asciiSpace", laid_strings_asciiSpace), ("foliant/path.paints", laid_foliant_path_paints)] }
def TopPathsSaid : Prop := topPathsRow.holds Tryd.pinned (OpenSpec.ofChange topPathsSpec)

/-- ITS FALSE NEIGHBOUR: 'it returns false'. Refute it at one input. -/
def topPathsWrong : ChangeSpec := { name := "topPaths", fn := fun _ => fun
  | [d1, d2, d3, d4, d5, d6, d7] => { results := [.lit (.bool false)], args := [d1, d2, d3, d4, d5, d6, d7] }
  | _ => none }
def TopPathsWrongFalsely : Prop := topPathsRow.holds Tryd.pinned (OpenSpec.ofChange topPathsWrong)

/-- 'foliantlaw45.PathDoes': WHATEVER THE INPUT: true; the input reads as it did. -/
def pathDoesSpec : ChangeSpec := { name := "pathDoes", fn := fun _ => fun
  | [d1, d2, d3] => { results := [.lit (.bool true)], args := [d1, d2, d3] }
  | _ => none }
def pathDoesRow : OpenClaim := { program := "ytjbeembbnkmpeaadoor", sum := "4924bc03563b91afd5bd3b389c2eafd394dbc400bc6669fe2dcb23a6f0ec1a07", func := "foliant/foliantlaw45.PathDoes", spec := "pathDoes", unfollowed := true, recurses := true, named := ["strings.asciiSpace", "unicode.White_Space", "foliant/path.paints"], loops := true, apart := false, laid := [("unicode.White_Space", laid_unicode_White_Space), ("strings.asciiSpace", laid_strings_asciiSpace), ("foliant/path.paints", laid_foliant_path_paints)] }
def PathDoesSaid : Prop := pathDoesRow.holds Tryd.pinned (OpenSpec.ofChange pathDoesSpec)

/-- ITS FALSE NEIGHBOUR: 'it returns false'. Refute it at one input. -/
def pathDoesWrong : ChangeSpec := { name := "pathDoes", fn := fun _ => fun
  | [d1, d2, d3] => { results := [.lit (.bool false)], args := [d1, d2, d3] }
  | _ => none }
def PathDoesWrongFalsely : Prop := pathDoesRow.holds Tryd.pinned (OpenSpec.ofChange pathDoesWrong)

/-- 'foliantlaw45.PathClosed': WHATEVER THE INPUT: true; the input reads as it did. -/
def pathClosedSpec : ChangeSpec := { name := "pathClosed", fn := fun _ => fun
  | [d1, d2, d3, d4, d5, d6, d7] => { results := [.lit (.bool true)], args := [d1, d2, d3, d4, d5, d6, d7] }
  | _ => none }
def pathClosedRow : OpenClaim := { program := "ytjbeembbnkmpeaadoor", sum := "4924bc03563b91afd5bd3b389c2eafd394dbc400bc6669fe2dcb23a6f0ec1a07", func := "foliant/foliantlaw45.PathClosed", spec := "pathClosed", unfollowed := true, recurses := true, named := ["strings.asciiSpace", "unicode.White_Space", "foliant/path.paints"], loops := true, apart := false, laid := [("unicode.White_Space", laid_unicode_White_Space), ("strings.asciiSpace", laid_strings_asciiSpace), ("foliant/path.paints", laid_foliant_path_paints)] }
def PathClosedSaid : Prop := pathClosedRow.holds Tryd.pinned (OpenSpec.ofChange pathClosedSpec)

/-- ITS FALSE NEIGHBOUR: 'it returns false'. Refute it at one input. -/
def pathClosedWrong : ChangeSpec := { name := "pathClosed", fn := fun _ => fun
  | [d1, d2, d3, d4, d5, d6, d7] => { results := [.lit (.bool false)], args := [d1, d2, d3, d4, d5, d6, d7] }
  | _ => none }
def PathClosedWrongFalsely : Prop := pathClosedRow.holds Tryd.pinned (OpenSpec.ofChange pathClosedWrong)

/-- 'foliantlaw45.PathStays': WHATEVER THE INPUT: true; the input reads as it did. -/
def pathStaysSpec : ChangeSpec := { name := "pathStays", fn := fun _ => fun
  | [d1, d2] => { results := [.lit (.bool true)], args := [d1, d2] }
  | _ => none }
def pathStaysRow : OpenClaim := { program := "ytjbeembbnkmpeaadoor", sum := "4924bc03563b91afd5bd3b389c2eafd394dbc400bc6669fe2dcb23a6f0ec1a07", func := "foliant/foliantlaw45.PathStays", spec := "pathStays", unfollowed := true, recurses := true, named := ["strings.asciiSpace", "unicode.White_Space", "foliant/path.paints"], loops := true, apart := false, laid := [("unicode.White_Space", laid_unicode_White_Space), ("strings.asciiSpace", laid_strings_asciiSpace), ("foliant/path.paints", laid_foliant_path_paints)] }
def PathStaysSaid : Prop := pathStaysRow.holds Tryd.pinned (OpenSpec.ofChange pathStaysSpec)

/-- ITS FALSE NEIGHBOUR: 'it returns false'. Refute it at one input. -/
def pathStaysWrong : ChangeSpec := { name := "pathStays", fn := fun _ => fun
  | [d1, d2] => { results := [.lit (.bool false)], args := [d1, d2] }
  | _ => none }
def PathStaysWrongFalsely : Prop := pathStaysRow.holds Tryd.pinned (OpenSpec.ofChange pathStaysWrong)

/-- 'foliantlaw45.PathLed': WHATEVER THE INPUT: true; the input reads as it did. -/
def pathLedSpec : ChangeSpec := { name := "pathLed", fn := fun _ => fun
  | [d1, d2] => { results := [.lit (.bool true)], args := [d1, d2] }
  | _ => none }
def pathLedRow : OpenClaim := { program := "ytjbeembbnkmpeaadoor", sum := "4924bc03563b91afd5bd3b389c2eafd394dbc400bc6669fe2dcb23a6f0ec1a07", func := "foliant/foliantlaw45.PathLed", spec := "pathLed", unfollowed := true, recurses := true, named := ["strings.asciiSpace", "unicode.White_Space", "foliant/path.paints"], loops := true, apart := false, laid := [("unicode.White_Space", laid_unicode_White_Space), ("strings.asciiSpace", laid_strings_asciiSpace), ("foliant/path.paints", laid_foliant_path_paints)] }
def PathLedSaid : Prop := pathLedRow.holds Tryd.pinned (OpenSpec.ofChange pathLedSpec)

/-- ITS FALSE NEIGHBOUR: 'it returns false'. Refute it at one input. -/
def pathLedWrong : ChangeSpec := { name := "pathLed", fn := fun _ => fun
  | [d1, d2] => { results := [.lit (.bool false)], args := [d1, d2] }
  | _ => none }
def PathLedWrongFalsely : Prop := pathLedRow.holds Tryd.pinned (OpenSpec.ofChange pathLedWrong)

/-- 'foliantlaw44.StateDoes': WHATEVER THE INPUT: true; the input reads as it did. -/
def stateDoesSpec : ChangeSpec := { name := "stateDoes", fn := fun _ => fun
  | [d1, d2] => { results := [.lit (.bool true)], args := [d1, d2] }
  | _ => none }
def stateDoesRow : OpenClaim := { program := "ytjbeembbnkmpeaadoor", sum := "4924bc03563b91afd5bd3b389c2eafd394dbc400bc6669fe2dcb23a6f0ec1a07", func := "foliant/foliantlaw44.StateDoes", spec := "stateDoes", unfollowed := true, recurses := true, named := ["strings.asciiSpace", "unicode.White_Space"], loops := true, apart := false, laid := [("unicode.White_Space", laid_unicode_White_Space), ("strings.asciiSpace", laid_strings_asciiSpace)] }
def StateDoesSaid : Prop := stateDoesRow.holds Tryd.pinned (OpenSpec.ofChange stateDoesSpec)

/-- ITS FALSE NEIGHBOUR: 'it returns false'. Refute it at one input. -/
def stateDoesWrong : ChangeSpec := { name := "stateDoes", fn := fun _ => fun
  | [d1, d2] => { results := [.lit (.bool false)], args := [d1, d2] }
  | _ => none }
def StateDoesWrongFalsely : Prop := stateDoesRow.holds Tryd.pinned (OpenSpec.ofChange stateDoesWrong)

/-- 'foliantlaw44.StateBack': WHATEVER THE INPUT: true; the input reads as it did. -/
def stateBackSpec : ChangeSpec := { name := "stateBack", fn := fun _ => fun
  | [d1, d2, d3] => { results := [.lit (.bool true)], args := [d1, d2, d3] }
  | _ => none }
def stateBackRow : OpenClaim := { program := "ytjbeembbnkmpeaadoor", sum := "4924bc03563b91afd5bd3b389c2eafd394dbc400bc6669fe2dcb23a6f0ec1a07", func := "foliant/foliantlaw44.StateBack", spec := "stateBack", unfollowed := true, recurses := true, named := ["strings.asciiSpace", "unicode.White_Space"], loops := true, apart := false, laid := [("unicode.White_Space", laid_unicode_White_Space), ("strings.asciiSpace", laid_strings_asciiSpace)] }
def StateBackSaid : Prop := stateBackRow.holds Tryd.pinned (OpenSpec.ofChange stateBackSpec)

/-- ITS FALSE NEIGHBOUR: 'it returns false'. Refute it at one input. -/
def stateBackWrong : ChangeSpec := { name := "stateBack", fn := fun _ => fun
  | [d1, d2, d3] => { results := [.lit (.bool false)], args := [d1, d2, d3] }
  | _ => none }
def StateBackWrongFalsely : Prop := stateBackRow.holds Tryd.pinned (OpenSpec.ofChange stateBackWrong)

/-- 'foliantlaw44.StateStays': WHATEVER THE INPUT: true; the input reads as it did. -/
def stateStaysSpec : ChangeSpec := { name := "stateStays", fn := fun _ => fun
  | [d1, d2] => { results := [.lit (.bool true)], args := [d1, d2] }
  | _ => none }
def stateStaysRow : OpenClaim := { program := "ytjbeembbnkmpeaadoor", sum := "4924bc03563b91afd5bd3b389c2eafd394dbc400bc6669fe2dcb23a6f0ec1a07", func := "foliant/foliantlaw44.StateStays", spec := "stateStays", unfollowed := true, recurses := true, named := ["strings.asciiSpace", "unicode.White_Space"], loops := true, apart := false, laid := [("unicode.White_Space", laid_unicode_White_Space), ("strings.asciiSpace", laid_strings_asciiSpace)] }
def StateStaysSaid : Prop := stateStaysRow.holds Tryd.pinned (OpenSpec.ofChange stateStaysSpec)

/-- ITS FALSE NEIGHBOUR: 'it returns false'. Refute it at one input. -/
def stateStaysWrong : ChangeSpec := { name := "stateStays", fn := fun _ => fun
  | [d1, d2] => { results := [.lit (.bool false)], args := [d1, d2] }
  | _ => none }
def StateStaysWrongFalsely : Prop := stateStaysRow.holds Tryd.pinned (OpenSpec.ofChange stateStaysWrong)

/-- 'foliantlaw44.StateSame': WHATEVER THE INPUT: true; the input reads as it did. -/
def stateSameSpec : ChangeSpec := { name := "stateSame", fn := fun _ => fun
  | [d1, d2] => { results := [.lit (.bool true)], args := [d1, d2] }
  | _ => none }
def stateSameRow : OpenClaim := { program := "ytjbeembbnkmpeaadoor", sum := "4924bc03563b91afd5bd3b389c2eafd394dbc400bc6669fe2dcb23a6f0ec1a07", func := "foliant/foliantlaw44.StateSame", spec := "stateSame", unfollowed := true, recurses := true, named := ["strings.asciiSpace", "unicode.White_Space"], apart := false, laid := [("unicode.White_Space", laid_unicode_White_Space), ("strings.asciiSpace", laid_strings_asciiSpace)] }
def StateSameSaid : Prop := stateSameRow.holds Tryd.pinned (OpenSpec.ofChange stateSameSpec)

/-- ITS FALSE NEIGHBOUR: 'it returns false'. Refute it at one input. -/
def stateSameWrong : ChangeSpec := { name := "stateSame", fn := fun _ => fun
  | [d1, d2] => { results := [.lit (.bool false)], args := [d1, d2] }
  | _ => none }
def StateSameWrongFalsely : Prop := stateSameRow.holds Tryd.pinned (OpenSpec.ofChange stateSameWrong)

/- THE SECOND FORM. 'bulk': how many values and letters a reading holds, each counted each time it is reached (what is shared counts as often as it is met; a slice's spare places count too). A statement '..UptoSaid' is the law's where the arguments, and the package variables that the reading takes, are together of bulk at most 1048576: NARROWER than '..Said'. Prove '..Said' where nothing that the law and all that it calls make is longer than what came in: it says more and counts as full. Else prove '..UptoSaid'. A law counts once. -/
mutual
def uptoBulk {H : Type} : DataW H → Nat
  | .lit (.string bytes) => bytes.length + 1
  | .lit _ => 1
  | .nil => 1
  | .ptr d => uptoBulk d + 1
  | .slice elems spare => uptoBulkAll elems + uptoBulkAll spare + 1
  | .agg parts => uptoBulkAll parts + 1
  | .iface _ d => uptoBulk d + 1
  | .map entries => uptoBulkEntries entries + 1
  | .held _ => 1
def uptoBulkAll {H : Type} : List (DataW H) → Nat
  | [] => 0
  | d :: r => uptoBulk d + uptoBulkAll r
def uptoBulkEntries {H : Type} : List (Lit × DataW H) → Nat
  | [] => 0
  | x :: r => uptoBulkEntry x + uptoBulkEntries r
def uptoBulkEntry {H : Type} : Lit × DataW H → Nat
  | (.string bytes, d) => bytes.length + uptoBulk d + 1
  | (_, d) => uptoBulk d + 1
 end
def uptoSmall : (H : Type) → List (DataW H) → Bool := fun _ ds => decide (uptoBulkAll ds ≤ 1048576)
def OpenSpec.upto (s : _root_.Go.ChangeSpec) : _root_.Go.OpenSpec := { _root_.Go.OpenSpec.ofChange s with cond := some uptoSmall }

/-- 'folianttop.TopComposed', WHERE WHAT IT READS IS OF BULK AT MOST 1048576: true; the input reads as it did. -/
def topComposedUptoRow : OpenClaim := { program := "ytjbeembbnkmpeaadoor", sum := "4924bc03563b91afd5bd3b389c2eafd394dbc400bc6669fe2dcb23a6f0ec1a07", func := "foliant/folianttop.TopComposed", spec := "topComposed", inPlace := ["internal/bytealg.IndexByteString"], unfollowed := true, recurses := true, named := ["unicode/utf8.first", "unicode/utf8.acceptRanges", "strings.asciiSpace", "unicode.White_Space"], apart := false, laid := [("unicode/utf8.acceptRanges", laid_unicode_utf8_acceptRanges), ("unicode.White_Space", laid_unicode_White_Space), ("strings.asciiSpace", laid_strings_asciiSpace), ("unicode/utf8.first", laid_unicode_utf8_first)], narrowed := true }
def TopComposedUptoSaid : Prop := topComposedUptoRow.holds Tryd.pinned (OpenSpec.upto topComposedSpec)

/-- 'folianttop.TopPaths', WHERE WHAT IT READS IS OF BULK AT MOST 1048576: true; the input reads as it did. -/
def topPathsUptoRow : OpenClaim := { program := "ytjbeembbnkmpeaadoor", sum := "4924bc03563b91afd5bd3b389c2eafd394dbc400bc6669fe2dcb23a6f0ec1a07", func := "foliant/folianttop.TopPaths", spec := "topPaths", inPlace := ["internal/bytealg.IndexByteString"], unfollowed := true, recurses := true, named := ["strings.asciiSpace", "unicode.White_Space", "foliant/path.paints"], apart := false, laid := [("unicode.White_Space", laid_unicode_White_Space), ("strings.asciiSpace", laid_strings_asciiSpace), ("foliant/path.paints", laid_foliant_path_paints)], narrowed := true }
def TopPathsUptoSaid : Prop := topPathsUptoRow.holds Tryd.pinned (OpenSpec.upto topPathsSpec)

/-- 'foliantlaw45.PathDoes', WHERE WHAT IT READS IS OF BULK AT MOST 1048576: true; the input reads as it did. -/
def pathDoesUptoRow : OpenClaim := { program := "ytjbeembbnkmpeaadoor", sum := "4924bc03563b91afd5bd3b389c2eafd394dbc400bc6669fe2dcb23a6f0ec1a07", func := "foliant/foliantlaw45.PathDoes", spec := "pathDoes", unfollowed := true, recurses := true, named := ["strings.asciiSpace", "unicode.White_Space", "foliant/path.paints"], loops := true, apart := false, laid := [("unicode.White_Space", laid_unicode_White_Space), ("strings.asciiSpace", laid_strings_asciiSpace), ("foliant/path.paints", laid_foliant_path_paints)], narrowed := true }
def PathDoesUptoSaid : Prop := pathDoesUptoRow.holds Tryd.pinned (OpenSpec.upto pathDoesSpec)

/-- 'foliantlaw45.PathClosed', WHERE WHAT IT READS IS OF BULK AT MOST 1048576: true; the input reads as it did. -/
def pathClosedUptoRow : OpenClaim := { program := "ytjbeembbnkmpeaadoor", sum := "4924bc03563b91afd5bd3b389c2eafd394dbc400bc6669fe2dcb23a6f0ec1a07", func := "foliant/foliantlaw45.PathClosed", spec := "pathClosed", unfollowed := true, recurses := true, named := ["strings.asciiSpace", "unicode.White_Space", "foliant/path.paints"], loops := true, apart := false, laid := [("unicode.White_Space", laid_unicode_White_Space), ("strings.asciiSpace", laid_strings_asciiSpace), ("foliant/path.paints", laid_foliant_path_paints)], narrowed := true }
def PathClosedUptoSaid : Prop := pathClosedUptoRow.holds Tryd.pinned (OpenSpec.upto pathClosedSpec)

/-- 'foliantlaw45.PathStays', WHERE WHAT IT READS IS OF BULK AT MOST 1048576: true; the input reads as it did. -/
def pathStaysUptoRow : OpenClaim := { program := "ytjbeembbnkmpeaadoor", sum := "4924bc03563b91afd5bd3b389c2eafd394dbc400bc6669fe2dcb23a6f0ec1a07", func := "foliant/foliantlaw45.PathStays", spec := "pathStays", unfollowed := true, recurses := true, named := ["strings.asciiSpace", "unicode.White_Space", "foliant/path.paints"], loops := true, apart := false, laid := [("unicode.White_Space", laid_unicode_White_Space), ("strings.asciiSpace", laid_strings_asciiSpace), ("foliant/path.paints", laid_foliant_path_paints)], narrowed := true }
def PathStaysUptoSaid : Prop := pathStaysUptoRow.holds Tryd.pinned (OpenSpec.upto pathStaysSpec)

/-- 'foliantlaw45.PathLed', WHERE WHAT IT READS IS OF BULK AT MOST 1048576: true; the input reads as it did. -/
def pathLedUptoRow : OpenClaim := { program := "ytjbeembbnkmpeaadoor", sum := "4924bc03563b91afd5bd3b389c2eafd394dbc400bc6669fe2dcb23a6f0ec1a07", func := "foliant/foliantlaw45.PathLed", spec := "pathLed", unfollowed := true, recurses := true, named := ["strings.asciiSpace", "unicode.White_Space", "foliant/path.paints"], loops := true, apart := false, laid := [("unicode.White_Space", laid_unicode_White_Space), ("strings.asciiSpace", laid_strings_asciiSpace), ("foliant/path.paints", laid_foliant_path_paints)], narrowed := true }
def PathLedUptoSaid : Prop := pathLedUptoRow.holds Tryd.pinned (OpenSpec.upto pathLedSpec)

/-- 'foliantlaw44.StateDoes', WHERE WHAT IT READS IS OF BULK AT MOST 1048576: true; the input reads as it did. -/
def stateDoesUptoRow : OpenClaim := { program := "ytjbeembbnkmpeaadoor", sum := "4924bc03563b91afd5bd3b389c2eafd394dbc400bc6669fe2dcb23a6f0ec1a07", func := "foliant/foliantlaw44.StateDoes", spec := "stateDoes", unfollowed := true, recurses := true, named := ["strings.asciiSpace", "unicode.White_Space"], loops := true, apart := false, laid := [("unicode.White_Space", laid_unicode_White_Space), ("strings.asciiSpace", laid_strings_asciiSpace)], narrowed := true }
def StateDoesUptoSaid : Prop := stateDoesUptoRow.holds Tryd.pinned (OpenSpec.upto stateDoesSpec)

/-- 'foliantlaw44.StateBack', WHERE WHAT IT READS IS OF BULK AT MOST 1048576: true; the input reads as it did. -/
def stateBackUptoRow : OpenClaim := { program := "ytjbeembbnkmpeaadoor", sum := "4924bc03563b91afd5bd3b389c2eafd394dbc400bc6669fe2dcb23a6f0ec1a07", func := "foliant/foliantlaw44.StateBack", spec := "stateBack", unfollowed := true, recurses := true, named := ["strings.asciiSpace", "unicode.White_Space"], loops := true, apart := false, laid := [("unicode.White_Space", laid_unicode_White_Space), ("strings.asciiSpace", laid_strings_asciiSpace)], narrowed := true }
def StateBackUptoSaid : Prop := stateBackUptoRow.holds Tryd.pinned (OpenSpec.upto stateBackSpec)

/-- 'foliantlaw44.StateStays', WHERE WHAT IT READS IS OF BULK AT MOST 1048576: true; the input reads as it did. -/
def stateStaysUptoRow : OpenClaim := { program := "ytjbeembbnkmpeaadoor", sum := "4924bc03563b91afd5bd3b389c2eafd394dbc400bc6669fe2dcb23a6f0ec1a07", func := "foliant/foliantlaw44.StateStays", spec := "stateStays", unfollowed := true, recurses := true, named := ["strings.asciiSpace", "unicode.White_Space"], loops := true, apart := false, laid := [("unicode.White_Space", laid_unicode_White_Space), ("strings.asciiSpace", laid_strings_asciiSpace)], narrowed := true }
def StateStaysUptoSaid : Prop := stateStaysUptoRow.holds Tryd.pinned (OpenSpec.upto stateStaysSpec)

/-- 'foliantlaw44.StateSame', WHERE WHAT IT READS IS OF BULK AT MOST 1048576: true; the input reads as it did. -/
def stateSameUptoRow : OpenClaim := { program := "ytjbeembbnkmpeaadoor", sum := "4924bc03563b91afd5bd3b389c2eafd394dbc400bc6669fe2dcb23a6f0ec1a07", func := "foliant/foliantlaw44.StateSame", spec := "stateSame", unfollowed := true, recurses := true, named := ["strings.asciiSpace", "unicode.White_Space"], apart := false, laid := [("unicode.White_Space", laid_unicode_White_Space), ("strings.asciiSpace", laid_strings_asciiSpace)], narrowed := true }
def StateSameUptoSaid : Prop := stateSameUptoRow.holds Tryd.pinned (OpenSpec.upto stateSameSpec)

end Rows
end Go.Proofs.YtjbeembbnkmpeaaDoor
