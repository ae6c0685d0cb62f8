/- Content operators: which operands an operator takes; a string's fields, as the library finds them; plain. No condition. -/
import Derived.Test.YtcblpehnkogfdaaGreatDoorBitM
import Derived.Lib.Fields
namespace Go.Proofs.YtcblpehnkogfdaaGreatDoor
namespace Opr
open Sh Go.Lib
set_option linter.unusedVariables false
set_option linter.unusedSimpArgs false
abbrev By := List UInt8
/-- The rows of the table: the operands, the names in one string, the names. -/
def rows : List (By × By × List By) := [
  ([], [98, 32, 66, 32, 98, 42, 32, 66, 42, 32, 66, 84, 32, 69, 84, 32, 69, 77, 67, 32, 66, 88, 32, 69, 88, 32, 102, 32, 70, 32, 102, 42, 32, 104, 32, 110, 32, 113, 32, 81, 32, 115, 32, 83, 32, 84, 42, 32, 87, 32, 87, 42], [[98], [66], [98, 42], [66, 42], [66, 84], [69, 84], [69, 77, 67], [66, 88], [69, 88], [102], [70], [102, 42], [104], [110], [113], [81], [115], [83], [84, 42], [87], [87, 42]]),
  ([110], [103, 32, 71, 32, 105, 32, 106, 32, 74, 32, 77, 32, 119, 32, 84, 99, 32, 84, 76, 32, 84, 114, 32, 84, 115, 32, 84, 119, 32, 84, 122], [[103], [71], [105], [106], [74], [77], [119], [84, 99], [84, 76], [84, 114], [84, 115], [84, 119], [84, 122]]),
  ([110, 110], [100, 48, 32, 108, 32, 109, 32, 84, 100, 32, 84, 68], [[100, 48], [108], [109], [84, 100], [84, 68]]),
  ([110, 110, 110], [114, 103, 32, 82, 71], [[114, 103], [82, 71]]),
  ([110, 110, 110, 110], [107, 32, 75, 32, 114, 101, 32, 118, 32, 121], [[107], [75], [114, 101], [118], [121]]),
  ([110, 110, 110, 110, 110, 110], [99, 32, 99, 109, 32, 100, 49, 32, 84, 109], [[99], [99, 109], [100, 49], [84, 109]]),
  ([78], [66, 77, 67, 32, 99, 115, 32, 67, 83, 32, 68, 111, 32, 103, 115, 32, 77, 80, 32, 114, 105, 32, 115, 104], [[66, 77, 67], [99, 115], [67, 83], [68, 111], [103, 115], [77, 80], [114, 105], [115, 104]]),
  ([78, 110], [84, 102], [[84, 102]]),
  ([78, 42], [66, 68, 67, 32, 68, 80], [[66, 68, 67], [68, 80]]),
  ([115], [84, 106, 32, 39], [[84, 106], [39]]),
  ([110, 110, 115], [34], [[34]]),
  ([97], [84, 74], [[84, 74]]),
  ([97, 110], [100], [[100]]),
  ([100], [66, 73], [[66, 73]])]
/-- What a name takes. -/
def takesL (name : By) : List (By × By × List By) → By
  | [] => [63]
  | r :: rs => if name ∈ r.2.2 then r.1 else takesL name rs
def takes (name : By) : By := takesL name rows
/-! ### Fields -/
def fieldsM (s : By) : Option (List By) := if s.all (fun b => decide (b.toNat < 128)) then some (Lib.fields s) else none
theorem rows_ok : (rows.all fun r => decide (fieldsM r.2.1 = some r.2.2)) = true := by decide +kernel
end Opr
end Go.Proofs.YtcblpehnkogfdaaGreatDoor
