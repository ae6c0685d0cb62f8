/-
  No cell of these rows narrows 'for every input' (looked for: loops, veiled, ifaces, maps, wideKeys, modest, calm, conditions, laid).
  DERIVED. THE GIVEN ROWS OF THIS SEAT. 5 by the template 'for every input the law returns true; each argument reads behind the call as it read before'; 0 by the template 'total and deterministic' (their statements: YtjkoafjnmkchdaaTotals.lean).
  GIVEN WITH THE SEED: the statements are not yours to turn. If you find one false, say at which input.
  Laid BY PROGRAM, IN A SANDBOX (cutbox-rows.mjs): the forced cells as the released guide's own fill.sh prints them over the translation fbb38950b0a9d426… (all of the seat's roots in one cut). By AI agents, Wed Nov 11 2026. No macro, syntax, notation, axiom, sorry.
-/
import Derived.Test.YtjkoafjnmkchdaaChecked
import GoSem.Claim
import GoSem.ClaimJoined
import GoSem.ClaimMapViews
import Derived.JoinedTies
import Derived.KernelRfl
namespace Go.Proofs.Ytjkoafjnmkchdaa
/- THE CELL 'sum', in the pinned program and in every row, IS THE sha256 OF THE DUMP (.gsa) THAT YtjkoafjnmkchdaaProg.lean LOADS. Nothing in Lean hashes anything: it is a label: what it is worth is what the hold of that sum in a sandbox is worth. -/
noncomputable def Try.pinned : Pinned := { name := "ytjkoafjnmkchdaa", sum := "fbb38950b0a9d4263821972de67d63a24c57c82a16ffcd19064e7197c86f4b05", checked := Try.checked }
namespace Rows
def none {H : Type} : Left H := { results := [], args := [] }

/-- 'foliantlaw12.DeflateAll': WHATEVER THE INPUT: true; the input reads as it did. -/
def deflateAllSpec : ChangeSpec := { name := "deflateAll", fn := fun _ => fun
  | [d1, d2] => { results := [.lit (.bool true)], args := [d1, d2] }
  | _ => none }
def deflateAllRow : OpenClaim := { program := "ytjkoafjnmkchdaa", sum := "fbb38950b0a9d4263821972de67d63a24c57c82a16ffcd19064e7197c86f4b05", func := "foliant/foliantlaw12.DeflateAll", spec := "deflateAll", unfollowed := true, recurses := true, apart := false }
def DeflateAllSaid : Prop := deflateAllRow.holds Try.pinned (OpenSpec.ofChange deflateAllSpec)

/-- ITS FALSE NEIGHBOUR: 'it returns false'. Refute it at one input. -/
def deflateAllWrong : ChangeSpec := { name := "deflateAll", fn := fun _ => fun
  | [d1, d2] => { results := [.lit (.bool false)], args := [d1, d2] }
  | _ => none }
def DeflateAllWrongFalsely : Prop := deflateAllRow.holds Try.pinned (OpenSpec.ofChange deflateAllWrong)

/-- 'foliantlaw12.DeflateParts': WHATEVER THE INPUT: true; the input reads as it did. -/
def deflatePartsSpec : ChangeSpec := { name := "deflateParts", fn := fun _ => fun
  | [d] => { results := [.lit (.bool true)], args := [d] }
  | _ => none }
def deflatePartsRow : OpenClaim := { program := "ytjkoafjnmkchdaa", sum := "fbb38950b0a9d4263821972de67d63a24c57c82a16ffcd19064e7197c86f4b05", func := "foliant/foliantlaw12.DeflateParts", spec := "deflateParts", unfollowed := true, recurses := true, apart := false }
def DeflatePartsSaid : Prop := deflatePartsRow.holds Try.pinned (OpenSpec.ofChange deflatePartsSpec)

/-- ITS FALSE NEIGHBOUR: 'it returns false'. Refute it at one input. -/
def deflatePartsWrong : ChangeSpec := { name := "deflateParts", fn := fun _ => fun
  | [d] => { results := [.lit (.bool false)], args := [d] }
  | _ => none }
def DeflatePartsWrongFalsely : Prop := deflatePartsRow.holds Try.pinned (OpenSpec.ofChange deflatePartsWrong)

/-- 'foliantlaw12.DeflateUnparts': WHATEVER THE INPUT: true; the input reads as it did. -/
def deflateUnpartsSpec : ChangeSpec := { name := "deflateUnparts", fn := fun _ => fun
  | [d] => { results := [.lit (.bool true)], args := [d] }
  | _ => none }
def deflateUnpartsRow : OpenClaim := { program := "ytjkoafjnmkchdaa", sum := "fbb38950b0a9d4263821972de67d63a24c57c82a16ffcd19064e7197c86f4b05", func := "foliant/foliantlaw12.DeflateUnparts", spec := "deflateUnparts", unfollowed := true, recurses := true, apart := false }
def DeflateUnpartsSaid : Prop := deflateUnpartsRow.holds Try.pinned (OpenSpec.ofChange deflateUnpartsSpec)

/-- ITS FALSE NEIGHBOUR: 'it returns false'. Refute it at one input. -/
def deflateUnpartsWrong : ChangeSpec := { name := "deflateUnparts", fn := fun _ => fun
  | [d] => { results := [.lit (.bool false)], args := [d] }
  | _ => none }
def DeflateUnpartsWrongFalsely : Prop := deflateUnpartsRow.holds Try.pinned (OpenSpec.ofChange deflateUnpartsWrong)

/-- 'foliantlaw12.DeflateStored': WHATEVER THE INPUT: true; the input reads as it did. -/
def deflateStoredSpec : ChangeSpec := { name := "deflateStored", fn := fun _ => fun
  | [d1, d2] => { results := [.lit (.bool true)], args := [d1, d2] }
  | _ => none }
def deflateStoredRow : OpenClaim := { program := "ytjkoafjnmkchdaa", sum := "fbb38950b0a9d4263821972de67d63a24c57c82a16ffcd19064e7197c86f4b05", func := "foliant/foliantlaw12.DeflateStored", spec := "deflateStored", unfollowed := true, recurses := true, apart := false }
def DeflateStoredSaid : Prop := deflateStoredRow.holds Try.pinned (OpenSpec.ofChange deflateStoredSpec)

/-- ITS FALSE NEIGHBOUR: 'it returns false'. Refute it at one input. -/
def deflateStoredWrong : ChangeSpec := { name := "deflateStored", fn := fun _ => fun
  | [d1, d2] => { results := [.lit (.bool false)], args := [d1, d2] }
  | _ => none }
def DeflateStoredWrongFalsely : Prop := deflateStoredRow.holds Try.pinned (OpenSpec.ofChange deflateStoredWrong)

/-- 'foliantlaw12.DeflateSigns': WHATEVER THE INPUT: true; the input reads as it did. -/
def deflateSignsSpec : ChangeSpec := { name := "deflateSigns", fn := fun _ => fun
  | [d1, d2] => { results := [.lit (.bool true)], args := [d1, d2] }
  | _ => none }
def deflateSignsRow : OpenClaim := { program := "ytjkoafjnmkchdaa", sum := "fbb38950b0a9d4263821972de67d63a24c57c82a16ffcd19064e7197c86f4b05", func := "foliant/foliantlaw12.DeflateSigns", spec := "deflateSigns", unfollowed := true, recurses := true, apart := false }
def DeflateSignsSaid : Prop := deflateSignsRow.holds Try.pinned (OpenSpec.ofChange deflateSignsSpec)

/-- ITS FALSE NEIGHBOUR: 'it returns false'. Refute it at one input. -/
def deflateSignsWrong : ChangeSpec := { name := "deflateSigns", fn := fun _ => fun
  | [d1, d2] => { results := [.lit (.bool false)], args := [d1, d2] }
  | _ => none }
def DeflateSignsWrongFalsely : Prop := deflateSignsRow.holds Try.pinned (OpenSpec.ofChange deflateSignsWrong)

/- THE SECOND FORM. 'bulk': how many values and letters a reading holds, each counted each time it is reached (what is shared counts as often as it is met; a slice's spare places count too). A statement '..UptoSaid' is the law's where the arguments, and the package variables that the reading takes, are together of bulk at most 1048576: NARROWER than '..Said'. Prove '..Said' where nothing that the law and all that it calls make is longer than what came in: it says more and counts as full. Else prove '..UptoSaid'. A law counts once. -/
mutual
def uptoBulk {H : Type} : DataW H → Nat
  | .lit (.string bytes) => bytes.length + 1
  | .lit _ => 1
  | .nil => 1
  | .ptr d => uptoBulk d + 1
  | .slice elems spare => uptoBulkAll elems + uptoBulkAll spare + 1
  | .agg parts => uptoBulkAll parts + 1
  | .iface _ d => uptoBulk d + 1
  | .map entries => uptoBulkEntries entries + 1
  | .held _ => 1
def uptoBulkAll {H : Type} : List (DataW H) → Nat
  | [] => 0
  | d :: r => uptoBulk d + uptoBulkAll r
def uptoBulkEntries {H : Type} : List (Lit × DataW H) → Nat
  | [] => 0
  | x :: r => uptoBulkEntry x + uptoBulkEntries r
def uptoBulkEntry {H : Type} : Lit × DataW H → Nat
  | (.string bytes, d) => bytes.length + uptoBulk d + 1
  | (_, d) => uptoBulk d + 1
 end
def uptoSmall : (H : Type) → List (DataW H) → Bool := fun _ ds => decide (uptoBulkAll ds ≤ 1048576)
def OpenSpec.upto (s : _root_.Go.ChangeSpec) : _root_.Go.OpenSpec := { _root_.Go.OpenSpec.ofChange s with cond := some uptoSmall }

/-- 'foliantlaw12.DeflateAll', WHERE WHAT IT READS IS OF BULK AT MOST 1048576: true; the input reads as it did. -/
def deflateAllUptoRow : OpenClaim := { program := "ytjkoafjnmkchdaa", sum := "fbb38950b0a9d4263821972de67d63a24c57c82a16ffcd19064e7197c86f4b05", func := "foliant/foliantlaw12.DeflateAll", spec := "deflateAll", unfollowed := true, recurses := true, apart := false, narrowed := true }
def DeflateAllUptoSaid : Prop := deflateAllUptoRow.holds Try.pinned (OpenSpec.upto deflateAllSpec)

/-- 'foliantlaw12.DeflateParts', WHERE WHAT IT READS IS OF BULK AT MOST 1048576: true; the input reads as it did. -/
def deflatePartsUptoRow : OpenClaim := { program := "ytjkoafjnmkchdaa", sum := "fbb38950b0a9d4263821972de67d63a24c57c82a16ffcd19064e7197c86f4b05", func := "foliant/foliantlaw12.DeflateParts", spec := "deflateParts", unfollowed := true, recurses := true, apart := false, narrowed := true }
def DeflatePartsUptoSaid : Prop := deflatePartsUptoRow.holds Try.pinned (OpenSpec.upto deflatePartsSpec)

/-- 'foliantlaw12.DeflateUnparts', WHERE WHAT IT READS IS OF BULK AT MOST 1048576: true; the input reads as it did. -/
def deflateUnpartsUptoRow : OpenClaim := { program := "ytjkoafjnmkchdaa", sum := "fbb38950b0a9d4263821972de67d63a24c57c82a16ffcd19064e7197c86f4b05", func := "foliant/foliantlaw12.DeflateUnparts", spec := "deflateUnparts", unfollowed := true, recurses := true, apart := false, narrowed := true }
def DeflateUnpartsUptoSaid : Prop := deflateUnpartsUptoRow.holds Try.pinned (OpenSpec.upto deflateUnpartsSpec)

/-- 'foliantlaw12.DeflateStored', WHERE WHAT IT READS IS OF BULK AT MOST 1048576: true; the input reads as it did. -/
def deflateStoredUptoRow : OpenClaim := { program := "ytjkoafjnmkchdaa", sum := "fbb38950b0a9d4263821972de67d63a24c57c82a16ffcd19064e7197c86f4b05", func := "foliant/foliantlaw12.DeflateStored", spec := "deflateStored", unfollowed := true, recurses := true, apart := false, narrowed := true }
def DeflateStoredUptoSaid : Prop := deflateStoredUptoRow.holds Try.pinned (OpenSpec.upto deflateStoredSpec)

/-- 'foliantlaw12.DeflateSigns', WHERE WHAT IT READS IS OF BULK AT MOST 1048576: true; the input reads as it did. -/
def deflateSignsUptoRow : OpenClaim := { program := "ytjkoafjnmkchdaa", sum := "fbb38950b0a9d4263821972de67d63a24c57c82a16ffcd19064e7197c86f4b05", func := "foliant/foliantlaw12.DeflateSigns", spec := "deflateSigns", unfollowed := true, recurses := true, apart := false, narrowed := true }
def DeflateSignsUptoSaid : Prop := deflateSignsUptoRow.holds Try.pinned (OpenSpec.upto deflateSignsSpec)

end Rows
end Go.Proofs.Ytjkoafjnmkchdaa
