/-
  NARROWER THAN 'FOR EVERY INPUT', by the rows' own cells (each row's printed sentence says how): MatrixTells: loops.
  DERIVED. THE GIVEN ROWS OF THIS SEAT. 12 by the template 'for every input the law returns true; each argument reads behind the call as it read before'; 0 by the template 'total and deterministic' (their statements: YtahdpfjikmechaaTotals.lean).
  GIVEN WITH THE SEED: the statements are not yours to turn. If you find one false, say at which input.
  Laid BY PROGRAM, IN A SANDBOX (cutbox-rows.mjs): the forced cells as the released guide's own fill.sh prints them over the translation ea5d8aa3be15d3cd… (all of the seat's roots in one cut). By AI agents, Wed Nov 11 2026. No macro, syntax, notation, axiom, sorry.
-/
import Derived.Test.YtahdpfjikmechaaChecked
import GoSem.Claim
import GoSem.ClaimJoined
import GoSem.ClaimMapViews
import Derived.JoinedTies
import Derived.KernelRfl
namespace Go.Proofs.Ytahdpfjikmechaa
/- THE CELL 'sum', in the pinned program and in every row, IS THE sha256 OF THE DUMP (.gsa) THAT YtahdpfjikmechaaProg.lean LOADS. Nothing in Lean hashes anything: it is a label: what it is worth is what the hold of that sum in a sandbox is worth. -/
noncomputable def Try.pinned : Pinned := { name := "ytahdpfjikmechaa", sum := "ea5d8aa3be15d3cd58b847d8e103c1ff583335bb25b582bd854589aa2d0cecbd", checked := Try.checked }
namespace Rows
def none {H : Type} : Left H := { results := [], args := [] }

/-- 'foliantlaw09.BitJoins': WHATEVER THE INPUT: true; the input reads as it did. -/
def bitJoinsSpec : ChangeSpec := { name := "bitJoins", fn := fun _ => fun
  | [d1, d2, d3, d4] => { results := [.lit (.bool true)], args := [d1, d2, d3, d4] }
  | _ => none }
def bitJoinsRow : OpenClaim := { program := "ytahdpfjikmechaa", sum := "ea5d8aa3be15d3cd58b847d8e103c1ff583335bb25b582bd854589aa2d0cecbd", func := "foliant/foliantlaw09.BitJoins", spec := "bitJoins", apart := false }
def BitJoinsSaid : Prop := bitJoinsRow.holds Try.pinned (OpenSpec.ofChange bitJoinsSpec)

/-- ITS FALSE NEIGHBOUR: 'it returns false'. Refute it at one input. -/
def bitJoinsWrong : ChangeSpec := { name := "bitJoins", fn := fun _ => fun
  | [d1, d2, d3, d4] => { results := [.lit (.bool false)], args := [d1, d2, d3, d4] }
  | _ => none }
def BitJoinsWrongFalsely : Prop := bitJoinsRow.holds Try.pinned (OpenSpec.ofChange bitJoinsWrong)

/-- 'foliantlaw09.BitWrites': WHATEVER THE INPUT: true; the input reads as it did. -/
def bitWritesSpec : ChangeSpec := { name := "bitWrites", fn := fun _ => fun
  | [d] => { results := [.lit (.bool true)], args := [d] }
  | _ => none }
def bitWritesRow : OpenClaim := { program := "ytahdpfjikmechaa", sum := "ea5d8aa3be15d3cd58b847d8e103c1ff583335bb25b582bd854589aa2d0cecbd", func := "foliant/foliantlaw09.BitWrites", spec := "bitWrites", apart := false }
def BitWritesSaid : Prop := bitWritesRow.holds Try.pinned (OpenSpec.ofChange bitWritesSpec)

/-- ITS FALSE NEIGHBOUR: 'it returns false'. Refute it at one input. -/
def bitWritesWrong : ChangeSpec := { name := "bitWrites", fn := fun _ => fun
  | [d] => { results := [.lit (.bool false)], args := [d] }
  | _ => none }
def BitWritesWrongFalsely : Prop := bitWritesRow.holds Try.pinned (OpenSpec.ofChange bitWritesWrong)

/-- 'foliantlaw09.BitReads': WHATEVER THE INPUT: true; the input reads as it did. -/
def bitReadsSpec : ChangeSpec := { name := "bitReads", fn := fun _ => fun
  | [d1, d2] => { results := [.lit (.bool true)], args := [d1, d2] }
  | _ => none }
def bitReadsRow : OpenClaim := { program := "ytahdpfjikmechaa", sum := "ea5d8aa3be15d3cd58b847d8e103c1ff583335bb25b582bd854589aa2d0cecbd", func := "foliant/foliantlaw09.BitReads", spec := "bitReads", apart := false }
def BitReadsSaid : Prop := bitReadsRow.holds Try.pinned (OpenSpec.ofChange bitReadsSpec)

/-- ITS FALSE NEIGHBOUR: 'it returns false'. Refute it at one input. -/
def bitReadsWrong : ChangeSpec := { name := "bitReads", fn := fun _ => fun
  | [d1, d2] => { results := [.lit (.bool false)], args := [d1, d2] }
  | _ => none }
def BitReadsWrongFalsely : Prop := bitReadsRow.holds Try.pinned (OpenSpec.ofChange bitReadsWrong)

/-- 'foliantlaw09.BitBack': WHATEVER THE INPUT: true; the input reads as it did. -/
def bitBackSpec : ChangeSpec := { name := "bitBack", fn := fun _ => fun
  | [d] => { results := [.lit (.bool true)], args := [d] }
  | _ => none }
def bitBackRow : OpenClaim := { program := "ytahdpfjikmechaa", sum := "ea5d8aa3be15d3cd58b847d8e103c1ff583335bb25b582bd854589aa2d0cecbd", func := "foliant/foliantlaw09.BitBack", spec := "bitBack", apart := false }
def BitBackSaid : Prop := bitBackRow.holds Try.pinned (OpenSpec.ofChange bitBackSpec)

/-- ITS FALSE NEIGHBOUR: 'it returns false'. Refute it at one input. -/
def bitBackWrong : ChangeSpec := { name := "bitBack", fn := fun _ => fun
  | [d] => { results := [.lit (.bool false)], args := [d] }
  | _ => none }
def BitBackWrongFalsely : Prop := bitBackRow.holds Try.pinned (OpenSpec.ofChange bitBackWrong)

/-- 'foliantlaw09.BitNone': WHATEVER THE INPUT: true; the input reads as it did. -/
def bitNoneSpec : ChangeSpec := { name := "bitNone", fn := fun _ => fun
  | [d1, d2] => { results := [.lit (.bool true)], args := [d1, d2] }
  | _ => none }
def bitNoneRow : OpenClaim := { program := "ytahdpfjikmechaa", sum := "ea5d8aa3be15d3cd58b847d8e103c1ff583335bb25b582bd854589aa2d0cecbd", func := "foliant/foliantlaw09.BitNone", spec := "bitNone", apart := false }
def BitNoneSaid : Prop := bitNoneRow.holds Try.pinned (OpenSpec.ofChange bitNoneSpec)

/-- ITS FALSE NEIGHBOUR: 'it returns false'. Refute it at one input. -/
def bitNoneWrong : ChangeSpec := { name := "bitNone", fn := fun _ => fun
  | [d1, d2] => { results := [.lit (.bool false)], args := [d1, d2] }
  | _ => none }
def BitNoneWrongFalsely : Prop := bitNoneRow.holds Try.pinned (OpenSpec.ofChange bitNoneWrong)

/-- 'foliantlaw15.PredictTells': WHATEVER THE INPUT: true; the input reads as it did. -/
def predictTellsSpec : ChangeSpec := { name := "predictTells", fn := fun _ => fun
  | [d1, d2] => { results := [.lit (.bool true)], args := [d1, d2] }
  | _ => none }
def predictTellsRow : OpenClaim := { program := "ytahdpfjikmechaa", sum := "ea5d8aa3be15d3cd58b847d8e103c1ff583335bb25b582bd854589aa2d0cecbd", func := "foliant/foliantlaw15.PredictTells", spec := "predictTells", apart := false }
def PredictTellsSaid : Prop := predictTellsRow.holds Try.pinned (OpenSpec.ofChange predictTellsSpec)

/-- ITS FALSE NEIGHBOUR: 'it returns false'. Refute it at one input. -/
def predictTellsWrong : ChangeSpec := { name := "predictTells", fn := fun _ => fun
  | [d1, d2] => { results := [.lit (.bool false)], args := [d1, d2] }
  | _ => none }
def PredictTellsWrongFalsely : Prop := predictTellsRow.holds Try.pinned (OpenSpec.ofChange predictTellsWrong)

/-- 'foliantlaw15.PredictBest': WHATEVER THE INPUT: true; the input reads as it did. -/
def predictBestSpec : ChangeSpec := { name := "predictBest", fn := fun _ => fun
  | [d1, d2, d3, d4] => { results := [.lit (.bool true)], args := [d1, d2, d3, d4] }
  | _ => none }
def predictBestRow : OpenClaim := { program := "ytahdpfjikmechaa", sum := "ea5d8aa3be15d3cd58b847d8e103c1ff583335bb25b582bd854589aa2d0cecbd", func := "foliant/foliantlaw15.PredictBest", spec := "predictBest", apart := false }
def PredictBestSaid : Prop := predictBestRow.holds Try.pinned (OpenSpec.ofChange predictBestSpec)

/-- ITS FALSE NEIGHBOUR: 'it returns false'. Refute it at one input. -/
def predictBestWrong : ChangeSpec := { name := "predictBest", fn := fun _ => fun
  | [d1, d2, d3, d4] => { results := [.lit (.bool false)], args := [d1, d2, d3, d4] }
  | _ => none }
def PredictBestWrongFalsely : Prop := predictBestRow.holds Try.pinned (OpenSpec.ofChange predictBestWrong)

/-- 'foliantlaw15.PredictBack': WHATEVER THE INPUT: true; the input reads as it did. -/
def predictBackSpec : ChangeSpec := { name := "predictBack", fn := fun _ => fun
  | [d1, d2] => { results := [.lit (.bool true)], args := [d1, d2] }
  | _ => none }
def predictBackRow : OpenClaim := { program := "ytahdpfjikmechaa", sum := "ea5d8aa3be15d3cd58b847d8e103c1ff583335bb25b582bd854589aa2d0cecbd", func := "foliant/foliantlaw15.PredictBack", spec := "predictBack", apart := false }
def PredictBackSaid : Prop := predictBackRow.holds Try.pinned (OpenSpec.ofChange predictBackSpec)

/-- ITS FALSE NEIGHBOUR: 'it returns false'. Refute it at one input. -/
def predictBackWrong : ChangeSpec := { name := "predictBack", fn := fun _ => fun
  | [d1, d2] => { results := [.lit (.bool false)], args := [d1, d2] }
  | _ => none }
def PredictBackWrongFalsely : Prop := predictBackRow.holds Try.pinned (OpenSpec.ofChange predictBackWrong)

/-- 'foliantlaw15.PredictTags': WHATEVER THE INPUT: true; the input reads as it did. -/
def predictTagsSpec : ChangeSpec := { name := "predictTags", fn := fun _ => fun
  | [d1, d2, d3] => { results := [.lit (.bool true)], args := [d1, d2, d3] }
  | _ => none }
def predictTagsRow : OpenClaim := { program := "ytahdpfjikmechaa", sum := "ea5d8aa3be15d3cd58b847d8e103c1ff583335bb25b582bd854589aa2d0cecbd", func := "foliant/foliantlaw15.PredictTags", spec := "predictTags", apart := false }
def PredictTagsSaid : Prop := predictTagsRow.holds Try.pinned (OpenSpec.ofChange predictTagsSpec)

/-- ITS FALSE NEIGHBOUR: 'it returns false'. Refute it at one input. -/
def predictTagsWrong : ChangeSpec := { name := "predictTags", fn := fun _ => fun
  | [d1, d2, d3] => { results := [.lit (.bool false)], args := [d1, d2, d3] }
  | _ => none }
def PredictTagsWrongFalsely : Prop := predictTagsRow.holds Try.pinned (OpenSpec.ofChange predictTagsWrong)

/-- 'foliantlaw42.MatrixTells': WHATEVER THE INPUT: true; the input reads as it did. -/
def matrixTellsSpec : ChangeSpec := { name := "matrixTells", fn := fun _ => fun
  | [d1, d2, d3, d4, d5] => { results := [.lit (.bool true)], args := [d1, d2, d3, d4, d5] }
  | _ => none }
def matrixTellsRow : OpenClaim := { program := "ytahdpfjikmechaa", sum := "ea5d8aa3be15d3cd58b847d8e103c1ff583335bb25b582bd854589aa2d0cecbd", func := "foliant/foliantlaw42.MatrixTells", spec := "matrixTells", unfollowed := true, recurses := true, loops := true, apart := false }
def MatrixTellsSaid : Prop := matrixTellsRow.holds Try.pinned (OpenSpec.ofChange matrixTellsSpec)

/-- ITS FALSE NEIGHBOUR: 'it returns false'. Refute it at one input. -/
def matrixTellsWrong : ChangeSpec := { name := "matrixTells", fn := fun _ => fun
  | [d1, d2, d3, d4, d5] => { results := [.lit (.bool false)], args := [d1, d2, d3, d4, d5] }
  | _ => none }
def MatrixTellsWrongFalsely : Prop := matrixTellsRow.holds Try.pinned (OpenSpec.ofChange matrixTellsWrong)

/-- 'foliantlaw42.MatrixOnes': WHATEVER THE INPUT: true; the input reads as it did. -/
def matrixOnesSpec : ChangeSpec := { name := "matrixOnes", fn := fun _ => fun
  | [d1, d2] => { results := [.lit (.bool true)], args := [d1, d2] }
  | _ => none }
def matrixOnesRow : OpenClaim := { program := "ytahdpfjikmechaa", sum := "ea5d8aa3be15d3cd58b847d8e103c1ff583335bb25b582bd854589aa2d0cecbd", func := "foliant/foliantlaw42.MatrixOnes", spec := "matrixOnes", unfollowed := true, recurses := true, apart := false }
def MatrixOnesSaid : Prop := matrixOnesRow.holds Try.pinned (OpenSpec.ofChange matrixOnesSpec)

/-- ITS FALSE NEIGHBOUR: 'it returns false'. Refute it at one input. -/
def matrixOnesWrong : ChangeSpec := { name := "matrixOnes", fn := fun _ => fun
  | [d1, d2] => { results := [.lit (.bool false)], args := [d1, d2] }
  | _ => none }
def MatrixOnesWrongFalsely : Prop := matrixOnesRow.holds Try.pinned (OpenSpec.ofChange matrixOnesWrong)

/-- 'foliantlaw42.MatrixComposes': WHATEVER THE INPUT: true; the input reads as it did. -/
def matrixComposesSpec : ChangeSpec := { name := "matrixComposes", fn := fun _ => fun
  | [d1, d2, d3, d4] => { results := [.lit (.bool true)], args := [d1, d2, d3, d4] }
  | _ => none }
def matrixComposesRow : OpenClaim := { program := "ytahdpfjikmechaa", sum := "ea5d8aa3be15d3cd58b847d8e103c1ff583335bb25b582bd854589aa2d0cecbd", func := "foliant/foliantlaw42.MatrixComposes", spec := "matrixComposes", unfollowed := true, recurses := true, apart := false }
def MatrixComposesSaid : Prop := matrixComposesRow.holds Try.pinned (OpenSpec.ofChange matrixComposesSpec)

/-- ITS FALSE NEIGHBOUR: 'it returns false'. Refute it at one input. -/
def matrixComposesWrong : ChangeSpec := { name := "matrixComposes", fn := fun _ => fun
  | [d1, d2, d3, d4] => { results := [.lit (.bool false)], args := [d1, d2, d3, d4] }
  | _ => none }
def MatrixComposesWrongFalsely : Prop := matrixComposesRow.holds Try.pinned (OpenSpec.ofChange matrixComposesWrong)

/- THE SECOND FORM. 'bulk': how many values and letters a reading holds, each counted each time it is reached (what is shared counts as often as it is met; a slice's spare places count too). A statement '..UptoSaid' is the law's where the arguments, and the package variables that the reading takes, are together of bulk at most 1048576: NARROWER than '..Said'. Prove '..Said' where nothing that the law and all that it calls make is longer than what came in: it says more and counts as full. Else prove '..UptoSaid'. A law counts once. -/
mutual
def uptoBulk {H : Type} : DataW H → Nat
  | .lit (.string bytes) => bytes.length + 1
  | .lit _ => 1
  | .nil => 1
  | .ptr d => uptoBulk d + 1
  | .slice elems spare => uptoBulkAll elems + uptoBulkAll spare + 1
  | .agg parts => uptoBulkAll parts + 1
  | .iface _ d => uptoBulk d + 1
  | .map entries => uptoBulkEntries entries + 1
  | .held _ => 1
def uptoBulkAll {H : Type} : List (DataW H) → Nat
  | [] => 0
  | d :: r => uptoBulk d + uptoBulkAll r
def uptoBulkEntries {H : Type} : List (Lit × DataW H) → Nat
  | [] => 0
  | x :: r => uptoBulkEntry x + uptoBulkEntries r
def uptoBulkEntry {H : Type} : Lit × DataW H → Nat
  | (.string bytes, d) => bytes.length + uptoBulk d + 1
  | (_, d) => uptoBulk d + 1
 end
def uptoSmall : (H : Type) → List (DataW H) → Bool := fun _ ds => decide (uptoBulkAll ds ≤ 1048576)
def OpenSpec.upto (s : _root_.Go.ChangeSpec) : _root_.Go.OpenSpec := { _root_.Go.OpenSpec.ofChange s with cond := some uptoSmall }

/-- 'foliantlaw09.BitJoins', WHERE WHAT IT READS IS OF BULK AT MOST 1048576: true; the input reads as it did. -/
def bitJoinsUptoRow : OpenClaim := { program := "ytahdpfjikmechaa", sum := "ea5d8aa3be15d3cd58b847d8e103c1ff583335bb25b582bd854589aa2d0cecbd", func := "foliant/foliantlaw09.BitJoins", spec := "bitJoins", apart := false, narrowed := true }
def BitJoinsUptoSaid : Prop := bitJoinsUptoRow.holds Try.pinned (OpenSpec.upto bitJoinsSpec)

/-- 'foliantlaw09.BitWrites', WHERE WHAT IT READS IS OF BULK AT MOST 1048576: true; the input reads as it did. -/
def bitWritesUptoRow : OpenClaim := { program := "ytahdpfjikmechaa", sum := "ea5d8aa3be15d3cd58b847d8e103c1ff583335bb25b582bd854589aa2d0cecbd", func := "foliant/foliantlaw09.BitWrites", spec := "bitWrites", apart := false, narrowed := true }
def BitWritesUptoSaid : Prop := bitWritesUptoRow.holds Try.pinned (OpenSpec.upto bitWritesSpec)

/-- 'foliantlaw09.BitReads', WHERE WHAT IT READS IS OF BULK AT MOST 1048576: true; the input reads as it did. -/
def bitReadsUptoRow : OpenClaim := { program := "ytahdpfjikmechaa", sum := "ea5d8aa3be15d3cd58b847d8e103c1ff583335bb25b582bd854589aa2d0cecbd", func := "foliant/foliantlaw09.BitReads", spec := "bitReads", apart := false, narrowed := true }
def BitReadsUptoSaid : Prop := bitReadsUptoRow.holds Try.pinned (OpenSpec.upto bitReadsSpec)

/-- 'foliantlaw09.BitBack', WHERE WHAT IT READS IS OF BULK AT MOST 1048576: true; the input reads as it did. -/
def bitBackUptoRow : OpenClaim := { program := "ytahdpfjikmechaa", sum := "ea5d8aa3be15d3cd58b847d8e103c1ff583335bb25b582bd854589aa2d0cecbd", func := "foliant/foliantlaw09.BitBack", spec := "bitBack", apart := false, narrowed := true }
def BitBackUptoSaid : Prop := bitBackUptoRow.holds Try.pinned (OpenSpec.upto bitBackSpec)

/-- 'foliantlaw09.BitNone', WHERE WHAT IT READS IS OF BULK AT MOST 1048576: true; the input reads as it did. -/
def bitNoneUptoRow : OpenClaim := { program := "ytahdpfjikmechaa", sum := "ea5d8aa3be15d3cd58b847d8e103c1ff583335bb25b582bd854589aa2d0cecbd", func := "foliant/foliantlaw09.BitNone", spec := "bitNone", apart := false, narrowed := true }
def BitNoneUptoSaid : Prop := bitNoneUptoRow.holds Try.pinned (OpenSpec.upto bitNoneSpec)

/-- 'foliantlaw15.PredictTells', WHERE WHAT IT READS IS OF BULK AT MOST 1048576: true; the input reads as it did. -/
def predictTellsUptoRow : OpenClaim := { program := "ytahdpfjikmechaa", sum := "ea5d8aa3be15d3cd58b847d8e103c1ff583335bb25b582bd854589aa2d0cecbd", func := "foliant/foliantlaw15.PredictTells", spec := "predictTells", apart := false, narrowed := true }
def PredictTellsUptoSaid : Prop := predictTellsUptoRow.holds Try.pinned (OpenSpec.upto predictTellsSpec)

/-- 'foliantlaw15.PredictBest', WHERE WHAT IT READS IS OF BULK AT MOST 1048576: true; the input reads as it did. -/
def predictBestUptoRow : OpenClaim := { program := "ytahdpfjikmechaa", sum := "ea5d8aa3be15d3cd58b847d8e103c1ff583335bb25b582bd854589aa2d0cecbd", func := "foliant/foliantlaw15.PredictBest", spec := "predictBest", apart := false, narrowed := true }
def PredictBestUptoSaid : Prop := predictBestUptoRow.holds Try.pinned (OpenSpec.upto predictBestSpec)

/-- 'foliantlaw15.PredictBack', WHERE WHAT IT READS IS OF BULK AT MOST 1048576: true; the input reads as it did. -/
def predictBackUptoRow : OpenClaim := { program := "ytahdpfjikmechaa", sum := "ea5d8aa3be15d3cd58b847d8e103c1ff583335bb25b582bd854589aa2d0cecbd", func := "foliant/foliantlaw15.PredictBack", spec := "predictBack", apart := false, narrowed := true }
def PredictBackUptoSaid : Prop := predictBackUptoRow.holds Try.pinned (OpenSpec.upto predictBackSpec)

/-- 'foliantlaw15.PredictTags', WHERE WHAT IT READS IS OF BULK AT MOST 1048576: true; the input reads as it did. -/
def predictTagsUptoRow : OpenClaim := { program := "ytahdpfjikmechaa", sum := "ea5d8aa3be15d3cd58b847d8e103c1ff583335bb25b582bd854589aa2d0cecbd", func := "foliant/foliantlaw15.PredictTags", spec := "predictTags", apart := false, narrowed := true }
def PredictTagsUptoSaid : Prop := predictTagsUptoRow.holds Try.pinned (OpenSpec.upto predictTagsSpec)

/-- 'foliantlaw42.MatrixTells', WHERE WHAT IT READS IS OF BULK AT MOST 1048576: true; the input reads as it did. -/
def matrixTellsUptoRow : OpenClaim := { program := "ytahdpfjikmechaa", sum := "ea5d8aa3be15d3cd58b847d8e103c1ff583335bb25b582bd854589aa2d0cecbd", func := "foliant/foliantlaw42.MatrixTells", spec := "matrixTells", unfollowed := true, recurses := true, loops := true, apart := false, narrowed := true }
def MatrixTellsUptoSaid : Prop := matrixTellsUptoRow.holds Try.pinned (OpenSpec.upto matrixTellsSpec)

/-- 'foliantlaw42.MatrixOnes', WHERE WHAT IT READS IS OF BULK AT MOST 1048576: true; the input reads as it did. -/
def matrixOnesUptoRow : OpenClaim := { program := "ytahdpfjikmechaa", sum := "ea5d8aa3be15d3cd58b847d8e103c1ff583335bb25b582bd854589aa2d0cecbd", func := "foliant/foliantlaw42.MatrixOnes", spec := "matrixOnes", unfollowed := true, recurses := true, apart := false, narrowed := true }
def MatrixOnesUptoSaid : Prop := matrixOnesUptoRow.holds Try.pinned (OpenSpec.upto matrixOnesSpec)

/-- 'foliantlaw42.MatrixComposes', WHERE WHAT IT READS IS OF BULK AT MOST 1048576: true; the input reads as it did. -/
def matrixComposesUptoRow : OpenClaim := { program := "ytahdpfjikmechaa", sum := "ea5d8aa3be15d3cd58b847d8e103c1ff583335bb25b582bd854589aa2d0cecbd", func := "foliant/foliantlaw42.MatrixComposes", spec := "matrixComposes", unfollowed := true, recurses := true, apart := false, narrowed := true }
def MatrixComposesUptoSaid : Prop := matrixComposesUptoRow.holds Try.pinned (OpenSpec.upto matrixComposesSpec)

end Rows
end Go.Proofs.Ytahdpfjikmechaa
