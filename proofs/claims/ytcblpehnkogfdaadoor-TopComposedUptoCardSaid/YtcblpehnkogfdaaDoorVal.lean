/- Whether a string is valid: the kit's contract of the library's function, laid; the tables that it reads. Conditions: theirs. -/
import Derived.Shelf.Unicode.ValidAny
import Derived.Test.YtcblpehnkogfdaaDoorSlf
import Derived.Test.YtcblpehnkogfdaaDoorFnFont
import Derived.Test.YtcblpehnkogfdaaDoorHp
import Derived.Test.YtcblpehnkogfdaaDoorGn
namespace Go.Proofs
open Go.Shelf
def Tryd.lays196_ren : Go.Shelf.Ren := ⟨fun | 196 => 61 | 259 => 71 | n => n, fun | 3 => 3 | 4 => 4 | 5 => 5 | 9 => 9 | 12 => 12 | 46 => 63 | 53 => 133 | 119 => 115 | 138 => 125 | 139 => 126 | n => n, fun | 3 => 1 | 4 => 2 | n => n⟩
set_option maxRecDepth 100000 in
theorem Tryd.lays196 : Go.Proofs.Lays.n196 Tryd.prog Tryd.lays196_ren := {
  mixed := by kernel_rfl
  f196 := by kernel_rfl
  f259 := by kernel_rfl
  t0 := Tryd.underlying0
  a0 := Tryd.isAgg0
  z0 := Tryd.sizeOf0
  v0 := Tryd.zeroValue0
  t3 := Tryd.underlying3
  a3 := Tryd.isAgg3
  z3 := Tryd.sizeOf3
  v3 := Tryd.zeroValue3
  t4 := Tryd.underlying4
  a4 := Tryd.isAgg4
  z4 := Tryd.sizeOf4
  v4 := Tryd.zeroValue4
  t5 := Tryd.underlying5
  a5 := Tryd.isAgg5
  z5 := Tryd.sizeOf5
  v5 := Tryd.zeroValue5
  t9 := Tryd.underlying9
  a9 := Tryd.isAgg9
  z9 := Tryd.sizeOf9
  v9 := Tryd.zeroValue9
  t12 := Tryd.underlying12
  a12 := Tryd.isAgg12
  z12 := Tryd.sizeOf12
  v12 := Tryd.zeroValue12
  t46 := Tryd.underlying63
  a46 := Tryd.isAgg63
  z46 := Tryd.sizeOf63
  v46 := Tryd.zeroValue63
  t53 := Tryd.underlying133
  a53 := Tryd.isAgg133
  z53 := Tryd.sizeOf133
  v53 := Tryd.zeroValue133
  t119 := Tryd.underlying115
  a119 := Tryd.isAgg115
  z119 := Tryd.sizeOf115
  t138 := Tryd.underlying125
  a138 := Tryd.isAgg125
  z138 := Tryd.sizeOf125
  v138 := Tryd.zeroValue125
  t139 := Tryd.underlying126
  a139 := Tryd.isAgg126
  z139 := Tryd.sizeOf126
  v139 := Tryd.zeroValue126
  g3 := by kernel_rfl
  g4 := by kernel_rfl }
end Go.Proofs
namespace Go.Proofs.YtcblpehnkogfdaaDoor
namespace Fo
open Sh
set_option linter.unusedVariables false
theorem tab_keep {P : Program} {n : String} {g : Nat} {k : IntKind} {zs : List Int} {w w' : World} (hg : P.globalNamed n = some g) (h : Lib.TabIs P w n k zs) (he : Ext (fun _ => False) w w') : Lib.TabIs P w' n k zs := by
  unfold Lib.TabIs World.var? at h ⊢
  rw [hg] at h ⊢
  simp only [Option.bind_some] at h ⊢
  have hlt : g < w.heap.size := by
    rcases Nat.lt_or_ge g w.heap.size with h' | h'
    · exact h'
    · rw [Array.getElem?_eq_none h'] at h
      cases h
  rw [he.block g hlt id]
  exact h
/-- The tables hold what their initialisers lay. -/
def TB (w : World) : Prop := Lib.TabIs Tryd.prog w "strings.asciiSpace" .u8 Lib.asciiSpaceTab ∧ Lib.Utf8Tabs 1 2 w
theorem TB.keep {w w' : World} (h : TB w) (he : Ext (fun _ => False) w w') : TB w' := ⟨tab_keep (g := 0) (by kernel_rfl) h.1 he, Utf8Tabs_below h.2 he.below⟩
theorem ext_of_below {w w' : World} (h : Go.RowKit.Below w.heap.size w w') : Ext (fun _ => False) w w' := ⟨h.os, h.tape, h.output, h.size, fun k hk _ => h.block k hk⟩
theorem c_valid {w : World} (hT : TB w) {s : ByteArray} (hs : s.size ≤ 9223372036854775807) : C61 s w fun r w1 => r = Lib.validD s.data.toList ∧ Ext (fun _ => False) w w1 :=
  (Any.utf8_ValidString Tryd.lays196 s w hs hT.2).mono fun e w' h => ⟨_, h.1, rfl, ext_of_below h.2⟩
end Fo
end Go.Proofs.YtcblpehnkogfdaaDoor
