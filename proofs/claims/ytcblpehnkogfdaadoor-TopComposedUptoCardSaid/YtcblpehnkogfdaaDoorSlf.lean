/- The kit's contracts at this program, laid in plain words by the kit's program. Conditions: theirs. -/
import Derived.Shelf.Small.Strs
import Derived.Shelf.Strings.Search1
import Derived.Shelf.Strings.Fields
import Derived.Test.YtcblpehnkogfdaaDoorProg
namespace Go.Proofs
open Go.Shelf
def Tryd.lays137_ren : Go.Shelf.Ren := ⟨fun | 137 => 70 | 217 => 74 | 266 => 78 | n => n, fun | 9 => 9 | 5 => 5 | 3 => 3 | n => n, fun | n => n⟩
theorem Tryd.lays137 : Go.Proofs.Lays.n137 Tryd.prog Tryd.lays137_ren := {
  mixed := by kernel_rfl
  f137 := Tryd.func70.trans (congrArg some (by kernel_rfl))
  f217 := Tryd.func74.trans (congrArg some (by kernel_rfl))
  f266 := Tryd.func78.trans (congrArg some (by kernel_rfl))
  t3 := Tryd.underlying3
  a3 := Tryd.isAgg3
  z3 := Tryd.sizeOf3
  v3 := Tryd.zeroValue3
  t5 := Tryd.underlying5
  a5 := Tryd.isAgg5
  z5 := Tryd.sizeOf5
  v5 := Tryd.zeroValue5
  t9 := Tryd.underlying9
  a9 := Tryd.isAgg9
  z9 := Tryd.sizeOf9
  v9 := Tryd.zeroValue9 }
def Tryd.lays157_ren : Go.Shelf.Ren := ⟨fun | 157 => 50 | 229 => 64 | 199 => 65 | 261 => 72 | 311 => 75 | 312 => 76 | n => n, fun | 9 => 9 | 31 => 31 | 3 => 3 | 5 => 5 | 4 => 4 | 119 => 115 | 0 => 0 | 40 => 117 | 152 => 127 | 21 => 21 | 154 => 129 | 51 => 130 | 141 => 132 | 196 => 137 | 193 => 134 | 198 => 140 | 49 => 138 | 194 => 135 | 201 => 143 | 226 => 146 | 46 => 63 | 227 => 147 | n => n, fun | 0 => 0 | 6 => 3 | n => n⟩
theorem Tryd.lays157 : Go.Proofs.Lays.n157 Tryd.prog Tryd.lays157_ren := {
  mixed := by kernel_rfl
  f157 := Tryd.func50.trans (congrArg some (by kernel_rfl))
  f199 := Tryd.func65.trans (congrArg some (by kernel_rfl))
  f229 := Tryd.func64.trans (congrArg some (by kernel_rfl))
  f261 := Tryd.func72.trans (congrArg some (by kernel_rfl))
  f311 := Tryd.func75.trans (congrArg some (by kernel_rfl))
  f312 := Tryd.func76.trans (congrArg some (by kernel_rfl))
  t0 := Tryd.underlying0
  a0 := Tryd.isAgg0
  z0 := Tryd.sizeOf0
  v0 := Tryd.zeroValue0
  t3 := Tryd.underlying3
  a3 := Tryd.isAgg3
  z3 := Tryd.sizeOf3
  v3 := Tryd.zeroValue3
  t4 := Tryd.underlying4
  a4 := Tryd.isAgg4
  z4 := Tryd.sizeOf4
  v4 := Tryd.zeroValue4
  t5 := Tryd.underlying5
  a5 := Tryd.isAgg5
  z5 := Tryd.sizeOf5
  v5 := Tryd.zeroValue5
  t9 := Tryd.underlying9
  a9 := Tryd.isAgg9
  z9 := Tryd.sizeOf9
  v9 := Tryd.zeroValue9
  t21 := Tryd.underlying21
  a21 := Tryd.isAgg21
  z21 := Tryd.sizeOf21
  v21 := Tryd.zeroValue21
  t31 := Tryd.underlying31
  a31 := Tryd.isAgg31
  z31 := Tryd.sizeOf31
  v31 := Tryd.zeroValue31
  t40 := Tryd.underlying117
  a40 := Tryd.isAgg117
  z40 := Tryd.sizeOf117
  v40 := Tryd.zeroValue117
  t46 := Tryd.underlying63
  a46 := Tryd.isAgg63
  z46 := Tryd.sizeOf63
  v46 := Tryd.zeroValue63
  t49 := Tryd.underlying138
  a49 := Tryd.isAgg138
  z49 := Tryd.sizeOf138
  v49 := Tryd.zeroValue138
  t51 := Tryd.underlying130
  a51 := Tryd.isAgg130
  z51 := Tryd.sizeOf130
  v51 := Tryd.zeroValue130
  t119 := Tryd.underlying115
  a119 := Tryd.isAgg115
  z119 := Tryd.sizeOf115
  t141 := Tryd.underlying132
  a141 := Tryd.isAgg132
  z141 := Tryd.sizeOf132
  v141 := Tryd.zeroValue132
  t152 := Tryd.underlying127
  a152 := Tryd.isAgg127
  z152 := Tryd.sizeOf127
  v152 := Tryd.zeroValue127
  t154 := Tryd.underlying129
  a154 := Tryd.isAgg129
  z154 := Tryd.sizeOf129
  v154 := Tryd.zeroValue129
  t193 := Tryd.underlying134
  a193 := Tryd.isAgg134
  z193 := Tryd.sizeOf134
  v193 := Tryd.zeroValue134
  t194 := Tryd.underlying135
  a194 := Tryd.isAgg135
  z194 := Tryd.sizeOf135
  v194 := Tryd.zeroValue135
  t196 := Tryd.underlying137
  a196 := Tryd.isAgg137
  z196 := Tryd.sizeOf137
  v196 := Tryd.zeroValue137
  t198 := Tryd.underlying140
  a198 := Tryd.isAgg140
  z198 := Tryd.sizeOf140
  v198 := Tryd.zeroValue140
  t201 := Tryd.underlying143
  a201 := Tryd.isAgg143
  z201 := Tryd.sizeOf143
  v201 := Tryd.zeroValue143
  t226 := Tryd.underlying146
  a226 := Tryd.isAgg146
  z226 := Tryd.sizeOf146
  v226 := Tryd.zeroValue146
  t227 := Tryd.underlying147
  a227 := Tryd.isAgg147
  z227 := Tryd.sizeOf147
  v227 := Tryd.zeroValue147
  g0 := by kernel_rfl
  g6 := by kernel_rfl }
open Go.RowKit in
theorem Tryd.strings_IndexByte (s : ByteArray) (c : Int) (w : World) :
    Calls Tryd.prog 70 #[.string s, .int .u8 c] w fun e w' => e = .returned (.int .i64 (Lib.indexByte s.data.toList c.toNat.toUInt8)) ∧ w' = w := Any.strings_IndexByte Tryd.lays137 s c w
open Go.RowKit Go.Lib in
theorem Tryd.strings_Fields (s : ByteArray) (w : World) (hs : s.size < 4294967281) (hascii : ∀ (j : Nat) b, s.data.toList[j]? = some b → b.toNat < 128) (htab : Lib.TabIs Tryd.prog w "strings.asciiSpace" .u8 Lib.asciiSpaceTab) :
    Calls Tryd.prog 50 #[.string s] w fun e w' =>
      e = .returned (.slice (some ⟨w.heap.size, 0, none⟩) (Lib.fields s.data.toList).length (Lib.fields s.data.toList).length) ∧ w' = w.alloc (.cells ((Lib.fields s.data.toList).map fun l => Value.string ⟨l.toArray⟩).toArray 9) := Any.strings_Fields Tryd.lays157 (by kernel_rfl) (by kernel_rfl) s w hs hascii htab
end Go.Proofs
