/- The kit's contracts at this program, laid in plain words by the kit's program. Conditions: theirs. -/
import Derived.Shelf.Small.Strs
import Derived.Shelf.Strings.Search1
import Derived.Shelf.Strings.Fields
import Derived.Test.YtcblpehnkogfdaaGreatDoorProg
namespace Go.Proofs
open Go.Shelf
def Tryz.lays137_ren : Go.Shelf.Ren := ⟨fun | 137 => 124 | 217 => 144 | 266 => 155 | n => n, fun | 9 => 9 | 5 => 5 | 3 => 3 | n => n, fun | n => n⟩
theorem Tryz.lays137 : Go.Proofs.Lays.n137 Tryz.prog Tryz.lays137_ren := {
  mixed := by kernel_rfl
  f137 := Tryz.func124.trans (congrArg some (by kernel_rfl))
  f217 := Tryz.func144.trans (congrArg some (by kernel_rfl))
  f266 := Tryz.func155.trans (congrArg some (by kernel_rfl))
  t3 := Tryz.underlying3
  a3 := Tryz.isAgg3
  z3 := Tryz.sizeOf3
  v3 := Tryz.zeroValue3
  t5 := Tryz.underlying5
  a5 := Tryz.isAgg5
  z5 := Tryz.sizeOf5
  v5 := Tryz.zeroValue5
  t9 := Tryz.underlying9
  a9 := Tryz.isAgg9
  z9 := Tryz.sizeOf9
  v9 := Tryz.zeroValue9 }
def Tryz.lays157_ren : Go.Shelf.Ren := ⟨fun | 157 => 113 | 229 => 129 | 199 => 130 | 261 => 146 | 311 => 156 | 312 => 157 | n => n, fun | 9 => 9 | 31 => 32 | 3 => 3 | 5 => 5 | 4 => 4 | 119 => 165 | 0 => 0 | 40 => 175 | 152 => 184 | 21 => 21 | 154 => 186 | 51 => 187 | 141 => 189 | 196 => 198 | 193 => 195 | 198 => 201 | 49 => 199 | 194 => 196 | 201 => 204 | 226 => 211 | 46 => 157 | 227 => 212 | n => n, fun | 0 => 2 | 6 => 3 | n => n⟩
theorem Tryz.lays157 : Go.Proofs.Lays.n157 Tryz.prog Tryz.lays157_ren := {
  mixed := by kernel_rfl
  f157 := Tryz.func113.trans (congrArg some (by kernel_rfl))
  f199 := Tryz.func130.trans (congrArg some (by kernel_rfl))
  f229 := Tryz.func129.trans (congrArg some (by kernel_rfl))
  f261 := Tryz.func146.trans (congrArg some (by kernel_rfl))
  f311 := Tryz.func156.trans (congrArg some (by kernel_rfl))
  f312 := Tryz.func157.trans (congrArg some (by kernel_rfl))
  t0 := Tryz.underlying0
  a0 := Tryz.isAgg0
  z0 := Tryz.sizeOf0
  v0 := Tryz.zeroValue0
  t3 := Tryz.underlying3
  a3 := Tryz.isAgg3
  z3 := Tryz.sizeOf3
  v3 := Tryz.zeroValue3
  t4 := Tryz.underlying4
  a4 := Tryz.isAgg4
  z4 := Tryz.sizeOf4
  v4 := Tryz.zeroValue4
  t5 := Tryz.underlying5
  a5 := Tryz.isAgg5
  z5 := Tryz.sizeOf5
  v5 := Tryz.zeroValue5
  t9 := Tryz.underlying9
  a9 := Tryz.isAgg9
  z9 := Tryz.sizeOf9
  v9 := Tryz.zeroValue9
  t21 := Tryz.underlying21
  a21 := Tryz.isAgg21
  z21 := Tryz.sizeOf21
  v21 := Tryz.zeroValue21
  t31 := Tryz.underlying32
  a31 := Tryz.isAgg32
  z31 := Tryz.sizeOf32
  v31 := Tryz.zeroValue32
  t40 := Tryz.underlying175
  a40 := Tryz.isAgg175
  z40 := Tryz.sizeOf175
  v40 := Tryz.zeroValue175
  t46 := Tryz.underlying157
  a46 := Tryz.isAgg157
  z46 := Tryz.sizeOf157
  v46 := Tryz.zeroValue157
  t49 := Tryz.underlying199
  a49 := Tryz.isAgg199
  z49 := Tryz.sizeOf199
  v49 := Tryz.zeroValue199
  t51 := Tryz.underlying187
  a51 := Tryz.isAgg187
  z51 := Tryz.sizeOf187
  v51 := Tryz.zeroValue187
  t119 := Tryz.underlying165
  a119 := Tryz.isAgg165
  z119 := Tryz.sizeOf165
  t141 := Tryz.underlying189
  a141 := Tryz.isAgg189
  z141 := Tryz.sizeOf189
  v141 := Tryz.zeroValue189
  t152 := Tryz.underlying184
  a152 := Tryz.isAgg184
  z152 := Tryz.sizeOf184
  v152 := Tryz.zeroValue184
  t154 := Tryz.underlying186
  a154 := Tryz.isAgg186
  z154 := Tryz.sizeOf186
  v154 := Tryz.zeroValue186
  t193 := Tryz.underlying195
  a193 := Tryz.isAgg195
  z193 := Tryz.sizeOf195
  v193 := Tryz.zeroValue195
  t194 := Tryz.underlying196
  a194 := Tryz.isAgg196
  z194 := Tryz.sizeOf196
  v194 := Tryz.zeroValue196
  t196 := Tryz.underlying198
  a196 := Tryz.isAgg198
  z196 := Tryz.sizeOf198
  v196 := Tryz.zeroValue198
  t198 := Tryz.underlying201
  a198 := Tryz.isAgg201
  z198 := Tryz.sizeOf201
  v198 := Tryz.zeroValue201
  t201 := Tryz.underlying204
  a201 := Tryz.isAgg204
  z201 := Tryz.sizeOf204
  v201 := Tryz.zeroValue204
  t226 := Tryz.underlying211
  a226 := Tryz.isAgg211
  z226 := Tryz.sizeOf211
  v226 := Tryz.zeroValue211
  t227 := Tryz.underlying212
  a227 := Tryz.isAgg212
  z227 := Tryz.sizeOf212
  v227 := Tryz.zeroValue212
  g0 := by kernel_rfl
  g6 := by kernel_rfl }
open Go.RowKit in
theorem Tryz.strings_IndexByte (s : ByteArray) (c : Int) (w : World) :
    Calls Tryz.prog 124 #[.string s, .int .u8 c] w fun e w' => e = .returned (.int .i64 (Lib.indexByte s.data.toList c.toNat.toUInt8)) ∧ w' = w := Any.strings_IndexByte Tryz.lays137 s c w
open Go.RowKit Go.Lib in
theorem Tryz.strings_Fields (s : ByteArray) (w : World) (hs : s.size < 4294967281) (hascii : ∀ (j : Nat) b, s.data.toList[j]? = some b → b.toNat < 128) (htab : Lib.TabIs Tryz.prog w "strings.asciiSpace" .u8 Lib.asciiSpaceTab) :
    Calls Tryz.prog 113 #[.string s] w fun e w' =>
      e = .returned (.slice (some ⟨w.heap.size, 0, none⟩) (Lib.fields s.data.toList).length (Lib.fields s.data.toList).length) ∧ w' = w.alloc (.cells ((Lib.fields s.data.toList).map fun l => Value.string ⟨l.toArray⟩).toArray 9) := Any.strings_Fields Tryz.lays157 (by kernel_rfl) (by kernel_rfl) s w hs hascii htab
end Go.Proofs
