/- Which functions may be entered: each has a body. No condition. -/
import Derived.Test.YtcblpehnkogfdaaGreatDoorChecked
import Derived.Test.YtcblpehnkogfdaaGreatDoorShD
namespace Go.Proofs.YtcblpehnkogfdaaGreatDoor
open Sh
abbrev LiA28 : List Ty1 := [.int .i64, .int .i64, .int .i64, .int .i64, .int .i64, .int .i64, .str, .int .i64]
abbrev TyA28 : Type := Int × Int × Int × Int × Int × Int × ByteArray × Int
abbrev LiA30 : List Ty1 := [.int .i64, .int .i64, .int .i64, .int .i64, .int .i64, .int .i64, .int .i64, .int .i64, .int .i64, .int .i64, .slc, .int .i64, .int .i64, .int .i64, .int .i64, .int .i64, .int .i64, .int .i64, .int .i64, .int .i64, .int .i64, .int .i64, .int .i64, .int .i64, .int .i64, .int .i64, .int .i64, .int .i64, .str, .int .i64]
abbrev TyA30 : Type := Int × Int × Int × Int × Int × Int × Int × Int × Int × Int × Slc × Int × Int × Int × Int × Int × Int × Int × Int × Int × Int × Int × Int × Int × Int × Int × Int × Int × ByteArray × Int
abbrev LiA34 : List Ty1 := [.str, .bool, .int .i64, .slc, .int .i64, .slc, .slc]
abbrev TyA34 : Type := ByteArray × Bool × Int × Slc × Int × Slc × Slc
abbrev LiA38 : List Ty1 := [.bool, .int .i64, .int .i64, .int .i64, .int .i64, .int .i64, .int .i64, .int .i64, .int .i64, .int .i64, .int .i64, .int .i64, .int .i64]
abbrev TyA38 : Type := Bool × Int × Int × Int × Int × Int × Int × Int × Int × Int × Int × Int × Int
abbrev LiA69 : List Ty1 := [.int .i64, .str, .int .i64, .int .i64, .int .i64, .int .i64, .int .i64, .str, .int .i64]
abbrev TyA69 : Type := Int × ByteArray × Int × Int × Int × Int × Int × ByteArray × Int
abbrev LiA83 : List Ty1 := [.int .i64, .int .i64, .int .i64, .int .i64, .int .i64, .int .i64, .int .i64, .int .i64, .int .i64, .int .i64, .slc, .int .i64, .int .i64, .int .i64, .int .i64, .int .i64, .int .i64, .int .i64, .int .i64, .int .i64, .int .i64, .int .i64, .int .i64, .int .i64, .int .i64, .int .i64, .int .i64, .int .i64, .str, .int .i64, .str, .bool, .int .i64, .slc, .int .i64, .slc, .slc]
abbrev TyA83 : Type := Int × Int × Int × Int × Int × Int × Int × Int × Int × Int × Slc × Int × Int × Int × Int × Int × Int × Int × Int × Int × Int × Int × Int × Int × Int × Int × Int × Int × ByteArray × Int × ByteArray × Bool × Int × Slc × Int × Slc × Slc
abbrev LiA227 : List Ty1 := [.int .u64, .int .u64, .int .u32, .int .u8, .int .u8, .int .u8, .int .u8, .raw, .ptr, .int .i32, .int .i32]
abbrev TyA227 : Type := Int × Int × Int × Int × Int × Int × Int × Value × Option Addr × Int × Int
def FF (g : Nat) : Bool := Nat.ble 3 g && Nat.ble g 188 && !Nat.beq g 155 && !Nat.beq g 163 && !Nat.beq g 164 && !Nat.beq g 165 && !Nat.beq g 166 && !Nat.beq g 167 && !Nat.beq g 168 && !Nat.beq g 169 && !Nat.beq g 170 && !Nat.beq g 171 && !Nat.beq g 172 && !Nat.beq g 173 && !Nat.beq g 174 && !Nat.beq g 175 && !Nat.beq g 176 && !Nat.beq g 177 && !Nat.beq g 178 && !Nat.beq g 179 && !Nat.beq g 180 && !Nat.beq g 181 && !Nat.beq g 182 && !Nat.beq g 183 && !Nat.beq g 184 && !Nat.beq g 185 && !Nat.beq g 186 && !Nat.beq g 187
/-- Which functions may panic. -/
def MAY (g : Nat) : Bool := Nat.beq g 30 || Nat.beq g 31 || Nat.beq g 32 || Nat.beq g 34 || Nat.beq g 35 || Nat.beq g 39 || Nat.beq g 41 || Nat.beq g 43 || Nat.beq g 44 || Nat.beq g 55 || Nat.beq g 56 || Nat.beq g 58 || Nat.beq g 61 || Nat.beq g 62 || Nat.beq g 75 || Nat.beq g 77 || Nat.beq g 78 || Nat.beq g 79 || Nat.beq g 80 || Nat.beq g 81 || Nat.beq g 89 || Nat.beq g 90 || Nat.beq g 92 || Nat.beq g 102 || Nat.beq g 103 || Nat.beq g 121 || Nat.beq g 133 || Nat.beq g 134 || Nat.beq g 135
theorem ffAll : ((List.range 189).all fun g => !FF g || (match Tryz.prog.funcs[g]? with
  | some fn => fn.body.isSome && !(fn.name == "runtime.NumGoroutine")
  | none => true)) = true := by kernel_rfl
theorem okF : CallsOk Tryz.prog FF := by
  intro g fn hg hfn
  have hlt : g < 189 := by
    simp only [FF, Bool.and_eq_true] at hg
    have := Nat.le_of_ble_eq_true hg.1.1.1.1.1.1.1.1.1.1.1.1.1.1.1.1.1.1.1.1.1.1.1.1.1.1.2
    omega
  have h := List.all_eq_true.1 ffAll g (List.mem_range.2 hlt)
  simp only [hg, Bool.not_true, Bool.false_or, hfn, Bool.and_eq_true] at h
  exact ⟨h.1, by simpa using h.2⟩
theorem okM : Tryz.prog.follows .mixedOrders = true := by kernel_rfl
end Go.Proofs.YtcblpehnkogfdaaGreatDoor
