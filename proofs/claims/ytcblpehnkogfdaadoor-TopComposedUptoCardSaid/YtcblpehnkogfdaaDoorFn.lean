/- Which functions may be entered: each has a body. No condition. -/
import Derived.Test.YtcblpehnkogfdaaDoorChecked
import Derived.Test.YtcblpehnkogfdaaDoorShD
namespace Go.Proofs.YtcblpehnkogfdaaDoor
open Sh
abbrev LiA27 : List Ty1 := [.int .i64, .int .i64, .int .i64, .int .i64, .int .i64, .int .i64, .str, .int .i64]
abbrev TyA27 : Type := Int × Int × Int × Int × Int × Int × ByteArray × Int
abbrev LiA29 : List Ty1 := [.int .i64, .int .i64, .int .i64, .int .i64, .int .i64, .int .i64, .int .i64, .int .i64, .int .i64, .int .i64, .slc, .int .i64, .int .i64, .int .i64, .int .i64, .int .i64, .int .i64, .int .i64, .int .i64, .int .i64, .int .i64, .int .i64, .int .i64, .int .i64, .int .i64, .int .i64, .int .i64, .int .i64, .str, .int .i64]
abbrev TyA29 : Type := Int × Int × Int × Int × Int × Int × Int × Int × Int × Int × Slc × Int × Int × Int × Int × Int × Int × Int × Int × Int × Int × Int × Int × Int × Int × Int × Int × Int × ByteArray × Int
abbrev LiA33 : List Ty1 := [.str, .bool, .int .i64, .slc, .int .i64, .slc, .slc]
abbrev TyA33 : Type := ByteArray × Bool × Int × Slc × Int × Slc × Slc
abbrev LiA44 : List Ty1 := [.int .i64, .str, .int .i64, .int .i64, .int .i64, .int .i64, .int .i64, .str, .int .i64]
abbrev TyA44 : Type := Int × ByteArray × Int × Int × Int × Int × Int × ByteArray × Int
abbrev LiA60 : List Ty1 := [.int .i64, .int .i64, .int .i64, .int .i64, .int .i64, .int .i64, .int .i64, .int .i64, .int .i64, .int .i64, .slc, .int .i64, .int .i64, .int .i64, .int .i64, .int .i64, .int .i64, .int .i64, .int .i64, .int .i64, .int .i64, .int .i64, .int .i64, .int .i64, .int .i64, .int .i64, .int .i64, .int .i64, .str, .int .i64, .str, .bool, .int .i64, .slc, .int .i64, .slc, .slc]
abbrev TyA60 : Type := Int × Int × Int × Int × Int × Int × Int × Int × Int × Int × Slc × Int × Int × Int × Int × Int × Int × Int × Int × Int × Int × Int × Int × Int × Int × Int × Int × Int × ByteArray × Int × ByteArray × Bool × Int × Slc × Int × Slc × Slc
abbrev LiA161 : List Ty1 := [.int .u64, .int .u64, .int .u32, .int .u8, .int .u8, .int .u8, .int .u8, .raw, .ptr, .int .i32, .int .i32]
abbrev TyA161 : Type := Int × Int × Int × Int × Int × Int × Int × Value × Option Addr × Int × Int
def FF (g : Nat) : Bool := Nat.ble 3 g && Nat.ble g 104 && !Nat.beq g 78 && !Nat.beq g 79 && !Nat.beq g 80 && !Nat.beq g 81 && !Nat.beq g 82 && !Nat.beq g 83 && !Nat.beq g 84 && !Nat.beq g 85 && !Nat.beq g 86 && !Nat.beq g 87 && !Nat.beq g 88 && !Nat.beq g 89 && !Nat.beq g 90 && !Nat.beq g 91 && !Nat.beq g 92 && !Nat.beq g 93 && !Nat.beq g 94 && !Nat.beq g 95 && !Nat.beq g 96 && !Nat.beq g 97 && !Nat.beq g 98 && !Nat.beq g 99 && !Nat.beq g 100 && !Nat.beq g 101 && !Nat.beq g 102 && !Nat.beq g 103
/-- Which functions may panic. -/
def MAY (g : Nat) : Bool := Nat.beq g 14 || Nat.beq g 15 || Nat.beq g 17 || Nat.beq g 18 || Nat.beq g 20 || Nat.beq g 24 || Nat.beq g 25 || Nat.beq g 27 || Nat.beq g 28 || Nat.beq g 32 || Nat.beq g 33 || Nat.beq g 34 || Nat.beq g 35 || Nat.beq g 38 || Nat.beq g 39 || Nat.beq g 42 || Nat.beq g 43 || Nat.beq g 52 || Nat.beq g 55 || Nat.beq g 56
theorem ffAll : ((List.range 105).all fun g => !FF g || (match Tryd.prog.funcs[g]? with
  | some fn => fn.body.isSome && !(fn.name == "runtime.NumGoroutine")
  | none => true)) = true := by kernel_rfl
theorem okF : CallsOk Tryd.prog FF := by
  intro g fn hg hfn
  have hlt : g < 105 := by
    simp only [FF, Bool.and_eq_true] at hg
    have := Nat.le_of_ble_eq_true hg.1.1.1.1.1.1.1.1.1.1.1.1.1.1.1.1.1.1.1.1.1.1.1.1.1.1.2
    omega
  have h := List.all_eq_true.1 ffAll g (List.mem_range.2 hlt)
  simp only [hg, Bool.not_true, Bool.false_or, hfn, Bool.and_eq_true] at h
  exact ⟨h.1, by simpa using h.2⟩
theorem okM : Tryd.prog.follows .mixedOrders = true := by kernel_rfl
end Go.Proofs.YtcblpehnkogfdaaDoor
