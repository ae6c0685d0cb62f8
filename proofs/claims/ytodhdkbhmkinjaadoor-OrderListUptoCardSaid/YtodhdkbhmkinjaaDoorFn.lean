/- Which functions may be entered: each has a body. No condition. -/
import Derived.Test.YtodhdkbhmkinjaaDoorChecked
import Derived.Test.YtodhdkbhmkinjaaDoorShD
namespace Go.Proofs.YtodhdkbhmkinjaaDoor
open Sh
abbrev LiA7 : List Ty1 := [.int .i64, .int .i64, .bool, .int .u8]
abbrev TyA7 : Type := Int × Int × Bool × Int
abbrev LiA31 : List Ty1 := [.int .i64, .str, .int .i64, .int .i64, .int .i64, .int .i64, .int .i64, .str, .int .i64]
abbrev TyA31 : Type := Int × ByteArray × Int × Int × Int × Int × Int × ByteArray × Int
abbrev LiA39 : List Ty1 := [.slc, .int .i64, .int .i64, .int .i64, .int .i64]
abbrev TyA39 : Type := Slc × Int × Int × Int × Int
abbrev LiA43 : List Ty1 := [.str, .int .i64, .int .i64, .int .i64, .int .i64]
abbrev TyA43 : Type := ByteArray × Int × Int × Int × Int
abbrev LiA60 : List Ty1 := [.int .i64, .str, .int .i64, .int .i64, .int .i64, .int .i64, .int .i64, .str, .int .i64, .int .i64]
abbrev TyA60 : Type := Int × ByteArray × Int × Int × Int × Int × Int × ByteArray × Int × Int
abbrev LiA134 : List Ty1 := [.ptr, .ptr, .ptr, .str]
abbrev TyA134 : Type := Option Addr × Option Addr × Option Addr × ByteArray
abbrev LiA145 : List Ty1 := [.int .u64, .int .u64, .int .u32, .int .u8, .int .u8, .int .u8, .int .u8, .raw, .ptr, .int .i32, .int .i32]
abbrev TyA145 : Type := Int × Int × Int × Int × Int × Int × Int × Value × Option Addr × Int × Int
def FF (g : Nat) : Bool := Nat.ble 3 g && Nat.ble g 120 && !Nat.beq g 59 && !Nat.beq g 96 && !Nat.beq g 98 && !Nat.beq g 99 && !Nat.beq g 100 && !Nat.beq g 101 && !Nat.beq g 102 && !Nat.beq g 103 && !Nat.beq g 104 && !Nat.beq g 105 && !Nat.beq g 106 && !Nat.beq g 107 && !Nat.beq g 108 && !Nat.beq g 109 && !Nat.beq g 110 && !Nat.beq g 111 && !Nat.beq g 112 && !Nat.beq g 113 && !Nat.beq g 114 && !Nat.beq g 115 && !Nat.beq g 116 && !Nat.beq g 117 && !Nat.beq g 118 && !Nat.beq g 119
/-- Which functions may panic. -/
def MAY (_g : Nat) : Bool := false
theorem ffAll : ((List.range 121).all fun g => !FF g || (match Tryd.prog.funcs[g]? with
  | some fn => fn.body.isSome && !(fn.name == "runtime.NumGoroutine")
  | none => true)) = true := by kernel_rfl
theorem okF : CallsOk Tryd.prog FF := by
  intro g fn hg hfn
  have hlt : g < 121 := by
    simp only [FF, Bool.and_eq_true] at hg
    have := Nat.le_of_ble_eq_true hg.1.1.1.1.1.1.1.1.1.1.1.1.1.1.1.1.1.1.1.1.1.1.1.1.2
    omega
  have h := List.all_eq_true.1 ffAll g (List.mem_range.2 hlt)
  simp only [hg, Bool.not_true, Bool.false_or, hfn, Bool.and_eq_true] at h
  exact ⟨h.1, by simpa using h.2⟩
theorem okM : Tryd.prog.follows .mixedOrders = true := by kernel_rfl
end Go.Proofs.YtodhdkbhmkinjaaDoor
