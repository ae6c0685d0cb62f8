/- Which functions may be entered: each has a body. No condition. -/
import Derived.Test.YtjbeembbnkmpeaaDoorChecked
import Derived.Test.YtjbeembbnkmpeaaDoorShD
namespace Go.Proofs.YtjbeembbnkmpeaaDoor
open Sh
abbrev LiA29 : List Ty1 := [.int .i64, .int .i64, .int .i64, .int .i64, .int .i64, .int .i64, .int .i64, .int .i64, .int .i64, .int .i64, .slc, .int .i64, .int .i64, .int .i64, .int .i64, .int .i64, .int .i64, .int .i64, .int .i64, .int .i64, .int .i64, .int .i64, .int .i64, .int .i64, .int .i64, .int .i64, .int .i64, .int .i64, .str, .int .i64]
abbrev TyA29 : Type := Int × Int × Int × Int × Int × Int × Int × Int × Int × Int × Slc × Int × Int × Int × Int × Int × Int × Int × Int × Int × Int × Int × Int × Int × Int × Int × Int × Int × ByteArray × Int
abbrev LiA75 : List Ty1 := [.int .i64, .slc, .int .i64, .int .i64, .int .i64, .int .i64, .int .i64, .int .i64, .int .i64, .int .i64, .int .i64, .int .i64]
abbrev TyA75 : Type := Int × Slc × Int × Int × Int × Int × Int × Int × Int × Int × Int × Int
abbrev LiA107 : List Ty1 := [.int .i64, .int .i64, .int .i64, .int .i64, .int .i64, .int .i64, .int .i64, .int .i64, .int .i64, .int .i64, .slc, .int .i64, .int .i64, .int .i64, .int .i64, .int .i64, .int .i64, .int .i64, .int .i64, .int .i64, .int .i64, .int .i64, .int .i64, .int .i64, .int .i64, .int .i64, .int .i64, .int .i64, .str, .int .i64, .slc]
abbrev TyA107 : Type := Int × Int × Int × Int × Int × Int × Int × Int × Int × Int × Slc × Int × Int × Int × Int × Int × Int × Int × Int × Int × Int × Int × Int × Int × Int × Int × Int × Int × ByteArray × Int × Slc
abbrev LiA118 : List Ty1 := [.int .i64, .int .i64, .int .i64, .int .i64, .int .i64, .int .i64, .int .i64, .int .i64, .int .i64, .int .i64, .slc, .int .i64, .int .i64, .int .i64, .int .i64, .int .i64, .int .i64, .int .i64, .int .i64, .int .i64, .int .i64, .int .i64, .int .i64, .int .i64, .int .i64, .int .i64, .int .i64, .int .i64, .str, .int .i64, .str, .bool, .int .i64, .slc, .int .i64, .slc, .slc]
abbrev TyA118 : Type := Int × Int × Int × Int × Int × Int × Int × Int × Int × Int × Slc × Int × Int × Int × Int × Int × Int × Int × Int × Int × Int × Int × Int × Int × Int × Int × Int × Int × ByteArray × Int × ByteArray × Bool × Int × Slc × Int × Slc × Slc
def FF (g : Nat) : Bool := Nat.ble 3 g && Nat.ble g 210
/-- Which functions may panic. -/
def MAY (g : Nat) : Bool := Nat.beq g 4 || Nat.beq g 31 || Nat.beq g 59 || Nat.beq g 60 || Nat.beq g 62 || Nat.beq g 63 || Nat.beq g 64 || Nat.beq g 68 || Nat.beq g 69 || Nat.beq g 71 || Nat.beq g 72 || Nat.beq g 77 || Nat.beq g 79 || Nat.beq g 82 || Nat.beq g 84 || Nat.beq g 91 || Nat.beq g 92 || Nat.beq g 113 || Nat.beq g 114 || Nat.beq g 121 || Nat.beq g 122 || Nat.beq g 123 || Nat.beq g 124 || Nat.beq g 126 || Nat.beq g 127 || Nat.beq g 130 || Nat.beq g 131 || Nat.beq g 145 || Nat.beq g 147 || Nat.beq g 150 || Nat.beq g 164 || Nat.beq g 165 || Nat.beq g 166 || Nat.beq g 167 || Nat.beq g 168 || Nat.beq g 169 || Nat.beq g 174 || Nat.beq g 177 || Nat.beq g 178 || Nat.beq g 192 || Nat.beq g 193 || Nat.beq g 198 || Nat.beq g 199 || Nat.beq g 205
theorem ffAll : ((List.range 211).all fun g => !FF g || (match Tryd.prog.funcs[g]? with
  | some fn => fn.body.isSome && !(fn.name == "runtime.NumGoroutine")
  | none => true)) = true := by kernel_rfl
theorem okF : CallsOk Tryd.prog FF := by
  intro g fn hg hfn
  have hlt : g < 211 := by
    simp only [FF, Bool.and_eq_true] at hg
    have := Nat.le_of_ble_eq_true hg.2
    omega
  have h := List.all_eq_true.1 ffAll g (List.mem_range.2 hlt)
  simp only [hg, Bool.not_true, Bool.false_or, hfn, Bool.and_eq_true] at h
  exact ⟨h.1, by simpa using h.2⟩
theorem okM : Tryd.prog.follows .mixedOrders = true := by kernel_rfl
end Go.Proofs.YtjbeembbnkmpeaaDoor
