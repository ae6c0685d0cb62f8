/- Which functions may be entered: each has a body. No condition. -/
import Derived.Test.YtapgacggllbhiaaDoorChecked
import Derived.Test.YtapgacggllbhiaaDoorShD
namespace Go.Proofs.YtapgacggllbhiaaDoor
open Sh
def FF (g : Nat) : Bool := Nat.ble 3 g && Nat.ble g 81
/-- Which functions may panic. -/
def MAY (g : Nat) : Bool := Nat.beq g 3 || Nat.beq g 4 || Nat.beq g 5 || Nat.beq g 6 || Nat.beq g 7 || Nat.beq g 8 || Nat.beq g 15 || Nat.beq g 27 || Nat.beq g 29 || Nat.beq g 38 || Nat.beq g 45 || Nat.beq g 46 || Nat.beq g 47 || Nat.beq g 48 || Nat.beq g 59 || Nat.beq g 62 || Nat.beq g 63 || Nat.beq g 65 || Nat.beq g 66 || Nat.beq g 67 || Nat.beq g 78
theorem ffAll : ((List.range 82).all fun g => !FF g || (match Tryd.prog.funcs[g]? with
  | some fn => fn.body.isSome && !(fn.name == "runtime.NumGoroutine")
  | none => true)) = true := by kernel_rfl
theorem okF : CallsOk Tryd.prog FF := by
  intro g fn hg hfn
  have hlt : g < 82 := by
    simp only [FF, Bool.and_eq_true] at hg
    have := Nat.le_of_ble_eq_true hg.2
    omega
  have h := List.all_eq_true.1 ffAll g (List.mem_range.2 hlt)
  simp only [hg, Bool.not_true, Bool.false_or, hfn, Bool.and_eq_true] at h
  exact ⟨h.1, by simpa using h.2⟩
theorem okM : Tryd.prog.follows .mixedOrders = true := by kernel_rfl
end Go.Proofs.YtapgacggllbhiaaDoor
