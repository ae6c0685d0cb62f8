/- Which functions may be entered: each has a body. No condition. -/
import Derived.Test.YtapgacggllbhiaaChecked
import Derived.Test.YtapgacggllbhiaaShD
namespace Go.Proofs.Ytapgacggllbhiaa
open Sh
def FF (g : Nat) : Bool := Nat.ble 3 g && Nat.ble g 61
/-- Which functions may panic. -/
def MAY (g : Nat) : Bool := Nat.beq g 3 || Nat.beq g 4 || Nat.beq g 5 || Nat.beq g 6 || Nat.beq g 7 || Nat.beq g 8 || Nat.beq g 17 || Nat.beq g 33 || Nat.beq g 43 || Nat.beq g 47 || Nat.beq g 54
theorem ffAll : ((List.range 62).all fun g => !FF g || (match Try.prog.funcs[g]? with
  | some fn => fn.body.isSome && !(fn.name == "runtime.NumGoroutine")
  | none => true)) = true := by kernel_rfl
theorem okF : CallsOk Try.prog FF := by
  intro g fn hg hfn
  have hlt : g < 62 := by
    simp only [FF, Bool.and_eq_true] at hg
    have := Nat.le_of_ble_eq_true hg.2
    omega
  have h := List.all_eq_true.1 ffAll g (List.mem_range.2 hlt)
  simp only [hg, Bool.not_true, Bool.false_or, hfn, Bool.and_eq_true] at h
  exact ⟨h.1, by simpa using h.2⟩
theorem okM : Try.prog.follows .mixedOrders = true := by kernel_rfl
end Go.Proofs.Ytapgacggllbhiaa
