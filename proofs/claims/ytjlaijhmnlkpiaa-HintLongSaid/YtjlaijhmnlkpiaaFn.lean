/- Which functions may be entered: each has a body. No condition. -/
import Derived.Test.YtjlaijhmnlkpiaaChecked
import Derived.Test.YtjlaijhmnlkpiaaShD
namespace Go.Proofs.Ytjlaijhmnlkpiaa
open Sh
def FF (g : Nat) : Bool := Nat.ble 3 g && Nat.ble g 117
/-- Which functions may panic. -/
def MAY (g : Nat) : Bool := Nat.beq g 46 || Nat.beq g 47 || Nat.beq g 48 || Nat.beq g 80 || Nat.beq g 95 || Nat.beq g 101 || Nat.beq g 102
theorem ffAll : ((List.range 118).all fun g => !FF g || (match Try.prog.funcs[g]? with
  | some fn => fn.body.isSome && !(fn.name == "runtime.NumGoroutine")
  | none => true)) = true := by kernel_rfl
theorem okF : CallsOk Try.prog FF := by
  intro g fn hg hfn
  have hlt : g < 118 := by
    simp only [FF, Bool.and_eq_true] at hg
    have := Nat.le_of_ble_eq_true hg.2
    omega
  have h := List.all_eq_true.1 ffAll g (List.mem_range.2 hlt)
  simp only [hg, Bool.not_true, Bool.false_or, hfn, Bool.and_eq_true] at h
  exact ⟨h.1, by simpa using h.2⟩
theorem okM : Try.prog.follows .mixedOrders = true := by kernel_rfl
end Go.Proofs.Ytjlaijhmnlkpiaa
