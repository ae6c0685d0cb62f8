/- Which functions may be entered: each has a body. No condition. -/
import Derived.Test.YtahdpfjikmechaaChecked
import Derived.Test.YtahdpfjikmechaaShR
namespace Go.Proofs.Ytahdpfjikmechaa
open Sh
def FF (g : Nat) : Bool := Nat.ble 3 g && Nat.ble g 137
theorem ffAll : ((List.range 138).all fun g => !FF g || (match Try.prog.funcs[g]? with
  | some fn => fn.body.isSome && !(fn.name == "runtime.NumGoroutine")
  | none => true)) = true := by kernel_rfl
theorem okF : CallsOk Try.prog FF := by
  intro g fn hg hfn
  have hlt : g < 138 := by
    simp only [FF, Bool.and_eq_true] at hg
    have := Nat.le_of_ble_eq_true hg.2
    omega
  have h := List.all_eq_true.1 ffAll g (List.mem_range.2 hlt)
  simp only [hg, Bool.not_true, Bool.false_or, hfn, Bool.and_eq_true] at h
  exact ⟨h.1, by simpa using h.2⟩
theorem okM : Try.prog.follows .mixedOrders = true := by kernel_rfl
end Go.Proofs.Ytahdpfjikmechaa
