/- Which functions may be entered: each has a body. No condition. -/
import Derived.Test.YtpkadliieplblaaDoorChecked
import Derived.Test.YtpkadliieplblaaDoorShD
namespace Go.Proofs.YtpkadliieplblaaDoor
open Sh
def FF (g : Nat) : Bool := Nat.ble 3 g && Nat.ble g 125 && !Nat.beq g 59 && !Nat.beq g 60 && !Nat.beq g 61 && !Nat.beq g 82 && !Nat.beq g 101 && !Nat.beq g 102 && !Nat.beq g 103 && !Nat.beq g 104 && !Nat.beq g 105 && !Nat.beq g 106 && !Nat.beq g 107 && !Nat.beq g 108 && !Nat.beq g 109 && !Nat.beq g 110 && !Nat.beq g 111 && !Nat.beq g 112 && !Nat.beq g 113 && !Nat.beq g 114 && !Nat.beq g 115 && !Nat.beq g 116 && !Nat.beq g 117 && !Nat.beq g 118 && !Nat.beq g 119 && !Nat.beq g 120 && !Nat.beq g 121 && !Nat.beq g 122 && !Nat.beq g 123 && !Nat.beq g 124
/-- Which functions may panic. -/
def MAY (g : Nat) : Bool := Nat.beq g 4 || Nat.beq g 8 || Nat.beq g 9 || Nat.beq g 10 || Nat.beq g 18 || Nat.beq g 19 || Nat.beq g 37 || Nat.beq g 38 || Nat.beq g 57 || Nat.beq g 94
theorem ffAll : ((List.range 126).all fun g => !FF g || (match Tryd.prog.funcs[g]? with
  | some fn => fn.body.isSome && !(fn.name == "runtime.NumGoroutine")
  | none => true)) = true := by kernel_rfl
theorem okF : CallsOk Tryd.prog FF := by
  intro g fn hg hfn
  have hlt : g < 126 := by
    simp only [FF, Bool.and_eq_true] at hg
    have := Nat.le_of_ble_eq_true hg.1.1.1.1.1.1.1.1.1.1.1.1.1.1.1.1.1.1.1.1.1.1.1.1.1.1.1.1.2
    omega
  have h := List.all_eq_true.1 ffAll g (List.mem_range.2 hlt)
  simp only [hg, Bool.not_true, Bool.false_or, hfn, Bool.and_eq_true] at h
  exact ⟨h.1, by simpa using h.2⟩
theorem okM : Tryd.prog.follows .mixedOrders = true := by kernel_rfl
end Go.Proofs.YtpkadliieplblaaDoor
