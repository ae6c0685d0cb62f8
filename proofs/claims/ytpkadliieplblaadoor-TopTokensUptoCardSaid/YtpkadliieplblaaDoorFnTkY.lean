/- The formulas of 2 functions of the program, written by program (gen.py); the kernel checks each. No condition. -/
import Derived.Test.YtpkadliieplblaaDoorFn
import Derived.Test.YtpkadliieplblaaDoorFnFix
import Derived.Test.YtpkadliieplblaaDoorFnOct
import Derived.Test.YtpkadliieplblaaDoorFnBu
import Derived.Test.YtpkadliieplblaaDoorFnLex
import Derived.Test.YtpkadliieplblaaDoorShY
namespace Go.Proofs.YtpkadliieplblaaDoor
open Sh
set_option linter.unusedVariables false
set_option maxRecDepth 100000


def C17 (s1 : ByteArray) (vat2 : Int) (f3 : Option Addr) (w : World) (R : Value → World → Prop) : Prop :=
  Calls Tryd.prog 17 #[.string s1, .int .i64 vat2, .pointer f3] w fun e w' => ∃ r0 : Value, e = .returned r0 ∧ R r0 w'
theorem C17.mono {s1 : ByteArray} {vat2 : Int} {f3 : Option Addr} {w : World} {R R' : Value → World → Prop} (h : C17 s1 vat2 f3 w R) (hr : ∀ r0 w', R r0 w' → R' r0 w') : C17 s1 vat2 f3 w R' :=
  Calls.mono h fun _ _ ⟨r0, he, hR⟩ => ⟨r0, he, hr _ _ hR⟩

def S34_YL1 (l2 : Nat) (c3 : Addr) (c4 : Addr) (R : World → Prop) (I8 : Unit → World → Prop) (s6 : Unit) (vw7 : World) : Prop :=
  Ld vw7 c3 Value.string fun (x9 : ByteArray) =>
  Ld vw7 c4 (Value.int .i64) fun (x10 : Int) =>
  C35 x9 x10 vw7 fun r11 r12 vw13 =>
    Nw vw13 (.cells #[.int .i64 0, .int .i64 0, .int .i64 0, .int .i64 0, .string ((⟨#[]⟩ : ByteArray))] 32) fun vw14 =>
    St vw14 (⟨vw13.heap.size, 0, none⟩ : Addr) (.int .i64 (r11.1)) fun vw15 =>
    St vw15 ((⟨vw13.heap.size, 0, none⟩ : Addr).add 1) (.int .i64 (r11.2.1)) fun vw16 =>
    St vw16 ((⟨vw13.heap.size, 0, none⟩ : Addr).add 2) (.int .i64 (r11.2.2.1)) fun vw17 =>
    St vw17 ((⟨vw13.heap.size, 0, none⟩ : Addr).add 3) (.int .i64 (r11.2.2.2.1)) fun vw18 =>
    St vw18 ((⟨vw13.heap.size, 0, none⟩ : Addr).add 4) (.string r11.2.2.2.2) fun vw19 =>
    Br (r12 != 0) (False) (Ld vw19 (⟨vw13.heap.size, 0, none⟩ : Addr) (Value.int .i64) fun (x20 : Int) =>
      Br (x20 == 0) (R vw19) (Ld vw19 (⟨vw13.heap.size, 0, none⟩ : Addr) (Value.int .i64) fun (x21 : Int) =>
        Ld vw19 ((⟨vw13.heap.size, 0, none⟩ : Addr).add 1) (Value.int .i64) fun (x22 : Int) =>
        Ld vw19 ((⟨vw13.heap.size, 0, none⟩ : Addr).add 2) (Value.int .i64) fun (x23 : Int) =>
        Ld vw19 ((⟨vw13.heap.size, 0, none⟩ : Addr).add 3) (Value.int .i64) fun (x24 : Int) =>
        Ld vw19 ((⟨vw13.heap.size, 0, none⟩ : Addr).add 4) Value.string fun (x25 : ByteArray) =>
        Yl Tryd.prog l2 #[.agg #[.int .i64 x21, .int .i64 x22, .int .i64 x23, .int .i64 x24, .string x25]] vw19 fun (b26 : Bool) vw27 =>
          Br (!b26) (R vw27) (Ld vw27 ((⟨vw13.heap.size, 0, none⟩ : Addr).add 2) (Value.int .i64) fun (x28 : Int) =>
            St vw27 c4 (.int .i64 x28) fun vw29 =>
            I8 () vw29)))
/-- foliant/lex.tokens$1 -/
def S34_Y (l2 : Nat) (c3 : Addr) (c4 : Addr) (c5 : Addr) (w : World) (R : World → Prop) : Prop :=
  Lp (σ := Unit) (S34_YL1 l2 c3 c4 R) () w
def pl34_Y : Plan := (.block (.loop [] [0, 1, 2, 3] (.block (.seq (.reg .seq) (.seq (.seq (.reg .seq) (.cond (.seq (.reg .seq) .leaf) .leaf)) (.seq (.seq (.reg .seq) (.cond .leaf .leaf)) (.reg .seq)))))))
set_option maxRecDepth 100000 in
theorem T34_Y (l2 : Nat) (c3 : Addr) (c4 : Addr) (c5 : Addr) (w : World) (R : World → Prop) (h : S34_Y l2 c3 c4 c5 w R) : CallsIn Fence.wide 0 Tryd.prog 34 #[.func (.yield l2) #[] #[], .pointer (some c3), .pointer (some c4), .pointer (some c5)] w fun e w' => e = .returned (.tuple #[]) ∧ R w' := by
  have e : fnY Tryd.prog ⟨FF, MAY, (fun _ _ => False)⟩ pl34_Y Tryd.f34 [.func (.yield l2) #[] #[], .pointer (some c3), .pointer (some c4), .pointer (some c5)] w [] (fun _ w => R w) = S34_Y l2 c3 c4 c5 w R := by kernel_rfl
  exact (fnY_calls okF Tryd.func34 (by kernel_rfl) (by kernel_rfl) (e.mpr h)).mono fun _ _ ⟨_, he, hR⟩ => ⟨he, hR⟩

/-- foliant/lex.tokens -/
def S17 (s1 : ByteArray) (vat2 : Int) (f3 : Option Addr) (w : World) (R : Value → World → Prop) : Prop :=
  Nw w (.cells #[.string s1] 9) fun vw4 =>
  Nw vw4 (.cells #[.int .i64 vat2] 3) fun vw5 =>
  Nw vw5 (.cells #[.pointer f3] 43) fun vw6 =>
  R (.func (.func 34) #[] #[.pointer (some (⟨w.heap.size, 0, none⟩ : Addr)), .pointer (some (⟨vw4.heap.size, 0, none⟩ : Addr)), .pointer (some (⟨vw5.heap.size, 0, none⟩ : Addr))]) vw6
def pl17 : Plan := (.seq (.reg .seq) (.seq (.reg .seq) .leaf))
set_option maxRecDepth 100000 in
theorem T17 (s1 : ByteArray) (vat2 : Int) (f3 : Option Addr) (w : World) (R : Value → World → Prop) (h : S17 s1 vat2 f3 w R) : C17 s1 vat2 f3 w R := by
  have e : fnT Tryd.prog ⟨FF, MAY, (fun _ _ => False)⟩ pl17 Tryd.f17 [.string s1, .int .i64 vat2, .pointer f3] w [(.one .raw)] (fun s w => R s w) = S17 s1 vat2 f3 w R := by kernel_rfl
  exact (fn_calls okF okM Tryd.func17 (by kernel_rfl) (by kernel_rfl) (e.mpr h)).mono fun _ _ ⟨s, he, hR⟩ => ⟨s, he, hR⟩

end Go.Proofs.YtpkadliieplblaaDoor
