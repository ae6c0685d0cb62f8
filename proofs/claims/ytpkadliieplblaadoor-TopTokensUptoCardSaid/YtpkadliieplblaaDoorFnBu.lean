/- The formulas of 4 functions of the program, written by program (gen.py); the kernel checks each. No condition. -/
import Derived.Test.YtpkadliieplblaaDoorFn
import Derived.Test.YtpkadliieplblaaDoorFnFix
import Derived.Test.YtpkadliieplblaaDoorFnOct
namespace Go.Proofs.YtpkadliieplblaaDoor
open Sh
set_option linter.unusedVariables false
set_option maxRecDepth 100000

def C39 (a0 : Option Addr) (w : World) (R : World → Prop) : Prop :=
  Calls Tryd.prog 39 #[.pointer a0] w fun e w' => e = .returned (.tuple #[]) ∧ R w'
theorem C39.mono {a0 : Option Addr} {w : World} {R R' : World → Prop} (h : C39 a0 w R) (hr : ∀ w', R w' → R' w') : C39 a0 w R' :=
  Calls.mono h fun _ _ ⟨he, hR⟩ => ⟨he, hr _ hR⟩
def C21 (b1 : Option Addr) (c2 : Int) (w : World) (R : Value → World → Prop) : Prop :=
  Calls Tryd.prog 21 #[.pointer b1, .int .u8 c2] w fun e w' => ∃ r0 : Value, e = .returned r0 ∧ R r0 w'
theorem C21.mono {b1 : Option Addr} {c2 : Int} {w : World} {R R' : Value → World → Prop} (h : C21 b1 c2 w R) (hr : ∀ r0 w', R r0 w' → R' r0 w') : C21 b1 c2 w R' :=
  Calls.mono h fun _ _ ⟨r0, he, hR⟩ => ⟨r0, he, hr _ _ hR⟩
def C25 (b1 : Option Addr) (s2 : ByteArray) (w : World) (R : Int → Value → World → Prop) : Prop :=
  Calls Tryd.prog 25 #[.pointer b1, .string s2] w fun e w' => ∃ r0 : Int, ∃ r1 : Value, e = .returned (.tuple #[.int .i64 r0, r1]) ∧ R r0 r1 w'
theorem C25.mono {b1 : Option Addr} {s2 : ByteArray} {w : World} {R R' : Int → Value → World → Prop} (h : C25 b1 s2 w R) (hr : ∀ r0 r1 w', R r0 r1 w' → R' r0 r1 w') : C25 b1 s2 w R' :=
  Calls.mono h fun _ _ ⟨r0, r1, he, hR⟩ => ⟨r0, r1, he, hr _ _ _ hR⟩
def C29 (a0 : Option Addr) (w : World) (R : ByteArray → World → Prop) : Prop :=
  Calls Tryd.prog 29 #[.pointer a0] w fun e w' => ∃ r0 : ByteArray, e = .returned (.string r0) ∧ R r0 w'
theorem C29.mono {a0 : Option Addr} {w : World} {R R' : ByteArray → World → Prop} (h : C29 a0 w R) (hr : ∀ r0 w', R r0 w' → R' r0 w') : C29 a0 w R' :=
  Calls.mono h fun _ _ ⟨r0, he, hR⟩ => ⟨r0, he, hr _ _ hR⟩



/-- (*strings.Builder).WriteByte -/
def S21 (b1 : Option Addr) (c2 : Int) (w : World) (R : Value → World → Prop) : Prop :=
  C39 b1 w fun vw3 =>
    Nn b1 fun a4 =>
    Ld vw3 (a4.add 1) Slc.v fun (x5 : Slc) =>
    Nw vw3 (.cells #[.int .u8 c2] 5) fun vw6 =>
    Rn Tryd.prog (Builtin.append_ #[56, 56] 56 #[Slc.v x5, Slc.v ((⟨some ⟨vw3.heap.size, 0, none⟩, 1, 1⟩ : Slc))]) vw6 Slc.v fun (x7 : Slc) vw8 =>
    Nn b1 fun a9 =>
    St vw8 (a9.add 1) (Slc.v x7) fun vw10 =>
    R Value.nilIface vw10
def pl21 : Plan := (.seq (.reg .seq) (.seq (.reg .seq) (.seq (.reg .seq) (.seq (.reg .seq) .leaf))))
set_option maxRecDepth 100000 in
theorem T21 (b1 : Option Addr) (c2 : Int) (w : World) (R : Value → World → Prop) (h : S21 b1 c2 w R) : C21 b1 c2 w R := by
  have e : fnT Tryd.prog ⟨FF, MAY, (fun _ _ => False)⟩ pl21 Tryd.f21 [.pointer b1, .int .u8 c2] w [(.one .raw)] (fun s w => R s w) = S21 b1 c2 w R := by kernel_rfl
  exact (fn_calls okF okM Tryd.func21 (by kernel_rfl) (by kernel_rfl) (e.mpr h)).mono fun _ _ ⟨s, he, hR⟩ => ⟨s, he, hR⟩

/-- (*strings.Builder).WriteString -/
def S25 (b1 : Option Addr) (s2 : ByteArray) (w : World) (R : Int → Value → World → Prop) : Prop :=
  C39 b1 w fun vw3 =>
    Nn b1 fun a4 =>
    Ld vw3 (a4.add 1) Slc.v fun (x5 : Slc) =>
    Rn Tryd.prog (Builtin.append_ #[56, 9] 56 #[Slc.v x5, .string s2]) vw3 Slc.v fun (x6 : Slc) vw7 =>
    Nn b1 fun a8 =>
    St vw7 (a8.add 1) (Slc.v x6) fun vw9 =>
    R (((s2).size : Nat) : Int) Value.nilIface vw9
def pl25 : Plan := (.seq (.reg .seq) (.seq (.reg .seq) (.seq (.reg .seq) (.seq (.reg .seq) .leaf))))
set_option maxRecDepth 100000 in
theorem T25 (b1 : Option Addr) (s2 : ByteArray) (w : World) (R : Int → Value → World → Prop) (h : S25 b1 s2 w R) : C25 b1 s2 w R := by
  have e : fnT Tryd.prog ⟨FF, MAY, (fun _ _ => False)⟩ pl25 Tryd.f25 [.pointer b1, .string s2] w [(.one (.int .i64)), (.one .raw)] (fun s w => R s.1 s.2 w) = S25 b1 s2 w R := by kernel_rfl
  exact (fn_calls okF okM Tryd.func25 (by kernel_rfl) (by kernel_rfl) (e.mpr h)).mono fun _ _ ⟨s, he, hR⟩ => ⟨s.1, s.2, he, hR⟩



end Go.Proofs.YtpkadliieplblaaDoor
