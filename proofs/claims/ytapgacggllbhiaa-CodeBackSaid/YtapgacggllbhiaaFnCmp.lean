/- The formulas of 3 functions of the program, written by program (gen.py); the kernel checks each. No condition. -/
import Derived.Test.YtapgacggllbhiaaFn
import Derived.Test.YtapgacggllbhiaaFnBit
import Derived.Test.YtapgacggllbhiaaFnCode
namespace Go.Proofs.Ytapgacggllbhiaa
open Sh
set_option linter.unusedVariables false
set_option maxRecDepth 100000

def C44 (c1 : Option Addr) (w : World) (R : Int → World → Prop) : Prop :=
  Calls Try.prog 44 #[.pointer c1] w fun e w' => ∃ r0 : Int, e = .returned (.int .i64 r0) ∧ R r0 w'
theorem C44.mono {c1 : Option Addr} {w : World} {R R' : Int → World → Prop} (h : C44 c1 w R) (hr : ∀ r0 w', R r0 w' → R' r0 w') : C44 c1 w R' :=
  Calls.mono h fun _ _ ⟨r0, he, hR⟩ => ⟨r0, he, hr _ _ hR⟩
def C56 (x1 : Int) (w : World) (R : Bool → World → Prop) : Prop :=
  Calls Try.prog 56 #[.int .i64 x1] w fun e w' => ∃ r0 : Bool, e = .returned (.bool r0) ∧ R r0 w'
theorem C56.mono {x1 : Int} {w : World} {R R' : Bool → World → Prop} (h : C56 x1 w R) (hr : ∀ r0 w', R r0 w' → R' r0 w') : C56 x1 w R' :=
  Calls.mono h fun _ _ ⟨r0, he, hR⟩ => ⟨r0, he, hr _ _ hR⟩
def C50 (x1 : Int) (y2 : Int) (w : World) (R : Int → World → Prop) : Prop :=
  Calls Try.prog 50 #[.int .i64 x1, .int .i64 y2] w fun e w' => ∃ r0 : Int, e = .returned (.int .i64 r0) ∧ R r0 w'
theorem C50.mono {x1 : Int} {y2 : Int} {w : World} {R R' : Int → World → Prop} (h : C50 x1 y2 w R) (hr : ∀ r0 w', R r0 w' → R' r0 w') : C50 x1 y2 w R' :=
  Calls.mono h fun _ _ ⟨r0, he, hR⟩ => ⟨r0, he, hr _ _ hR⟩

/-- foliant/code.merged$1 -/
def S44 (c1 : Option Addr) (w : World) (R : Int → World → Prop) : Prop :=
  Nn c1 fun a2 =>
  Ld w a2 (Value.int .i64) fun (x3 : Int) =>
  R x3 w
def pl44 : Plan := (.seq (.reg .seq) (.seq (.reg .seq) .leaf))
set_option maxRecDepth 100000 in
theorem T44 (c1 : Option Addr) (w : World) (R : Int → World → Prop) (h : S44 c1 w R) : C44 c1 w R := by
  have e : fnT Try.prog ⟨FF, MAY, (fun _ _ => False)⟩ pl44 Try.f44 [.pointer c1] w [(.one (.int .i64))] (fun s w => R s w) = S44 c1 w R := by kernel_rfl
  exact (fn_calls okF okM Try.func44 (by kernel_rfl) (by kernel_rfl) (e.mpr h)).mono fun _ _ ⟨s, he, hR⟩ => ⟨s, he, hR⟩

/-- cmp.isNaN[int] -/
def S56 (x1 : Int) (w : World) (R : Bool → World → Prop) : Prop :=
  R (x1 != x1) w
def pl56 : Plan := (.seq (.reg .seq) (.seq (.reg .seq) .leaf))
set_option maxRecDepth 100000 in
theorem T56 (x1 : Int) (w : World) (R : Bool → World → Prop) (h : S56 x1 w R) : C56 x1 w R := by
  have e : fnT Try.prog ⟨FF, MAY, (fun _ _ => False)⟩ pl56 Try.f56 [.int .i64 x1] w [(.one .bool)] (fun s w => R s w) = S56 x1 w R := by kernel_rfl
  exact (fn_calls okF okM Try.func56 (by kernel_rfl) (by kernel_rfl) (e.mpr h)).mono fun _ _ ⟨s, he, hR⟩ => ⟨s, he, hR⟩

/-- cmp.Compare[int] -/
def S50 (x1 : Int) (y2 : Int) (w : World) (R : Int → World → Prop) : Prop :=
  C56 x1 w fun r3 vw4 =>
    C56 y2 vw4 fun r5 vw6 =>
      Br r3 (Br r5 (R 0 vw6) (R (-1) vw6)) (Br r5 (R 1 vw6) (Br (decide (x1 < y2)) (R (-1) vw6) (Br (decide (x1 > y2)) (R 1 vw6) (R 0 vw6))))
def pl50 : Plan := (.seq (.reg .seq) (.seq (.reg .seq) (.seq (.reg .seq) (.seq (.seq (.reg .seq) (.cond (.seq (.seq (.reg .seq) (.cond (.seq (.reg .seq) .leaf) .leaf)) (.seq (.reg .seq) .leaf)) .leaf)) (.seq (.seq (.reg .seq) (.cond (.seq (.reg .seq) .leaf) .leaf)) (.seq (.seq (.reg .seq) (.cond (.seq (.reg .seq) .leaf) .leaf)) (.seq (.seq (.reg .seq) (.cond (.seq (.reg .seq) .leaf) .leaf)) (.seq (.reg .seq) .leaf))))))))
set_option maxRecDepth 100000 in
theorem T50 (x1 : Int) (y2 : Int) (w : World) (R : Int → World → Prop) (h : S50 x1 y2 w R) : C50 x1 y2 w R := by
  have e : fnT Try.prog ⟨FF, MAY, (fun _ _ => False)⟩ pl50 Try.f50 [.int .i64 x1, .int .i64 y2] w [(.one (.int .i64))] (fun s w => R s w) = S50 x1 y2 w R := by kernel_rfl
  exact (fn_calls okF okM Try.func50 (by kernel_rfl) (by kernel_rfl) (e.mpr h)).mono fun _ _ ⟨s, he, hR⟩ => ⟨s, he, hR⟩

end Go.Proofs.Ytapgacggllbhiaa
