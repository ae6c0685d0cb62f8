/- The formulas of 2 functions of the program, written by program (gen.py); the kernel checks each. No condition. -/
import Derived.Test.YtjbeembbnkmpeaaDoorFn
import Derived.Test.YtjbeembbnkmpeaaDoorFnFix
import Derived.Test.YtjbeembbnkmpeaaDoorFnMat
import Derived.Test.YtjbeembbnkmpeaaDoorFnObj
import Derived.Test.YtjbeembbnkmpeaaDoorFnOps
import Derived.Test.YtjbeembbnkmpeaaDoorFnPath
import Derived.Test.YtjbeembbnkmpeaaDoorFnPaR
import Derived.Test.YtjbeembbnkmpeaaDoorShY
namespace Go.Proofs.YtjbeembbnkmpeaaDoor
open Sh
set_option linter.unusedVariables false
set_option maxRecDepth 100000


def C89 (l1 : Slc) (w : World) (R : Value → World → Prop) : Prop :=
  Calls Tryd.prog 89 #[Slc.v l1] w fun e w' => ∃ r0 : Value, e = .returned r0 ∧ R r0 w'
theorem C89.mono {l1 : Slc} {w : World} {R R' : Value → World → Prop} (h : C89 l1 w R) (hr : ∀ r0 w', R r0 w' → R' r0 w') : C89 l1 w R' :=
  Calls.mono h fun _ _ ⟨r0, he, hR⟩ => ⟨r0, he, hr _ _ hR⟩

def S148_YL1 (l2 : Nat) (s5 : Int) (I7 : Int → World → Prop) (s45 : Slc) (R : World → Prop) (I49 : Int → World → Prop) (s47 : Int) (vw48 : World) : Prop :=
  Br (decide (s47 < ((s45.len : Nat) : Int))) (0 ≤ s47 ∧ s47 < (s45.len : Nat) ∧ Nn s45.p fun a50 =>
    Ld vw48 (a50.add ((s47).toNat * 2)) (Value.int .i64) fun (x51 : Int) =>
    Ld vw48 ((a50.add ((s47).toNat * 2)).add 1) (Value.int .i64) fun (x52 : Int) =>
    Nw vw48 (.cells #[.int .i64 0, .int .i64 0] 43) fun vw53 =>
    St vw53 (⟨vw48.heap.size, 0, none⟩ : Addr) (.int .i64 x51) fun vw54 =>
    St vw54 ((⟨vw48.heap.size, 0, none⟩ : Addr).add 1) (.int .i64 x52) fun vw55 =>
    Ld vw55 (⟨vw48.heap.size, 0, none⟩ : Addr) (Value.int .i64) fun (x56 : Int) =>
    Ld vw55 ((⟨vw48.heap.size, 0, none⟩ : Addr).add 1) (Value.int .i64) fun (x57 : Int) =>
    Yl Tryd.prog l2 #[.agg #[.int .i64 x56, .int .i64 x57]] vw55 fun (b58 : Bool) vw59 =>
      Br (!b58) (R vw59) (I49 (IntKind.i64.wrap (s47 + 1)) vw59)) (I7 (IntKind.i64.wrap (s5 + 1)) vw48)
def S148_YJ1 (l2 : Nat) (s5 : Int) (I7 : Int → World → Prop) (R : World → Prop) (s45 : Slc) (vw46 : World) : Prop :=
  Lp (σ := Int) (S148_YL1 l2 s5 I7 s45 R) 0 vw46
def S148_YL2 (l2 : Nat) (x4 : Slc) (R : World → Prop) (I7 : Int → World → Prop) (s5 : Int) (vw6 : World) : Prop :=
  Br (decide (s5 < ((x4.len : Nat) : Int))) (0 ≤ s5 ∧ s5 < (x4.len : Nat) ∧ Nn x4.p fun a8 =>
    Ld vw6 (a8.add ((s5).toNat * 7)) (Value.int .i64) fun (x9 : Int) =>
    Ld vw6 ((a8.add ((s5).toNat * 7)).add 1) (Value.int .i64) fun (x10 : Int) =>
    Ld vw6 ((a8.add ((s5).toNat * 7)).add 2) (Value.int .i64) fun (x11 : Int) =>
    Ld vw6 ((a8.add ((s5).toNat * 7)).add 3) (Value.int .i64) fun (x12 : Int) =>
    Ld vw6 ((a8.add ((s5).toNat * 7)).add 4) (Value.int .i64) fun (x13 : Int) =>
    Ld vw6 ((a8.add ((s5).toNat * 7)).add 5) (Value.int .i64) fun (x14 : Int) =>
    Ld vw6 ((a8.add ((s5).toNat * 7)).add 6) (Value.int .i64) fun (x15 : Int) =>
    Nw vw6 (.cells #[.int .i64 0, .int .i64 0, .int .i64 0, .int .i64 0, .int .i64 0, .int .i64 0, .int .i64 0] 67) fun vw16 =>
    St vw16 (⟨vw6.heap.size, 0, none⟩ : Addr) (.int .i64 x9) fun vw17 =>
    St vw17 ((⟨vw6.heap.size, 0, none⟩ : Addr).add 1) (.int .i64 x10) fun vw18 =>
    St vw18 ((⟨vw6.heap.size, 0, none⟩ : Addr).add 2) (.int .i64 x11) fun vw19 =>
    St vw19 ((⟨vw6.heap.size, 0, none⟩ : Addr).add 3) (.int .i64 x12) fun vw20 =>
    St vw20 ((⟨vw6.heap.size, 0, none⟩ : Addr).add 4) (.int .i64 x13) fun vw21 =>
    St vw21 ((⟨vw6.heap.size, 0, none⟩ : Addr).add 5) (.int .i64 x14) fun vw22 =>
    St vw22 ((⟨vw6.heap.size, 0, none⟩ : Addr).add 6) (.int .i64 x15) fun vw23 =>
    Join (S148_YJ1 l2 s5 I7 R) fun (vJ60 : Slc → World → Prop) =>
      Ld vw23 (⟨vw6.heap.size, 0, none⟩ : Addr) (Value.int .i64) fun (x61 : Int) =>
      Br (x61 == 1) (Br (x61 == 1) (Ld vw23 ((⟨vw6.heap.size, 0, none⟩ : Addr).add 5) (Value.int .i64) fun (x62 : Int) =>
          Ld vw23 (((⟨vw6.heap.size, 0, none⟩ : Addr).add 5).add 1) (Value.int .i64) fun (x63 : Int) =>
          Nw vw23 (.cells #[.int .i64 x62, .int .i64 x63] 43) fun vw64 =>
          vJ60 (⟨some ⟨vw23.heap.size, 0, none⟩, 1, 1⟩ : Slc) vw64) (Br (x61 == 3) (Ld vw23 ((⟨vw6.heap.size, 0, none⟩ : Addr).add 1) (Value.int .i64) fun (x65 : Int) =>
            Ld vw23 (((⟨vw6.heap.size, 0, none⟩ : Addr).add 1).add 1) (Value.int .i64) fun (x66 : Int) =>
            Ld vw23 ((⟨vw6.heap.size, 0, none⟩ : Addr).add 3) (Value.int .i64) fun (x67 : Int) =>
            Ld vw23 (((⟨vw6.heap.size, 0, none⟩ : Addr).add 3).add 1) (Value.int .i64) fun (x68 : Int) =>
            Ld vw23 ((⟨vw6.heap.size, 0, none⟩ : Addr).add 5) (Value.int .i64) fun (x69 : Int) =>
            Ld vw23 (((⟨vw6.heap.size, 0, none⟩ : Addr).add 5).add 1) (Value.int .i64) fun (x70 : Int) =>
            Nw vw23 (.cells #[.int .i64 x65, .int .i64 x66, .int .i64 x67, .int .i64 x68, .int .i64 x69, .int .i64 x70] 43) fun vw71 =>
            vJ60 (⟨some ⟨vw23.heap.size, 0, none⟩, 3, 3⟩ : Slc) vw71) (vJ60 (⟨none, 0, 0⟩ : Slc) vw23))) (Br (x61 == 2) (Ld vw23 ((⟨vw6.heap.size, 0, none⟩ : Addr).add 5) (Value.int .i64) fun (x72 : Int) =>
          Ld vw23 (((⟨vw6.heap.size, 0, none⟩ : Addr).add 5).add 1) (Value.int .i64) fun (x73 : Int) =>
          Nw vw23 (.cells #[.int .i64 x72, .int .i64 x73] 43) fun vw74 =>
          vJ60 (⟨some ⟨vw23.heap.size, 0, none⟩, 1, 1⟩ : Slc) vw74) (Br (x61 == 3) (Ld vw23 ((⟨vw6.heap.size, 0, none⟩ : Addr).add 1) (Value.int .i64) fun (x75 : Int) =>
            Ld vw23 (((⟨vw6.heap.size, 0, none⟩ : Addr).add 1).add 1) (Value.int .i64) fun (x76 : Int) =>
            Ld vw23 ((⟨vw6.heap.size, 0, none⟩ : Addr).add 3) (Value.int .i64) fun (x77 : Int) =>
            Ld vw23 (((⟨vw6.heap.size, 0, none⟩ : Addr).add 3).add 1) (Value.int .i64) fun (x78 : Int) =>
            Ld vw23 ((⟨vw6.heap.size, 0, none⟩ : Addr).add 5) (Value.int .i64) fun (x79 : Int) =>
            Ld vw23 (((⟨vw6.heap.size, 0, none⟩ : Addr).add 5).add 1) (Value.int .i64) fun (x80 : Int) =>
            Nw vw23 (.cells #[.int .i64 x75, .int .i64 x76, .int .i64 x77, .int .i64 x78, .int .i64 x79, .int .i64 x80] 43) fun vw81 =>
            vJ60 (⟨some ⟨vw23.heap.size, 0, none⟩, 3, 3⟩ : Slc) vw81) (vJ60 (⟨none, 0, 0⟩ : Slc) vw23)))) (R vw6)
/-- foliant/path.points$1 -/
def S148_Y (l2 : Nat) (c3 : Addr) (w : World) (R : World → Prop) : Prop :=
  Ld w c3 Slc.v fun (x4 : Slc) =>
  Lp (σ := Int) (S148_YL2 l2 x4 R) 0 w
def pl148_Y : Plan := (.seq (.reg .seq) (.block (.loop [(10, (.one (.int .i64)))] [0, 8, 9] (.seq (.reg .seq) (.seq (.cond .leaf .leaf) (.seq (.block (.seq (.reg .seq) (.seq (.reg .seq) (.join [(5, (.one .slc))] [0, 8, 9, 10] (.seq (.reg .seq) (.block (.seq (.seq (.reg .seq) (.cond .leaf (.reg .seq))) (.cond (.reg .seq) (.seq (.reg .seq) (.cond (.reg .seq) .leaf)))))) (.seq (.reg .seq) (.block (.loop [(33, (.one (.int .i64)))] [0, 8, 9, 10, 31, 32] (.seq (.reg .seq) (.seq (.cond .leaf .leaf) (.seq (.block (.seq (.reg .seq) (.seq (.reg .seq) (.cond .leaf .leaf)))) (.reg .seq))))))))))) (.reg .seq)))))))
set_option maxRecDepth 100000 in
theorem T148_Y (l2 : Nat) (c3 : Addr) (w : World) (R : World → Prop) (h : S148_Y l2 c3 w R) : CallsIn Fence.wide 0 Tryd.prog 148 #[.func (.yield l2) #[] #[], .pointer (some c3)] w fun e w' => e = .returned (.tuple #[]) ∧ R w' := by
  have e : fnY Tryd.prog ⟨FF, MAY, (fun _ _ => False)⟩ pl148_Y Tryd.f148 [.func (.yield l2) #[] #[], .pointer (some c3)] w [] (fun _ w => R w) = S148_Y l2 c3 w R := by kernel_rfl
  exact (fnY_calls okF Tryd.func148 (by kernel_rfl) (by kernel_rfl) (e.mpr h)).mono fun _ _ ⟨_, he, hR⟩ => ⟨he, hR⟩

/-- foliant/path.points -/
def S89 (l1 : Slc) (w : World) (R : Value → World → Prop) : Prop :=
  Nw w (.cells #[Slc.v l1] 64) fun vw2 =>
  R (.func (.func 148) #[] #[.pointer (some (⟨w.heap.size, 0, none⟩ : Addr))]) vw2
def pl89 : Plan := (.seq (.reg .seq) (.seq (.reg .seq) .leaf))
set_option maxRecDepth 100000 in
theorem T89 (l1 : Slc) (w : World) (R : Value → World → Prop) (h : S89 l1 w R) : C89 l1 w R := by
  have e : fnT Tryd.prog ⟨FF, MAY, (fun _ _ => False)⟩ pl89 Tryd.f89 [Slc.v l1] w [(.one .raw)] (fun s w => R s w) = S89 l1 w R := by kernel_rfl
  exact (fn_calls okF okM Tryd.func89 (by kernel_rfl) (by kernel_rfl) (e.mpr h)).mono fun _ _ ⟨s, he, hR⟩ => ⟨s, he, hR⟩

end Go.Proofs.YtjbeembbnkmpeaaDoor
