/- The formulas of 2 functions of the program, written by program (gen.py); the kernel checks each. No condition. -/
import Derived.Test.YtodhdkbhmkinjaaDoorFn
import Derived.Test.YtodhdkbhmkinjaaDoorFnSs
import Derived.Test.YtodhdkbhmkinjaaDoorFnOl
import Derived.Test.YtodhdkbhmkinjaaDoorFnOk
import Derived.Test.YtodhdkbhmkinjaaDoorFnOr
namespace Go.Proofs.YtodhdkbhmkinjaaDoor
open Sh
set_option linter.unusedVariables false
set_option maxRecDepth 100000

def C18 (l1 : Slc) (w : World) (R : ByteArray → World → Prop) : Prop :=
  Calls Tryd.prog 18 #[Slc.v l1] w fun e w' => ∃ r0 : ByteArray, e = .returned (.string r0) ∧ R r0 w'
theorem C18.mono {l1 : Slc} {w : World} {R R' : ByteArray → World → Prop} (h : C18 l1 w R) (hr : ∀ r0 w', R r0 w' → R' r0 w') : C18 l1 w R' :=
  Calls.mono h fun _ _ ⟨r0, he, hR⟩ => ⟨r0, he, hr _ _ hR⟩
def C4 (a1 : Slc) (b2 : Slc) (w : World) (R : Bool → World → Prop) : Prop :=
  Calls Tryd.prog 4 #[Slc.v a1, Slc.v b2] w fun e w' => ∃ r0 : Bool, e = .returned (.bool r0) ∧ R r0 w'
theorem C4.mono {a1 : Slc} {b2 : Slc} {w : World} {R R' : Bool → World → Prop} (h : C4 a1 b2 w R) (hr : ∀ r0 w', R r0 w' → R' r0 w') : C4 a1 b2 w R' :=
  Calls.mono h fun _ _ ⟨r0, he, hR⟩ => ⟨r0, he, hr _ _ hR⟩

def S18L1 (l1 : Slc) (s2 : ByteArray × Int) (I4 : (ByteArray × Int) → World → Prop) (I7 : (ByteArray × Int) → World → Prop) (s5 : ByteArray × Int) (vw6 : World) : Prop :=
  0 ≤ s2.2 ∧ s2.2 < (l1.len : Nat) ∧ Nn l1.p fun a10 =>
  Ld vw6 (a10.add ((s2.2).toNat * 5)) Slc.v fun (x11 : Slc) =>
  Br (decide (s5.2 < ((x11.len : Nat) : Int))) (Br (decide (s5.2 > 0)) ((((s5.1).size + ((⟨#[32]⟩ : ByteArray)).size : Nat) : Int) ≤ IntKind.i64.max ∧ 0 ≤ s2.2 ∧ s2.2 < (l1.len : Nat) ∧ Nn l1.p fun a12 =>
      Ld vw6 (a12.add ((s2.2).toNat * 5)) Slc.v fun (x13 : Slc) =>
      0 ≤ s5.2 ∧ s5.2 < (x13.len : Nat) ∧ Nn x13.p fun a14 =>
      Ld vw6 (a14.add ((s5.2).toNat * 5)) Value.string fun (x15 : ByteArray) =>
      (((s5.1 ++ (⟨#[32]⟩ : ByteArray)).size + (x15).size : Nat) : Int) ≤ IntKind.i64.max ∧ I7 ((s5.1 ++ (⟨#[32]⟩ : ByteArray)) ++ x15, IntKind.i64.wrap (s5.2 + 1)) vw6) (0 ≤ s2.2 ∧ s2.2 < (l1.len : Nat) ∧ Nn l1.p fun a16 =>
      Ld vw6 (a16.add ((s2.2).toNat * 5)) Slc.v fun (x17 : Slc) =>
      0 ≤ s5.2 ∧ s5.2 < (x17.len : Nat) ∧ Nn x17.p fun a18 =>
      Ld vw6 (a18.add ((s5.2).toNat * 5)) Value.string fun (x19 : ByteArray) =>
      (((s5.1).size + (x19).size : Nat) : Int) ≤ IntKind.i64.max ∧ I7 (s5.1 ++ x19, IntKind.i64.wrap (s5.2 + 1)) vw6)) ((((s5.1).size + ((⟨#[10]⟩ : ByteArray)).size : Nat) : Int) ≤ IntKind.i64.max ∧ I4 (s5.1 ++ (⟨#[10]⟩ : ByteArray), IntKind.i64.wrap (s2.2 + 1)) vw6)
def S18L2 (l1 : Slc) (R : ByteArray → World → Prop) (I4 : (ByteArray × Int) → World → Prop) (s2 : ByteArray × Int) (vw3 : World) : Prop :=
  Br (decide (s2.2 < ((l1.len : Nat) : Int))) (Lp (σ := ByteArray × Int) (S18L1 l1 s2 I4) (s2.1, 0) vw3) (R s2.1 vw3)
/-- foliant/foliantref50.Text -/
def S18 (l1 : Slc) (w : World) (R : ByteArray → World → Prop) : Prop :=
  Lp (σ := ByteArray × Int) (S18L2 l1 R) ((⟨#[]⟩ : ByteArray), 0) w
def pl18 : Plan := (.seq (.reg .seq) (.seq (.reg .seq) (.seq (.seq (.reg .seq) (.block (.loop [(3, (.one .str)), (4, (.one (.int .i64)))] [0] (.seq (.seq (.reg .seq) (.cond .leaf .leaf)) (.seq (.block (.seq (.seq (.reg .seq) (.block (.loop [(3, (.one .str)), (5, (.one (.int .i64)))] [0, 4] (.seq (.seq (.reg .seq) (.cond .leaf .leaf)) (.seq (.block (.seq (.seq (.reg .seq) (.cond (.reg .seq) .leaf)) (.reg .seq))) (.reg .seq)))))) (.reg .seq))) (.reg .seq)))))) (.seq (.reg .seq) .leaf))))
set_option maxRecDepth 100000 in
theorem T18 (l1 : Slc) (w : World) (R : ByteArray → World → Prop) (h : S18 l1 w R) : C18 l1 w R := by
  have e : fnT Tryd.prog ⟨FF, MAY, (fun _ _ => False)⟩ pl18 Tryd.f18 [Slc.v l1] w [(.one .str)] (fun s w => R s w) = S18 l1 w R := by kernel_rfl
  exact (fn_calls okF okM Tryd.func18 (by kernel_rfl) (by kernel_rfl) (e.mpr h)).mono fun _ _ ⟨s, he, hR⟩ => ⟨s, he, hR⟩

def S4L1 (a1 : Slc) (b2 : Slc) (R : Bool → World → Prop) (I20 : Int → World → Prop) (s18 : Int) (vw19 : World) : Prop :=
  Br (decide (s18 < ((a1.len : Nat) : Int))) (0 ≤ s18 ∧ s18 < (a1.len : Nat) ∧ Nn a1.p fun a21 =>
    Ld vw19 (a21.add ((s18).toNat * 5)) Slc.v fun (x22 : Slc) =>
    Br (decide (((x22.len : Nat) : Int) > 40)) (C8 vw19 fun r23 vw24 =>
        R r23 vw24) (I20 (IntKind.i64.wrap (s18 + 1)) vw19)) (C17 a1 vw19 fun r25 vw26 =>
      C18 a1 vw26 fun r27 vw28 =>
        Br (r25.toList == r27.toList) (C19 a1 b2 vw28 fun r29 vw30 =>
            C13 a1 b2 vw30 fun r31 vw32 =>
              Br (r29 == r31) (C19 a1 a1 vw32 fun r33 vw34 =>
                  Br r33 (C8 vw34 fun r35 vw36 =>
                      R r35 vw36) (R false vw34)) (R false vw32)) (R false vw28))
/-- foliant/foliantlaw50.OrderLines -/
def S4 (a1 : Slc) (b2 : Slc) (w : World) (R : Bool → World → Prop) : Prop :=
  Br (decide (((a1.len : Nat) : Int) > 40)) (C8 w fun r7 vw8 =>
      R r7 vw8) (Br (decide (((b2.len : Nat) : Int) > 40)) (C8 w fun r9 vw10 =>
        R r9 vw10) (Lp (σ := Int) (S4L1 a1 b2 R) 0 w))
def pl4 : Plan := (.seq (.reg .seq) (.seq (.seq (.reg .seq) (.cond (.seq (.reg .seq) .leaf) .leaf)) (.seq (.seq (.reg .seq) (.block (.loop [(5, (.one (.int .i64)))] [0, 1] (.seq (.seq (.reg .seq) (.cond .leaf .leaf)) (.seq (.block (.seq (.reg .seq) (.cond (.seq (.reg .seq) .leaf) .leaf))) (.reg .seq)))))) (.seq (.reg .seq) .leaf))))
set_option maxRecDepth 100000 in
theorem T4 (a1 : Slc) (b2 : Slc) (w : World) (R : Bool → World → Prop) (h : S4 a1 b2 w R) : C4 a1 b2 w R := by
  have e : fnT Tryd.prog ⟨FF, MAY, (fun _ _ => False)⟩ pl4 Tryd.f4 [Slc.v a1, Slc.v b2] w [(.one .bool)] (fun s w => R s w) = S4 a1 b2 w R := by kernel_rfl
  exact (fn_calls okF okM Tryd.func4 (by kernel_rfl) (by kernel_rfl) (e.mpr h)).mono fun _ _ ⟨s, he, hR⟩ => ⟨s, he, hR⟩

end Go.Proofs.YtodhdkbhmkinjaaDoor
