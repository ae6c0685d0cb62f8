/- The formulas of 2 functions of the program, written by program (gen.py); the kernel checks each. No condition. -/
import Derived.Test.YtodhdkbhmkinjaaDoorFn
import Derived.Test.YtodhdkbhmkinjaaDoorFnSs
import Derived.Test.YtodhdkbhmkinjaaDoorFnOl
import Derived.Test.YtodhdkbhmkinjaaDoorFnOk
namespace Go.Proofs.YtodhdkbhmkinjaaDoor
open Sh
set_option linter.unusedVariables false
set_option maxRecDepth 100000

def C14 (a1 : Slc) (b2 : Slc) (w : World) (R : Bool → World → Prop) : Prop :=
  Calls Tryd.prog 14 #[Slc.v a1, Slc.v b2] w fun e w' => ∃ r0 : Bool, e = .returned (.bool r0) ∧ R r0 w'
theorem C14.mono {a1 : Slc} {b2 : Slc} {w : World} {R R' : Bool → World → Prop} (h : C14 a1 b2 w R) (hr : ∀ r0 w', R r0 w' → R' r0 w') : C14 a1 b2 w R' :=
  Calls.mono h fun _ _ ⟨r0, he, hR⟩ => ⟨r0, he, hr _ _ hR⟩
def C13 (a1 : Slc) (b2 : Slc) (w : World) (R : Bool → World → Prop) : Prop :=
  Calls Tryd.prog 13 #[Slc.v a1, Slc.v b2] w fun e w' => ∃ r0 : Bool, e = .returned (.bool r0) ∧ R r0 w'
theorem C13.mono {a1 : Slc} {b2 : Slc} {w : World} {R R' : Bool → World → Prop} (h : C13 a1 b2 w R) (hr : ∀ r0 w', R r0 w' → R' r0 w') : C13 a1 b2 w R' :=
  Calls.mono h fun _ _ ⟨r0, he, hR⟩ => ⟨r0, he, hr _ _ hR⟩

def S14L1 (a1 : Slc) (b2 : Slc) (R : Bool → World → Prop) (I5 : Int → World → Prop) (s3 : Int) (vw4 : World) : Prop :=
  Br (decide (s3 < ((a1.len : Nat) : Int))) (0 ≤ s3 ∧ s3 < (a1.len : Nat) ∧ Nn a1.p fun a6 =>
    LdT vw4.drew (a6.add ((s3).toNat * 5)) 0 LiA43 fun (x7 : TyA43) =>
    0 ≤ s3 ∧ s3 < (b2.len : Nat) ∧ Nn b2.p fun a8 =>
    LdT vw4.drew (a8.add ((s3).toNat * 5)) 0 LiA43 fun (x9 : TyA43) =>
    Lt (!((x7.1.toList == x9.1.toList) && (((x7.2.1 == x9.2.1) && ((x7.2.2.1 == x9.2.2.1) && ((x7.2.2.2.1 == x9.2.2.2.1) && ((x7.2.2.2.2 == x9.2.2.2.2) && true)))) && true))) fun (x10 : Bool) =>
    Br x10 (R false vw4.drew) (I5 (IntKind.i64.wrap (s3 + 1)) vw4.drew)) (R true vw4)
/-- foliant/foliantref50.List -/
def S14 (a1 : Slc) (b2 : Slc) (w : World) (R : Bool → World → Prop) : Prop :=
  Br (((a1.len : Nat) : Int) != ((b2.len : Nat) : Int)) (R false w) (Lp (σ := Int) (S14L1 a1 b2 R) 0 w)
def pl14 : Plan := (.seq (.reg .seq) (.seq (.seq (.reg .seq) (.cond (.seq (.reg .seq) .leaf) .leaf)) (.seq (.seq (.reg .seq) (.block (.loop [(5, (.one (.int .i64)))] [0, 1] (.seq (.seq (.reg .seq) (.cond .leaf .leaf)) (.seq (.block (.seq (.reg .still) (.cond (.seq (.reg .seq) .leaf) .leaf))) (.reg .seq)))))) (.seq (.reg .seq) .leaf))))
set_option maxRecDepth 100000 in
theorem T14 (a1 : Slc) (b2 : Slc) (w : World) (R : Bool → World → Prop) (h : S14 a1 b2 w R) : C14 a1 b2 w R := by
  have e : fnT Tryd.prog ⟨FF, MAY, (fun _ _ => False)⟩ pl14 Tryd.f14 [Slc.v a1, Slc.v b2] w [(.one .bool)] (fun s w => R s w) = S14 a1 b2 w R := by kernel_rfl
  exact (fn_calls okF okM Tryd.func14 (by kernel_rfl) (by kernel_rfl) (e.mpr h)).mono fun _ _ ⟨s, he, hR⟩ => ⟨s, he, hR⟩

def S13L1 (a1 : Slc) (b2 : Slc) (R : Bool → World → Prop) (I5 : Int → World → Prop) (s3 : Int) (vw4 : World) : Prop :=
  Br (decide (s3 < ((a1.len : Nat) : Int))) (0 ≤ s3 ∧ s3 < (a1.len : Nat) ∧ Nn a1.p fun a6 =>
    Ld vw4.drew ((a6.add ((s3).toNat * 5)).add 1) (Value.int .i64) fun (x7 : Int) =>
    Ld vw4.drew (((a6.add ((s3).toNat * 5)).add 1).add 1) (Value.int .i64) fun (x8 : Int) =>
    Ld vw4.drew (((a6.add ((s3).toNat * 5)).add 1).add 2) (Value.int .i64) fun (x9 : Int) =>
    Ld vw4.drew (((a6.add ((s3).toNat * 5)).add 1).add 3) (Value.int .i64) fun (x10 : Int) =>
    0 ≤ s3 ∧ s3 < (b2.len : Nat) ∧ Nn b2.p fun a11 =>
    Ld vw4.drew ((a11.add ((s3).toNat * 5)).add 1) (Value.int .i64) fun (x12 : Int) =>
    Ld vw4.drew (((a11.add ((s3).toNat * 5)).add 1).add 1) (Value.int .i64) fun (x13 : Int) =>
    Ld vw4.drew (((a11.add ((s3).toNat * 5)).add 1).add 2) (Value.int .i64) fun (x14 : Int) =>
    Ld vw4.drew (((a11.add ((s3).toNat * 5)).add 1).add 3) (Value.int .i64) fun (x15 : Int) =>
    Br (!((x7 == x12) && ((x8 == x13) && ((x9 == x14) && ((x10 == x15) && true))))) (R false vw4.drew) (0 ≤ s3 ∧ s3 < (a1.len : Nat) ∧ Nn a1.p fun a16 =>
      Ld vw4.drew (a16.add ((s3).toNat * 5)) Slc.v fun (x17 : Slc) =>
      0 ≤ s3 ∧ s3 < (b2.len : Nat) ∧ Nn b2.p fun a18 =>
      Ld vw4.drew (a18.add ((s3).toNat * 5)) Slc.v fun (x19 : Slc) =>
      C14 x17 x19 vw4.drew fun r20 vw21 =>
        Br (!r20) (R false vw21) (I5 (IntKind.i64.wrap (s3 + 1)) vw21))) (R true vw4)
/-- foliant/foliantref50.Same -/
def S13 (a1 : Slc) (b2 : Slc) (w : World) (R : Bool → World → Prop) : Prop :=
  Br (((a1.len : Nat) : Int) != ((b2.len : Nat) : Int)) (R false w) (Lp (σ := Int) (S13L1 a1 b2 R) 0 w)
def pl13 : Plan := (.seq (.reg .seq) (.seq (.seq (.reg .seq) (.cond (.seq (.reg .seq) .leaf) .leaf)) (.seq (.seq (.reg .seq) (.block (.loop [(5, (.one (.int .i64)))] [0, 1] (.seq (.seq (.reg .seq) (.cond .leaf .leaf)) (.seq (.block (.seq (.reg (.tail 22)) (.cond (.seq (.reg .seq) .leaf) .leaf))) (.reg .seq)))))) (.seq (.reg .seq) .leaf))))
set_option maxRecDepth 100000 in
theorem T13 (a1 : Slc) (b2 : Slc) (w : World) (R : Bool → World → Prop) (h : S13 a1 b2 w R) : C13 a1 b2 w R := by
  have e : fnT Tryd.prog ⟨FF, MAY, (fun _ _ => False)⟩ pl13 Tryd.f13 [Slc.v a1, Slc.v b2] w [(.one .bool)] (fun s w => R s w) = S13 a1 b2 w R := by kernel_rfl
  exact (fn_calls okF okM Tryd.func13 (by kernel_rfl) (by kernel_rfl) (e.mpr h)).mono fun _ _ ⟨s, he, hR⟩ => ⟨s, he, hR⟩

end Go.Proofs.YtodhdkbhmkinjaaDoor
