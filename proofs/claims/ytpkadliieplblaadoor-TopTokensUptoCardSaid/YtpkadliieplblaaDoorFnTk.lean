/- The formulas of 1 functions of the program, written by program (gen.py); the kernel checks each. No condition. -/
import Derived.Test.YtpkadliieplblaaDoorFn
import Derived.Test.YtpkadliieplblaaDoorFnFix
import Derived.Test.YtpkadliieplblaaDoorFnOct
import Derived.Test.YtpkadliieplblaaDoorFnLex
import Derived.Test.YtpkadliieplblaaDoorFnTkY
import Derived.Test.YtpkadliieplblaaDoorFnAll
namespace Go.Proofs.YtpkadliieplblaaDoor
open Sh
set_option linter.unusedVariables false
set_option maxRecDepth 100000

def C3 (units1 : Int) (remark2 : ByteArray) (w : World) (R : Bool → World → Prop) : Prop :=
  Calls Tryd.prog 3 #[.int .i64 units1, .string remark2] w fun e w' => ∃ r0 : Bool, e = .returned (.bool r0) ∧ R r0 w'
theorem C3.mono {units1 : Int} {remark2 : ByteArray} {w : World} {R R' : Bool → World → Prop} (h : C3 units1 remark2 w R) (hr : ∀ r0 w', R r0 w' → R' r0 w') : C3 units1 remark2 w R' :=
  Calls.mono h fun _ _ ⟨r0, he, hR⟩ => ⟨r0, he, hr _ _ hR⟩

def S3L1 (units1 : Int) (remark2 : ByteArray) (R : Bool → World → Prop) (I10 : Int → World → Prop) (s8 : Int) (vw9 : World) : Prop :=
  Br (decide (s8 < (((remark2).size : Nat) : Int))) (0 ≤ s8 ∧ s8 < ((remark2).size : Nat) ∧ Br ((bAt remark2 s8) == 13) (R true vw9) (0 ≤ s8 ∧ s8 < ((remark2).size : Nat) ∧ Br ((bAt remark2 s8) == 10) (R true vw9) (I10 (IntKind.i64.wrap (s8 + 1)) vw9))) (C6 units1 vw9 fun r11 r12 vw13 =>
      Br (r12 != 0) (R true vw13) ((((r11).size + ((⟨#[32]⟩ : ByteArray)).size : Nat) : Int) ≤ IntKind.i64.max ∧ (((r11 ++ (⟨#[32]⟩ : ByteArray)).size + (r11).size : Nat) : Int) ≤ IntKind.i64.max ∧ C7 ((r11 ++ (⟨#[32]⟩ : ByteArray)) ++ r11) vw13 fun r14 r15 vw16 =>
          Nw vw16 (.cells #[.int .i64 0, .int .i64 0] 28) fun vw17 =>
          St vw17 (⟨vw16.heap.size, 0, none⟩ : Addr) (.int .i64 (r15.1)) fun vw18 =>
          St vw18 ((⟨vw16.heap.size, 0, none⟩ : Addr).add 1) (.int .i64 (r15.2)) fun vw19 =>
          (((r11).size + ((⟨#[37]⟩ : ByteArray)).size : Nat) : Int) ≤ IntKind.i64.max ∧ (((r11 ++ (⟨#[37]⟩ : ByteArray)).size + (remark2).size : Nat) : Int) ≤ IntKind.i64.max ∧ ((((r11 ++ (⟨#[37]⟩ : ByteArray)) ++ remark2).size + ((⟨#[10]⟩ : ByteArray)).size : Nat) : Int) ≤ IntKind.i64.max ∧ (((((r11 ++ (⟨#[37]⟩ : ByteArray)) ++ remark2) ++ (⟨#[10]⟩ : ByteArray)).size + (r11).size : Nat) : Int) ≤ IntKind.i64.max ∧ ((((((r11 ++ (⟨#[37]⟩ : ByteArray)) ++ remark2) ++ (⟨#[10]⟩ : ByteArray)) ++ r11).size + ((⟨#[37]⟩ : ByteArray)).size : Nat) : Int) ≤ IntKind.i64.max ∧ Lt (((((r11 ++ (⟨#[37]⟩ : ByteArray)) ++ remark2) ++ (⟨#[10]⟩ : ByteArray)) ++ r11) ++ (⟨#[37]⟩ : ByteArray)) fun (x20 : ByteArray) =>
          (((x20).size + (remark2).size : Nat) : Int) ≤ IntKind.i64.max ∧ C7 (x20 ++ remark2) vw19 fun r21 r22 vw23 =>
            Nw vw23 (.cells #[.int .i64 0, .int .i64 0] 28) fun vw24 =>
            St vw24 (⟨vw23.heap.size, 0, none⟩ : Addr) (.int .i64 (r22.1)) fun vw25 =>
            St vw25 ((⟨vw23.heap.size, 0, none⟩ : Addr).add 1) (.int .i64 (r22.2)) fun vw26 =>
            Ld vw26.drew ((⟨vw16.heap.size, 0, none⟩ : Addr).add 1) (Value.int .i64) fun (x27 : Int) =>
            Br (x27 == 0) (Ld vw26.drew ((⟨vw23.heap.size, 0, none⟩ : Addr).add 1) (Value.int .i64) fun (x28 : Int) =>
              Br (x28 == 0) (Br (((r14.len : Nat) : Int) == 2) (Br (((r21.len : Nat) : Int) == 2) (0 ≤ (0 : Int) ∧ (0 : Int) < (r14.len : Nat) ∧ Nn r14.p fun a29 =>
                    Ld vw26.drew ((a29.add (((0 : Int)).toNat * 5)).add 3) (Value.int .i64) fun (x30 : Int) =>
                    0 ≤ (0 : Int) ∧ (0 : Int) < (r21.len : Nat) ∧ Nn r21.p fun a31 =>
                    Ld vw26.drew ((a31.add (((0 : Int)).toNat * 5)).add 3) (Value.int .i64) fun (x32 : Int) =>
                    Br (x30 == x32) (0 ≤ (1 : Int) ∧ (1 : Int) < (r14.len : Nat) ∧ Nn r14.p fun a33 =>
                      Ld vw26.drew ((a33.add (((1 : Int)).toNat * 5)).add 3) (Value.int .i64) fun (x34 : Int) =>
                      0 ≤ (1 : Int) ∧ (1 : Int) < (r21.len : Nat) ∧ Nn r21.p fun a35 =>
                      Ld vw26.drew ((a35.add (((1 : Int)).toNat * 5)).add 3) (Value.int .i64) fun (x36 : Int) =>
                      Br (x34 == x36) (0 ≤ (0 : Int) ∧ (0 : Int) < (r21.len : Nat) ∧ Nn r21.p fun a37 =>
                        Ld vw26.drew ((a37.add (((0 : Int)).toNat * 5)).add 3) (Value.int .i64) fun (x38 : Int) =>
                        Br (x38 == units1) (0 ≤ (1 : Int) ∧ (1 : Int) < (r21.len : Nat) ∧ Nn r21.p fun a39 =>
                          Ld vw26.drew ((a39.add (((1 : Int)).toNat * 5)).add 1) (Value.int .i64) fun (x40 : Int) =>
                          Lt (IntKind.i64.wrap ((IntKind.i64.wrap ((((r11).size : Nat) : Int) + (((remark2).size : Nat) : Int))) + 2)) fun (x41 : Int) =>
                          R (x40 == x41) vw26.drew) (R false vw26.drew)) (R false vw26.drew)) (R false vw26.drew)) (R false vw26.drew)) (R false vw26.drew)) (R false vw26.drew)) (R false vw26.drew)))
/-- foliant/folianttop.TopRemarks -/
def S3 (units1 : Int) (remark2 : ByteArray) (w : World) (R : Bool → World → Prop) : Prop :=
  C5 5 w fun r3 vw4 =>
    Br (!(r3.toList == (⟨#[48, 46, 48, 48, 48, 53]⟩ : ByteArray).toList)) (R false vw4) (Br (decide ((((remark2).size : Nat) : Int) > 300)) (R true vw4) (Lp (σ := Int) (S3L1 units1 remark2 R) 0 vw4))
def pl3 : Plan := (.seq (.reg .seq) (.seq (.reg .seq) (.seq (.seq (.reg .seq) (.cond (.seq (.reg .seq) .leaf) .leaf)) (.seq (.seq (.reg .seq) (.cond (.seq (.reg .seq) .leaf) .leaf)) (.seq (.seq (.reg .seq) (.block (.loop [(6, (.one (.int .i64)))] [0, 1] (.seq (.seq (.reg .seq) (.cond .leaf .leaf)) (.seq (.block (.seq (.reg .seq) (.cond (.seq (.reg .seq) .leaf) .leaf))) (.reg .seq)))))) (.seq (.reg .seq) (.seq (.seq (.reg .seq) (.cond (.seq (.reg .seq) .leaf) .leaf)) (.seq (.reg .seq) (.seq (.reg .seq) (.seq (.reg .still) .leaf))))))))))
set_option maxRecDepth 100000 in
theorem T3 (units1 : Int) (remark2 : ByteArray) (w : World) (R : Bool → World → Prop) (h : S3 units1 remark2 w R) : C3 units1 remark2 w R := by
  have e : fnT Tryd.prog ⟨FF, MAY, (fun _ _ => False)⟩ pl3 Tryd.f3 [.int .i64 units1, .string remark2] w [(.one .bool)] (fun s w => R s w) = S3 units1 remark2 w R := by kernel_rfl
  exact (fn_calls okF okM Tryd.func3 (by kernel_rfl) (by kernel_rfl) (e.mpr h)).mono fun _ _ ⟨s, he, hR⟩ => ⟨s, he, hR⟩

end Go.Proofs.YtpkadliieplblaaDoor
