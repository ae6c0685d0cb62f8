/- The formulas of 5 functions of the program, written by program (gen.py); the kernel checks each. No condition. -/
import Derived.Test.YtjbeembbnkmpeaaDoorQPDoes2
import Derived.Test.YtjbeembbnkmpeaaDoorQPDoes3
import Derived.Test.YtjbeembbnkmpeaaDoorQPDoes4
import Derived.Test.YtjbeembbnkmpeaaDoorQPDoes5
import Derived.Test.YtjbeembbnkmpeaaDoorQPDoes7
import Derived.Test.YtjbeembbnkmpeaaDoorQPDoes6
import Derived.Test.YtjbeembbnkmpeaaDoorRows
import Derived.WalkKit
import Derived.ProofKit
import Derived.OpenShut
import Derived.Deep.DeepHandedRow
import Derived.Lib.LaidTab
import Derived.LaidMore
import Derived.ChangeSame
import Derived.StringKeys
import Derived.WideKeyElems2
import Derived.Laws.IdiomMaps
namespace Go.Proofs.YtjbeembbnkmpeaaDoor
open Sh
set_option linter.unusedVariables false
set_option maxRecDepth 100000

def C33 (l1 : Slc) (w : World) (R : Bool → World → Prop) : Prop :=
  Calls Tryd.prog 33 #[Slc.v l1] w fun e w' => ∃ r0 : Bool, e = .returned (.bool r0) ∧ R r0 w'
theorem C33.mono {l1 : Slc} {w : World} {R R' : Bool → World → Prop} (h : C33 l1 w R) (hr : ∀ r0 w', R r0 w' → R' r0 w') : C33 l1 w R' :=
  Calls.mono h fun _ _ ⟨r0, he, hR⟩ => ⟨r0, he, hr _ _ hR⟩
def C42 (name1 : ByteArray) (nums2 : Slc) (w : World) (R : (ByteArray × Slc × ByteArray) → World → Prop) : Prop :=
  Calls Tryd.prog 42 #[.string name1, Slc.v nums2] w fun e w' => ∃ r0 : ByteArray × Slc × ByteArray, e = .returned (.agg #[.string r0.1, Slc.v r0.2.1, .string r0.2.2]) ∧ R r0 w'
theorem C42.mono {name1 : ByteArray} {nums2 : Slc} {w : World} {R R' : (ByteArray × Slc × ByteArray) → World → Prop} (h : C42 name1 nums2 w R) (hr : ∀ r0 w', R r0 w' → R' r0 w') : C42 name1 nums2 w R' :=
  Calls.mono h fun _ _ ⟨r0, he, hR⟩ => ⟨r0, he, hr _ _ hR⟩
def C34 (w : World) (R : Bool → World → Prop) : Prop :=
  Calls Tryd.prog 34 #[] w fun e w' => ∃ r0 : Bool, e = .returned (.bool r0) ∧ R r0 w'
theorem C34.mono {w : World} {R R' : Bool → World → Prop} (h : C34 w R) (hr : ∀ r0 w', R r0 w' → R' r0 w') : C34 w R' :=
  Calls.mono h fun _ _ ⟨r0, he, hR⟩ => ⟨r0, he, hr _ _ hR⟩
def C41 (l1 : Slc) (m2 : Int × Int × Int × Int × Int × Int) (w : World) (R : Option Addr → Bool → World → Prop) : Prop :=
  Calls Tryd.prog 41 #[Slc.v l1, .agg #[.int .i64 (m2.1), .int .i64 (m2.2.1), .int .i64 (m2.2.2.1), .int .i64 (m2.2.2.2.1), .int .i64 (m2.2.2.2.2.1), .int .i64 (m2.2.2.2.2.2)]] w fun e w' => ∃ r0 : Option Addr, ∃ r1 : Bool, e = .returned (.tuple #[.pointer r0, .bool r1]) ∧ R r0 r1 w'
theorem C41.mono {l1 : Slc} {m2 : Int × Int × Int × Int × Int × Int} {w : World} {R R' : Option Addr → Bool → World → Prop} (h : C41 l1 m2 w R) (hr : ∀ r0 r1 w', R r0 r1 w' → R' r0 r1 w') : C41 l1 m2 w R' :=
  Calls.mono h fun _ _ ⟨r0, r1, he, hR⟩ => ⟨r0, r1, he, hr _ _ _ hR⟩
def C7 (l1 : Slc) (m2 : Int × Int × Int × Int × Int × Int) (w : World) (R : Bool → World → Prop) : Prop :=
  Calls Tryd.prog 7 #[Slc.v l1, .agg #[.int .i64 (m2.1), .int .i64 (m2.2.1), .int .i64 (m2.2.2.1), .int .i64 (m2.2.2.2.1), .int .i64 (m2.2.2.2.2.1), .int .i64 (m2.2.2.2.2.2)]] w fun e w' => ∃ r0 : Bool, e = .returned (.bool r0) ∧ R r0 w'
theorem C7.mono {l1 : Slc} {m2 : Int × Int × Int × Int × Int × Int} {w : World} {R R' : Bool → World → Prop} (h : C7 l1 m2 w R) (hr : ∀ r0 w', R r0 w' → R' r0 w') : C7 l1 m2 w R' :=
  Calls.mono h fun _ _ ⟨r0, he, hR⟩ => ⟨r0, he, hr _ _ hR⟩

def S33L1 (s2 : Int) (I4 : Int → World → Prop) (x13 : Slc) (R : Bool → World → Prop) (I16 : Int → World → Prop) (s14 : Int) (vw15 : World) : Prop :=
  Br (decide (s14 < ((x13.len : Nat) : Int))) (0 ≤ s14 ∧ s14 < (x13.len : Nat) ∧ Nn x13.p fun a17 =>
    Ld vw15 (a17.add ((s14).toNat * 6)) (Value.int .i64) fun (x18 : Int) =>
    Ld vw15 ((a17.add ((s14).toNat * 6)).add 1) (Value.int .i64) fun (x19 : Int) =>
    Ld vw15 ((a17.add ((s14).toNat * 6)).add 2) (Value.int .i64) fun (x20 : Int) =>
    Ld vw15 ((a17.add ((s14).toNat * 6)).add 3) Value.string fun (x21 : ByteArray) =>
    Ld vw15 ((a17.add ((s14).toNat * 6)).add 4) Slc.v fun (x22 : Slc) =>
    Ld vw15 ((a17.add ((s14).toNat * 6)).add 5) Slc.v fun (x23 : Slc) =>
    Nw vw15 (.cells #[.int .i64 0, .int .i64 0, .int .i64 0, .string ((⟨#[]⟩ : ByteArray)), Slc.v ((⟨none, 0, 0⟩ : Slc)), Slc.v ((⟨none, 0, 0⟩ : Slc))] 81) fun vw24 =>
    St vw24 (⟨vw15.heap.size, 0, none⟩ : Addr) (.int .i64 x18) fun vw25 =>
    St vw25 ((⟨vw15.heap.size, 0, none⟩ : Addr).add 1) (.int .i64 x19) fun vw26 =>
    St vw26 ((⟨vw15.heap.size, 0, none⟩ : Addr).add 2) (.int .i64 x20) fun vw27 =>
    St vw27 ((⟨vw15.heap.size, 0, none⟩ : Addr).add 3) (.string x21) fun vw28 =>
    St vw28 ((⟨vw15.heap.size, 0, none⟩ : Addr).add 4) (Slc.v x22) fun vw29 =>
    St vw29 ((⟨vw15.heap.size, 0, none⟩ : Addr).add 5) (Slc.v x23) fun vw30 =>
    Ld vw30 (⟨vw15.heap.size, 0, none⟩ : Addr) (Value.int .i64) fun (x31 : Int) =>
    Ld vw30 ((⟨vw15.heap.size, 0, none⟩ : Addr).add 1) (Value.int .i64) fun (x32 : Int) =>
    Ld vw30 ((⟨vw15.heap.size, 0, none⟩ : Addr).add 2) (Value.int .i64) fun (x33 : Int) =>
    Ld vw30 ((⟨vw15.heap.size, 0, none⟩ : Addr).add 3) Value.string fun (x34 : ByteArray) =>
    Ld vw30 ((⟨vw15.heap.size, 0, none⟩ : Addr).add 4) Slc.v fun (x35 : Slc) =>
    Ld vw30 ((⟨vw15.heap.size, 0, none⟩ : Addr).add 5) Slc.v fun (x36 : Slc) =>
    C95 (x31, x32, x33, x34, x35, x36) vw30 fun r37 vw38 =>
      Br (decide (r37 > 40)) (R false vw38) (I16 (IntKind.i64.wrap (s14 + 1)) vw38)) (I4 (IntKind.i64.wrap (s2 + 1)) vw15)
def S33L2 (l1 : Slc) (R : Bool → World → Prop) (I4 : Int → World → Prop) (s2 : Int) (vw3 : World) : Prop :=
  Br (decide (s2 < ((l1.len : Nat) : Int))) (0 ≤ s2 ∧ s2 < (l1.len : Nat) ∧ Nn l1.p fun a5 =>
    Ld vw3 (a5.add ((s2).toNat * 3)) Value.string fun (x6 : ByteArray) =>
    Ld vw3 ((a5.add ((s2).toNat * 3)).add 1) Slc.v fun (x7 : Slc) =>
    Ld vw3 ((a5.add ((s2).toNat * 3)).add 2) Value.string fun (x8 : ByteArray) =>
    Nw vw3 (.cells #[.string ((⟨#[]⟩ : ByteArray)), Slc.v ((⟨none, 0, 0⟩ : Slc)), .string ((⟨#[]⟩ : ByteArray))] 63) fun vw9 =>
    St vw9 (⟨vw3.heap.size, 0, none⟩ : Addr) (.string x6) fun vw10 =>
    St vw10 ((⟨vw3.heap.size, 0, none⟩ : Addr).add 1) (Slc.v x7) fun vw11 =>
    St vw11 ((⟨vw3.heap.size, 0, none⟩ : Addr).add 2) (.string x8) fun vw12 =>
    Ld vw12 ((⟨vw3.heap.size, 0, none⟩ : Addr).add 1) Slc.v fun (x13 : Slc) =>
    Lp (σ := Int) (S33L1 s2 I4 x13 R) 0 vw12) (R true vw3)
/-- foliant/foliantlaw45.small -/
def S33 (l1 : Slc) (w : World) (R : Bool → World → Prop) : Prop :=
  Br (decide (((l1.len : Nat) : Int) > 60)) (R false w) (Lp (σ := Int) (S33L2 l1 R) 0 w)
def pl33 : Plan := (.seq (.reg .seq) (.seq (.seq (.reg .seq) (.cond (.seq (.reg .seq) .leaf) .leaf)) (.seq (.seq (.reg .seq) (.block (.loop [(12, (.one (.int .i64)))] [10, 11] (.seq (.reg .seq) (.seq (.cond .leaf .leaf) (.seq (.block (.seq (.reg .seq) (.seq (.reg .seq) (.block (.loop [(19, (.one (.int .i64)))] [10, 11, 12, 17, 18] (.seq (.reg .seq) (.seq (.cond .leaf .leaf) (.seq (.block (.seq (.reg .seq) (.seq (.reg .seq) (.cond (.seq (.reg .seq) .leaf) .leaf)))) (.reg .seq))))))))) (.reg .seq))))))) (.seq (.reg .seq) .leaf))))
set_option maxRecDepth 100000 in
theorem T33 (l1 : Slc) (w : World) (R : Bool → World → Prop) (h : S33 l1 w R) : C33 l1 w R := by
  have e : fnT Tryd.prog ⟨FF, MAY, (fun _ _ => False)⟩ pl33 Tryd.f33 [Slc.v l1] w [(.one .bool)] (fun s w => R s w) = S33 l1 w R := by kernel_rfl
  exact (fn_calls okF okM Tryd.func33 (by kernel_rfl) (by kernel_rfl) (e.mpr h)).mono fun _ _ ⟨s, he, hR⟩ => ⟨s, he, hR⟩

def S42L1 (w : World) (nums2 : Slc) (vw3 : World) (R : (ByteArray × Slc × ByteArray) → World → Prop) (I10 : Int → World → Prop) (s8 : Int) (vw9 : World) : Prop :=
  Br (decide (s8 < ((nums2.len : Nat) : Int))) (0 ≤ s8 ∧ s8 < (nums2.len : Nat) ∧ Nn nums2.p fun a11 =>
    Ld vw9 (a11.add ((s8).toNat * 1)) (Value.int .i64) fun (x12 : Int) =>
    Ld vw9 ((⟨vw3.heap.size, 0, none⟩ : Addr).add 1) Slc.v fun (x13 : Slc) =>
    Nw vw9 (.cells #[.int .i64 2, .int .i64 x12, .int .i64 0, .string ((⟨#[]⟩ : ByteArray)), Slc.v ((⟨none, 0, 0⟩ : Slc)), Slc.v ((⟨none, 0, 0⟩ : Slc))] 81) fun vw14 =>
    Rn Tryd.prog (Builtin.append_ #[60, 60] 60 #[Slc.v x13, Slc.v ((⟨some ⟨vw9.heap.size, 0, none⟩, 1, 1⟩ : Slc))]) vw14 Slc.v fun (x15 : Slc) vw16 =>
    St vw16 ((⟨vw3.heap.size, 0, none⟩ : Addr).add 1) (Slc.v x15) fun vw17 =>
    I10 (IntKind.i64.wrap (s8 + 1)) vw17) (Ld vw9 (⟨vw3.heap.size, 0, none⟩ : Addr) Value.string fun (x18 : ByteArray) =>
    Ld vw9 ((⟨vw3.heap.size, 0, none⟩ : Addr).add 1) Slc.v fun (x19 : Slc) =>
    Ld vw9 ((⟨vw3.heap.size, 0, none⟩ : Addr).add 2) Value.string fun (x20 : ByteArray) =>
    St vw9 (⟨w.heap.size, 0, none⟩ : Addr) (.string x18) fun vw21 =>
    St vw21 ((⟨w.heap.size, 0, none⟩ : Addr).add 1) (Slc.v x19) fun vw22 =>
    St vw22 ((⟨w.heap.size, 0, none⟩ : Addr).add 2) (.string x20) fun vw23 =>
    Ld vw23 (⟨w.heap.size, 0, none⟩ : Addr) Value.string fun (x24 : ByteArray) =>
    Ld vw23 ((⟨w.heap.size, 0, none⟩ : Addr).add 1) Slc.v fun (x25 : Slc) =>
    Ld vw23 ((⟨w.heap.size, 0, none⟩ : Addr).add 2) Value.string fun (x26 : ByteArray) =>
    R (x24, x25, x26) vw23)
/-- foliant/foliantlaw45.Op -/
def S42 (name1 : ByteArray) (nums2 : Slc) (w : World) (R : (ByteArray × Slc × ByteArray) → World → Prop) : Prop :=
  Nw w (.cells #[.string ((⟨#[]⟩ : ByteArray)), Slc.v ((⟨none, 0, 0⟩ : Slc)), .string ((⟨#[]⟩ : ByteArray))] 63) fun vw3 =>
  Nw vw3 (.cells #[.string ((⟨#[]⟩ : ByteArray)), Slc.v ((⟨none, 0, 0⟩ : Slc)), .string ((⟨#[]⟩ : ByteArray))] 63) fun vw4 =>
  St vw4 (⟨vw3.heap.size, 0, none⟩ : Addr) (.string name1) fun vw5 =>
  St vw5 ((⟨vw3.heap.size, 0, none⟩ : Addr).add 1) (Slc.v ((⟨none, 0, 0⟩ : Slc))) fun vw6 =>
  St vw6 ((⟨vw3.heap.size, 0, none⟩ : Addr).add 2) (.string ((⟨#[]⟩ : ByteArray))) fun vw7 =>
  Lp (σ := Int) (S42L1 w nums2 vw3 R) 0 vw7
def pl42 : Plan := (.seq (.reg .seq) (.seq (.reg .seq) (.seq (.seq (.reg .seq) (.block (.loop [(12, (.one (.int .i64)))] [4, 5, 10, 11] (.seq (.reg .seq) (.seq (.cond .leaf .leaf) (.seq (.block (.seq (.reg .seq) (.reg .seq))) (.reg .seq))))))) (.seq (.reg .seq) .leaf))))
set_option maxRecDepth 100000 in
theorem T42 (name1 : ByteArray) (nums2 : Slc) (w : World) (R : (ByteArray × Slc × ByteArray) → World → Prop) (h : S42 name1 nums2 w R) : C42 name1 nums2 w R := by
  have e : fnT Tryd.prog ⟨FF, MAY, (fun _ _ => False)⟩ pl42 Tryd.f42 [.string name1, Slc.v nums2] w [(.agg [.str, .slc, .str])] (fun s w => R s w) = S42 name1 nums2 w R := by kernel_rfl
  exact (fn_calls okF okM Tryd.func42 (by kernel_rfl) (by kernel_rfl) (e.mpr h)).mono fun _ _ ⟨s, he, hR⟩ => ⟨s, he, hR⟩

/-- foliant/foliantlaw45.lives -/
def S34 (w : World) (R : Bool → World → Prop) : Prop :=
  C44 w fun r1 vw2 =>
    Nw vw2 (.cells #[.int .i64 0, .int .i64 0, .int .i64 0, .int .i64 0, .int .i64 0, .int .i64 0] 23) fun vw3 =>
    St vw3 (⟨vw2.heap.size, 0, none⟩ : Addr) (.int .i64 (r1.1)) fun vw4 =>
    St vw4 ((⟨vw2.heap.size, 0, none⟩ : Addr).add 1) (.int .i64 (r1.2.1)) fun vw5 =>
    St vw5 ((⟨vw2.heap.size, 0, none⟩ : Addr).add 2) (.int .i64 (r1.2.2.1)) fun vw6 =>
    St vw6 ((⟨vw2.heap.size, 0, none⟩ : Addr).add 3) (.int .i64 (r1.2.2.2.1)) fun vw7 =>
    St vw7 ((⟨vw2.heap.size, 0, none⟩ : Addr).add 4) (.int .i64 (r1.2.2.2.2.1)) fun vw8 =>
    St vw8 ((⟨vw2.heap.size, 0, none⟩ : Addr).add 5) (.int .i64 (r1.2.2.2.2.2)) fun vw9 =>
    C22 vw9 fun r10 vw11 =>
      Br r10.isNone (R false vw11) (∃ vS12 : World → Prop, vS12 vw11.drew ∧ LdS vS12 (⟨vw2.heap.size, 0, none⟩ : Addr) (Value.int .i64) fun (x13 : Int) =>
        LdS vS12 ((⟨vw2.heap.size, 0, none⟩ : Addr).add 1) (Value.int .i64) fun (x14 : Int) =>
        LdS vS12 ((⟨vw2.heap.size, 0, none⟩ : Addr).add 2) (Value.int .i64) fun (x15 : Int) =>
        LdS vS12 ((⟨vw2.heap.size, 0, none⟩ : Addr).add 3) (Value.int .i64) fun (x16 : Int) =>
        LdS vS12 ((⟨vw2.heap.size, 0, none⟩ : Addr).add 4) (Value.int .i64) fun (x17 : Int) =>
        LdS vS12 ((⟨vw2.heap.size, 0, none⟩ : Addr).add 5) (Value.int .i64) fun (x18 : Int) =>
        Nw vw11.drew (.cells #[.int .i64 1, .int .i64 1] 2) fun vw19 =>
        vS12 vw19 ∧ C42 (⟨#[108]⟩ : ByteArray) (⟨some ⟨vw11.drew.heap.size, 0, none⟩, 2, 2⟩ : Slc) vw19 fun r20 vw21 =>
          vS12 vw21 ∧ C23 r10 (r20.1, r20.2.1, r20.2.2) (x13, x14, x15, x16, x17, x18) vw21 fun r22 vw23 =>
            ∃ vS24 : World → Prop, vS24 vw23.drew ∧ LdS vS24 (⟨vw2.heap.size, 0, none⟩ : Addr) (Value.int .i64) fun (x25 : Int) =>
            LdS vS24 ((⟨vw2.heap.size, 0, none⟩ : Addr).add 1) (Value.int .i64) fun (x26 : Int) =>
            LdS vS24 ((⟨vw2.heap.size, 0, none⟩ : Addr).add 2) (Value.int .i64) fun (x27 : Int) =>
            LdS vS24 ((⟨vw2.heap.size, 0, none⟩ : Addr).add 3) (Value.int .i64) fun (x28 : Int) =>
            LdS vS24 ((⟨vw2.heap.size, 0, none⟩ : Addr).add 4) (Value.int .i64) fun (x29 : Int) =>
            LdS vS24 ((⟨vw2.heap.size, 0, none⟩ : Addr).add 5) (Value.int .i64) fun (x30 : Int) =>
            Nw vw23.drew (.cells #[.int .i64 1, .int .i64 1] 2) fun vw31 =>
            vS24 vw31 ∧ C42 (⟨#[109]⟩ : ByteArray) (⟨some ⟨vw23.drew.heap.size, 0, none⟩, 2, 2⟩ : Slc) vw31 fun r32 vw33 =>
              vS24 vw33 ∧ C23 r10 (r32.1, r32.2.1, r32.2.2) (x25, x26, x27, x28, x29, x30) vw33 fun r34 vw35 =>
                ∃ vS36 : World → Prop, vS36 vw35.drew ∧ LdS vS36 (⟨vw2.heap.size, 0, none⟩ : Addr) (Value.int .i64) fun (x37 : Int) =>
                LdS vS36 ((⟨vw2.heap.size, 0, none⟩ : Addr).add 1) (Value.int .i64) fun (x38 : Int) =>
                LdS vS36 ((⟨vw2.heap.size, 0, none⟩ : Addr).add 2) (Value.int .i64) fun (x39 : Int) =>
                LdS vS36 ((⟨vw2.heap.size, 0, none⟩ : Addr).add 3) (Value.int .i64) fun (x40 : Int) =>
                LdS vS36 ((⟨vw2.heap.size, 0, none⟩ : Addr).add 4) (Value.int .i64) fun (x41 : Int) =>
                LdS vS36 ((⟨vw2.heap.size, 0, none⟩ : Addr).add 5) (Value.int .i64) fun (x42 : Int) =>
                Nw vw35.drew (.cells #[.int .i64 2, .int .i64 1] 2) fun vw43 =>
                vS36 vw43 ∧ C42 (⟨#[108]⟩ : ByteArray) (⟨some ⟨vw35.drew.heap.size, 0, none⟩, 2, 2⟩ : Slc) vw43 fun r44 vw45 =>
                  vS36 vw45 ∧ C23 r10 (r44.1, r44.2.1, r44.2.2) (x37, x38, x39, x40, x41, x42) vw45 fun r46 vw47 =>
                    ∃ vS48 : World → Prop, vS48 vw47.drew ∧ LdS vS48 (⟨vw2.heap.size, 0, none⟩ : Addr) (Value.int .i64) fun (x49 : Int) =>
                    LdS vS48 ((⟨vw2.heap.size, 0, none⟩ : Addr).add 1) (Value.int .i64) fun (x50 : Int) =>
                    LdS vS48 ((⟨vw2.heap.size, 0, none⟩ : Addr).add 2) (Value.int .i64) fun (x51 : Int) =>
                    LdS vS48 ((⟨vw2.heap.size, 0, none⟩ : Addr).add 3) (Value.int .i64) fun (x52 : Int) =>
                    LdS vS48 ((⟨vw2.heap.size, 0, none⟩ : Addr).add 4) (Value.int .i64) fun (x53 : Int) =>
                    LdS vS48 ((⟨vw2.heap.size, 0, none⟩ : Addr).add 5) (Value.int .i64) fun (x54 : Int) =>
                    Nw vw47.drew (.cells #[.int .i64 2] 2) fun vw55 =>
                    vS48 vw55 ∧ C42 (⟨#[108]⟩ : ByteArray) (⟨some ⟨vw47.drew.heap.size, 0, none⟩, 1, 1⟩ : Slc) vw55 fun r56 vw57 =>
                      vS48 vw57 ∧ C23 r10 (r56.1, r56.2.1, r56.2.2) (x49, x50, x51, x52, x53, x54) vw57 fun r58 vw59 =>
                        ∃ vS60 : World → Prop, vS60 vw59.drew ∧ LdS vS60 (⟨vw2.heap.size, 0, none⟩ : Addr) (Value.int .i64) fun (x61 : Int) =>
                        LdS vS60 ((⟨vw2.heap.size, 0, none⟩ : Addr).add 1) (Value.int .i64) fun (x62 : Int) =>
                        LdS vS60 ((⟨vw2.heap.size, 0, none⟩ : Addr).add 2) (Value.int .i64) fun (x63 : Int) =>
                        LdS vS60 ((⟨vw2.heap.size, 0, none⟩ : Addr).add 3) (Value.int .i64) fun (x64 : Int) =>
                        LdS vS60 ((⟨vw2.heap.size, 0, none⟩ : Addr).add 4) (Value.int .i64) fun (x65 : Int) =>
                        LdS vS60 ((⟨vw2.heap.size, 0, none⟩ : Addr).add 5) (Value.int .i64) fun (x66 : Int) =>
                        C42 (⟨#[113]⟩ : ByteArray) (⟨none, 0, 0⟩ : Slc) vw59.drew fun r67 vw68 =>
                          vS60 vw68 ∧ C23 r10 (r67.1, r67.2.1, r67.2.2) (x61, x62, x63, x64, x65, x66) vw68 fun r69 vw70 =>
                            ∃ vS71 : World → Prop, vS71 vw70.drew ∧ LdS vS71 (⟨vw2.heap.size, 0, none⟩ : Addr) (Value.int .i64) fun (x72 : Int) =>
                            LdS vS71 ((⟨vw2.heap.size, 0, none⟩ : Addr).add 1) (Value.int .i64) fun (x73 : Int) =>
                            LdS vS71 ((⟨vw2.heap.size, 0, none⟩ : Addr).add 2) (Value.int .i64) fun (x74 : Int) =>
                            LdS vS71 ((⟨vw2.heap.size, 0, none⟩ : Addr).add 3) (Value.int .i64) fun (x75 : Int) =>
                            LdS vS71 ((⟨vw2.heap.size, 0, none⟩ : Addr).add 4) (Value.int .i64) fun (x76 : Int) =>
                            LdS vS71 ((⟨vw2.heap.size, 0, none⟩ : Addr).add 5) (Value.int .i64) fun (x77 : Int) =>
                            Nw vw70.drew (.cells #[.int .i64 3, .int .i64 3, .int .i64 4, .int .i64 1] 2) fun vw78 =>
                            vS71 vw78 ∧ C42 (⟨#[118]⟩ : ByteArray) (⟨some ⟨vw70.drew.heap.size, 0, none⟩, 4, 4⟩ : Slc) vw78 fun r79 vw80 =>
                              vS71 vw80 ∧ C23 r10 (r79.1, r79.2.1, r79.2.2) (x72, x73, x74, x75, x76, x77) vw80 fun r81 vw82 =>
                                C25 r10 vw82 fun r83 vw84 =>
                                  C25 r10 vw84 fun r85 vw86 =>
                                    C29 r85 vw86 fun r87 r88 vw89 =>
                                      Nw vw89 (.cells #[.int .i64 0, .int .i64 0, .int .i64 0, .int .i64 0] 72) fun vw90 =>
                                      St vw90 (⟨vw89.heap.size, 0, none⟩ : Addr) (.int .i64 (r87.1)) fun vw91 =>
                                      St vw91 ((⟨vw89.heap.size, 0, none⟩ : Addr).add 1) (.int .i64 (r87.2.1)) fun vw92 =>
                                      St vw92 ((⟨vw89.heap.size, 0, none⟩ : Addr).add 2) (.int .i64 (r87.2.2.1)) fun vw93 =>
                                      St vw93 ((⟨vw89.heap.size, 0, none⟩ : Addr).add 3) (.int .i64 (r87.2.2.2)) fun vw94 =>
                                      C42 (⟨#[115]⟩ : ByteArray) (⟨none, 0, 0⟩ : Slc) vw94 fun r95 vw96 =>
                                        C30 r10 (r95.1, r95.2.1, r95.2.2) ((0, 0, 0, 0, 0, 0, 0, 0, 0, 0, (⟨none, 0, 0⟩ : Slc), 0, 0, 5, 0, 0, 0, 0, 0, 0, 0, 0, 0, 0, 0, 0, 0, 0, (⟨#[]⟩ : ByteArray), 0) : TyA29) vw96 fun r97 r98 r99 vw100 =>
                                          Nw vw100 (.cells #[.int .i64 0, Slc.v ((⟨none, 0, 0⟩ : Slc)), .int .i64 0, .int .i64 0, .int .i64 0, .int .i64 0, .int .i64 0, .int .i64 0, .int .i64 0, .int .i64 0, .int .i64 0, .int .i64 0] 76) fun vw101 =>
                                          StT (⟨vw100.heap.size, 0, none⟩ : Addr) 0 LiA75 r97 vw101 fun vw102 =>
                                          C42 (⟨#[110]⟩ : ByteArray) (⟨none, 0, 0⟩ : Slc) vw102 fun r103 vw104 =>
                                            C30 r10 (r103.1, r103.2.1, r103.2.2) ((0, 0, 0, 0, 0, 0, 0, 0, 0, 0, (⟨none, 0, 0⟩ : Slc), 0, 0, 0, 0, 0, 0, 0, 0, 0, 0, 0, 0, 0, 0, 0, 0, 0, (⟨#[]⟩ : ByteArray), 0) : TyA29) vw104 fun r105 r106 r107 vw108 =>
                                              Nw vw108 (.cells #[.int .i64 0, Slc.v ((⟨none, 0, 0⟩ : Slc)), .int .i64 0, .int .i64 0, .int .i64 0, .int .i64 0, .int .i64 0, .int .i64 0, .int .i64 0, .int .i64 0, .int .i64 0, .int .i64 0] 76) fun vw109 =>
                                              StT (⟨vw108.heap.size, 0, none⟩ : Addr) 0 LiA75 r105 vw109 fun vw110 =>
                                              Nw vw110 (.cells #[.int .i64 1, .int .i64 1] 2) fun vw111 =>
                                              C42 (⟨#[109]⟩ : ByteArray) (⟨some ⟨vw110.heap.size, 0, none⟩, 2, 2⟩ : Slc) vw111 fun r112 vw113 =>
                                                C30 r10 (r112.1, r112.2.1, r112.2.2) ((0, 0, 0, 0, 0, 0, 0, 0, 0, 0, (⟨none, 0, 0⟩ : Slc), 0, 0, 0, 0, 0, 0, 0, 0, 0, 0, 0, 0, 0, 0, 0, 0, 0, (⟨#[]⟩ : ByteArray), 0) : TyA29) vw113 fun r114 r115 r116 vw117 =>
                                                  Nw vw117 (.cells #[.int .i64 0, Slc.v ((⟨none, 0, 0⟩ : Slc)), .int .i64 0, .int .i64 0, .int .i64 0, .int .i64 0, .int .i64 0, .int .i64 0, .int .i64 0, .int .i64 0, .int .i64 0, .int .i64 0] 76) fun vw118 =>
                                                  StT (⟨vw117.heap.size, 0, none⟩ : Addr) 0 LiA75 r114 vw118 fun vw119 =>
                                                  Nw vw119 (.cells #[.int .i64 0, .int .i64 0, .int .i64 2, .int .i64 3] 2) fun vw120 =>
                                                  C42 (⟨#[114, 101]⟩ : ByteArray) (⟨some ⟨vw119.heap.size, 0, none⟩, 4, 4⟩ : Slc) vw120 fun r121 vw122 =>
                                                    C96 20000 10000 vw122 fun r123 vw124 =>
                                                      C23 r10 (r121.1, r121.2.1, r121.2.2) (r123.1, r123.2.1, r123.2.2.1, r123.2.2.2.1, r123.2.2.2.2.1, r123.2.2.2.2.2) vw124 fun r125 vw126 =>
                                                        ∃ vS127 : World → Prop, vS127 vw126.drew ∧ LdS vS127 (⟨vw2.heap.size, 0, none⟩ : Addr) (Value.int .i64) fun (x128 : Int) =>
                                                        LdS vS127 ((⟨vw2.heap.size, 0, none⟩ : Addr).add 1) (Value.int .i64) fun (x129 : Int) =>
                                                        LdS vS127 ((⟨vw2.heap.size, 0, none⟩ : Addr).add 2) (Value.int .i64) fun (x130 : Int) =>
                                                        LdS vS127 ((⟨vw2.heap.size, 0, none⟩ : Addr).add 3) (Value.int .i64) fun (x131 : Int) =>
                                                        LdS vS127 ((⟨vw2.heap.size, 0, none⟩ : Addr).add 4) (Value.int .i64) fun (x132 : Int) =>
                                                        LdS vS127 ((⟨vw2.heap.size, 0, none⟩ : Addr).add 5) (Value.int .i64) fun (x133 : Int) =>
                                                        C42 (⟨#[87]⟩ : ByteArray) (⟨none, 0, 0⟩ : Slc) vw126.drew fun r134 vw135 =>
                                                          vS127 vw135 ∧ C23 r10 (r134.1, r134.2.1, r134.2.2) (x128, x129, x130, x131, x132, x133) vw135 fun r136 vw137 =>
                                                            C25 r10 vw137 fun r138 vw139 =>
                                                              C42 (⟨#[110]⟩ : ByteArray) (⟨none, 0, 0⟩ : Slc) vw139 fun r140 vw141 =>
                                                                C30 r10 (r140.1, r140.2.1, r140.2.2) ((0, 0, 0, 0, 0, 0, 0, 0, 0, 0, (⟨none, 0, 0⟩ : Slc), 0, 0, 0, 0, 0, 0, 0, 0, 0, 0, 0, 0, 0, 0, 0, 0, 0, (⟨#[]⟩ : ByteArray), 0) : TyA29) vw141 fun r142 r143 r144 vw145 =>
                                                                  Nw vw145 (.cells #[.int .i64 0, Slc.v ((⟨none, 0, 0⟩ : Slc)), .int .i64 0, .int .i64 0, .int .i64 0, .int .i64 0, .int .i64 0, .int .i64 0, .int .i64 0, .int .i64 0, .int .i64 0, .int .i64 0] 76) fun vw146 =>
                                                                  StT (⟨vw145.heap.size, 0, none⟩ : Addr) 0 LiA75 r142 vw146 fun vw147 =>
                                                                  C29 (⟨none, 0, 0⟩ : Slc) vw147 fun r148 r149 vw150 =>
                                                                    Nw vw150 (.cells #[.int .i64 0, .int .i64 0, .int .i64 0, .int .i64 0] 72) fun vw151 =>
                                                                    St vw151 (⟨vw150.heap.size, 0, none⟩ : Addr) (.int .i64 (r148.1)) fun vw152 =>
                                                                    St vw152 ((⟨vw150.heap.size, 0, none⟩ : Addr).add 1) (.int .i64 (r148.2.1)) fun vw153 =>
                                                                    St vw153 ((⟨vw150.heap.size, 0, none⟩ : Addr).add 2) (.int .i64 (r148.2.2.1)) fun vw154 =>
                                                                    St vw154 ((⟨vw150.heap.size, 0, none⟩ : Addr).add 3) (.int .i64 (r148.2.2.2)) fun vw155 =>
                                                                    Br (r22 != 29) (R false vw155) (Br (r34 != 0) (R false vw155) (Br (r46 != 0) (R false vw155) (Br (r58 != 28) (R false vw155) (Br (r69 != 8) (R false vw155) (Br (r81 != 0) (R false vw155) (Br (((r83.len : Nat) : Int) != 3) (R false vw155) (Br (!r88) (R false vw155) (Ld vw155 (⟨vw89.heap.size, 0, none⟩ : Addr) (Value.int .i64) fun (x170 : Int) =>
                                                                                    Ld vw155 ((⟨vw89.heap.size, 0, none⟩ : Addr).add 1) (Value.int .i64) fun (x171 : Int) =>
                                                                                    Ld vw155 ((⟨vw89.heap.size, 0, none⟩ : Addr).add 2) (Value.int .i64) fun (x172 : Int) =>
                                                                                    Ld vw155 ((⟨vw89.heap.size, 0, none⟩ : Addr).add 3) (Value.int .i64) fun (x173 : Int) =>
                                                                                    Br (!((x170 == 10000) && ((x171 == 10000) && ((x172 == 40000) && ((x173 == 30000) && true))))) (R false vw155) (Br (!r98) (R false vw155) (Br (r99 != 0) (R false vw155) (Ld vw155 (⟨vw100.heap.size, 0, none⟩ : Addr) (Value.int .i64) fun (x174 : Int) =>
                                                                                          Br (x174 != 4) (R false vw155) (Ld vw155 ((⟨vw100.heap.size, 0, none⟩ : Addr).add 1) Slc.v fun (x175 : Slc) =>
                                                                                            Br (((x175.len : Nat) : Int) != 4) (R false vw155) (Ld vw155 ((⟨vw100.heap.size, 0, none⟩ : Addr).add 1) Slc.v fun (x176 : Slc) =>
                                                                                              0 ≤ (3 : Int) ∧ (3 : Int) < (x176.len : Nat) ∧ Nn x176.p fun a177 =>
                                                                                              Ld vw155 (a177.add (((3 : Int)).toNat * 7)) (Value.int .i64) fun (x178 : Int) =>
                                                                                              Br (x178 != 4) (R false vw155) (Ld vw155 ((⟨vw100.heap.size, 0, none⟩ : Addr).add 1) Slc.v fun (x179 : Slc) =>
                                                                                                0 ≤ (2 : Int) ∧ (2 : Int) < (x179.len : Nat) ∧ Nn x179.p fun a180 =>
                                                                                                Ld vw155 ((a180.add (((2 : Int)).toNat * 7)).add 1) (Value.int .i64) fun (x181 : Int) =>
                                                                                                Ld vw155 (((a180.add (((2 : Int)).toNat * 7)).add 1).add 1) (Value.int .i64) fun (x182 : Int) =>
                                                                                                Br (!((x181 == 20000) && ((x182 == 10000) && true))) (R false vw155) (Ld vw155 (((⟨vw100.heap.size, 0, none⟩ : Addr).add 2).add 1) (Value.int .i64) fun (x183 : Int) =>
                                                                                                  Br (x183 != 5) (R false vw155) (Br r106 (R false vw155) (Br (r107 != 0) (R false vw155) (Br (r116 != 8) (R false vw155) (∃ vS184 : World → Prop, vS184 vw155.drew ∧ Br (r125 == 0) (Br (r136 == 0) (Br (((r138.len : Nat) : Int) == 5) (0 ≤ (2 : Int) ∧ (2 : Int) < (r138.len : Nat) ∧ Nn r138.p fun a185 =>
                                                                                                                LdS vS184 ((a185.add (((2 : Int)).toNat * 7)).add 5) (Value.int .i64) fun (x186 : Int) =>
                                                                                                                LdS vS184 (((a185.add (((2 : Int)).toNat * 7)).add 5).add 1) (Value.int .i64) fun (x187 : Int) =>
                                                                                                                vS184 vw155.drew ∧ Br ((x186 == 40000) && ((x187 == 30000) && true)) (Br r143 (Br (r144 == 0) (LdS vS184 (⟨vw145.heap.size, 0, none⟩ : Addr) (Value.int .i64) fun (x188 : Int) =>
                                                                                                                      Br (x188 == 8) (C25 r10 vw155.drew fun r189 vw190 =>
                                                                                                                          ∃ vS191 : World → Prop, vS191 vw190 ∧ Br (((r189.len : Nat) : Int) == 0) (Br (!r149) (LdS vS191 (⟨vw2.heap.size, 0, none⟩ : Addr) (Value.int .i64) fun (x192 : Int) =>
                                                                                                                              LdS vS191 ((⟨vw2.heap.size, 0, none⟩ : Addr).add 1) (Value.int .i64) fun (x193 : Int) =>
                                                                                                                              LdS vS191 ((⟨vw2.heap.size, 0, none⟩ : Addr).add 2) (Value.int .i64) fun (x194 : Int) =>
                                                                                                                              LdS vS191 ((⟨vw2.heap.size, 0, none⟩ : Addr).add 3) (Value.int .i64) fun (x195 : Int) =>
                                                                                                                              LdS vS191 ((⟨vw2.heap.size, 0, none⟩ : Addr).add 4) (Value.int .i64) fun (x196 : Int) =>
                                                                                                                              LdS vS191 ((⟨vw2.heap.size, 0, none⟩ : Addr).add 5) (Value.int .i64) fun (x197 : Int) =>
                                                                                                                              Nw vw190 (.cells #[.int .i64 1, .int .i64 1] 2) fun vw198 =>
                                                                                                                              vS191 vw198 ∧ C42 (⟨#[109]⟩ : ByteArray) (⟨some ⟨vw190.heap.size, 0, none⟩, 2, 2⟩ : Slc) vw198 fun r199 vw200 =>
                                                                                                                                vS191 vw200 ∧ C23 none (r199.1, r199.2.1, r199.2.2) (x192, x193, x194, x195, x196, x197) vw200 fun r201 vw202 =>
                                                                                                                                  Br (r201 == 1) (C25 none vw202 fun r203 vw204 =>
                                                                                                                                      Br (((r203.len : Nat) : Int) == 0) (C28 r138 r138 vw204 fun r205 vw206 =>
                                                                                                                                          Br r205 (C28 r138 (⟨none, 0, 0⟩ : Slc) vw206 fun r207 vw208 =>
                                                                                                                                              R (!r207) vw208) (R false vw206)) (R false vw204)) (R false vw202)) (R false vw190)) (R false vw190)) (∃ vS209 : World → Prop, vS209 vw155.drew ∧ R false vw155.drew)) (∃ vS210 : World → Prop, vS210 vw155.drew ∧ R false vw155.drew)) (∃ vS211 : World → Prop, vS211 vw155.drew ∧ R false vw155.drew)) (∃ vS212 : World → Prop, vS212 vw155.drew ∧ R false vw155.drew)) (∃ vS213 : World → Prop, vS213 vw155.drew ∧ R false vw155.drew)) (∃ vS214 : World → Prop, vS214 vw155.drew ∧ R false vw155.drew)) (∃ vS215 : World → Prop, vS215 vw155.drew ∧ R false vw155.drew)))))))))))))))))))))
def pl34 : Plan := (.seq (.reg .seq) (.seq (.reg .seq) (.seq (.reg .seq) (.seq (.seq (.reg .seq) (.cond (.seq (.reg .seq) .leaf) .leaf)) (.seq (.reg (.held [4] (.take 0 (.take 3 (.eff 1 none (.eff 2 none (.eff 4 (some []) (.take 5 .done)))))))) (.seq (.reg (.held [4] (.take 0 (.take 3 (.eff 1 none (.eff 2 none (.eff 4 (some []) (.take 5 .done)))))))) (.seq (.reg (.held [4] (.take 0 (.take 3 (.eff 1 none (.eff 2 none (.eff 4 (some []) (.take 5 .done)))))))) (.seq (.reg (.held [4] (.take 0 (.take 3 (.eff 1 none (.eff 2 none (.eff 4 (some []) (.take 5 .done)))))))) (.seq (.reg (.held [3] (.take 0 (.take 2 (.eff 1 none (.eff 3 (some []) (.take 4 .done))))))) (.seq (.reg (.held [4] (.take 0 (.take 3 (.eff 1 none (.eff 2 none (.eff 4 (some []) (.take 5 .done)))))))) (.seq (.reg .seq) (.seq (.reg .seq) (.seq (.reg .seq) (.seq (.reg .seq) (.seq (.reg .seq) (.seq (.reg .seq) (.seq (.reg (.held [3] (.take 0 (.take 2 (.eff 1 none (.eff 3 (some []) (.take 4 .done))))))) (.seq (.reg .seq) (.seq (.reg .seq) (.seq (.reg .seq) (.seq (.reg .seq) (.seq (.seq (.reg .seq) (.cond (.seq (.reg .seq) .leaf) .leaf)) (.seq (.reg (.held [33] (.take 0 (.take 1 (.take 2 (.take 3 (.take 4 (.take 5 (.take 6 (.take 7 (.take 8 (.take 9 (.take 10 (.take 11 (.take 12 (.take 13 (.take 14 (.take 15 (.eff 16 none (.take 17 (.take 18 (.take 19 (.take 20 (.take 21 (.take 22 (.take 23 (.take 24 (.take 25 (.take 26 (.take 27 (.take 28 (.take 29 (.take 30 (.take 31 (.take 32 (.eff 33 (some [46]) (.take 34 (.take 35 (.take 36 (.take 37 (.take 38 (.take 39 (.take 40 (.take 41 (.take 42 (.take 45 (.eff 43 none (.eff 44 none (.eff 46 (some [51]) (.take 47 (.take 48 (.take 49 (.take 50 (.eff 51 (some [58]) (.take 52 (.take 53 (.take 54 (.take 55 (.take 56 (.take 57 (.eff 58 (some [62]) (.take 59 (.take 60 (.take 61 (.eff 62 (some []) (.take 63 (.take 64 (.take 65 .done)))))))))))))))))))))))))))))))))))))))))))))))))))))))))))))))))))) .leaf)))))))))))))))))))))))
set_option maxRecDepth 100000 in
theorem T34 (w : World) (R : Bool → World → Prop) (h : S34 w R) : C34 w R := by
  have e : fnT Tryd.prog ⟨FF, MAY, (fun _ _ => False)⟩ pl34 Tryd.f34 [] w [(.one .bool)] (fun s w => R s w) = S34 w R := by kernel_rfl
  exact (fn_calls okF okM Tryd.func34 (by kernel_rfl) (by kernel_rfl) (e.mpr h)).mono fun _ _ ⟨s, he, hR⟩ => ⟨s, he, hR⟩

def S41L1 (w : World) (l1 : Slc) (r4 : Option Addr) (R : Option Addr → Bool → World → Prop) (I30 : Int → World → Prop) (s28 : Int) (vw29 : World) : Prop :=
  Br (decide (s28 < ((l1.len : Nat) : Int))) (0 ≤ s28 ∧ s28 < (l1.len : Nat) ∧ Nn l1.p fun a31 =>
    Ld vw29 (a31.add ((s28).toNat * 3)) Value.string fun (x32 : ByteArray) =>
    Ld vw29 ((a31.add ((s28).toNat * 3)).add 1) Slc.v fun (x33 : Slc) =>
    Ld vw29 ((a31.add ((s28).toNat * 3)).add 2) Value.string fun (x34 : ByteArray) =>
    Nw vw29 (.cells #[.string ((⟨#[]⟩ : ByteArray)), Slc.v ((⟨none, 0, 0⟩ : Slc)), .string ((⟨#[]⟩ : ByteArray))] 63) fun vw35 =>
    St vw35 (⟨vw29.heap.size, 0, none⟩ : Addr) (.string x32) fun vw36 =>
    St vw36 ((⟨vw29.heap.size, 0, none⟩ : Addr).add 1) (Slc.v x33) fun vw37 =>
    St vw37 ((⟨vw29.heap.size, 0, none⟩ : Addr).add 2) (.string x34) fun vw38 =>
    Br r4.isNone (R r4 false vw38) (Ld vw38 (⟨vw29.heap.size, 0, none⟩ : Addr) Value.string fun (x39 : ByteArray) =>
      Ld vw38 ((⟨vw29.heap.size, 0, none⟩ : Addr).add 1) Slc.v fun (x40 : Slc) =>
      Ld vw38 ((⟨vw29.heap.size, 0, none⟩ : Addr).add 2) Value.string fun (x41 : ByteArray) =>
      Ld vw38 (⟨w.heap.size, 0, none⟩ : Addr) (Value.int .i64) fun (x42 : Int) =>
      Ld vw38 ((⟨w.heap.size, 0, none⟩ : Addr).add 1) (Value.int .i64) fun (x43 : Int) =>
      Ld vw38 ((⟨w.heap.size, 0, none⟩ : Addr).add 2) (Value.int .i64) fun (x44 : Int) =>
      Ld vw38 ((⟨w.heap.size, 0, none⟩ : Addr).add 3) (Value.int .i64) fun (x45 : Int) =>
      Ld vw38 ((⟨w.heap.size, 0, none⟩ : Addr).add 4) (Value.int .i64) fun (x46 : Int) =>
      Ld vw38 ((⟨w.heap.size, 0, none⟩ : Addr).add 5) (Value.int .i64) fun (x47 : Int) =>
      C23 r4 (x39, x40, x41) (x42, x43, x44, x45, x46, x47) vw38 fun r48 vw49 =>
        Br (r48 != 0) (R r4 false vw49) (I30 (IntKind.i64.wrap (s28 + 1)) vw49))) (R r4 (!(r4.isNone)) vw29)
/-- foliant/foliantlaw45.played -/
def S41 (l1 : Slc) (m2 : Int × Int × Int × Int × Int × Int) (w : World) (R : Option Addr → Bool → World → Prop) : Prop :=
  Nw w (.cells #[.int .i64 (m2.1), .int .i64 (m2.2.1), .int .i64 (m2.2.2.1), .int .i64 (m2.2.2.2.1), .int .i64 (m2.2.2.2.2.1), .int .i64 (m2.2.2.2.2.2)] 23) fun vw3 =>
  C22 vw3 fun r4 vw5 =>
    Lp (σ := Int) (S41L1 w l1 r4 R) 0 vw5
def pl41 : Plan := (.seq (.reg .seq) (.seq (.reg .seq) (.seq (.seq (.reg .seq) (.block (.loop [(12, (.one (.int .i64)))] [3, 6, 10, 11] (.seq (.reg .seq) (.seq (.cond .leaf .leaf) (.seq (.block (.seq (.reg .seq) (.seq (.reg .seq) (.cond (.seq (.reg .seq) .leaf) .leaf)))) (.reg .seq))))))) (.seq (.reg .seq) .leaf))))
set_option maxRecDepth 100000 in
theorem T41 (l1 : Slc) (m2 : Int × Int × Int × Int × Int × Int) (w : World) (R : Option Addr → Bool → World → Prop) (h : S41 l1 m2 w R) : C41 l1 (m2.1, m2.2.1, m2.2.2.1, m2.2.2.2.1, m2.2.2.2.2.1, m2.2.2.2.2.2) w R := by
  have e : fnT Tryd.prog ⟨FF, MAY, (fun _ _ => False)⟩ pl41 Tryd.f41 [Slc.v l1, .agg #[.int .i64 (m2.1), .int .i64 (m2.2.1), .int .i64 (m2.2.2.1), .int .i64 (m2.2.2.2.1), .int .i64 (m2.2.2.2.2.1), .int .i64 (m2.2.2.2.2.2)]] w [(.one .ptr), (.one .bool)] (fun s w => R s.1 s.2 w) = S41 l1 m2 w R := by kernel_rfl
  exact (fn_calls okF okM Tryd.func41 (by kernel_rfl) (by kernel_rfl) (e.mpr h)).mono fun _ _ ⟨s, he, hR⟩ => ⟨s.1, s.2, he, hR⟩

def S7L1 (w : World) (l1 : Slc) (r8 : Option Addr) (R : Bool → World → Prop) (I16 : Int → World → Prop) (s14 : Int) (vw15 : World) : Prop :=
  Br (decide (s14 < ((l1.len : Nat) : Int))) (0 ≤ s14 ∧ s14 < (l1.len : Nat) ∧ Nn l1.p fun a17 =>
    Ld vw15 (a17.add ((s14).toNat * 3)) Value.string fun (x18 : ByteArray) =>
    Ld vw15 ((a17.add ((s14).toNat * 3)).add 1) Slc.v fun (x19 : Slc) =>
    Ld vw15 ((a17.add ((s14).toNat * 3)).add 2) Value.string fun (x20 : ByteArray) =>
    Nw vw15 (.cells #[.string ((⟨#[]⟩ : ByteArray)), Slc.v ((⟨none, 0, 0⟩ : Slc)), .string ((⟨#[]⟩ : ByteArray))] 63) fun vw21 =>
    St vw21 (⟨vw15.heap.size, 0, none⟩ : Addr) (.string x18) fun vw22 =>
    St vw22 ((⟨vw15.heap.size, 0, none⟩ : Addr).add 1) (Slc.v x19) fun vw23 =>
    St vw23 ((⟨vw15.heap.size, 0, none⟩ : Addr).add 2) (.string x20) fun vw24 =>
    C25 r8 vw24 fun r25 vw26 =>
      Ld vw26 (⟨vw15.heap.size, 0, none⟩ : Addr) Value.string fun (x71 : ByteArray) =>
      C35 x71 vw26 fun r72 vw73 =>
        Br r72 (Ld vw73 (⟨vw15.heap.size, 0, none⟩ : Addr) Value.string fun (x74 : ByteArray) =>
          Ld vw73 ((⟨vw15.heap.size, 0, none⟩ : Addr).add 1) Slc.v fun (x75 : Slc) =>
          Ld vw73 ((⟨vw15.heap.size, 0, none⟩ : Addr).add 2) Value.string fun (x76 : ByteArray) =>
          C30 r8 (x74, x75, x76) ((0, 0, 0, 0, 0, 0, 0, 0, 0, 0, (⟨none, 0, 0⟩ : Slc), 0, 0, 0, 0, 0, 0, 0, 0, 0, 0, 0, 0, 0, 0, 0, 0, 0, (⟨#[]⟩ : ByteArray), 0) : TyA29) vw73 fun r77 r78 r79 vw80 =>
            Nw vw80 (.cells #[.int .i64 0, Slc.v ((⟨none, 0, 0⟩ : Slc)), .int .i64 0, .int .i64 0, .int .i64 0, .int .i64 0, .int .i64 0, .int .i64 0, .int .i64 0, .int .i64 0, .int .i64 0, .int .i64 0] 76) fun vw81 =>
            StT (⟨vw80.heap.size, 0, none⟩ : Addr) 0 LiA75 r77 vw81 fun vw82 =>
            C25 r8 vw82 fun r83 vw84 =>
              Br (r79 != 0) (Br r78 (R false vw84) (C28 r25 r83 vw84 fun r85 vw86 =>
                    Br (!r85) (R false vw86) (Br (r79 == 0) (Br (((r83.len : Nat) : Int) != 0) (R false vw86) (Br r78 (Ld vw86 ((⟨vw80.heap.size, 0, none⟩ : Addr).add 1) Slc.v fun (x87 : Slc) =>
                            Br (decide (((x87.len : Nat) : Int) < ((r25.len : Nat) : Int))) (R false vw86) (Ld vw86 ((⟨vw80.heap.size, 0, none⟩ : Addr).add 1) Slc.v fun (x88 : Slc) =>
                              Br (decide (((x88.len : Nat) : Int) > (IntKind.i64.wrap (((r25.len : Nat) : Int) + 1)))) (R false vw86) (Ld vw86 ((⟨vw80.heap.size, 0, none⟩ : Addr).add 1) Slc.v fun (x89 : Slc) =>
                                0 ≤ ((r25.len : Nat) : Int) ∧ ((r25.len : Nat) : Int) ≤ ((x89.cap : Nat) : Int) ∧ C28 (x89.cut 7 0 ((((r25.len : Nat) : Int)).toNat) x89.cap) r25 vw86 fun r90 vw91 =>
                                  Br (!r90) (R false vw91) (Br r78 (Ld vw91 (⟨vw80.heap.size, 0, none⟩ : Addr) (Value.int .i64) fun (x92 : Int) =>
                                      Br (x92 == 0) (R false vw91) (I16 (IntKind.i64.wrap (s14 + 1)) vw91)) (I16 (IntKind.i64.wrap (s14 + 1)) vw91))))) (Br r78 (Ld vw86 (⟨vw80.heap.size, 0, none⟩ : Addr) (Value.int .i64) fun (x93 : Int) =>
                              Br (x93 == 0) (R false vw86) (I16 (IntKind.i64.wrap (s14 + 1)) vw86)) (I16 (IntKind.i64.wrap (s14 + 1)) vw86)))) (Br r78 (Ld vw86 ((⟨vw80.heap.size, 0, none⟩ : Addr).add 1) Slc.v fun (x94 : Slc) =>
                          Br (decide (((x94.len : Nat) : Int) < ((r25.len : Nat) : Int))) (R false vw86) (Ld vw86 ((⟨vw80.heap.size, 0, none⟩ : Addr).add 1) Slc.v fun (x95 : Slc) =>
                            Br (decide (((x95.len : Nat) : Int) > (IntKind.i64.wrap (((r25.len : Nat) : Int) + 1)))) (R false vw86) (Ld vw86 ((⟨vw80.heap.size, 0, none⟩ : Addr).add 1) Slc.v fun (x96 : Slc) =>
                              0 ≤ ((r25.len : Nat) : Int) ∧ ((r25.len : Nat) : Int) ≤ ((x96.cap : Nat) : Int) ∧ C28 (x96.cut 7 0 ((((r25.len : Nat) : Int)).toNat) x96.cap) r25 vw86 fun r97 vw98 =>
                                Br (!r97) (R false vw98) (Br r78 (Ld vw98 (⟨vw80.heap.size, 0, none⟩ : Addr) (Value.int .i64) fun (x99 : Int) =>
                                    Br (x99 == 0) (R false vw98) (I16 (IntKind.i64.wrap (s14 + 1)) vw98)) (I16 (IntKind.i64.wrap (s14 + 1)) vw98))))) (Br r78 (Ld vw86 (⟨vw80.heap.size, 0, none⟩ : Addr) (Value.int .i64) fun (x100 : Int) =>
                            Br (x100 == 0) (R false vw86) (I16 (IntKind.i64.wrap (s14 + 1)) vw86)) (I16 (IntKind.i64.wrap (s14 + 1)) vw86)))))) (Br (r79 == 0) (Br (((r83.len : Nat) : Int) != 0) (R false vw84) (Br r78 (Ld vw84 ((⟨vw80.heap.size, 0, none⟩ : Addr).add 1) Slc.v fun (x101 : Slc) =>
                      Br (decide (((x101.len : Nat) : Int) < ((r25.len : Nat) : Int))) (R false vw84) (Ld vw84 ((⟨vw80.heap.size, 0, none⟩ : Addr).add 1) Slc.v fun (x102 : Slc) =>
                        Br (decide (((x102.len : Nat) : Int) > (IntKind.i64.wrap (((r25.len : Nat) : Int) + 1)))) (R false vw84) (Ld vw84 ((⟨vw80.heap.size, 0, none⟩ : Addr).add 1) Slc.v fun (x103 : Slc) =>
                          0 ≤ ((r25.len : Nat) : Int) ∧ ((r25.len : Nat) : Int) ≤ ((x103.cap : Nat) : Int) ∧ C28 (x103.cut 7 0 ((((r25.len : Nat) : Int)).toNat) x103.cap) r25 vw84 fun r104 vw105 =>
                            Br (!r104) (R false vw105) (Br r78 (Ld vw105 (⟨vw80.heap.size, 0, none⟩ : Addr) (Value.int .i64) fun (x106 : Int) =>
                                Br (x106 == 0) (R false vw105) (I16 (IntKind.i64.wrap (s14 + 1)) vw105)) (I16 (IntKind.i64.wrap (s14 + 1)) vw105))))) (Br r78 (Ld vw84 (⟨vw80.heap.size, 0, none⟩ : Addr) (Value.int .i64) fun (x107 : Int) =>
                        Br (x107 == 0) (R false vw84) (I16 (IntKind.i64.wrap (s14 + 1)) vw84)) (I16 (IntKind.i64.wrap (s14 + 1)) vw84)))) (Br r78 (Ld vw84 ((⟨vw80.heap.size, 0, none⟩ : Addr).add 1) Slc.v fun (x108 : Slc) =>
                    Br (decide (((x108.len : Nat) : Int) < ((r25.len : Nat) : Int))) (R false vw84) (Ld vw84 ((⟨vw80.heap.size, 0, none⟩ : Addr).add 1) Slc.v fun (x109 : Slc) =>
                      Br (decide (((x109.len : Nat) : Int) > (IntKind.i64.wrap (((r25.len : Nat) : Int) + 1)))) (R false vw84) (Ld vw84 ((⟨vw80.heap.size, 0, none⟩ : Addr).add 1) Slc.v fun (x110 : Slc) =>
                        0 ≤ ((r25.len : Nat) : Int) ∧ ((r25.len : Nat) : Int) ≤ ((x110.cap : Nat) : Int) ∧ C28 (x110.cut 7 0 ((((r25.len : Nat) : Int)).toNat) x110.cap) r25 vw84 fun r111 vw112 =>
                          Br (!r111) (R false vw112) (Br r78 (Ld vw112 (⟨vw80.heap.size, 0, none⟩ : Addr) (Value.int .i64) fun (x113 : Int) =>
                              Br (x113 == 0) (R false vw112) (I16 (IntKind.i64.wrap (s14 + 1)) vw112)) (I16 (IntKind.i64.wrap (s14 + 1)) vw112))))) (Br r78 (Ld vw84 (⟨vw80.heap.size, 0, none⟩ : Addr) (Value.int .i64) fun (x114 : Int) =>
                      Br (x114 == 0) (R false vw84) (I16 (IntKind.i64.wrap (s14 + 1)) vw84)) (I16 (IntKind.i64.wrap (s14 + 1)) vw84))))) (Ld vw73 (⟨vw15.heap.size, 0, none⟩ : Addr) Value.string fun (x115 : ByteArray) =>
          Ld vw73 ((⟨vw15.heap.size, 0, none⟩ : Addr).add 1) Slc.v fun (x116 : Slc) =>
          Ld vw73 ((⟨vw15.heap.size, 0, none⟩ : Addr).add 2) Value.string fun (x117 : ByteArray) =>
          Ld vw73 (⟨w.heap.size, 0, none⟩ : Addr) (Value.int .i64) fun (x118 : Int) =>
          Ld vw73 ((⟨w.heap.size, 0, none⟩ : Addr).add 1) (Value.int .i64) fun (x119 : Int) =>
          Ld vw73 ((⟨w.heap.size, 0, none⟩ : Addr).add 2) (Value.int .i64) fun (x120 : Int) =>
          Ld vw73 ((⟨w.heap.size, 0, none⟩ : Addr).add 3) (Value.int .i64) fun (x121 : Int) =>
          Ld vw73 ((⟨w.heap.size, 0, none⟩ : Addr).add 4) (Value.int .i64) fun (x122 : Int) =>
          Ld vw73 ((⟨w.heap.size, 0, none⟩ : Addr).add 5) (Value.int .i64) fun (x123 : Int) =>
          C23 r8 (x115, x116, x117) (x118, x119, x120, x121, x122, x123) vw73 fun r124 vw125 =>
            C25 r8 vw125 fun r126 vw127 =>
              Br (decide (((r126.len : Nat) : Int) < ((r25.len : Nat) : Int))) (R false vw127) (0 ≤ ((r25.len : Nat) : Int) ∧ ((r25.len : Nat) : Int) ≤ ((r126.cap : Nat) : Int) ∧ C28 (r126.cut 7 0 ((((r25.len : Nat) : Int)).toNat) r126.cap) r25 vw127 fun r128 vw129 =>
                  Br (!r128) (R false vw129) (Br (r124 != 0) (Br (((r126.len : Nat) : Int) != ((r25.len : Nat) : Int)) (R false vw129) (I16 (IntKind.i64.wrap (s14 + 1)) vw129)) (I16 (IntKind.i64.wrap (s14 + 1)) vw129))))) (R true vw15)
/-- foliant/foliantlaw45.PathStays -/
def S7 (l1 : Slc) (m2 : Int × Int × Int × Int × Int × Int) (w : World) (R : Bool → World → Prop) : Prop :=
  Nw w (.cells #[.int .i64 (m2.1), .int .i64 (m2.2.1), .int .i64 (m2.2.2.1), .int .i64 (m2.2.2.2.1), .int .i64 (m2.2.2.2.2.1), .int .i64 (m2.2.2.2.2.2)] 23) fun vw3 =>
  C34 vw3 fun r6 vw7 =>
    Br (!r6) (R false vw7) (C22 vw7 fun r8 vw9 =>
        C33 l1 vw9 fun r12 vw13 =>
          Br (!r12) (R (!(r8.isNone)) vw13) (Br r8.isNone (R (!(r8.isNone)) vw13) (Lp (σ := Int) (S7L1 w l1 r8 R) 0 vw13)))
def pl7 : Plan := (.seq (.reg .seq) (.seq (.seq (.reg .seq) (.cond (.seq (.reg .seq) .leaf) .leaf)) (.seq (.reg .seq) (.seq (.seq (.reg .seq) (.cond (.seq (.reg .seq) .leaf) .leaf)) (.seq (.seq (.reg .seq) (.block (.loop [(29, (.one (.int .i64)))] [3, 5, 27, 28] (.seq (.reg .seq) (.seq (.cond .leaf .leaf) (.seq (.block (.seq (.reg .seq) (.seq (.reg .seq) (.seq (.seq (.reg .seq) (.cond (.seq (.reg .seq) (.seq (.reg .seq) (.seq (.seq (.reg .seq) (.cond (.seq (.reg .seq) .leaf) .leaf)) .leaf))) .leaf)) (.seq (.reg .seq) (.seq (.reg .seq) (.seq (.reg .seq) (.cond (.seq (.reg .seq) .leaf) .leaf)))))))) (.reg .seq))))))) (.seq (.reg .seq) .leaf))))))
set_option maxRecDepth 100000 in
theorem T7 (l1 : Slc) (m2 : Int × Int × Int × Int × Int × Int) (w : World) (R : Bool → World → Prop) (h : S7 l1 m2 w R) : C7 l1 (m2.1, m2.2.1, m2.2.2.1, m2.2.2.2.1, m2.2.2.2.2.1, m2.2.2.2.2.2) w R := by
  have e : fnT Tryd.prog ⟨FF, MAY, (fun _ _ => False)⟩ pl7 Tryd.f7 [Slc.v l1, .agg #[.int .i64 (m2.1), .int .i64 (m2.2.1), .int .i64 (m2.2.2.1), .int .i64 (m2.2.2.2.1), .int .i64 (m2.2.2.2.2.1), .int .i64 (m2.2.2.2.2.2)]] w [(.one .bool)] (fun s w => R s w) = S7 l1 m2 w R := by kernel_rfl
  exact (fn_calls okF okM Tryd.func7 (by kernel_rfl) (by kernel_rfl) (e.mpr h)).mono fun _ _ ⟨s, he, hR⟩ => ⟨s, he, hR⟩

end Go.Proofs.YtjbeembbnkmpeaaDoor

/- Paths: what the layer's sample shows. Conditions: the tables are laid; Box. -/
namespace Go.Proofs.YtjbeembbnkmpeaaDoor
namespace Pat
open Sh Mat Fix Opr
set_option linter.unusedVariables false
set_option linter.unusedSimpArgs false
set_option maxRecDepth 8000
set_option maxHeartbeats 8000000
abbrev eB : ByteArray := ⟨#[]⟩
abbrev iO (n : Int) : Ob := (2, n, 0, eB, nilS, nilS)
theorem IV.of {w : World} {g : Nat} {l : List Int} {t : TypeId} (h : Blk w g (ints l).toArray t) : IV w (rowS g l.length) l := ⟨rfl, VRow.of h (by rw [ints_len, Nat.mul_one])⟩
section
variable {w0 w w' w1 : World} {ns sg : Slc} {l : List Int} {L : List Ob} {b mb : Nat} {p : Pa} {m : Mx} {a d : ByteArray} {g : G}
attribute [local irreducible] Ld Sh.St Nw Nn LdS LdT LdST StT
theorem c_opN (h : IV w ns l) (hl : l.length ≤ 1000) : C42 a ns w fun r w1 => ∃ s, r = (a, s, eB) ∧ OV w1 s (l.map iO) ∧ Ext (fun _ => False) w w1 := by
  refine T42 _ _ _ _ ?_
  unfold S42
  refine (Hn.start w).nw fun w2 H => ?_
  refine H.nw fun w3 H => ?_
  simp only [List.cons_append, List.nil_append, add_lit, Nat.zero_add] at H ⊢
  iterate 2 (refine H.st 1 rfl (by simp) fun _ H => ?_; simp only [List.set_cons_zero, List.set_cons_succ] at H)
  refine H.st 1 rfl (by simp) fun w4 H => ?_
  simp only [List.set_cons_zero, List.set_cons_succ] at H
  have hlen := h.1
  have l0 := H.lt 0 rfl
  have l1 := H.lt 1 rfl
  have g0 := H.ge 0 rfl
  have g1 := H.ge 1 rfl
  have l01 : w.heap.size ≠ w2.heap.size := by
    have := H.h.nodup
    simp [arr] at this
    exact this
  refine ⟨fun n st v => ∃ (i : Nat) (s : Slc), st = (i : Int) ∧ i ≤ l.length ∧ n = l.length - i ∧ Blk v w2.heap.size [.string a, Slc.v s, .string eB].toArray 63 ∧ Row v s 81 6 (((l.take i).map iO).flatMap obrow) ∧ (∀ j, s.own j → w4.heap.size ≤ j) ∧ Ext (fun j => j = w2.heap.size) w4 v, l.length, ⟨0, nilS, rfl, by omega, rfl, H.get 1 rfl, Row.nil _ _ _, fun j hj => (by obtain ⟨a', ha, _⟩ := hj; cases ha), Ext.refl _ _⟩, ?_⟩
  rintro n st v ⟨i, s, rfl, hi, rfl, hb, hrow, hown, ev⟩
  unfold S42L1
  simp only [add_lit, Nat.zero_add]
  have E : Ext (fun _ => False) w v := Ext.new H.ext ev fun j hj => by omega
  have hsl : s.len = i := by
    have := hrow.1
    rw [obs_len, List.length_map, List.length_take] at this
    omega
  have sv := ev.size
  rw [hlen]
  refine Br.dec (fun q => ?_) fun q => ?_
  · rw [← hlen]
    refine ld_iv (i := i) (h.keep E) (by omega) rfl ?_
    refine Ld.of hb rfl ?_
    refine (Hn.start v).nw (cs := obrow (iO (l.getD i 0))) fun v2 H2 => ?_
    have e2 := H2.ext
    obtain ⟨s', v3, r1, r2, r3, e3, r5⟩ := elOb.app1 (ty := 60) (hrow.keep e2 fun _ _ e => e) (H2.get 0 rfl) rfl (ob_one _) (by omega) (by omega)
    refine ⟨s', v3, r1, ?_⟩
    have hown' : ∀ j, s'.own j → w4.heap.size ≤ j := fun j hj => (r5 j hj).elim (hown j) fun h => by have := e2.size; omega
    refine stB (e3.blk (e2.blk hb id) fun h => by have := hown _ h; omega) (by simp) fun v4 b4 e4 => ?_
    refine ⟨l.length - (i + 1), by omega, i + 1, s', by rw [i64_id (by omega)]; rfl, by omega, by omega, b4, ?_, hown', ?_⟩
    · have ht : l.take (i + 1) = l.take i ++ [l.getD i 0] := by
        have : l[i]? = some l[i] := List.getElem?_eq_getElem (by omega)
        rw [List.take_add_one, this, List.getD_eq_getElem?_getD, this]
        rfl
      rw [ht, List.map_append, List.flatMap_append]
      exact (show Row v3 s' 81 6 (((l.take i).map iO).flatMap obrow ++ ([iO (l.getD i 0)].flatMap obrow)) by simpa using r2).keep e4 fun j hj e => by have e : j = w2.heap.size := e; have := hown' j hj; omega
    · exact ((ev.trans e2 (fun _ h => h) fun _ _ e => e.elim).trans e3 (fun _ h => h) fun j hj h => by have := hown j h; omega).tr e4
  · have hil : i = l.length := by omega
    subst hil
    rw [List.take_length] at hrow
    iterate 3 refine Ld.of hb rfl ?_
    have z := ev.blk (H.get 0 rfl) l01
    refine stB z (by simp) fun v2 z2 e2 => stB z2 (by simp) fun v3 z3 e3 => stB z3 (by simp) fun v4 z4 e4 => ?_
    iterate 3 refine Ld.of z4 rfl ?_
    have e24 := (e2.tr e3).tr e4
    refine ⟨s, rfl, ⟨by rw [hsl, List.length_map], (hrow.keep e24 fun j hj e => by have e : j = w.heap.size := e; have := hown j hj; omega).view⟩, Ext.new E e24 fun j hj => by omega⟩
theorem SV.own_lt {s : Slc} {T : List Sg} (h : SV w s T) (hne : T ≠ []) {j : Nat} (hj : s.own j) : j < w.heap.size := by
  cases T with
  | nil => exact absurd rfl hne
  | cons o r =>
    obtain ⟨a, ha, hc⟩ := h.get (i := 0) rfl
    obtain ⟨a', ha', rfl⟩ := hj
    rw [ha] at ha'
    cases ha'
    have := cell_lt' (hc 0 _ rfl)
    rw [add_block, add_block] at this
    exact this
/-- The sample's path, and what lies beside it: blocks that are known whole, rows of segments. -/
structure LS (w0 w : World) (b : Nat) (p : Pa) (sg : Slc) (N : List (Nat × List Value × TypeId)) (M : List (Slc × List Sg)) : Prop where
  ext : Ext (fun _ => False) w0 w
  pv : PV w b p sg
  own : ∀ j, sg.own j → w0.heap.size ≤ j
  ge : w0.heap.size ≤ b
  pin : ∀ q, q ∈ N → Blk w q.1 q.2.1.toArray q.2.2 ∧ ¬ sg.own q.1 ∧ q.1 ≠ b
  pis : ∀ q, q ∈ M → SV w q.1 q.2 ∧ ∀ j, q.1.own j → ¬ sg.own j ∧ j ≠ b ∧ j < w.heap.size
section
variable {N : List (Nat × List Value × TypeId)} {M : List (Slc × List Sg)}
theorem LS.keep (h : LS w0 w b p sg N M) (he : Ext (fun _ => False) w w') : LS w0 w' b p sg N M := ⟨h.ext.tr he, h.pv.keep he, h.own, h.ge, fun q hq => ⟨he.blk (h.pin q hq).1 id, (h.pin q hq).2⟩, fun q hq => ⟨(h.pis q hq).1.keep he, fun j hj => ⟨((h.pis q hq).2 j hj).1, ((h.pis q hq).2 j hj).2.1, by have := ((h.pis q hq).2 j hj).2.2; have := he.size; omega⟩⟩⟩
theorem LS.get (h : LS w0 w b p sg N M) (i : Nat) {q : Nat × List Value × TypeId} (hi : N[i]? = some q) : Blk w q.1 q.2.1.toArray q.2.2 := (h.pin q (List.mem_of_getElem? hi)).1
theorem LS.gets (h : LS w0 w b p sg N M) (i : Nat) {q : Slc × List Sg} (hi : M[i]? = some q) : SV w q.1 q.2 := (h.pis q (List.mem_of_getElem? hi)).1
theorem LS.push (h : LS w0 w b p sg N M) {g : Nat} {cs : List Value} {t : TypeId} {wa : World} (hb : Blk w g cs.toArray t) (hP : PV wa b p sg) (hg : wa.heap.size ≤ g) : LS w0 w b p sg (N ++ [(g, cs, t)]) M :=
  ⟨h.ext, h.pv, h.own, h.ge, fun q hq => by
    rcases List.mem_append.1 hq with hq | hq
    · exact h.pin q hq
    · rw [List.mem_singleton.1 hq]
      exact ⟨hb, fun hj => by have := hP.seg.own_lt hj; omega, by have := hP.blk.lt; omega⟩, h.pis⟩
theorem LS.pushS (h : LS w0 w b p sg N M) {s : Slc} {T : List Sg} {wa : World} (hs : SO wa w s T) (hP : PV wa b p sg) : LS w0 w b p sg N (M ++ [(s, T)]) :=
  ⟨h.ext, h.pv, h.own, h.ge, h.pin, fun q hq => by
    rcases List.mem_append.1 hq with hq | hq
    · exact h.pis q hq
    · rw [List.mem_singleton.1 hq]
      exact ⟨hs.sv, fun j hj => ⟨fun hj' => by have := hP.seg.own_lt hj'; have := hs.2 j hj; omega, by have := hP.blk.lt; have := hs.2 j hj; omega, hs.1.own_lt hj⟩⟩⟩
theorem LS.turn {sg' : Slc} {p' : Pa} (h : LS w0 w b p sg N M) (h2 : PV w1 b p' sg') (h3 : Ext (fun j => j = b ∨ sg.own j) w w1) (h4 : ∀ j, sg'.own j → sg.own j ∨ w.heap.size ≤ j) : LS w0 w1 b p' sg' N M := by
  have sz := h.ext.size
  have hge := h.ge
  refine ⟨Ext.new h.ext h3 fun j hj => ?_, h2, fun j hj => (h4 j hj).elim (h.own j) fun h => by omega, h.ge, fun q hq => ?_, fun q hq => ?_⟩
  · rcases hj with rfl | hj
    · exact hge
    · exact h.own j hj
  · obtain ⟨k1, k2, k3⟩ := h.pin q hq
    have := k1.lt
    exact ⟨h3.blk k1 fun hj => hj.elim k3 k2, fun hj => (h4 _ hj).elim k2 fun h => by omega, k3⟩
  · obtain ⟨k1, k2⟩ := h.pis q hq
    have := h3.size
    exact ⟨k1.keepF h3 fun j hj e => e.elim (k2 j hj).2.1 (k2 j hj).1, fun j hj => ⟨fun hj' => (h4 j hj').elim (k2 j hj).1 fun h => by have := (k2 j hj).2.2; omega, (k2 j hj).2.1, by have := (k2 j hj).2.2; omega⟩⟩
theorem LS.do_ (hs : AS w0) (h : LS w0 w b p sg N M) {s : Slc} {m' : Mx} (ho : OV w s L) (hl : L.length ≤ 9223372036854775807) {e : Int} {p' : Pa} (hd : doP p (bl a) (bl d) L m' = (e, p')) :
    C23 (some ⟨b, 0, none⟩) (a, s, d) m' w fun r w1 => r = e ∧ ∃ sg', LS w0 w1 b p' sg' N M := by
  refine (c_do (hs.keep h.ext) h.pv ho (by omega)).mono ?_
  rintro r w1 ⟨sg', h1, h2, h3, h4⟩
  rw [hd] at h1 h2
  exact ⟨h1.symm, sg', h.turn h2 h3 h4⟩
theorem LS.paint_ (hs : AS w0) (hpm : PM w0) (h : LS w0 w b p sg N M) {s : Slc} (ho : OV w s L) (hl : L.length ≤ 9223372036854775807) (ha : a.size ≤ maxLen) {q : PaR} (hd : paintP p (bl a) (bl d) L = q) :
    C30 (some ⟨b, 0, none⟩) (a, s, d) g w fun r is e w1 => e = q.e ∧ is = q.is ∧ ∃ sp, r = (if q.is = true then mkPt q.how sp (fillG g) (strkG g) else pt0) ∧ SV w1 sp q.L ∧ (∀ j, sp.own j → sg.own j ∨ w.heap.size ≤ j) ∧ ∃ sg', LS w0 w1 b q.p sg' N M ∧ (q.e = 0 → sg' = nilS) ∧ sp.len ≤ sp.cap := by
  refine (c_paint (hs.keep h.ext) (hpm.keep h.ext) h.pv ho (by omega) ha).mono ?_
  rintro r is e w1 ⟨sg', sp, h1, h2, h3, h4, h5, h6, h7, h8, h9⟩
  rw [hd] at h1 h2 h3 h4 h5 h9
  exact ⟨h3, h2, sp, h1, h4, h8, sg', h.turn h5 h6 h7, h9⟩
end
theorem c_doNil (a d : ByteArray) (s : Slc) (m : Mx) (w : World) : C23 none (a, s, d) m w fun r w1 => r = 1 ∧ Ext (fun _ => False) w w1 := by
  refine T23 _ (a, s, d) m _ _ ?_
  unfold S23
  refine (Hn.start w).nw fun w2 H => ?_
  refine H.nw fun w3 H => ?_
  refine H.nw fun w4 H => ?_
  simp only [List.cons_append, List.nil_append, add_lit, Nat.zero_add] at H ⊢
  refine (c_need _ 1 _).mono ?_ ?_
  · rintro w5 ⟨hh, _⟩
    cases hh
  · rintro v w5 ⟨rfl, _, rfl⟩
    have g2 := H.ge 2 rfl
    exact c_pan w3 (H.get 2 rfl) fun w8 e8 => ⟨rfl, Ext.new H.ext e8 fun j hj => by omega⟩
/-! ### What operators do to the sample's path -/
abbrev oneM : Mx := (10000, 0, 0, 10000, 0, 0)
def p1 : Pa := ⟨[mvS (10000, 10000)], (10000, 10000), false⟩
def p2 : Pa := ⟨[mvS (10000, 10000), lnS (20000, 10000)], (10000, 10000), false⟩
def p3 : Pa := ⟨[mvS (10000, 10000), lnS (20000, 10000), cvS (20000, 10000) (30000, 30000) (40000, 10000)], (10000, 10000), false⟩
def p4 : Pa := ⟨[mvS (0, 0), lnS (40000, 0), lnS (40000, 30000), lnS (0, 30000), clS], (0, 0), false⟩
def p5 : Pa := ⟨[mvS (0, 0), lnS (40000, 0), lnS (40000, 30000), lnS (0, 30000), clS], (0, 0), true⟩
theorem d_l0 : doP pa0 (bl ⟨#[108]⟩) (bl eB) ([1, 1].map iO) oneM = (29, pa0) := by kernel_rfl
theorem d_m : doP pa0 (bl ⟨#[109]⟩) (bl eB) ([1, 1].map iO) oneM = (0, p1) := by kernel_rfl
theorem d_l : doP p1 (bl ⟨#[108]⟩) (bl eB) ([2, 1].map iO) oneM = (0, p2) := by kernel_rfl
theorem d_l1 : doP p2 (bl ⟨#[108]⟩) (bl eB) ([2].map iO) oneM = (28, p2) := by kernel_rfl
theorem d_q : doP p2 (bl ⟨#[113]⟩) (bl eB) ([].map iO) oneM = (8, p2) := by kernel_rfl
theorem d_v : doP p2 (bl ⟨#[118]⟩) (bl eB) ([3, 3, 4, 1].map iO) oneM = (0, p3) := by kernel_rfl
theorem d_re : doP pa0 (bl ⟨#[114, 101]⟩) (bl eB) ([0, 0, 2, 3].map iO) (20000, 0, 0, 10000, 0, 0) = (0, p4) := by kernel_rfl
theorem d_W : doP p4 (bl ⟨#[87]⟩) (bl eB) ([].map iO) oneM = (0, p5) := by kernel_rfl
theorem d_s : paintP p3 (bl ⟨#[115]⟩) (bl eB) ([].map iO) = ⟨0, 4, p3.L ++ [clS], true, pa0⟩ := by kernel_rfl
theorem d_n : paintP pa0 (bl ⟨#[110]⟩) (bl eB) ([].map iO) = ⟨0, 0, [], false, pa0⟩ := by kernel_rfl
theorem d_pm : paintP pa0 (bl ⟨#[109]⟩) (bl eB) ([1, 1].map iO) = ⟨8, 0, [], false, pa0⟩ := by kernel_rfl
theorem d_n5 : paintP p5 (bl ⟨#[110]⟩) (bl eB) ([].map iO) = ⟨0, 8, p5.L, true, pa0⟩ := by kernel_rfl
theorem d_box : boxP (ptsL p3.L) = ((10000, 10000, 40000, 30000), true) := by kernel_rfl
theorem d_box0 : boxP (ptsL []) = ((0, 0, 0, 0), false) := by kernel_rfl
end
end Pat
end Go.Proofs.YtjbeembbnkmpeaaDoor

/- Paths: the layer's sample holds. Conditions: the tables are laid; Box. -/
namespace Go.Proofs.YtjbeembbnkmpeaaDoor
namespace Pat
open Sh Mat Fix Opr
set_option linter.unusedVariables false
set_option linter.unusedSimpArgs false
set_option maxRecDepth 8000
set_option maxHeartbeats 8000000
attribute [local irreducible] Ld Sh.St Nw Nn LdS LdT LdST StT
theorem t_br {c : Bool} {A B : Prop} (h : c = true) (k : A) : Br c A B := by rw [h]; exact k
theorem f_br {c : Bool} {A B : Prop} (h : c = false) (k : B) : Br c A B := by rw [h]; exact k
theorem c_lives {W : World} (hbox : BoxOk) (hs : AS W) (hpm : PM W) : C34 W fun r w1 => r = true ∧ Ext (fun _ => False) W w1 := by
  refine T34 _ _ ?_
  unfold S34
  refine (r_one W).mono ?_
  rintro r w2 ⟨rfl, e2⟩
  have s2 := e2.size
  refine (Hn.start w2).nw fun w3 K => ?_
  simp only [List.nil_append, add_lit, Nat.zero_add] at K ⊢
  iterate 5 (refine K.st 0 rfl (by simp) fun _ K => ?_; simp only [List.set_cons_zero, List.set_cons_succ] at K)
  refine K.st 0 rfl (by simp) fun w4 K => ?_
  simp only [List.set_cons_zero, List.set_cons_succ] at K
  have hmat : Blk w4 w2.heap.size (mrow oneM).toArray 23 := K.get 0 rfl
  have E4 := e2.tr K.ext
  refine (c_new w4).mono ?_
  rintro r w5 ⟨b, rfl, hb, hpv, e5⟩
  have s4 := E4.size
  have l4 := hmat.lt
  have H : LS W w5 b pa0 nilS [(w2.heap.size, mrow oneM, 23)] [] := ⟨E4.tr e5, hpv, fun j hj => (by obtain ⟨a', ha, _⟩ := hj; cases ha), by omega, fun q hq => by
    rw [List.mem_singleton.1 hq]
    exact ⟨e5.blk hmat id, fun hj => (by obtain ⟨a', ha, _⟩ := hj; cases ha), by show w2.heap.size ≠ b; omega⟩, fun q hq => (List.not_mem_nil hq).elim⟩
  have hM : ∀ {w' p sg N M}, LS W w' b p sg ((w2.heap.size, mrow oneM, 23) :: N) M → Blk w' w2.heap.size (mrow oneM).toArray 23 := fun h => h.get 0 rfl
  clear K hmat
  refine f_br rfl ?_
  have H := H.keep (Ext.refl _ _).drew
  refine ⟨fun w' => Blk w' w2.heap.size (mrow oneM).toArray 23, hM H, ?_⟩
  iterate 6 refine LdS.of (fun w' h' => h') rfl ?_
  refine (Hn.start _).nw (cs := ints [1, 1]) fun _ K => ?_
  have H := H.keep K.ext
  refine ⟨hM H, (c_opN (l := [1, 1]) (IV.of (K.get 0 rfl)) (by simp)).mono ?_⟩
  rintro r _ ⟨_, rfl, ho, ef⟩
  have H := H.keep ef
  refine ⟨hM H, (LS.do_ hs H ho (by simp) d_l0).mono ?_⟩
  rintro r _ ⟨rfl, _, H⟩
  have H := H.keep (Ext.refl _ _).drew
  refine ⟨fun w' => Blk w' w2.heap.size (mrow oneM).toArray 23, hM H, ?_⟩
  iterate 6 refine LdS.of (fun w' h' => h') rfl ?_
  refine (Hn.start _).nw (cs := ints [1, 1]) fun _ K => ?_
  have H := H.keep K.ext
  refine ⟨hM H, (c_opN (l := [1, 1]) (IV.of (K.get 0 rfl)) (by simp)).mono ?_⟩
  rintro r _ ⟨_, rfl, ho, ef⟩
  have H := H.keep ef
  refine ⟨hM H, (LS.do_ hs H ho (by simp) d_m).mono ?_⟩
  rintro r _ ⟨rfl, _, H⟩
  have H := H.keep (Ext.refl _ _).drew
  refine ⟨fun w' => Blk w' w2.heap.size (mrow oneM).toArray 23, hM H, ?_⟩
  iterate 6 refine LdS.of (fun w' h' => h') rfl ?_
  refine (Hn.start _).nw (cs := ints [2, 1]) fun _ K => ?_
  have H := H.keep K.ext
  refine ⟨hM H, (c_opN (l := [2, 1]) (IV.of (K.get 0 rfl)) (by simp)).mono ?_⟩
  rintro r _ ⟨_, rfl, ho, ef⟩
  have H := H.keep ef
  refine ⟨hM H, (LS.do_ hs H ho (by simp) d_l).mono ?_⟩
  rintro r _ ⟨rfl, _, H⟩
  have H := H.keep (Ext.refl _ _).drew
  refine ⟨fun w' => Blk w' w2.heap.size (mrow oneM).toArray 23, hM H, ?_⟩
  iterate 6 refine LdS.of (fun w' h' => h') rfl ?_
  refine (Hn.start _).nw (cs := ints [2]) fun _ K => ?_
  have H := H.keep K.ext
  refine ⟨hM H, (c_opN (l := [2]) (IV.of (K.get 0 rfl)) (by simp)).mono ?_⟩
  rintro r _ ⟨_, rfl, ho, ef⟩
  have H := H.keep ef
  refine ⟨hM H, (LS.do_ hs H ho (by simp) d_l1).mono ?_⟩
  rintro r _ ⟨rfl, _, H⟩
  have H := H.keep (Ext.refl _ _).drew
  refine ⟨fun w' => Blk w' w2.heap.size (mrow oneM).toArray 23, hM H, ?_⟩
  iterate 6 refine LdS.of (fun w' h' => h') rfl ?_
  refine (c_opN (l := []) (IV.nil _) (by simp)).mono ?_
  rintro r _ ⟨_, rfl, ho, ef⟩
  have H := H.keep ef
  refine ⟨hM H, (LS.do_ hs H ho (by simp) d_q).mono ?_⟩
  rintro r _ ⟨rfl, _, H⟩
  have H := H.keep (Ext.refl _ _).drew
  refine ⟨fun w' => Blk w' w2.heap.size (mrow oneM).toArray 23, hM H, ?_⟩
  iterate 6 refine LdS.of (fun w' h' => h') rfl ?_
  refine (Hn.start _).nw (cs := ints [3, 3, 4, 1]) fun _ K => ?_
  have H := H.keep K.ext
  refine ⟨hM H, (c_opN (l := [3, 3, 4, 1]) (IV.of (K.get 0 rfl)) (by simp)).mono ?_⟩
  rintro r _ ⟨_, rfl, ho, ef⟩
  have H := H.keep ef
  refine ⟨hM H, (LS.do_ hs H ho (by simp) d_v).mono ?_⟩
  rintro r _ ⟨rfl, _, H⟩
  refine (c_segs H.pv).mono ?_
  rintro sA w20 ⟨hA, eA⟩
  have hAl : sA.len = 3 := hA.sv.1
  have H := H.keep eA
  refine (c_segs H.pv).mono ?_
  rintro sB w21 ⟨hB, eB⟩
  have H := H.keep eB
  refine (hbox _ _ _ hB.sv (by decide)).mono ?_
  rintro bx is w22 ⟨hbx, eC⟩
  rw [show boxP (ptsL p3.L) = _ from d_box] at hbx
  cases hbx
  have H := H.keep eC
  have P22 := H.pv
  refine (Hn.start w22).nw fun _ K => ?_
  simp only [List.nil_append] at K
  iterate 4 (refine K.st 0 rfl (by simp) fun _ K => ?_; simp only [List.set_cons_zero, List.set_cons_succ] at K)
  have H := (H.keep K.ext).push (K.get 0 rfl) P22 (Nat.le_refl _)
  simp only [List.cons_append, List.nil_append] at H
  refine (c_opN (l := []) (IV.nil _) (by simp)).mono ?_
  rintro r _ ⟨_, rfl, ho, ef⟩
  have H := H.keep ef
  have PB1 := H.pv
  refine (LS.paint_ hs hpm H ho (by simp) (by decide) d_s).mono ?_
  rintro r1 is1 e1 w31 ⟨he1, hi1, sp1, hr1, hsv1, hso1, sg1, H, hnil1, hcp1⟩
  have hr1 : r1 = mkPt 4 sp1 (0, 5, 0, 0, 0) (0, 0, 0, 0, 0) := hr1
  have hi1 : is1 = true := hi1
  have he1 : e1 = 0 := he1
  subst hr1 hi1 he1
  have P31 := H.pv
  refine (Hn.start w31).nw (cs := Sig.cells LPt pt0) fun _ K => ?_
  simp only [List.nil_append] at K
  refine StT.blk (pre := []) (post := []) (zs := Sig.cells LPt pt0) (ts := LPt) (by rw [List.append_nil]; exact K.get 0 rfl) rfl rfl fun w41 g41 e41 => ?_
  rw [List.append_nil] at g41
  have E41 : Ext (fun _ => False) w31 w41 := Ext.new K.ext e41 fun j hj => by have hj : j = w31.heap.size := hj; omega
  have H := (H.keep E41).push g41 P31 (Nat.le_refl _)
  simp only [List.cons_append, List.nil_append] at H
  obtain rfl : sg1 = nilS := hnil1 rfl
  have hsv1 : SV _ sp1 (p3.L ++ [clS]) := hsv1.keep E41
  have hso1' : ∀ j, sp1.own j → j < w41.heap.size := fun j hj => hsv1.own_lt (by simp) hj
  have H : LS W w41 b pa0 nilS _ [(sp1, p3.L ++ [clS])] := ⟨H.ext, H.pv, H.own, H.ge, H.pin, fun q hq => by
    rw [List.mem_singleton.1 hq]
    refine ⟨hsv1, fun j hj => ⟨fun hj' => (by obtain ⟨a', ha, _⟩ := hj'; cases ha), ?_, hso1' j hj⟩⟩
    exact (hso1 j hj).elim (fun h => PB1.own j h) fun h => by have := PB1.blk.lt; omega⟩
  refine (c_opN (l := []) (IV.nil _) (by simp)).mono ?_
  rintro r _ ⟨_, rfl, ho, ef⟩
  have H := H.keep ef
  have PB2 := H.pv
  refine (LS.paint_ hs hpm H ho (by simp) (by decide) d_n).mono ?_
  rintro r2 is2 e2 w32 ⟨he2, hi2, sp2, hr2, hsv2, hso2, sg2, H, hnil2, hcp2⟩
  have hr2 : r2 = pt0 := hr2
  have hi2 : is2 = false := hi2
  have he2 : e2 = 0 := he2
  subst hr2 hi2 he2
  have P32 := H.pv
  refine (Hn.start w32).nw (cs := Sig.cells LPt pt0) fun _ K => ?_
  simp only [List.nil_append] at K
  refine StT.blk (pre := []) (post := []) (zs := Sig.cells LPt pt0) (ts := LPt) (by rw [List.append_nil]; exact K.get 0 rfl) rfl rfl fun w42 g42 e42 => ?_
  rw [List.append_nil] at g42
  have E42 : Ext (fun _ => False) w32 w42 := Ext.new K.ext e42 fun j hj => by have hj : j = w32.heap.size := hj; omega
  have H := (H.keep E42).push g42 P32 (Nat.le_refl _)
  simp only [List.cons_append, List.nil_append] at H
  refine (Hn.start _).nw (cs := ints [1, 1]) fun _ K => ?_
  have H := H.keep K.ext
  refine (c_opN (l := [1, 1]) (IV.of (K.get 0 rfl)) (by simp)).mono ?_
  rintro r _ ⟨_, rfl, ho, ef⟩
  have H := H.keep ef
  have PB3 := H.pv
  refine (LS.paint_ hs hpm H ho (by simp) (by decide) d_pm).mono ?_
  rintro r3 is3 e3 w33 ⟨he3, hi3, sp3, hr3, hsv3, hso3, sg3, H, hnil3, hcp3⟩
  have hr3 : r3 = pt0 := hr3
  have hi3 : is3 = false := hi3
  have he3 : e3 = 8 := he3
  subst hr3 hi3 he3
  have P33 := H.pv
  refine (Hn.start w33).nw (cs := Sig.cells LPt pt0) fun _ K => ?_
  simp only [List.nil_append] at K
  refine StT.blk (pre := []) (post := []) (zs := Sig.cells LPt pt0) (ts := LPt) (by rw [List.append_nil]; exact K.get 0 rfl) rfl rfl fun w43 g43 e43 => ?_
  rw [List.append_nil] at g43
  have E43 : Ext (fun _ => False) w33 w43 := Ext.new K.ext e43 fun j hj => by have hj : j = w33.heap.size := hj; omega
  have H := (H.keep E43).push g43 P33 (Nat.le_refl _)
  simp only [List.cons_append, List.nil_append] at H
  refine (Hn.start _).nw (cs := ints [0, 0, 2, 3]) fun _ K => ?_
  have H := H.keep K.ext
  refine (c_opN (l := [0, 0, 2, 3]) (IV.of (K.get 0 rfl)) (by simp)).mono ?_
  rintro r _ ⟨_, rfl, ho, ef⟩
  have H := H.keep ef
  refine (r_scale 20000 10000 _).mono ?_
  rintro r _ ⟨rfl, esc⟩
  have ho := ho.keep esc
  have H := H.keep esc
  refine (LS.do_ hs H ho (by simp) d_re).mono ?_
  rintro r _ ⟨rfl, _, H⟩
  have H := H.keep (Ext.refl _ _).drew
  refine ⟨fun w' => Blk w' w2.heap.size (mrow oneM).toArray 23, hM H, ?_⟩
  iterate 6 refine LdS.of (fun w' h' => h') rfl ?_
  refine (c_opN (l := []) (IV.nil _) (by simp)).mono ?_
  rintro r _ ⟨_, rfl, ho, ef⟩
  have H := H.keep ef
  refine ⟨hM H, (LS.do_ hs H ho (by simp) d_W).mono ?_⟩
  rintro r _ ⟨rfl, _, H⟩
  refine (c_segs H.pv).mono ?_
  rintro sR w60 ⟨hR, eR⟩
  have P60 := H.pv
  have H := (H.keep eR).pushS hR P60
  simp only [List.cons_append, List.nil_append] at H
  refine (c_opN (l := []) (IV.nil _) (by simp)).mono ?_
  rintro r _ ⟨_, rfl, ho, ef⟩
  have H := H.keep ef
  have PB4 := H.pv
  refine (LS.paint_ hs hpm H ho (by simp) (by decide) d_n5).mono ?_
  rintro r4 is4 e4 w34 ⟨he4, hi4, sp4, hr4, hsv4, hso4, sg4, H, hnil4, hcp4⟩
  have hr4 : r4 = mkPt 8 sp4 (0, 0, 0, 0, 0) (0, 0, 0, 0, 0) := hr4
  have hi4 : is4 = true := hi4
  have he4 : e4 = 0 := he4
  subst hr4 hi4 he4
  have P34 := H.pv
  refine (Hn.start w34).nw (cs := Sig.cells LPt pt0) fun _ K => ?_
  simp only [List.nil_append] at K
  refine StT.blk (pre := []) (post := []) (zs := Sig.cells LPt pt0) (ts := LPt) (by rw [List.append_nil]; exact K.get 0 rfl) rfl rfl fun w44 g44 e44 => ?_
  rw [List.append_nil] at g44
  have E44 : Ext (fun _ => False) w34 w44 := Ext.new K.ext e44 fun j hj => by have hj : j = w34.heap.size := hj; omega
  have H := (H.keep E44).push g44 P34 (Nat.le_refl _)
  simp only [List.cons_append, List.nil_append] at H
  refine (hbox _ _ _ (SV.nil _) (by decide)).mono ?_
  rintro bx2 is2' w70 ⟨hbx2, eX⟩
  rw [show boxP (ptsL []) = _ from d_box0] at hbx2
  cases hbx2
  have H := H.keep eX
  refine (Hn.start w70).nw fun _ K => ?_
  simp only [List.nil_append] at K
  iterate 4 (refine K.st 0 rfl (by simp) fun _ K => ?_; simp only [List.set_cons_zero, List.set_cons_succ] at K)
  have H := H.keep K.ext
  iterate 6 refine f_br (by decide) ?_
  rw [hAl]
  refine f_br (by decide) (f_br rfl ?_)
  have hb1 := H.get 1 rfl
  iterate 4 refine Ld.of hb1 rfl ?_
  refine f_br (by decide) (f_br rfl (f_br (by decide) ?_))
  have hb2 := H.get 2 rfl
  have sv1 := H.gets 0 rfl
  have sv1l : sp1.len = 4 := sv1.1
  refine Ld.of hb2 rfl (f_br rfl ?_)
  refine Ld.of hb2 rfl ?_
  show Br (((sp1.len : Nat) : Int) != 4) _ _
  rw [sv1l]
  refine f_br (by decide) ?_
  refine Ld.of hb2 rfl ?_
  obtain ⟨ad3, ha3, hc3⟩ := sv1.get (i := 3) rfl
  obtain ⟨ad2, ha2, hc2⟩ := sv1.get (i := 2) rfl
  rw [ha3] at ha2
  cases ha2
  have hc30 := hc3 0 _ rfl
  rw [add_add', Nat.add_zero] at hc30
  show 0 ≤ (3 : Int) ∧ (3 : Int) < ((sp1.len : Nat) : Int) ∧ Nn sp1.p _
  rw [sv1l, ha3]
  refine ⟨by decide, by decide, Nn.of (Ld.mk hc30 ?_)⟩
  refine f_br (by decide) (Ld.of hb2 rfl ?_)
  show 0 ≤ (2 : Int) ∧ (2 : Int) < ((sp1.len : Nat) : Int) ∧ Nn sp1.p _
  rw [sv1l, ha3]
  refine ⟨by decide, by decide, Nn.of (Ld.mk (hc2 1 _ rfl) ?_)⟩
  have hc22 := hc2 2 _ rfl
  rw [← add_add' _ 1 1] at hc22
  refine Ld.mk hc22 (f_br (by decide) ?_)
  refine Ld.of hb2 rfl (f_br rfl ?_)
  refine f_br rfl (f_br (by decide) (f_br (by decide) ?_))
  have H := H.keep (Ext.refl _ _).drew
  have hS : ∀ {w'}, SV w' sR p5.L → sR.len = 5 := fun h => h.1
  refine ⟨fun w' => SV w' sR p5.L ∧ Blk w' w34.heap.size (Sig.cells LPt (mkPt 8 sp4 (0, 0, 0, 0, 0) (0, 0, 0, 0, 0))).toArray 76, ⟨H.gets 1 rfl, H.get 5 rfl⟩, ?_⟩
  refine t_br (by decide) (t_br (by decide) ?_)
  have svR := H.gets 1 rfl
  have svRl : sR.len = 5 := svR.1
  rw [svRl]
  refine t_br (by decide) ?_
  obtain ⟨adR, haR, hcR⟩ := svR.get (i := 2) rfl
  rw [haR]
  have cellR : ∀ (j : Nat) (v : Value), (sgrow (lnS (40000, 30000)))[j]? = some v → ∀ w', (SV w' sR p5.L ∧ Blk w' w34.heap.size (Sig.cells LPt (mkPt 8 sp4 (0, 0, 0, 0, 0) (0, 0, 0, 0, 0))).toArray 76) → w'.cell? ((adR.add (2 * 7)).add j) = some v := fun j v hj w' h' => by
    obtain ⟨ad', ha', hc'⟩ := h'.1.get (i := 2) rfl
    rw [haR] at ha'
    cases ha'
    exact hc' j v hj
  refine ⟨by decide, by decide, Nn.of (ldS_mk (cellR 5 _ rfl) (ldS_mk (x := 30000) (fun w' h' => by have := cellR 6 _ rfl w' h'; rw [← add_add' _ 5 1] at this; exact this) ⟨⟨H.gets 1 rfl, H.get 5 rfl⟩, ?_⟩))⟩
  refine t_br (by decide) (t_br rfl (t_br (by decide) ?_))
  refine LdS.of (fun w' h' => h'.2) rfl (t_br rfl ?_)
  refine (c_segs H.pv).mono ?_
  rintro sZ w80 ⟨hZ, eZ⟩
  have hZl : sZ.len = 0 := hZ.sv.1
  have H := H.keep eZ
  refine ⟨fun w' => Blk w' w2.heap.size (mrow oneM).toArray 23, hM H, ?_⟩
  rw [hZl]
  refine t_br (by decide) (t_br rfl ?_)
  iterate 6 refine LdS.of (fun w' h' => h') rfl ?_
  refine (Hn.start _).nw (cs := ints [1, 1]) fun _ K => ?_
  have H := H.keep K.ext
  refine ⟨hM H, (c_opN (l := [1, 1]) (IV.of (K.get 0 rfl)) (by simp)).mono ?_⟩
  rintro r _ ⟨_, rfl, ho, ef⟩
  have H := H.keep ef
  refine ⟨hM H, (c_doNil _ _ _ _ _).mono ?_⟩
  rintro r _ ⟨rfl, ef⟩
  have H := H.keep ef
  refine t_br (by decide) ?_
  refine (c_segs0 _).mono ?_
  rintro r _ ⟨rfl, rfl⟩
  refine t_br (by decide) ?_
  refine (c_same (H.gets 1 rfl) (H.gets 1 rfl) (by show p5.L.length ≤ 100000; decide)).mono ?_
  rintro r _ ⟨rfl, ef⟩
  have H := H.keep ef
  refine t_br (decide_eq_true rfl) ?_
  refine (c_same (H.gets 1 rfl) (SV.nil _) (by show p5.L.length ≤ 100000; decide)).mono ?_
  rintro r _ ⟨rfl, ef⟩
  have H := H.keep ef
  exact ⟨by show (!decide (p5.L = [])) = true; decide, H.ext⟩
end Pat
end Go.Proofs.YtjbeembbnkmpeaaDoor


/- Objects as trees; their size is counted; an object as an argument: what its reading tells (XObR and XObA, the parts that need no matrix law). No condition. -/
namespace Go.Proofs.YtjbeembbnkmpeaaDoor
namespace Mat
open Sh Fix
set_option linter.unusedVariables false
set_option linter.unusedSimpArgs false
set_option maxRecDepth 4000
set_option maxHeartbeats 2000000
section
attribute [local irreducible] Ld St Nw Nn Lt LdS
/-- The kids of an object, to depth d: keys and kids can be read. -/
def OT (w : World) : Nat → Ob → Prop
  | 0, _ => False
  | d + 1, o => (∃ K : List ByteArray, K.length ≤ maxLen ∧ o.2.2.2.2.1.len = K.length ∧ ∀ (i : Nat) (b : ByteArray), K[i]? = some b → ∃ a, o.2.2.2.2.1.p = some a ∧ w.cell? (a.add i) = some (.string b)) ∧
    ∃ L : List Ob, L.length ≤ maxLen ∧ OV w o.2.2.2.2.2 L ∧ ∀ o' ∈ L, OT w d o'
theorem OT.mono {w : World} : ∀ (d : Nat) (o : Ob), OT w d o → OT w (d + 1) o
  | 0, _, h => h.elim
  | d + 1, o, h => by
    obtain ⟨h1, L, h2, h3, h4⟩ := h
    exact ⟨h1, L, h2, h3, fun o' ho => OT.mono d o' (h4 o' ho)⟩
theorem c_size {w0 : World} : ∀ (d : Nat) (o : Ob) (w : World), OT w0 d o → Ext (fun _ => False) w0 w → C95 o w fun r w1 => Ext (fun _ => False) w w1
  | 0, _, _, h, _ => h.elim
  | d + 1, o, w, h, he0 => by
    obtain ⟨⟨K, hK, hKl, hKc⟩, L, hLl, hL, hT⟩ := h
    have hmax : maxLen ≤ 9223372036854775807 := by decide
    refine T95 o _ _ ?_
    unfold S95
    refine (Hn.start w).nw fun w2 H => ?_
    simp only [List.nil_append, List.cons_append, List.set_cons_zero, List.set_cons_succ, Nat.zero_add] at H
    iterate 2 refine H.ld 0 rfl rfl ?_
    refine ⟨fun n st w7 => ∃ i : Nat, st.2 = (i : Int) ∧ i ≤ K.length ∧ n = K.length - i ∧ w7 = w2, K.length, ⟨0, rfl, by omega, rfl, rfl⟩, ?_⟩
    rintro n ⟨z, st⟩ w7 ⟨i, hst, hi, rfl, rfl⟩
    simp only at hst
    subst hst
    unfold S95L2
    dsimp only
    rw [hKl]
    refine Br.dec (fun e => ⟨by omega, by omega, ?_⟩) fun e => ?_
    · have hlt : i < K.length := by omega
      obtain ⟨a, ha, hc⟩ := hKc i _ (List.getElem?_eq_getElem hlt)
      rw [ha, Int.toNat_natCast, Nat.mul_one]
      refine Nn.of (Ld.mk ((he0.tr H.ext).cell_same hc) ?_)
      exact ⟨K.length - (i + 1), by omega, i + 1, by rw [i64_id (by omega)]; rfl, by omega, rfl, rfl⟩
    · iterate 1 refine H.ld 0 rfl rfl ?_
      refine ⟨fun n st w8 => ∃ i : Nat, st.2 = (i : Int) ∧ i ≤ L.length ∧ n = L.length - i ∧ Ext (fun _ => False) w w8, L.length, ⟨0, rfl, by omega, rfl, H.ext⟩, ?_⟩
      rintro n ⟨z, st⟩ w8 ⟨i, hst, hi, rfl, he⟩
      simp only at hst
      subst hst
      unfold S95L1
      dsimp only
      rw [hL.1]
      refine Br.dec (fun e => ⟨by omega, by omega, ?_⟩) fun e => he
      have hlt : i < L.length := by omega
      have hLi : L[i]? = some L[i] := List.getElem?_eq_getElem hlt
      obtain ⟨p, hp, k0, k1, k2, k3, k4, k5⟩ := (hL.keep (he0.tr he)).get hLi
      rw [hp, Int.toNat_natCast]
      refine Nn.of (Ld.mk k0 (Ld.mk k1 (Ld.mk k2 (Ld.mk k3 (Ld.mk k4 (Ld.mk k5 ?_))))))
      refine (Hn.start w8).nw fun w9 K => ?_
      simp only [List.nil_append] at K
      iterate 6 (refine K.st 0 rfl (by simp) fun _ K => ?_; simp only [List.set_cons_zero, List.set_cons_succ, Nat.zero_add] at K)
      iterate 6 refine K.ld 0 rfl rfl ?_
      refine (c_size d L[i] _ (hT _ (List.getElem_mem hlt)) (he0.tr (he.tr K.ext))).mono ?_
      rintro r w10 he10
      exact ⟨L.length - (i + 1), by omega, i + 1, by rw [i64_id (by omega)]; rfl, by omega, rfl, he.tr (K.ext.tr he10)⟩
end
theorem rdC_struct' {P : Program} {w : World} {n : Nat} {t : TypeId} {cs : List Value} {L : List (Nat × TypeId)} (hL : fieldsAt P t = some L) (h : RdC P w (n + 1) t cs) : cs.length = P.cellsOf t ∧ ∀ (i o : Nat) (u : TypeId), L[i]? = some (o, u) → RdC P w n u ((cs.drop o).take (P.cellsOf u)) := by
  unfold RdC at h
  unfold fieldsAt at hL
  split at hL
  · rename_i fs hu
    rw [hu] at h
    cases hL
    refine ⟨h.1, fun i o u hi => ?_⟩
    rw [List.getElem?_map] at hi
    obtain ⟨f, h1, h2⟩ := Option.map_eq_some_iff.1 hi
    cases h2
    exact h.2 i f (by simpa using h1)
  · cases hL
/-- A slice's elements, one more than deep enough: what each is. -/
theorem rdC_slice' {P : Program} {w : World} {n k : Nat} {t e : TypeId} {cs : List Value} {α : Type} [Inhabited α] {Q : α → List Value → Prop} (hu : P.underlying t = some (.slice e)) (hk : P.cellsOf e = k) (h : RdC P w (n + 1) t cs)
    (hQ : ∀ cs', RdC P w n e cs' → ∃ q, Q q cs') : ∃ (s : Slc) (L : List α), cs = [Slc.v s] ∧ s.len = L.length ∧ L.length ≤ maxLen ∧ ∀ (i : Nat) (q : α), L[i]? = some q → ∃ a cs', s.p = some a ∧ (∀ j, j < k → w.cell? (a.add (i * k + j)) = cs'[j]?) ∧ Q q cs' := by
  unfold RdC at h
  rw [hu] at h
  obtain ⟨s, h1, h2⟩ := h
  rcases h2 with rfl | ⟨a, hp, g1, g2, hc⟩
  · exact ⟨_, [], h1, rfl, Nat.zero_le _, fun i q hi => by cases hi⟩
  · rw [hk] at hc
    have h' : ∀ i, ∃ q : α, i < s.len → ∃ cs', (∀ j, j < k → w.cell? (a.add (i * k + j)) = cs'[j]?) ∧ Q q cs' := fun i => by
      by_cases hi : i < s.len
      · obtain ⟨cs', hl, hc, hr⟩ := hc i hi
        obtain ⟨q, hq⟩ := hQ cs' hr
        exact ⟨q, fun _ => ⟨cs', hc, hq⟩⟩
      · exact ⟨default, fun hh => absurd hh hi⟩
    refine ⟨s, (List.range s.len).map fun i => Classical.choose (h' i), h1, by simp, by simp; omega, fun i q hi => ?_⟩
    rw [List.getElem?_map] at hi
    obtain ⟨i', hi1, rfl⟩ := Option.map_eq_some_iff.1 hi
    obtain ⟨hlt, rfl⟩ := List.getElem?_eq_some_iff.1 hi1
    simp only [List.length_range] at hlt
    simp only [List.getElem_range]
    obtain ⟨cs', c1, c2⟩ := Classical.choose_spec (h' i) hlt
    exact ⟨a, cs', hp, c1, c2⟩
theorem ob_fields : fieldsAt Tryd.prog 81 = some [(0, 3), (1, 2), (2, 3), (3, 9), (4, 31), (5, 60)] := by kernel_rfl
theorem ob_rd {w : World} : ∀ (n : Nat) (cs : List Value), RdC Tryd.prog w n 81 cs → ∃ o : Ob, cs = obrow o ∧ OT w n o
  | 0, cs, h => h.elim
  | 1, cs, h => ((rdC_struct' ob_fields h).2 0 0 3 rfl).elim
  | n + 2, cs, h => by
    obtain ⟨hl, hf⟩ := rdC_struct' ob_fields h
    rw [show Tryd.prog.cellsOf 81 = 6 by kernel_rfl] at hl
    obtain ⟨c0, c1, c2, c3, c4, c5, rfl⟩ : ∃ c0 c1 c2 c3 c4 c5, cs = [c0, c1, c2, c3, c4, c5] := by
      match cs, hl with
      | [c0, c1, c2, c3, c4, c5], _ => exact ⟨c0, c1, c2, c3, c4, c5, rfl⟩
    have f0 := hf 0 0 3 rfl
    have f1 := hf 1 1 2 rfl
    have f2 := hf 2 2 3 rfl
    have f3 := hf 3 3 9 rfl
    have f4 := hf 4 4 31 rfl
    have f5 := hf 5 5 60 rfl
    rw [show Tryd.prog.cellsOf 3 = 1 by kernel_rfl] at f0 f2
    rw [show Tryd.prog.cellsOf 2 = 1 by kernel_rfl] at f1
    rw [show Tryd.prog.cellsOf 9 = 1 by kernel_rfl] at f3
    rw [show Tryd.prog.cellsOf 31 = 1 by kernel_rfl] at f4
    rw [show Tryd.prog.cellsOf 60 = 1 by kernel_rfl] at f5
    obtain ⟨x0, e0, _⟩ := rdC_int Tryd.underlying3 f0
    obtain ⟨x1, e1, _⟩ := rdC_int Tryd.underlying2 f1
    obtain ⟨x2, e2, _⟩ := rdC_int Tryd.underlying3 f2
    obtain ⟨x3, e3, _⟩ := rdC_string Tryd.underlying9 f3
    obtain ⟨x4, K, e4, l4, m4, g4⟩ := rdC_slice' (Q := fun (b : ByteArray) cs => cs = [.string b]) Tryd.underlying31 (show Tryd.prog.cellsOf 9 = 1 by kernel_rfl) f4 fun cs' h => by
      obtain ⟨s, h1, _⟩ := rdC_string Tryd.underlying9 h
      exact ⟨s, h1⟩
    have : Inhabited Ob := ⟨ob0⟩
    obtain ⟨x5, L, e5, l5, m5, g5⟩ := rdC_slice' (Q := fun (o : Ob) cs => cs = obrow o ∧ OT w n o) Tryd.underlying60 (show Tryd.prog.cellsOf 81 = 6 by kernel_rfl) f5 fun cs' h => ob_rd n cs' h
    obtain rfl : c0 = .int .i64 x0 := by simpa using e0
    obtain rfl : c1 = .int .i64 x1 := by simpa using e1
    obtain rfl : c2 = .int .i64 x2 := by simpa using e2
    obtain rfl : c3 = .string x3 := by simpa using e3
    obtain rfl : c4 = Slc.v x4 := by simpa using e4
    obtain rfl : c5 = Slc.v x5 := by simpa using e5
    refine ⟨(x0, x1, x2, x3, x4, x5), rfl, ⟨K, m4, l4, fun i b hi => ?_⟩, L, m5, ⟨l5, by rw [obs_len, l5], fun j v hj => ?_⟩, fun o' ho => ?_⟩
    · obtain ⟨a, cs', ha, hc, rfl⟩ := g4 i b hi
      have := hc 0 (by omega)
      exact ⟨a, ha, by simpa using this⟩
    · have hjl : j < L.length * 6 := by
        rw [← obs_len]
        exact (List.getElem?_eq_some_iff.1 hj).1
      have hi : j / 6 < L.length := by omega
      have hjj : j = j / 6 * 6 + j % 6 := by omega
      have hLi : L[j / 6]? = some L[j / 6] := List.getElem?_eq_getElem hi
      obtain ⟨a, cs', ha, hc, rfl, _⟩ := g5 _ _ hLi
      refine ⟨a, ha, ?_⟩
      have h1 := hc (j % 6) (by omega)
      rw [hjj] at hj ⊢
      rw [obs_get hLi (by omega)] at hj
      rw [h1]
      exact hj
    · obtain ⟨i, hi, rfl⟩ := List.mem_iff_getElem.1 ho
      obtain ⟨_, _, _, _, _, h⟩ := g5 i _ (List.getElem?_eq_getElem hi)
      exact OT.mono n _ h
theorem ob_arg {H : Type} {enc : TypeId × Value → H} {W : World} {spare : Nat → Bool} {held : Bool} {v : Value} {d : DataW H} {ps : List MemPlace} {rr : Reach} {b0 : Nat}
    (h0 : Value.okWide Tryd.prog W rr b0 81 v) (h : DataW.Trod enc Tryd.prog W 0 spare held 81 v d ps) : ∃ o : Ob, v = .agg (obrow o).toArray ∧ ∃ n, OT W n o := by
  obtain ⟨cs, rfl, hl, n, hn⟩ := rdC_arg_agg (by rw [Tryd.underlying81]; rfl) h0 h
  obtain ⟨o, rfl, ho⟩ := ob_rd n cs hn
  exact ⟨o, rfl, n, ho⟩
end Mat
end Go.Proofs.YtjbeembbnkmpeaaDoor

/- Operators as arguments: what their reading tells (the text of State, with no state beside it). No condition. -/
namespace Go.Proofs.YtjbeembbnkmpeaaDoor
namespace Pat
open Sh Mat Opr
open Go.ChangeShapes Go.WideShapes Go.RowKit
set_option linter.unusedVariables false
set_option linter.unusedSimpArgs false
set_option maxRecDepth 4000
def ob0 (L : List Ob) : Ob := L.getD 0 Mat.ob0
theorem rdC_slS {P : Program} {w : World} {n k : Nat} {t e : TypeId} {cs : List Value} {α : Type} [Inhabited α] {Q : α → List Value → Prop} (hu : P.underlying t = some (.slice e)) (hk : P.cellsOf e = k) (h : RdC P w n t cs)
    (hQ : ∀ m cs', cs'.length = k → RdC P w m e cs' → ∃ q, Q q cs') : ∃ (s : Slc) (L : List α), cs = [Slc.v s] ∧ s.len = L.length ∧ L.length ≤ maxLen ∧ ∀ (i : Nat) (q : α), L[i]? = some q → ∃ a cs', s.p = some a ∧ (∀ j, j < k → w.cell? (a.add (i * k + j)) = cs'[j]?) ∧ Q q cs' := by
  obtain ⟨s, m, h1, h2⟩ := rdC_slice hu h
  rcases h2 with rfl | ⟨a, hp, g1, g2, hc⟩
  · exact ⟨_, [], h1, rfl, Nat.zero_le _, fun i q hi => by cases hi⟩
  · rw [hk] at hc
    have h' : ∀ i, ∃ q : α, i < s.len → ∃ cs', (∀ j, j < k → w.cell? (a.add (i * k + j)) = cs'[j]?) ∧ Q q cs' := fun i => by
      by_cases hi : i < s.len
      · obtain ⟨cs', hl, hc, hr⟩ := hc i hi
        obtain ⟨q, hq⟩ := hQ m cs' hl hr
        exact ⟨q, fun _ => ⟨cs', hc, hq⟩⟩
      · exact ⟨default, fun hh => absurd hh hi⟩
    refine ⟨s, (List.range s.len).map fun i => Classical.choose (h' i), h1, by simp, by simp; omega, fun i q hi => ?_⟩
    rw [List.getElem?_map] at hi
    obtain ⟨i', hi1, rfl⟩ := Option.map_eq_some_iff.1 hi
    obtain ⟨hlt, rfl⟩ := List.getElem?_eq_some_iff.1 hi1
    simp only [List.length_range] at hlt
    simp only [List.getElem_range]
    obtain ⟨cs', c1, c2⟩ := Classical.choose_spec (h' i) hlt
    exact ⟨a, cs', hp, c1, c2⟩
abbrev OpT : Type := ByteArray × Slc × ByteArray
def oprow (o : OpT) : List Value := [.string o.1, Slc.v o.2.1, .string o.2.2]
/-- An operator and its operands. -/
abbrev OpA : Type := OpT × List Ob
def OpOk (w : World) (q : OpA) : Prop := q.1.1.size ≤ maxLen ∧ ∃ n, q.2.length ≤ maxLen ∧ OV w q.1.2.1 q.2 ∧ ∀ o ∈ q.2, OT w n o
/-- The operators of a slice. -/
structure OpsV (w : World) (s : Slc) (P : List OpA) : Prop where
  len : s.len = P.length
  most : P.length ≤ maxLen
  at' : ∀ (i : Nat) (q : OpA), P[i]? = some q → ∃ a, s.p = some a ∧ w.cell? (a.add (i * 3)) = some (.string q.1.1) ∧ w.cell? ((a.add (i * 3)).add 1) = some (Slc.v q.1.2.1) ∧ w.cell? ((a.add (i * 3)).add 2) = some (.string q.1.2.2)
  ok : ∀ q ∈ P, OpOk w q
theorem maxLen_le : maxLen ≤ 9223372036854775807 := by decide
theorem OpOk.kids {w : World} {q : OpA} (h : OpOk w q) : ∃ K, OV w (ob0 q.2).2.2.2.2.2 K ∧ K.length ≤ 9223372036854775807 := by
  obtain ⟨_, n, _, hov, hot⟩ := h
  have hm := maxLen_le
  cases hq : q.2 with
  | nil => exact ⟨[], ⟨rfl, rfl, fun j v h => by cases h⟩, by simp⟩
  | cons o L =>
    have ho := hot o (by rw [hq]; exact List.mem_cons_self ..)
    cases n with
    | zero => exact ho.elim
    | succ n =>
      obtain ⟨_, K, h1, h2, _⟩ := ho
      exact ⟨K, h2, by omega⟩
theorem op_fields : fieldsAt Tryd.prog 63 = some [(0, 9), (1, 60), (2, 9)] := by kernel_rfl
theorem op_rd {w : World} {n : Nat} {cs : List Value} (h : RdC Tryd.prog w n 63 cs) : ∃ q : OpA, cs = oprow q.1 ∧ OpOk w q := by
  obtain ⟨hl, m, hf⟩ := rdC_struct op_fields h
  rw [show Tryd.prog.cellsOf 63 = 3 by kernel_rfl] at hl
  obtain ⟨c0, c1, c2, rfl⟩ : ∃ c0 c1 c2, cs = [c0, c1, c2] := by
    match cs, hl with
    | [c0, c1, c2], _ => exact ⟨c0, c1, c2, rfl⟩
  have f0 := hf 0 0 9 rfl
  have f1 := hf 1 1 60 rfl
  have f2 := hf 2 2 9 rfl
  rw [show Tryd.prog.cellsOf 9 = 1 by kernel_rfl] at f0 f2
  rw [show Tryd.prog.cellsOf 60 = 1 by kernel_rfl] at f1
  obtain ⟨x0, e0, z0⟩ := rdC_string Tryd.underlying9 f0
  obtain ⟨x2, e2, _⟩ := rdC_string Tryd.underlying9 f2
  cases m with
  | zero => exact f1.elim
  | succ m =>
    have : Inhabited Ob := ⟨Mat.ob0⟩
    obtain ⟨x1, L, e1, l1, m1, g1⟩ := rdC_slice' (Q := fun (o : Ob) cs => cs = obrow o ∧ OT w m o) Tryd.underlying60 (show Tryd.prog.cellsOf 81 = 6 by kernel_rfl) f1 fun cs' h => ob_rd m cs' h
    obtain rfl : c0 = .string x0 := by simpa using e0
    obtain rfl : c1 = Slc.v x1 := by simpa using e1
    obtain rfl : c2 = .string x2 := by simpa using e2
    refine ⟨((x0, x1, x2), L), rfl, z0, m, m1, ⟨l1, by rw [obs_len, l1], fun j v hj => ?_⟩, fun o' ho => ?_⟩
    · have hjl : j < L.length * 6 := by
        rw [← obs_len]
        exact (List.getElem?_eq_some_iff.1 hj).1
      have hi : j / 6 < L.length := by omega
      have hjj : j = j / 6 * 6 + j % 6 := by omega
      have hLi : L[j / 6]? = some L[j / 6] := List.getElem?_eq_getElem hi
      obtain ⟨a, cs', ha, hc, rfl, _⟩ := g1 _ _ hLi
      refine ⟨a, ha, ?_⟩
      have h1 := hc (j % 6) (by omega)
      rw [hjj] at hj ⊢
      rw [obs_get hLi (by omega)] at hj
      rw [h1]
      exact hj
    · obtain ⟨i, hi, rfl⟩ := List.mem_iff_getElem.1 ho
      obtain ⟨_, _, _, _, _, h⟩ := g1 i _ (List.getElem?_eq_getElem hi)
      exact h
theorem und_ops : Tryd.prog.underlying 84 = some (.slice 63) := by kernel_rfl
theorem ops_arg {H : Type} {enc : TypeId × Value → H} {W : World} {spare : Nat → Bool} {held : Bool} {v : Value} {d : DataW H} {ps : List MemPlace} {rr : Reach} {b0 : Nat}
    (h0 : Value.okWide Tryd.prog W rr b0 84 v) (h : DataW.Trod enc Tryd.prog W 0 spare held 84 v d ps) : ∃ (s : Slc) (P : List OpA), v = Slc.v s ∧ OpsV W s P := by
  obtain ⟨n, hn⟩ := rdC_arg_slice und_ops h0 h
  have : Inhabited OpA := ⟨((⟨#[]⟩, nilS, ⟨#[]⟩), [])⟩
  obtain ⟨s, L, e, l5, m5, g5⟩ := rdC_slS (Q := fun (q : OpA) cs => cs = oprow q.1 ∧ OpOk W q) und_ops (show Tryd.prog.cellsOf 63 = 3 by kernel_rfl) hn fun m cs' hl h => op_rd h
  refine ⟨s, L, by simpa using e, l5, m5, fun i q hi => ?_, fun q hq => ?_⟩
  · obtain ⟨a, cs', ha, hc, rfl, _⟩ := g5 i q hi
    have h0 := hc 0 (by omega)
    have h1 := hc 1 (by omega)
    have h2 := hc 2 (by omega)
    refine ⟨a, ha, h0, ?_, ?_⟩
    · rw [add_add']
      exact h1
    · rw [add_add']
      exact h2
  · obtain ⟨i, hi, rfl⟩ := List.mem_iff_getElem.1 hq
    obtain ⟨_, _, _, _, _, h⟩ := g5 i _ (List.getElem?_eq_getElem hi)
    exact h
theorem OpsV.get' {w0 : World} {s : Slc} {Q : List OpA} (h : OpsV w0 s Q) {i : Nat} (hi : i < Q.length) : ∃ a q, s.p = some a ∧ OpOk w0 q ∧ Q[i]? = some q ∧ ∀ w, Ext (fun _ => False) w0 w → w.cell? (a.add (i * 3)) = some (.string q.1.1) ∧ w.cell? ((a.add (i * 3)).add 1) = some (Slc.v q.1.2.1) ∧ w.cell? ((a.add (i * 3)).add 2) = some (.string q.1.2.2) := by
  have hq : Q[i]? = some Q[i] := List.getElem?_eq_getElem hi
  obtain ⟨a, ha, c0, c1, c2⟩ := h.at' i _ hq
  exact ⟨a, Q[i], ha, h.ok _ (List.getElem_mem hi), hq, fun w E => ⟨E.cell_same c0, E.cell_same c1, E.cell_same c2⟩⟩
end Pat
end Go.Proofs.YtjbeembbnkmpeaaDoor

/- Paths: lists of operators; PathStays. Conditions: the tables are laid; Box. -/
namespace Go.Proofs.YtjbeembbnkmpeaaDoor
namespace Pat
open Sh Mat Fix Opr
set_option linter.unusedVariables false
set_option linter.unusedSimpArgs false
set_option maxRecDepth 8000
set_option maxHeartbeats 8000000
theorem SV.take {w : World} {s : Slc} {L : List Sg} (h : SV w s L) {n c : Nat} (hn : n ≤ L.length) : SV w (s.cut 7 0 n c) (L.take n) := by
  have hl : (s.cut 7 0 n c).len = n := Nat.sub_zero n
  refine ⟨by rw [hl, List.length_take]; omega, by rw [sgs_len, List.length_take, hl]; omega, fun j v hj => ?_⟩
  have hjl : j < (sgs (L.take n)).length := (List.getElem?_eq_some_iff.1 hj).1
  rw [sgs_len, List.length_take] at hjl
  obtain ⟨a, ha, hc⟩ := h.2.2 j v (by
    have : sgs L = sgs (L.take n) ++ sgs (L.drop n) := by rw [← sgs_app, List.take_append_drop]
    rw [this, List.getElem?_append_left (by rw [sgs_len, List.length_take]; exact hjl)]
    exact hj)
  refine ⟨a, ?_, hc⟩
  show (if c = 0 then s.p else s.p.map (·.add (0 * 7))) = _
  split
  · exact ha
  · rw [ha, Nat.zero_mul]
    rfl
theorem doP_app {p p' : Pa} {nm d : By} {L : List Ob} {m : Mx} {e : Int} (h : doP p nm d L m = (e, p')) : (∃ T, p'.L = p.L ++ T) ∧ (e ≠ 0 → p' = p) := by
  have same : ∀ {e' : Int}, (e', p) = (e, p') → (∃ T, p'.L = p.L ++ T) ∧ (e ≠ 0 → p' = p) := fun h => by
    cases h
    exact ⟨⟨[], by simp⟩, fun _ => rfl⟩
  unfold doP at h
  split at h
  · exact same h
  split at h
  · exact same h
  split at h
  · exact same h
  split at h
  · exact same h
  split at h
  · exact same h
  split at h
  · cases h
    exact ⟨⟨_, rfl⟩, fun h => absurd rfl h⟩
  · exact same h
theorem paint_cases (p : Pa) (nm d : By) (L : List Ob) : ((paintP p nm d L).e ≠ 0 ∧ (paintP p nm d L).is = false ∧ (paintP p nm d L).p = p) ∨ ((paintP p nm d L).e = 0 ∧ (paintP p nm d L).is = false ∧ (paintP p nm d L).p = pa0) ∨
    ((paintP p nm d L).e = 0 ∧ (paintP p nm d L).is = true ∧ (paintP p nm d L).p = pa0 ∧ (paintP p nm d L).how ≠ 0 ∧ ((paintP p nm d L).L = p.L ∨ (paintP p nm d L).L = p.L ++ [clS])) := by
  unfold paintP
  by_cases h1 : nm ∉ ten
  · rw [if_pos h1]
    exact .inl ⟨by show (8 : Int) ≠ 0; decide, rfl, rfl⟩
  rw [if_neg h1]
  by_cases h2 : chkF nm L d ≠ 0
  · rw [if_pos h2]
    exact .inl ⟨h2, rfl, rfl⟩
  rw [if_neg h2]
  by_cases h3 : (if (howN nm).2 = true ∧ p.L ≠ [] then p.L ++ [clS] else p.L) = [] ∨ (howN nm).1 + (if p.cl = true then 8 else 0) = 0
  · rw [if_pos h3]
    exact .inr (.inl ⟨rfl, rfl, rfl⟩)
  · rw [if_neg h3]
    refine .inr (.inr ⟨rfl, rfl, rfl, fun h => h3 (.inr h), ?_⟩)
    show (if (howN nm).2 = true ∧ p.L ≠ [] then p.L ++ [clS] else p.L) = p.L ∨ (if (howN nm).2 = true ∧ p.L ≠ [] then p.L ++ [clS] else p.L) = p.L ++ [clS]
    split
    · exact .inr rfl
    · exact .inl rfl
section
variable {w0 w w' w1 : World} {s sg : Slc} {Q : List OpA} {b : Nat} {p : Pa} {m : Mx}
attribute [local irreducible] Ld Sh.St Nw Nn LdS LdT LdST StT
theorem c_small (h : OpsV w0 s Q) (E : Ext (fun _ => False) w0 w) : C33 s w fun r w1 => Ext (fun _ => False) w w1 := by
  refine T33 _ _ _ ?_
  unfold S33
  have hm := maxLen_le
  have hmost := h.most
  rw [h.len]
  refine Br.dec (fun _ => Ext.refl _ _) fun _ => ?_
  refine ⟨fun n st w3 => ∃ i : Nat, st = (i : Int) ∧ i ≤ Q.length ∧ n = Q.length - i ∧ Ext (fun _ => False) w w3, Q.length, ⟨0, rfl, by omega, rfl, Ext.refl _ _⟩, ?_⟩
  rintro n st w3 ⟨i, rfl, hi, rfl, e3⟩
  unfold S33L2
  rw [h.len]
  refine Br.dec (fun e => ⟨by omega, by omega, ?_⟩) fun e => e3
  obtain ⟨a, q, ha, ⟨hnl, d, hql, hov, hot⟩, hq, c⟩ := h.get' (i := i) (by omega)
  obtain ⟨c0, c1, c2⟩ := c w3 (E.tr e3)
  rw [ha, Int.toNat_natCast]
  refine Nn.of (Ld.mk c0 (Ld.mk c1 (Ld.mk c2 ?_)))
  refine (Hn.start w3).nw fun w4 K => ?_
  simp only [List.nil_append, add_lit, Nat.zero_add] at K ⊢
  iterate 3 (refine K.st 0 rfl (by simp) fun _ K => ?_; simp only [List.set_cons_zero, List.set_cons_succ] at K)
  refine K.ld 0 rfl rfl ?_
  have e4 := e3.tr K.ext
  refine ⟨fun n st w5 => ∃ k : Nat, st = (k : Int) ∧ k ≤ q.2.length ∧ n = q.2.length - k ∧ Ext (fun _ => False) w w5, q.2.length, ⟨0, rfl, by omega, rfl, e4⟩, ?_⟩
  rintro n st w5 ⟨k, rfl, hk, rfl, e5⟩
  unfold S33L1
  rw [hov.1]
  refine Br.dec (fun e => ⟨by omega, by omega, ?_⟩) fun e => ?_
  · have hk : q.2[k]? = some q.2[k] := List.getElem?_eq_getElem (by omega)
    obtain ⟨p, hp, k0, k1, k2, k3, k4, k5⟩ := (hov.keep (E.tr e5)).get hk
    rw [hp, Int.toNat_natCast]
    refine Nn.of (Ld.mk k0 (Ld.mk k1 (Ld.mk k2 (Ld.mk k3 (Ld.mk k4 (Ld.mk k5 ?_))))))
    refine (Hn.start w5).nw fun w6 K2 => ?_
    simp only [List.nil_append, add_lit, Nat.zero_add] at K2 ⊢
    iterate 6 (refine K2.st 0 rfl (by simp) fun _ K2 => ?_; simp only [List.set_cons_zero, List.set_cons_succ] at K2)
    iterate 6 refine K2.ld 0 rfl rfl ?_
    refine (c_size d q.2[k] _ (hot _ (List.getElem_mem (by omega))) (E.tr (e5.tr K2.ext))).mono ?_
    intro r w7 e7
    have e7 := (e5.tr K2.ext).tr e7
    refine Br.dec (fun _ => e7) fun _ => ?_
    exact ⟨q.2.length - (k + 1), by omega, k + 1, by rw [i64_id (by omega)]; rfl, by omega, rfl, e7⟩
  · exact ⟨Q.length - (i + 1), by omega, i + 1, by rw [i64_id (by omega)]; rfl, by omega, rfl, e5⟩
theorem LS.noS {N : List (Nat × List Value × TypeId)} {M : List (Slc × List Sg)} (h : LS w0 w b p sg N M) : LS w0 w b p sg N [] := ⟨h.ext, h.pv, h.own, h.ge, h.pin, fun q hq => (List.not_mem_nil hq).elim⟩
theorem stays_law {W : World} (hbox : BoxOk) (hs : AS W) (hpm : PM W) (m : Mx) (hQ : OpsV W s Q) : C7 s m W fun r w1 => r = true ∧ Ext (fun _ => False) W w1 := by
  have hmx := maxLen_le
  have hmost := hQ.most
  refine T7 _ m _ _ ?_
  unfold S7
  refine (Hn.start W).nw fun w2 K => ?_
  simp only [List.nil_append, add_lit, Nat.zero_add] at K ⊢
  refine (c_lives hbox (hs.keep K.ext) (hpm.keep K.ext)).mono ?_
  rintro r w3 ⟨rfl, e3⟩
  have K := K.keep e3
  have s3 : W.heap.size < w3.heap.size := K.lt 0 rfl
  refine Br.f rfl ?_
  refine (c_new w3).mono ?_
  rintro r w4 ⟨b, rfl, hb, hpv, e4⟩
  have K := K.keep e4
  have H : LS W w4 b pa0 nilS [(W.heap.size, mrow m, 23)] [] := ⟨K.ext, hpv, fun j hj => (by obtain ⟨a', ha, _⟩ := hj; cases ha), by omega, fun q hq => by
    rw [List.mem_singleton.1 hq]
    exact ⟨K.get 0 rfl, fun hj => (by obtain ⟨a', ha, _⟩ := hj; cases ha), by show W.heap.size ≠ b; omega⟩, fun q hq => (List.not_mem_nil hq).elim⟩
  refine (c_small hQ H.ext).mono ?_
  intro r w5 e5
  have H := H.keep e5
  cases r with
  | false => exact Br.t rfl ⟨rfl, H.ext⟩
  | true =>
  refine Br.f rfl (Br.f rfl ?_)
  refine ⟨fun n st v => ∃ (i : Nat) (p : Pa) (sg : Slc), st = (i : Int) ∧ i ≤ Q.length ∧ n = Q.length - i ∧ LS W v b p sg [(W.heap.size, mrow m, 23)] [], Q.length, ⟨0, pa0, nilS, rfl, by omega, rfl, H⟩, ?_⟩
  clear H K e3 e4 e5 hpv hb
  rintro n st v ⟨i, p, sg, rfl, hi, rfl, H⟩
  unfold S7L1
  rw [hQ.len]
  refine Br.dec (fun q => ⟨by omega, by omega, ?_⟩) fun q => ⟨rfl, H.ext⟩
  obtain ⟨a, o, ha, hok, ho, hc⟩ := hQ.get' (i := i) (by omega)
  obtain ⟨c0, c1, c2⟩ := hc v H.ext
  rw [ha, Int.toNat_natCast]
  refine Nn.of (Ld.mk c0 (Ld.mk c1 (Ld.mk c2 ?_)))
  obtain ⟨hnl, dd, hql, hov, hot⟩ := hok
  have P0 := H.pv
  refine (Hn.start v).nw fun w6 K => ?_
  simp only [List.nil_append, add_lit, Nat.zero_add] at K ⊢
  iterate 3 (refine K.st 0 rfl (by simp) fun _ K => ?_; simp only [List.set_cons_zero, List.set_cons_succ] at K)
  have H := (H.keep K.ext).push (K.get 0 rfl) P0 (Nat.le_refl _)
  simp only [List.cons_append, List.nil_append] at H
  have P1 := H.pv
  have hfew := P1.few
  refine (c_segs H.pv).mono ?_
  rintro r25 w7 ⟨h25, e7⟩
  have H := (H.keep e7).pushS h25 P1
  simp only [List.nil_append] at H
  have l25 : r25.len = p.L.length := h25.sv.1
  have opb := H.get 1 rfl
  refine Ld.of opb rfl ?_
  refine (r_paints _ _).mono ?_
  rintro r w8 ⟨rfl, rfl⟩
  have hi1 : IntKind.i64.wrap ((i : Int) + 1) = ((i + 1 : Nat) : Int) := by rw [i64_id (by omega)]; rfl
  have next : ∀ {v' : World} {p' : Pa} {sg' : Slc} {N : List (Nat × List Value × TypeId)} {M : List (Slc × List Sg)}, LS W v' b p' sg' ((W.heap.size, mrow m, 23) :: N) M → ∃ n', n' < Q.length - i ∧ ∃ (k : Nat) (p : Pa) (sg : Slc), IntKind.i64.wrap ((i : Int) + 1) = (k : Int) ∧ k ≤ Q.length ∧ n' = Q.length - k ∧ LS W v' b p sg [(W.heap.size, mrow m, 23)] [] := fun {v' p' sg' N M} h =>
    ⟨Q.length - (i + 1), by omega, i + 1, p', sg', hi1, by omega, rfl, h.ext, h.pv, h.own, h.ge, fun q hq => h.pin q (by rw [List.mem_singleton.1 hq]; exact List.mem_cons_self ..), fun q hq => (List.not_mem_nil hq).elim⟩
  refine Br.dec (fun hten => ?_) fun hten => ?_
  · iterate 3 refine Ld.of opb rfl ?_
    refine (LS.paint_ hs hpm H (hov.keep H.ext) (by omega) hnl rfl).mono ?_
    rintro r77 is e w9 ⟨rfl, rfl, sp, rfl, hsv, hso, sg', H, hnil, hcap⟩
    have hcs := paint_cases p (bl o.1.1) (bl o.1.2.2) o.2
    generalize paintP p (bl o.1.1) (bl o.1.2.2) o.2 = q at hcs hsv hnil H ⊢
    have P2 := H.pv
    refine (Hn.start w9).nw (cs := Sig.cells LPt pt0) fun _ K => ?_
    simp only [List.nil_append] at K
    refine StT.blk (pre := []) (post := []) (zs := Sig.cells LPt pt0) (ts := LPt) (by rw [List.append_nil]; exact K.get 0 rfl) rfl rfl fun w10 g10 e10 => ?_
    rw [List.append_nil] at g10
    have E10 : Ext (fun _ => False) w9 w10 := Ext.new K.ext e10 fun j hj => by have hj : j = w9.heap.size := hj; omega
    have H := (H.keep E10).push g10 P2 (Nat.le_refl _)
    simp only [List.cons_append, List.nil_append] at H
    refine (c_segs H.pv).mono ?_
    rintro r83 w11 ⟨h83, e11⟩
    have H := H.keep e11
    have hsv := (hsv.keep E10).keep e11
    have l83 : r83.len = q.p.L.length := h83.sv.1
    rcases hcs with ⟨k1, k2, k3⟩ | ⟨k1, k2, k3⟩ | ⟨k1, k2, k3, k4, k5⟩
    · rw [k2]
      refine Br.t (by simpa using k1) (Br.f rfl ?_)
      refine (c_same (H.gets 0 rfl) h83.sv (by show p.L.length ≤ 100000; omega)).mono ?_
      rintro r w12 ⟨rfl, e12⟩
      have H := H.keep e12
      rw [decide_eq_true (show p.L = q.p.L by rw [k3])]
      exact Br.f rfl (Br.f (by simpa using k1) (Br.f rfl (Br.f rfl (next H))))
    · rw [k1, k2, l83, k3]
      exact Br.f rfl (Br.t rfl (Br.f rfl (Br.f rfl (Br.f rfl (next H)))))
    · have hb := H.get 2 rfl
      rw [k2] at hb ⊢
      rw [k1, l83, k3]
      refine Br.f rfl (Br.t rfl (Br.f rfl (Br.t rfl ?_)))
      have hb : Blk w11 w9.heap.size (Sig.cells LPt (mkPt q.how sp (fillG _) (strkG _))).toArray 76 := hb
      have lsp : sp.len = q.L.length := hsv.1
      have lq : p.L.length ≤ q.L.length ∧ q.L.length ≤ p.L.length + 1 ∧ q.L.take p.L.length = p.L := by
        rcases k5 with k5 | k5 <;> rw [k5]
        · exact ⟨Nat.le_refl _, by omega, List.take_length⟩
        · exact ⟨by rw [List.length_append]; omega, by rw [List.length_append]; simp, List.take_left⟩
      refine Ld.of hb rfl ?_
      show Br (decide (((sp.len : Nat) : Int) < ((r25.len : Nat) : Int))) _ _
      rw [lsp, l25]
      refine Br.dec (fun hh => by omega) fun _ => Ld.of hb rfl ?_
      show Br (decide (((sp.len : Nat) : Int) > IntKind.i64.wrap (((p.L.length : Nat) : Int) + 1))) _ _
      rw [lsp, i64_id (n := ((p.L.length : Nat) : Int) + 1) (by omega)]
      refine Br.dec (fun hh => by omega) fun _ => Ld.of hb rfl ?_
      show 0 ≤ ((p.L.length : Nat) : Int) ∧ ((p.L.length : Nat) : Int) ≤ ((sp.cap : Nat) : Int) ∧ _
      refine ⟨by omega, by omega, ?_⟩
      rw [Int.toNat_natCast]
      refine (c_same (hsv.take (n := p.L.length) lq.1) (H.gets 0 rfl) (by rw [List.length_take]; omega)).mono ?_
      rintro r w12 ⟨rfl, e12⟩
      have H := H.keep e12
      rw [decide_eq_true (show _ = p.L from lq.2.2)]
      refine Br.f rfl (Br.t rfl (Ld.of (e12.blk hb id) rfl ?_))
      exact Br.f (show (q.how == 0) = false by simpa using k4) (next H)
  · iterate 3 refine Ld.of opb rfl ?_
    have mb := H.get 0 rfl
    iterate 6 refine Ld.of mb rfl ?_
    refine (LS.do_ hs H (hov.keep H.ext) (by omega) rfl).mono ?_
    rintro r124 w9 ⟨rfl, sg', H⟩
    have P2 := H.pv
    refine (c_segs H.pv).mono ?_
    rintro r126 w10 ⟨h126, e10⟩
    have H := H.keep e10
    obtain ⟨⟨T, hT⟩, hsame⟩ := doP_app (p := p) (nm := bl o.1.1) (d := bl o.1.2.2) (L := o.2) (m := m) rfl
    have l126 : r126.len = p.L.length + T.length := by rw [h126.sv.1, hT, List.length_append]
    have hcp := rcap h126.1
    rw [l126, l25]
    refine Br.dec (fun hh => by omega) fun _ => ⟨by omega, by omega, ?_⟩
    rw [Int.toNat_natCast]
    refine (c_same (h126.sv.take (n := p.L.length) (by rw [hT, List.length_append]; omega)) (H.gets 0 rfl) (by rw [List.length_take]; omega)).mono ?_
    rintro r w11 ⟨rfl, e11⟩
    have H := H.keep e11
    rw [decide_eq_true (show _ = p.L by rw [hT, List.take_left])]
    refine Br.f rfl ?_
    refine Br.ne (fun hne => ?_) fun _ => next H
    have := hsame hne
    rw [this] at hT
    have hT0 : T.length = 0 := by
      have := congrArg List.length hT
      rw [List.length_append] at this
      omega
    refine Br.ne (fun hh => absurd (by omega) hh) fun _ => next H
end
end Pat
end Go.Proofs.YtjbeembbnkmpeaaDoor

/- Paths: the laid tables. Condition: the rows' own list. -/
namespace Go.Proofs.YtjbeembbnkmpeaaDoor
namespace Pat
open Sh Mat Opr
open Go.ChangeShapes Go.WideShapes Go.ChangeAt Go.WideMaps Go.WideElems Go.RowKit
set_option linter.unusedVariables false
set_option linter.unusedSimpArgs false
set_option maxRecDepth 100000
theorem gAS : Tryd.prog.globalNamed "strings.asciiSpace" = some 1 := by kernel_rfl
theorem tAS : (Tryd.prog.globals[1]?).map (·.type) = some 248 := by kernel_rfl
theorem gPM : Tryd.prog.globalNamed "foliant/path.paints" = some 0 := by kernel_rfl
theorem tPM : (Tryd.prog.globals[0]?).map (·.type) = some 158 := by kernel_rfl
theorem undU8 : Tryd.prog.underlying 5 = some (.int .u8) := by kernel_rfl
theorem und256 : Tryd.prog.underlying 248 = some (.array 256 5) := by kernel_rfl
theorem cU8 : Tryd.prog.cellsOf 5 = 1 := by kernel_rfl
theorem c256 : Tryd.prog.cellsOf 248 = 256 := by kernel_rfl
def zsA : List Int := (List.range 256).map fun c => if spB (UInt8.ofNat c) = true then 1 else 0
theorem zsA_laid : (Rows.laid_strings_asciiSpace : DataW Unit) = Lib.tabData .u8 zsA := by kernel_rfl
theorem undPM : Tryd.prog.underlying 158 = some (.map 9 156) := by kernel_rfl
theorem undStr' : Tryd.prog.underlying 9 = some .string := by kernel_rfl
theorem cel156 : Tryd.prog.cellsOf 156 = 2 := by kernel_rfl
/-- What the table says of a name. -/
def pmD : DataW Unit := Rows.laid_foliant_path_paints
theorem pm_at : ∀ l ∈ ten, pmD.atKey (.string l) .nil = .agg [.lit (.int .i64 (howN l).1), .lit (.bool (howN l).2)] := by
  intro l hl
  simp only [ten, List.mem_cons, List.not_mem_nil, or_false] at hl
  rcases hl with rfl | rfl | rfl | rfl | rfl | rfl | rfl | rfl | rfl | rfl <;> rfl
theorem atKey_none {H : Type} {es : List (Lit × DataW H)} {k : Lit} {z : DataW H} (h : ∀ p ∈ es, p.1.sameKey k = false) : (DataW.map es).atKey k z = z := by
  have : es.find? (fun p => p.1.sameKey k) = none := List.find?_eq_none.2 fun p hp => by rw [h p hp]; exact Bool.false_ne_true
  simp only [DataW.atKey, this]
theorem same_no {a l : By} (h : ¬ l = a) : Lit.sameKey (.string a) (.string l) = false := by
  simp only [Lit.sameKey, beq_eq_false_iff_ne, ne_eq]
  exact fun e => h e.symm
theorem pm_no {l : By} (hl : l ∉ ten) (z : DataW Unit) : pmD.atKey (.string l) z = z := by
  simp only [ten, List.mem_cons, List.not_mem_nil, or_false, not_or] at hl
  obtain ⟨h1, h2, h3, h4, h5, h6, h7, h8, h9, h10⟩ := hl
  refine atKey_none fun p hp => ?_
  simp only [List.mem_cons, List.not_mem_nil, or_false] at hp
  rcases hp with rfl | rfl | rfl | rfl | rfl | rfl | rfl | rfl | rfl | rfl <;> exact same_no (by assumption)
theorem und156 : Tryd.prog.underlying 156 = some (.struct #[⟨"how", 3, 0, false, "", "foliant/path", 0⟩, ⟨"closes", 4, 1, false, "", "foliant/path", 8⟩]) := by kernel_rfl
theorem cB : Tryd.prog.cellsOf 4 = 1 := by kernel_rfl
theorem cI : Tryd.prog.cellsOf 3 = 1 := by kernel_rfl
theorem undI : Tryd.prog.underlying 3 = some (.int .i64) := by kernel_rfl
theorem undB : Tryd.prog.underlying 4 = some .bool := by kernel_rfl
section
variable {H : Type} {enc : TypeId × Value → H} {W : World} {base : Nat} {sp : Nat → Bool} {held : Bool}
theorem elem156 {n : Nat} {v : Value} {z : DataW H × List MemPlace} {q : Int} {b : Bool} (h : WideElems.elemAt enc Tryd.prog W base sp held n 156 v = some z) (hz : z.1 = .agg [.lit (.int .i64 q), .lit (.bool b)]) :
    v = .agg #[.int .i64 q, .bool b] := by
  unfold WideElems.elemAt at h
  by_cases hf : v.formed Tryd.prog 156 = true
  · rw [if_pos hf] at h
    obtain ⟨y0, y1, m, rfl, hl, h0, h1⟩ := trod_struct2 und156 h
    rw [cel156] at hl
    simp only [cI, cB] at h0 h1
    simp only [DataW.agg.injEq, List.cons.injEq, and_true] at hz
    cases v with
    | agg cs =>
      obtain ⟨l⟩ := cs
      simp only [Value.cells] at hl h0 h1
      match l, hl with
      | [c0, c1], _ =>
        obtain ⟨k, e1, e2, _⟩ := DataW.trod_int undI h0
        obtain ⟨k', e1', e2'⟩ := DataW.trod_bool undB h1
        simp at e1 e1'
        subst e1 e1'
        rw [e2] at hz
        rw [e2'] at hz
        simp at hz
        rw [hz.1, hz.2]
    | _ => simp [Value.formed, und156] at hf
  · rw [if_neg hf] at h
    cases h
end
theorem of_laidP {W : World} (h : laidMetH Tryd.prog [("unicode.White_Space", Rows.laid_unicode_White_Space), ("strings.asciiSpace", Rows.laid_strings_asciiSpace), ("foliant/path.paints", Rows.laid_foliant_path_paints)] W) : AS W ∧ PM W := by
  rw [MakeChecks.laidMetH_plain _ _ _ (by kernel_rfl)] at h
  obtain ⟨ps, ⟨g0, t0, cs0, f0, p0, q0, hg0, ht0, hv0, hd0, ⟨g1, t1, cs1, f1, p1, q1, hg1, ht1, hv1, hd1, ⟨g2, t2, cs2, f2, p2, q2, hg2, ht2, hv2, hd2, _, _⟩, _⟩, _⟩, _, _⟩ := h
  obtain rfl := Option.some.inj (gAS.symm.trans hg1)
  obtain rfl := Option.some.inj (tAS.symm.trans ht1)
  obtain rfl := Option.some.inj (gPM.symm.trans hg2)
  obtain rfl := Option.some.inj (tPM.symm.trans ht2)
  rw [zsA_laid] at hd1
  have hcs := Lib.cells_of_tab und256 undU8 cU8 c256 hd1
  have hcell : ∀ c : Nat, c < 256 → W.cell? ⟨1, c, none⟩ = some (.int .u8 (if spB (UInt8.ofNat c) = true then 1 else 0)) := fun c hc => by
    have := World.var?_cell hg1 hv1 c
    rw [this, ← Array.getElem?_toList, hcs]
    unfold zsA
    rw [List.getElem?_map, List.getElem?_map, List.getElem?_range hc]
    rfl
  refine ⟨hcell, ?_⟩
  rcases WideElems.open_map undPM hd2 with ⟨_, hx⟩ | ⟨bm, es, clock, m, rfl, hcs, hb, _, F, hx⟩
  · cases hx
  simp only [Prod.mk.injEq] at hx
  have hm : W.cell? ⟨0, 0, none⟩ = some (.map (some bm)) := by
    have := World.var?_cell hg2 hv2 0
    rw [Array.eq_one_of_toList hcs] at this
    simpa using this
  refine ⟨bm, _, hm, hb, fun w' nm hs hw' => ?_⟩
  have zero : (zeroValue 156).run Tryd.prog w' = .ok (.agg #[.int .i64 0, .bool false]) w' := by kernel_rfl
  rcases WideElems.fit_lookup_ok (w := w') (string_law undStr') undPM zero hw' F (keyOf_string_mk undStr' hs) with ⟨hrun, hat⟩ | ⟨v, y, hrun, hRv, hat, _⟩
  · have h1 := hat .nil
    rw [← hx.1] at h1
    by_cases hl : bl nm ∈ ten
    · have := (pm_at _ hl).symm.trans h1
      cases this
    · rw [how_no hl, decide_eq_false hl]
      exact hrun
  · have h1 := hat .nil
    have h2 := hat (.lit (.bool true))
    rw [← hx.1] at h1 h2
    by_cases hl : bl nm ∈ ten
    · rw [decide_eq_true hl]
      rw [elem156 hRv (h1.symm.trans (pm_at _ hl))] at hrun
      exact hrun
    · have hy := (h1.symm.trans (pm_no hl _)).symm.trans (h2.symm.trans (pm_no hl _))
      cases hy
end Pat
end Go.Proofs.YtjbeembbnkmpeaaDoor

/- Box: the whole of it. Conditions: at most 100000 segments. -/
namespace Go.Proofs.YtjbeembbnkmpeaaDoor
namespace Pat
open Sh Mat Fix Opr
open Go.RowKit
set_option linter.unusedVariables false
set_option linter.unusedSimpArgs false
set_option maxRecDepth 100000
set_option maxHeartbeats 4000000
theorem fits_sub {N : Nat} {E E' : Env} {a : Act} (h : Fits N E a) (hs : ∀ t v, E'.get? t = some v → E.get? t = some v) : Fits N E' a := ⟨h.size, fun t v hv => h.get t v (hs t v hv)⟩
theorem Ext.put {F : Nat → Prop} {a w : World} (h : Ext F a w) {l : Nat} (o : Obj) (hl : F l ∨ a.heap.size ≤ l) : Ext F a (w.putObj l o) :=
  ⟨h.os, h.tape, h.output, by have := h.size; simp [World.putObj]; exact this, fun i hi hn => by
    have hne : i ≠ l := fun e => by
      subst e
      rcases hl with hl | hl
      · exact hn hl
      · omega
    rw [World.putObj_heap_other hne]
    exact h.block i hi hn⟩
theorem blk_put {w : World} {b l : Nat} {cs : Array Value} {t : TypeId} (h : Blk w b cs t) (o : Obj) (hn : b ≠ l) : Blk (w.putObj l o) b cs t := by
  unfold Blk at h ⊢
  rw [World.putObj_heap_other hn]
  exact h
/-- What holds between two rounds. -/
structure JB (w : World) (D b2 b4 b5 : Nat) (rec : Loop) (pre : List (Int × Int)) (W : World) : Prop where
  rc : W.heap[D + 1]? = some (.loop rec)
  df : W.heap[D]? = some (.deferred (some []))
  k2 : Blk W b2 #[.int .i64 0, .int .i64 0, .int .i64 0, .int .i64 0] 72
  k4 : Blk W b4 (bxC (boxP pre).1) 72
  k5 : Blk W b5 #[.bool (boxP pre).2] 4
  ext : Ext (fun _ => False) w W
section
variable {w W W' : World} {D b2 b4 b5 : Nat} {rec : Loop} {pre : List (Int × Int)}
theorem JB.keep (h : JB w D b2 b4 b5 rec pre W) (he : Ext (fun _ => False) W W') : JB w D b2 b4 b5 rec pre W' :=
  ⟨(he.block _ (Array.getElem?_eq_some_iff.1 h.rc).1 (fun h => h)).trans h.rc, (he.block _ (Array.getElem?_eq_some_iff.1 h.df).1 (fun h => h)).trans h.df, he.blk h.k2 (fun h => h), he.blk h.k4 (fun h => h), he.blk h.k5 (fun h => h), h.ext.tr he⟩
attribute [local irreducible] Ld Sh.St Nw Nn LdS LdT LdST StT
theorem box_yl {fn : FuncId} {tmps : Array Value} {x : Int × Int} {K : Bool → World → Prop} (hj : JB w D b2 b4 b5 (rfRec fn tmps #[9] cBoxE cBoxF D) pre W) (hsz : w.heap.size ≤ b2 ∧ b2 < b4 ∧ b4 < b5 ∧ b5 < D)
    (hf : Fits 44 [(5, .pointer (some ⟨b5, 0, none⟩)), (4, .pointer (some ⟨b4, 0, none⟩))] { tmps := tmps, defers := [] })
    (hK : ∀ W', JB w D b2 b4 b5 (rfRec fn tmps #[9] cBoxE cBoxF D) (pre ++ [x]) W' → Ext (fun j => j = D + 1 ∨ j = b4 ∨ j = b5) W W' → K true W') : Yl Tryd.prog (D + 1) #[.agg #[.int .i64 x.1, .int .i64 x.2]] W K := by
  obtain ⟨x, y⟩ := x
  obtain ⟨s1, s2, s3, s4⟩ := hsz
  refine yl_body (N := 44) (F := ⟨FF, MAY, fun _ _ => False⟩) okF (fun _ _ h => h) hj.rc rfl (E := [(9, .agg #[.int .i64 x, .int .i64 y]), (5, .pointer (some ⟨b5, 0, none⟩)), (4, .pointer (some ⟨b4, 0, none⟩))]) ?_ (pa := pBoxE) (pb := pBoxF) (by kernel_rfl) (by kernel_rfl) ?_
  · have e9 : rfTmps #[9] #[.agg #[.int .i64 x, .int .i64 y]] tmps = tmps.setIfInBounds 9 (.agg #[.int .i64 x, .int .i64 y]) := by simp [rfTmps]
    rw [show rfTmps #[9] #[.agg #[.int .i64 (x, y).1, .int .i64 (x, y).2]] tmps = _ from e9]
    exact hf.put (d := some 9) (v := .agg #[.int .i64 x, .int .i64 y]) (fun t ht => by cases ht; decide)
  rw [EBoxE]
  unfold SBoxE
  refine (Hn.start W).nw fun w4 H => ?_
  refine H.st 0 rfl (by simp) fun w5 H => ?_
  refine H.st 0 rfl (by simp) fun w6 H => ?_
  have e6 := H.h.ext
  have hj6 := hj.keep e6
  have h6 : Blk w6 W.heap.size #[.int .i64 x, .int .i64 y] _ := H.get 0 rfl
  have g6 := H.ge 0 rfl
  have hD := (Array.getElem?_eq_some_iff.1 hj.rc).1
  refine ⟨hj6.rc, ?_⟩
  rw [EBoxF]
  refine box_round (blk_put hj6.k4 _ (by omega)) (blk_put hj6.k5 _ (by omega)) (blk_put h6 _ (by omega)) (by omega) (by omega) (by omega) fun W2 k4 k5 e2 => ?_
  have hD6 := (Array.getElem?_eq_some_iff.1 hj6.rc).1
  have lt : D + 1 < (w6.putObj (D + 1) (.loop { rfRec fn tmps #[9] cBoxE cBoxF D with state := .busy })).heap.size := by simp [World.putObj]; exact hD6
  have h0 : (w6.putObj (D + 1) (.loop { rfRec fn tmps #[9] cBoxE cBoxF D with state := .busy })).heap[D + 1]? = _ := World.putObj_heap_same hD6
  have hl2 := (e2.block (D + 1) lt (by rintro (h | h) <;> omega)).trans h0
  have e62 : Ext (fun j => j = D + 1 ∨ j = b4 ∨ j = b5) w6 W2 := Ext.trans (F := fun j => j = D + 1) (Ext.put (Ext.refl _ _) _ (.inl rfl)) e2 (fun _ h => .inl h) (fun _ _ h => .inr h)
  refine ⟨hl2, hK _ ?_ ?_⟩
  · have hd := (e2.block D (by omega) (by rintro (h | h) <;> omega)).trans ((World.putObj_heap_other (by omega)).trans hj6.df)
    have k2 := e2.blk (blk_put hj6.k2 (.loop { rfRec fn tmps #[9] cBoxE cBoxF D with state := .busy }) (l := D + 1) (by omega)) (by rintro (h | h) <;> omega)
    refine ⟨World.putObj_heap_same (Array.getElem?_eq_some_iff.1 hl2).1, (World.putObj_heap_other (by omega)).trans hd, blk_put k2 _ (by omega), ?_, ?_, ?_⟩
    · rw [boxP_snoc]; exact blk_put k4 _ (by omega)
    · rw [boxP_snoc]; exact blk_put k5 _ (by omega)
    · exact Ext.put (Ext.new hj6.ext e62 (by have := hj.ext.size; rintro j (h | h | h) <;> omega)) _ (.inr (by have := hj.ext.size; omega))
  · exact Ext.put ((e6.mono fun _ _ h => h.elim).tr e62) _ (.inl (.inl rfl))
end
end Pat
end Go.Proofs.YtjbeembbnkmpeaaDoor
/- Box: it gives the bounding box of the points. Conditions: at most 100000 segments. -/
namespace Go.Proofs.YtjbeembbnkmpeaaDoor
namespace Pat
open Sh Mat Fix Opr
open Go.RowKit
set_option linter.unusedVariables false
set_option linter.unusedSimpArgs false
set_option maxRecDepth 100000
set_option maxHeartbeats 4000000
attribute [local irreducible] Ld Sh.St Nw Nn LdS LdT LdST StT
abbrev z4 : List Value := [.int .i64 0, .int .i64 0, .int .i64 0, .int .i64 0]
theorem f29_body : Tryd.f29.body = some (.seq cBoxA (.seq cBoxB (.seq cBoxC (.seq (.seq cBoxD (.block 0 (.rangeFunc (.tmp 8) #[9] cBoxE cBoxF))) cBoxG)))) := by kernel_rfl
theorem beq_no {a t : Nat} (h : t ≠ a) : Nat.beq a t = false := by
  cases hb : Nat.beq a t with
  | false => rfl
  | true => exact absurd (Nat.eq_of_beq_eq_true hb).symm h
theorem two_fits {E : Env} {a : Act} {p5 p4 : Value} (hf : Fits 44 E a) (h5 : E.get? 5 = some p5) (h4 : E.get? 4 = some p4) : Fits 44 [(5, p5), (4, p4)] { tmps := a.tmps, defers := [] } := ⟨hf.size, fun t v hv => by
  by_cases e5 : t = 5
  · subst e5
    have : some p5 = some v := hv
    cases this
    exact hf.get 5 _ h5
  by_cases e4 : t = 4
  · subst e4
    have : some p4 = some v := hv
    cases this
    exact hf.get 4 _ h4
  simp only [Env.get?, beq_no e5, beq_no e4] at hv
  cases hv⟩
theorem three_fits {E : Env} {a : Act} {p5 p4 p2 : Value} {ds : List Deferred} (hf : Fits 44 E a) (h5 : E.get? 5 = some p5) (h4 : E.get? 4 = some p4) (h2 : E.get? 2 = some p2) : Fits 44 [(5, p5), (4, p4), (2, p2)] { a with defers := ds } := ⟨hf.size, fun t v hv => by
  by_cases e5 : t = 5
  · subst e5
    have : some p5 = some v := hv
    cases this
    exact hf.get 5 _ h5
  by_cases e4 : t = 4
  · subst e4
    have : some p4 = some v := hv
    cases this
    exact hf.get 4 _ h4
  by_cases e2 : t = 2
  · subst e2
    have : some p2 = some v := hv
    cases this
    exact hf.get 2 _ h2
  simp only [Env.get?, beq_no e5, beq_no e4, beq_no e2] at hv
  cases hv⟩
theorem box_end {W : World} {b2 b4 b5 : Nat} {b : Bx} {f : Bool} {t2 t4 t5 : TypeId} {R : Addr → Bool → World → Prop} (k2 : Blk W b2 #[.int .i64 0, .int .i64 0, .int .i64 0, .int .i64 0] t2) (k4 : Blk W b4 (bxC b) t4) (k5 : Blk W b5 #[.bool f] t5)
    (n24 : b2 ≠ b4) (n25 : b2 ≠ b5) (n45 : b4 ≠ b5) (hR : ∀ W', Blk W' b2 (bxC b) t2 → Ext (· = b2) W W' → R ⟨b2, 0, none⟩ f W') : SBoxG ⟨b2, 0, none⟩ ⟨b4, 0, none⟩ ⟨b5, 0, none⟩ W R := by
  refine ⟨fun W => Blk W b4 (bxC b) t4 ∧ Blk W b5 #[.bool f] t5, ⟨k4.drew, k5.drew⟩, ?_⟩
  refine LdS.of (fun _ h => h.1) rfl (LdS.of (fun _ h => h.1) rfl (LdS.of (fun _ h => h.1) rfl (LdS.of (fun _ h => h.1) rfl (LdS.of (fun _ h => h.2) rfl ?_))))
  have H : Hx W (· = b2) W.drew [(b2, #[.int .i64 0, .int .i64 0, .int .i64 0, .int .i64 0], t2), (b4, bxC b, t4), (b5, #[.bool f], t5)] := ⟨fun p hp => by
      simp only [List.mem_cons, List.not_mem_nil, or_false] at hp
      rcases hp with rfl | rfl | rfl
      · exact k2.drew
      · exact k4.drew
      · exact k5.drew, by simp [n24, n25, n45], (Ext.refl _ _).drew⟩
  iterate 4 (refine H.st 0 rfl (by simp) (.inl rfl) fun _ H => ?_)
  exact ⟨⟨H.get 1 rfl, H.get 2 rfl⟩, hR _ (H.get 0 rfl) H.ext⟩
theorem box_ok : BoxOk := by
  intro w s L hS hl
  refine (callsIn_wide (n := 0)).1 ?_
  refine callsIn_of_wp_marks Tryd.func29 f29_body trivial ?_ rfl
  have hf0 : Fits 44 [(0, Slc.v s)] { tmps := #[Slc.v s] ++ Array.replicate (Tryd.f29.ntmps - #[Slc.v s].size) undef, defers := [] } := fits0 (args := [Slc.v s]) (n := 44) (by simp)
  obtain ⟨a0, ha0, hd0⟩ : ∃ a0 : Act, a0 = { tmps := #[Slc.v s] ++ Array.replicate (Tryd.f29.ntmps - #[Slc.v s].size) undef, defers := [] } ∧ a0.defers = [] := ⟨_, rfl, rfl⟩
  rw [← ha0] at hf0 ⊢
  clear ha0
  refine seqY (F := ⟨FF, MAY, fun _ _ => False⟩) InF.wide okF (fun _ _ h => h) (pl := pBoxA) (K := fun E w1 => E = [(3, .bool false), (2, .pointer (some ⟨w.heap.size, 0, none⟩)), (0, Slc.v s)] ∧ Hn w w1 [(w.heap.size, z4, 72)]) (by
    rw [EBoxA]
    exact (Hn.start w).nw fun w1 H => ⟨rfl, H⟩) hf0 (by kernel_rfl) ?_
  rintro E a1 w1 ⟨rfl, H1⟩ hf1 hd1
  rw [hd0] at hd1
  refine seqY (F := ⟨FF, MAY, fun _ _ => False⟩) InF.wide okF (fun _ _ h => h) (pl := pBoxB) (K := fun E w2 => E = [(4, .pointer (some ⟨w1.heap.size, 0, none⟩)), (3, .bool false), (2, .pointer (some ⟨w.heap.size, 0, none⟩)), (0, Slc.v s)] ∧ Hn w w2 [(w.heap.size, z4, 72), (w1.heap.size, z4, 72)]) (by
    rw [EBoxB]
    exact H1.nw fun w1 H => ⟨rfl, H⟩) hf1 (by kernel_rfl) ?_
  rintro E a2 w2 ⟨rfl, H2⟩ hf2 hd2
  rw [hd1] at hd2
  refine seqY (F := ⟨FF, MAY, fun _ _ => False⟩) InF.wide okF (fun _ _ h => h) (pl := pBoxC) (K := fun E w3 => E = [(5, .pointer (some ⟨w2.heap.size, 0, none⟩)), (4, .pointer (some ⟨w1.heap.size, 0, none⟩)), (3, .bool false), (2, .pointer (some ⟨w.heap.size, 0, none⟩)), (0, Slc.v s)] ∧ Hn w w3 [(w.heap.size, z4, 72), (w1.heap.size, z4, 72), (w2.heap.size, [.bool false], 4)]) (by
    rw [EBoxC]
    exact H2.nw fun w3 H => H.st 2 rfl (by simp) fun w4 H => ⟨rfl, H⟩) hf2 (by kernel_rfl) ?_
  rintro E a3 w3 ⟨rfl, H3⟩ hf3 hd3
  rw [hd2] at hd3
  refine wpIn_seq ?_
  refine seqY (F := ⟨FF, MAY, fun _ _ => False⟩) InF.wide okF (fun _ _ h => h) (pl := pBoxD) (K := fun E w4 => E = [(8, .func (.func 148) #[] #[.pointer (some ⟨w3.heap.size, 0, none⟩)]), (7, Slc.v s), (5, .pointer (some ⟨w2.heap.size, 0, none⟩)), (4, .pointer (some ⟨w1.heap.size, 0, none⟩)), (3, .bool false), (2, .pointer (some ⟨w.heap.size, 0, none⟩)), (0, Slc.v s)] ∧ Hn w w4 [(w.heap.size, z4, 72), (w1.heap.size, z4, 72), (w2.heap.size, [.bool false], 4), (w3.heap.size, [Slc.v s], 64)]) (by
    rw [EBoxD]
    refine T89 _ _ _ ?_
    exact H3.nw fun w4 H => ⟨rfl, H⟩) hf3 (by kernel_rfl) ?_
  rintro E a4 w4 ⟨rfl, H4⟩ hf4 hd4
  rw [hd3] at hd4
  have l2 := (H1.get 0 rfl).lt
  have l4 := (H2.get 1 rfl).lt
  have l5 := (H3.get 2 rfl).lt
  have l6 := (H4.get 3 rfl).lt
  have k2 : Blk w4 w.heap.size #[.int .i64 0, .int .i64 0, .int .i64 0, .int .i64 0] _ := H4.get 0 rfl
  have k4 : Blk w4 w1.heap.size (bxC (boxP []).1) _ := H4.get 1 rfl
  have k5 : Blk w4 w2.heap.size #[.bool (boxP []).2] _ := H4.get 2 rfl
  have k6 : Blk w4 w3.heap.size #[Slc.v s] _ := H4.get 3 rfl
  have e4 := H4.h.ext
  have hev : a4.eval (.tmp 8) = .func (.func 148) #[] #[.pointer (some ⟨w3.heap.size, 0, none⟩)] := hf4.rho (x := .tmp 8) rfl
  refine wpIn_block ?_
  refine rf_in okF hev (by kernel_rfl) fun fn => ?_
  obtain ⟨wr, hwr⟩ : ∃ wr, wr = rfW w4 fn a4.tmps #[9] cBoxE cBoxF := ⟨_, rfl⟩
  have er : Ext (fun _ => False) w4 wr := by rw [hwr]; exact ((Ext.refl _ w4).alloc _).alloc _
  have hr1 : wr.heap[w4.heap.size + 1]? = some (.loop (rfRec fn a4.tmps #[9] cBoxE cBoxF w4.heap.size)) := by
    rw [hwr]
    have := World.alloc_heap_new (w4.alloc (.deferred (some []))) (.loop (rfRec fn a4.tmps #[9] cBoxE cBoxF w4.heap.size))
    rwa [World.size_alloc] at this
  have hr0 : wr.heap[w4.heap.size]? = some (.deferred (some [])) := by
    rw [hwr]; exact (Below.heap_alloc _ _ _ (by simp)).trans (World.alloc_heap_new w4 _)
  have hsr : w4.heap.size + 1 < wr.heap.size := (Array.getElem?_eq_some_iff.1 hr1).1
  have hj0 : JB w w4.heap.size w.heap.size w1.heap.size w2.heap.size (rfRec fn a4.tmps #[9] cBoxE cBoxF w4.heap.size) [] wr := ⟨hr1, hr0, er.blk k2 (fun h => h), er.blk k4 (fun h => h), er.blk k5 (fun h => h), e4.tr er⟩
  rw [← hwr]
  refine (T148_Y (w4.heap.size + 1) ⟨w3.heap.size, 0, none⟩ wr _ (it_pts (J := JB w w4.heap.size w.heap.size w1.heap.size w2.heap.size (rfRec fn a4.tmps #[9] cBoxE cBoxF w4.heap.size)) (B := fun j => j = w4.heap.size + 1 ∨ j = w1.heap.size ∨ j = w2.heap.size) hS (e4.tr er) hl ((er.blk k6 (fun h => h)).cell 0) (by rintro j (h | h | h) <;> omega) (by rintro j (h | h | h) <;> omega)
    (fun _ _ _ h he => h.keep he) (fun pre x W K hj hK => box_yl hj ⟨by omega, by omega, by omega, by omega⟩ (two_fits hf4 rfl rfl) hK) hj0)).mono ?_
  rintro e W2 ⟨rfl, hj2⟩
  refine ⟨⟨_, rfl⟩, hj2.rc, ?_⟩
  have hw2 : w.heap.size ≤ w4.heap.size := e4.size
  refine wpIn_mono (wpIn_wide.2 (codeT_wp (N := 44) (F := ⟨FF, MAY, fun _ _ => False⟩) okF okM cBoxG pBoxG [(5, .pointer (some ⟨w2.heap.size, 0, none⟩)), (4, .pointer (some ⟨w1.heap.size, 0, none⟩)), (2, .pointer (some ⟨w.heap.size, 0, none⟩))] _
    (rtK fun a b W' => a = ⟨w.heap.size, 0, none⟩ ∧ b = (boxP (ptsL L)).2 ∧ Blk W' w.heap.size (bxC (boxP (ptsL L)).1) 72 ∧ W'.heap[w4.heap.size]? = some (.deferred (some [])) ∧ Ext (fun _ => False) w W') _ ?_ (three_fits hf4 rfl rfl rfl) (by kernel_rfl))) fun e a' w' hq => ?_
  · rw [EBoxG]
    refine box_end (blk_put hj2.k2 _ (by omega)) (blk_put hj2.k4 _ (by omega)) (blk_put hj2.k5 _ (by omega)) (by omega) (by omega) (by omega) fun W' g2 ge => ⟨rfl, rfl, g2, ?_, ?_⟩
    · exact (ge.block _ (by have := (Array.getElem?_eq_some_iff.1 hj2.df).1; simpa using this) (by omega)).trans ((World.putObj_heap_other (by omega)).trans hj2.df)
    · exact Ext.new (Ext.put hj2.ext _ (.inr (by omega))) ge (by rintro j rfl; exact Nat.le_refl _)
  · rcases hq with ⟨E', hr, hfe, hse⟩ | ⟨_, _, hp, _⟩
    · cases e <;> try exact hr.elim
      unfold rtK at hr
      simp only at hr
      split at hr
      · rename_i a b g2 g3
        obtain ⟨rfl, rfl, k2', hdf, he'⟩ := hr
        have hfin : Fits 44 [(3, .bool (boxP (ptsL L)).2), (2, .pointer (some ⟨w.heap.size, 0, none⟩))] a' := ⟨hfe.size, fun t v hv => by
          by_cases e3 : t = 3
          · subst e3
            have : some (Value.bool (boxP (ptsL L)).2) = some v := hv
            cases this
            exact hfe.get 3 _ g3
          by_cases e2 : t = 2
          · subst e2
            have : some (Value.pointer (some ⟨w.heap.size, 0, none⟩)) = some v := hv
            cases this
            exact hfe.get 2 _ g2
          simp only [Env.get?, beq_no e3, beq_no e2] at hv
          cases hv⟩
        have k2f := blk_put k2' (.deferred none) (l := w4.heap.size) (by omega)
        obtain ⟨v, v1, sv, v2, v3⟩ := fin_run (P := Tryd.prog) (fn := Tryd.f29) (w' := w'.putObj w4.heap.size (.deferred none)) (tys := [(.agg [(.int .i64), (.int .i64), (.int .i64), (.int .i64)]), (.one .bool)]) hfin (R := fun s W => (s.1, s.2) = boxP (ptsL L) ∧ Ext (fun _ => False) w W) (by
          refine (EBoxH ⟨w.heap.size, 0, none⟩ (boxP (ptsL L)).2 _ (fun r is W => (r, is) = boxP (ptsL L) ∧ Ext (fun _ => False) w W)).mpr ?_
          refine Ld.of k2f rfl (Ld.of k2f rfl (Ld.of k2f rfl (Ld.of k2f rfl ⟨rfl, ?_⟩)))
          exact Ext.put he' _ (.inr (by omega)))
        show LeavesInM _ _ _ _ _ _ a'.defers _ _
        rw [hse.2, hd4]
        exact ⟨by simp, .inl ⟨_, _, rfl, run_takeDeferred hdf, v, v1, sv.1, sv.2, v2, v3⟩⟩
      · exact hr.elim
    · exact hp.elim
end Pat
end Go.Proofs.YtjbeembbnkmpeaaDoor

/- Paths: what lists of operators do, plain; re is m, three l and h; a path that is led by a matrix. Conditions: sizes. -/
namespace Go.Proofs.YtjbeembbnkmpeaaDoor
namespace Pat
open Sh Mat Fix Opr
set_option linter.unusedVariables false
set_option linter.unusedSimpArgs false
set_option maxRecDepth 8000
set_option maxHeartbeats 4000000
/-- An operator as it is read: its name, its data, its operands. -/
abbrev PO : Type := By × By × List Ob
def poOf (q : OpA) : PO := (bl q.1.1, bl q.1.2.2, q.2)
/-- What operators do to a path, one after another; nothing if one is refused. -/
def playP (m : Mx) : List PO → Pa → Option Pa
  | [], p => some p
  | q :: r, p => if (doP p q.1 q.2.1 q.2.2 m).1 = 0 then playP m r (doP p q.1 q.2.1 q.2.2 m).2 else none
theorem play_app (m : Mx) : ∀ (A B : List PO) (p : Pa), playP m (A ++ B) p = (playP m A p).bind (playP m B)
  | [], B, p => rfl
  | q :: A, B, p => by
    rw [List.cons_append]
    unfold playP
    split
    · exact play_app m A B _
    · rfl
theorem play_take (m : Mx) (Q : List PO) (i : Nat) (hi : i < Q.length) (p : Pa) : playP m (Q.take (i + 1)) p = (playP m (Q.take i) p).bind fun p' => if (doP p' Q[i].1 Q[i].2.1 Q[i].2.2 m).1 = 0 then some (doP p' Q[i].1 Q[i].2.1 Q[i].2.2 m).2 else none := by
  have : Q.take (i + 1) = Q.take i ++ [Q[i]] := by rw [List.take_add_one, List.getElem?_eq_getElem hi]; rfl
  rw [this, play_app]
  rfl
theorem play_none {m : Mx} {Q : List PO} {i : Nat} {p : Pa} (h : playP m (Q.take i) p = none) : playP m Q p = none := by
  rw [← List.take_append_drop i Q, play_app, h]
  rfl
theorem do_len {p : Pa} {nm d : By} {L : List Ob} {m : Mx} : (doP p nm d L m).2.L.length ≤ p.L.length + 5 := by
  unfold doP
  split
  · simp
  split
  · simp
  split
  · simp
  split
  · simp
  split
  · simp
  split
  · rename_i hd _
    have := draw_len hd
    simp only [List.length_append]
    omega
  · simp
theorem play_len {m : Mx} : ∀ (Q : List PO) {p p' : Pa}, playP m Q p = some p' → p'.L.length ≤ p.L.length + 5 * Q.length
  | [], p, p', h => by cases h; simp
  | q :: Q, p, p', h => by
    unfold playP at h
    split at h
    · have := play_len Q h
      have := do_len (p := p) (nm := q.1) (d := q.2.1) (L := q.2.2) (m := m)
      rw [List.length_cons]
      omega
    · cases h
theorem do_few {p : Pa} {nm d : By} {L : List Ob} {m : Mx} (h : p.L.length ≤ 8192) : (doP p nm d L m).2.L.length ≤ 8192 := by
  unfold doP
  split
  · exact h
  split
  · exact h
  split
  · exact h
  split
  · exact h
  split
  · exact h
  split
  · rw [List.length_append]
    omega
  · exact h
/-! ### Operators with whole numbers -/
abbrev iO' (n : Int) : Ob := (2, n, 0, eB, nilS, nilS)
theorem nm_ints : ∀ (l : List Int), (∀ x ∈ l, -107374 ≤ x ∧ x ≤ 107374) → nmO (l.map iO) = some (l.map fun x => x * 10000)
  | [], _ => rfl
  | x :: l, h => by
    rw [List.map_cons, List.map_cons]
    unfold nmO
    have hx := h x (List.mem_cons_self ..)
    have : numV (iO x) = some (x * 10000) := by
      unfold numV
      rw [if_pos rfl, if_pos hx]
    rw [this, nm_ints l fun y hy => h y (List.mem_cons_of_mem _ hy)]
    rfl
theorem chk_m (x y : Int) : chkF [109] ([x, y].map iO) [] = 0 := by kernel_rfl
theorem chk_l (x y : Int) : chkF [108] ([x, y].map iO) [] = 0 := by kernel_rfl
theorem chk_h : chkF [104] ([].map iO) [] = 0 := by kernel_rfl
theorem chk_re (x y w h : Int) : chkF [114, 101] ([x, y, w, h].map iO) [] = 0 := by kernel_rfl
theorem do_m (p : Pa) (m : Mx) {x y : Int} (hx : -107374 ≤ x ∧ x ≤ 107374) (hy : -107374 ≤ y ∧ y ≤ 107374) (hp : p.L.length ≤ 8191) :
    doP p [109] [] ([x, y].map iO) m = match pt m (x * 10000) (y * 10000) with | none => (2, p) | some q => (0, ⟨p.L ++ [mvS q], q, p.cl⟩) := by
  unfold doP
  rw [if_neg (by decide), if_neg (by rw [chk_m]; decide), if_neg (fun h => h.1 rfl), nm_ints _ (by simp; omega)]
  dsimp only
  rw [draw_m]
  simp only [List.map_cons, List.map_nil, List.getD_cons_zero, List.getD_cons_succ]
  cases pt m (x * 10000) (y * 10000) with
  | none => rfl
  | some q =>
    simp only [Option.bind_some]
    rw [if_pos (by simp; omega)]
    simp [clipN, bgF, mvS]
theorem do_l (p : Pa) (m : Mx) {x y : Int} (hx : -107374 ≤ x ∧ x ≤ 107374) (hy : -107374 ≤ y ∧ y ≤ 107374) (hp : p.L.length ≤ 8191) (hne : p.L ≠ []) :
    doP p [108] [] ([x, y].map iO) m = match pt m (x * 10000) (y * 10000) with | none => (2, p) | some q => (0, ⟨p.L ++ [lnS q], p.bg, p.cl⟩) := by
  unfold doP
  rw [if_neg (by decide), if_neg (by rw [chk_l]; decide), if_neg (fun h => hne h.2.2), nm_ints _ (by simp; omega)]
  dsimp only
  rw [draw_l]
  simp only [List.map_cons, List.map_nil, List.getD_cons_zero, List.getD_cons_succ]
  cases pt m (x * 10000) (y * 10000) with
  | none => rfl
  | some q =>
    simp only [Option.bind_some]
    rw [if_pos (by simp; omega)]
    simp [clipN, bgF, lnS]
theorem do_h (p : Pa) (m : Mx) (hp : p.L.length ≤ 8191) (hne : p.L ≠ []) : doP p [104] [] ([].map iO) m = (0, ⟨p.L ++ [clS], p.bg, p.cl⟩) := by
  unfold doP
  rw [if_neg (by decide), if_neg (by rw [chk_h]; decide), if_neg (fun h => hne h.2.2)]
  simp only [List.map_nil, nmO]
  rw [draw_h]
  dsimp only
  rw [if_pos (by simp; omega)]
  simp [clipN, bgF, clS]
theorem sum2_in {x y : Int} (hx : -107374 ≤ x ∧ x ≤ 107374) (hy : -107374 ≤ y ∧ y ≤ 107374) (h : -107374 ≤ x + y ∧ x + y ≤ 107374) : sum2 (x * 10000) (y * 10000) = some ((x + y) * 10000) := by
  have h1 : sumF [x * 10000, y * 10000] = ((x + y) * 10000, 0) := by
    unfold sumF
    have e : ps [x * 10000, y * 10000] [x * 10000, y * 10000].length = (x + y) * 10000 := by simp [ps]; omega
    rw [e, if_pos]
    simp only [List.all_cons, List.all_nil, Bool.and_true, Bool.and_eq_true, inW_spec]
    omega
  unfold sum2
  rw [h1]
  rfl
theorem do_re (p : Pa) (m : Mx) {x y w h : Int} (hx : -40000 ≤ x ∧ x ≤ 40000) (hy : -40000 ≤ y ∧ y ≤ 40000) (hw : -40000 ≤ w ∧ w ≤ 40000) (hh : -40000 ≤ h ∧ h ≤ 40000) (hp : p.L.length ≤ 8187) :
    doP p [114, 101] [] ([x, y, w, h].map iO) m = match (pt m (x * 10000) (y * 10000)).bind fun a => (pt m ((x + w) * 10000) (y * 10000)).bind fun b => (pt m ((x + w) * 10000) ((y + h) * 10000)).bind fun c => (pt m (x * 10000) ((y + h) * 10000)).bind fun d => some (a, [mvS a, lnS b, lnS c, lnS d, clS]) with
      | none => (2, p)
      | some (a, T) => (0, ⟨p.L ++ T, a, p.cl⟩) := by
  unfold doP
  rw [if_neg (by decide), if_neg (by rw [chk_re]; decide), if_neg (fun h => h.2.1 rfl), nm_ints _ (by simp; omega)]
  dsimp only
  rw [draw_re]
  simp only [List.map_cons, List.map_nil, List.getD_cons_zero, List.getD_cons_succ]
  unfold rectF
  rw [sum2_in (by omega) (by omega) (by omega), sum2_in (by omega) (by omega) (by omega)]
  simp only [Option.bind_some]
  cases pt m (x * 10000) (y * 10000) with
  | none => rfl
  | some a =>
  cases pt m ((x + w) * 10000) (y * 10000) with
  | none => rfl
  | some b =>
  cases pt m ((x + w) * 10000) ((y + h) * 10000) with
  | none => rfl
  | some c =>
  cases pt m (x * 10000) ((y + h) * 10000) with
  | none => rfl
  | some d =>
    simp only [Option.bind_some]
    rw [if_pos (by simp; omega)]
    simp [clipN, bgF, mvS, lnS, clS]
def reQ (x y w h : Int) : List PO := [([114, 101], [], [x, y, w, h].map iO)]
def fiveQ (x y w h : Int) : List PO := [([109], [], [x, y].map iO), ([108], [], [x + w, y].map iO), ([108], [], [x + w, y + h].map iO), ([108], [], [x, y + h].map iO), ([104], [], [].map iO)]
theorem re_five (p : Pa) (m : Mx) {x y w h : Int} (hx : -40000 ≤ x ∧ x ≤ 40000) (hy : -40000 ≤ y ∧ y ≤ 40000) (hw : -40000 ≤ w ∧ w ≤ 40000) (hh : -40000 ≤ h ∧ h ≤ 40000) (hp : p.L.length ≤ 8187) :
    playP m (reQ x y w h) p = playP m (fiveQ x y w h) p := by
  unfold reQ fiveQ
  simp only [playP]
  rw [do_re p m hx hy hw hh hp, do_m p m (by omega) (by omega) (by omega)]
  cases pt m (x * 10000) (y * 10000) with
  | none => rfl
  | some a =>
  simp only [Option.bind_some, if_true]
  rw [do_l ⟨p.L ++ [mvS a], a, p.cl⟩ m (by omega) (by omega) (by simp; omega) (by simp)]
  cases pt m ((x + w) * 10000) (y * 10000) with
  | none => rfl
  | some b =>
  simp only [Option.bind_some, if_true, List.append_assoc, List.cons_append, List.nil_append]
  rw [do_l ⟨p.L ++ [mvS a, lnS b], a, p.cl⟩ m (by omega) (by omega) (by simp; omega) (by simp)]
  cases pt m ((x + w) * 10000) ((y + h) * 10000) with
  | none => rfl
  | some c =>
  simp only [Option.bind_some, if_true, List.append_assoc, List.cons_append, List.nil_append]
  rw [do_l ⟨p.L ++ [mvS a, lnS b, lnS c], a, p.cl⟩ m (by omega) (by omega) (by simp; omega) (by simp)]
  cases pt m (x * 10000) ((y + h) * 10000) with
  | none => rfl
  | some d =>
  simp only [Option.bind_some, if_true, List.append_assoc, List.cons_append, List.nil_append]
  rw [do_h ⟨p.L ++ [mvS a, lnS b, lnS c, lnS d], a, p.cl⟩ m (by simp; omega) (by simp)]
  simp
/-- A rectangle leaves segments. -/
theorem re_some {p p' : Pa} {m : Mx} {x y w h : Int} (hx : -40000 ≤ x ∧ x ≤ 40000) (hy : -40000 ≤ y ∧ y ≤ 40000) (hw : -40000 ≤ w ∧ w ≤ 40000) (hh : -40000 ≤ h ∧ h ≤ 40000) (hp : p.L.length ≤ 8187) (hq : playP m (reQ x y w h) p = some p') : p'.L ≠ [] := by
  unfold reQ at hq
  simp only [playP] at hq
  rw [do_re p m hx hy hw hh hp] at hq
  split at hq
  · simp at hq
  · rename_i a T hb
    simp only [if_true, Option.some.injEq] at hq
    rw [← hq]
    cases h1 : pt m (x * 10000) (y * 10000) with
    | none => rw [h1] at hb; cases hb
    | some a =>
    cases h2 : pt m ((x + w) * 10000) (y * 10000) with
    | none => rw [h1, h2] at hb; cases hb
    | some b =>
    cases h3 : pt m ((x + w) * 10000) ((y + h) * 10000) with
    | none => rw [h1, h2, h3] at hb; cases hb
    | some c =>
    cases h4 : pt m (x * 10000) ((y + h) * 10000) with
    | none => rw [h1, h2, h3, h4] at hb; cases hb
    | some d =>
      rw [h1, h2, h3, h4] at hb
      simp only [Option.bind_some, Option.some.injEq, Prod.mk.injEq] at hb
      rw [← hb.2]
      simp
/-! ### s, b, b*, F and S, B, B*, f -/
def oneN : List By := [[115], [98], [98, 42], [70]]
def twoN : List By := [[83], [66], [66, 42], [102]]
theorem chk_ten : ∀ nm ∈ ten, chkF nm ([].map iO) [] = 0 := by
  intro nm h
  simp only [ten, List.mem_cons, List.not_mem_nil, or_false] at h
  rcases h with rfl | rfl | rfl | rfl | rfl | rfl | rfl | rfl | rfl | rfl <;> kernel_rfl
theorem paint_two (p : Pa) (hne : p.L ≠ []) (k : Nat) (hk : k < 4) : ∃ how, how ≠ 0 ∧ (∃ p', paintP p (oneN.getD k []) [] ([].map iO) = ⟨0, how, (if k < 3 then p.L ++ [clS] else p.L), true, p'⟩) ∧ ∃ p', paintP (if k < 3 then ⟨p.L ++ [clS], p.bg, p.cl⟩ else p) (twoN.getD k []) [] ([].map iO) = ⟨0, how, (if k < 3 then p.L ++ [clS] else p.L), true, p'⟩ := by
  have pos : ∀ (nm : By) (q : Pa), nm ∈ ten → (howN nm).1 + (if q.cl = true then 8 else 0) ≠ 0 → (if (howN nm).2 = true ∧ q.L ≠ [] then q.L ++ [clS] else q.L) ≠ [] → paintP q nm [] ([].map iO) = ⟨0, (howN nm).1 + (if q.cl = true then 8 else 0), (if (howN nm).2 = true ∧ q.L ≠ [] then q.L ++ [clS] else q.L), true, pa0⟩ := fun nm q h1 h2 h3 => by
    unfold paintP
    rw [if_neg (fun h => h h1), if_neg (by rw [chk_ten nm h1]; decide), if_neg (fun h => h.elim h3 h2)]
  have cs : k = 0 ∨ k = 1 ∨ k = 2 ∨ k = 3 := by omega
  have c8 : ∀ (c : Bool) (n : Int), 0 < n → n + (if c = true then 8 else 0) ≠ 0 := fun c n h => by cases c <;> simp <;> omega
  rcases cs with rfl | rfl | rfl | rfl
  · refine ⟨4 + (if p.cl = true then 8 else 0), c8 _ _ (by decide), ⟨pa0, ?_⟩, ⟨pa0, ?_⟩⟩
    · refine (pos [115] p (by decide) (c8 _ _ (by decide)) ?_).trans ?_
      · rw [if_pos ⟨rfl, hne⟩]; simp
      · rw [if_pos (⟨rfl, hne⟩ : (howN [115]).2 = true ∧ p.L ≠ [])]; rfl
    · exact pos [83] ⟨p.L ++ [clS], p.bg, p.cl⟩ (by decide) (c8 _ _ (by decide)) (by rw [if_neg (fun h => by cases h.1)]; simp)
  · refine ⟨5 + (if p.cl = true then 8 else 0), c8 _ _ (by decide), ⟨pa0, ?_⟩, ⟨pa0, ?_⟩⟩
    · refine (pos [98] p (by decide) (c8 _ _ (by decide)) ?_).trans ?_
      · rw [if_pos ⟨rfl, hne⟩]; simp
      · rw [if_pos (⟨rfl, hne⟩ : (howN [98]).2 = true ∧ p.L ≠ [])]; rfl
    · exact pos [66] ⟨p.L ++ [clS], p.bg, p.cl⟩ (by decide) (c8 _ _ (by decide)) (by rw [if_neg (fun h => by cases h.1)]; simp)
  · refine ⟨7 + (if p.cl = true then 8 else 0), c8 _ _ (by decide), ⟨pa0, ?_⟩, ⟨pa0, ?_⟩⟩
    · refine (pos [98, 42] p (by decide) (c8 _ _ (by decide)) ?_).trans ?_
      · rw [if_pos ⟨rfl, hne⟩]; simp
      · rw [if_pos (⟨rfl, hne⟩ : (howN [98, 42]).2 = true ∧ p.L ≠ [])]; rfl
    · exact pos [66, 42] ⟨p.L ++ [clS], p.bg, p.cl⟩ (by decide) (c8 _ _ (by decide)) (by rw [if_neg (fun h => by cases h.1)]; simp)
  · refine ⟨1 + (if p.cl = true then 8 else 0), c8 _ _ (by decide), ⟨pa0, ?_⟩, ⟨pa0, ?_⟩⟩
    · exact pos [70] p (by decide) (c8 _ _ (by decide)) (by rw [if_neg (fun h => by cases h.1)]; exact hne)
    · exact pos [102] p (by decide) (c8 _ _ (by decide)) (by rw [if_neg (fun h => by cases h.1)]; exact hne)
end Pat
end Go.Proofs.YtjbeembbnkmpeaaDoor

/- Paths: a path that is built with a matrix is the path built with the identity, led point by point. No condition. -/
namespace Go.Proofs.YtjbeembbnkmpeaaDoor
namespace Pat
open Sh Mat Fix Opr
set_option linter.unusedVariables false
set_option linter.unusedSimpArgs false
set_option maxRecDepth 8000
set_option maxHeartbeats 4000000
abbrev Sg.P (s : Sg) : Int × Int := (s.2.1, s.2.2.1)
abbrev Sg.Q (s : Sg) : Int × Int := (s.2.2.2.1, s.2.2.2.2.1)
abbrev Sg.R (s : Sg) : Int × Int := (s.2.2.2.2.2.1, s.2.2.2.2.2.2)
def LedS (m : Mx) (s t : Sg) : Prop := s.1 = t.1 ∧ (s.1 ≠ 4 → applyP m (Sg.R s) = some (Sg.R t)) ∧ (s.1 = 3 → applyP m (Sg.P s) = some (Sg.P t) ∧ applyP m (Sg.Q s) = some (Sg.Q t))
inductive LedL (m : Mx) : List Sg → List Sg → Prop where
  | nil : LedL m [] []
  | cons {s t : Sg} {L M : List Sg} (h : LedS m s t) (k : LedL m L M) : LedL m (s :: L) (t :: M)
theorem LedL.len {m : Mx} {L M : List Sg} (h : LedL m L M) : L.length = M.length := by
  induction h with
  | nil => rfl
  | cons _ _ ih => rw [List.length_cons, List.length_cons, ih]
theorem LedL.app {m : Mx} {L M A B : List Sg} (h : LedL m L M) (k : LedL m A B) : LedL m (L ++ A) (M ++ B) := by
  induction h with
  | nil => exact k
  | cons h _ ih => exact .cons h ih
theorem LedL.get {m : Mx} {L M : List Sg} (h : LedL m L M) : ∀ (i : Nat) (s t : Sg), L[i]? = some s → M[i]? = some t → LedS m s t := by
  induction h with
  | nil => intro i s t h; cases h
  | cons h k ih =>
    intro i s t h1 h2
    cases i with
    | zero => cases h1; cases h2; exact h
    | succ i => exact ih i s t (by simpa using h1) (by simpa using h2)
theorem LedL.last {m : Mx} {L M : List Sg} (h : LedL m L M) {s t : Sg} (h1 : L.getLast? = some s) (h2 : M.getLast? = some t) : LedS m s t := by
  rw [List.getLast?_eq_getElem?] at h1 h2
  exact h.get _ s t h1 (by rw [h.len]; exact h2)
theorem LedL.fold {m : Mx} {L M : List Sg} (h : LedL m L M) : ∀ {b c : Int × Int}, (applyP m b = some c ∨ ∃ s ∈ L, s.1 = 1) → applyP m (L.foldl bgF b) = some (M.foldl bgF c) := by
  induction h with
  | nil =>
    intro b c hb
    rcases hb with h | ⟨s, hs, _⟩
    · exact h
    · cases hs
  | cons h k ih =>
    rename_i s t L M
    intro b c hb
    rw [List.foldl_cons, List.foldl_cons]
    refine ih ?_
    unfold bgF
    by_cases h1 : s.1 = 1
    · rw [if_pos h1, if_pos (h.1 ▸ h1)]
      exact .inl (h.2.1 (by omega))
    · rw [if_neg h1, if_neg (h.1 ▸ h1)]
      rcases hb with hb | ⟨u, hu, h2⟩
      · exact .inl hb
      · rcases List.mem_cons.1 hu with rfl | hu
        · exact absurd h2 h1
        · exact .inr ⟨u, hu, h2⟩
theorem pdot6 {a b c d e f n : Int} (ha : inW a = true) (hb : inW b = true) (hc : inW c = true) (hd : inW d = true) (he : inW e = true) (hf : inW f = true) (hn : Fix.near (a * b + c * d + e * f) = n) (h : inW n = true) : dotP [a, b, c, d, e, f] = some n := by
  have hp : psum [a, b, c, d, e, f] 3 = a * b + c * d + e * f := by simp [psum]
  have hl : [a, b, c, d, e, f].length / 2 = 3 := by simp
  unfold dotP
  rw [hl, hp, hn, if_pos]
  simp [ha, hb, hc, hd, he, hf, h]
theorem app_one {p : Int × Int} (h1 : inW p.1 = true) (h2 : inW p.2 = true) : applyP one p = some p := by
  have k : inW 10000 = true := by decide
  have z : inW 0 = true := by decide
  unfold applyP
  rw [if_pos ⟨by decide, h1, h2⟩]
  show ((dotP [p.1, 10000, p.2, 0, 0, 10000]).bind fun x => (dotP [p.1, 0, p.2, 10000, 0, 10000]).bind fun y => some (x, y)) = _
  rw [pdot6 h1 k h2 z z k (by unfold Fix.near; omega) h1, pdot6 h1 z h2 k z k (by unfold Fix.near; omega) h2]
  rfl
theorem app_far {m : Mx} {p : Int × Int} (h : ¬ (inW p.1 = true ∧ inW p.2 = true)) : applyP m p = none := if_neg fun k => h k.2
theorem one_pt {x y : Int} {p : Int × Int} (h : pt one x y = some p) : p = (x, y) := by
  unfold pt at h
  by_cases hi : inW (x, y).1 = true ∧ inW (x, y).2 = true
  · rw [app_one hi.1 hi.2] at h
    cases h
    rfl
  · rw [app_far hi] at h
    cases h
theorem led_pt {m : Mx} {x y : Int} {p q : Int × Int} (h1 : pt one x y = some p) (h2 : pt m x y = some q) : applyP m p = some q := by
  rw [one_pt h1]
  exact h2
theorem bd {α β : Type} {o : Option α} {f : α → Option β} {b : β} (h : o.bind f = some b) : ∃ a, o = some a ∧ f a = some b := by
  cases o with
  | none => cases h
  | some a => exact ⟨a, rfl, h⟩
theorem led_rect {m : Mx} {x y w h : Int} {T T' : List Sg} (h1 : rectF one x y w h = some T) (h2 : rectF m x y w h = some T') : LedL m T T' ∧ ∃ s ∈ T, s.1 = 1 := by
  unfold rectF at h1 h2
  obtain ⟨r, hr, h1⟩ := bd h1
  obtain ⟨t, ht, h1⟩ := bd h1
  rw [hr, ht] at h2
  simp only [Option.bind_some] at h2
  obtain ⟨a, ha, h1⟩ := bd h1
  obtain ⟨b, hb, h1⟩ := bd h1
  obtain ⟨c, hc, h1⟩ := bd h1
  obtain ⟨d, hd, h1⟩ := bd h1
  obtain ⟨a', ha', h2⟩ := bd h2
  obtain ⟨b', hb', h2⟩ := bd h2
  obtain ⟨c', hc', h2⟩ := bd h2
  obtain ⟨d', hd', h2⟩ := bd h2
  cases h1
  cases h2
  refine ⟨.cons ⟨rfl, fun _ => led_pt ha ha', fun h => by cases h⟩ (.cons ⟨rfl, fun _ => led_pt hb hb', fun h => by cases h⟩ (.cons ⟨rfl, fun _ => led_pt hc hc', fun h => by cases h⟩ (.cons ⟨rfl, fun _ => led_pt hd hd', fun h => by cases h⟩ (.cons ⟨rfl, fun h => absurd rfl h, fun h => by cases h⟩ .nil)))), mvS a, List.mem_cons_self .., rfl⟩
theorem led_draw {nm : By} {m : Mx} {h h' : Int × Int} {l : List Int} {T T' : List Sg} (h1 : drawF nm one h l = some T) (h2 : drawF nm m h' l = some T') (hh : nm = [118] → applyP m h = some h') :
    LedL m T T' ∧ (nm = [109] ∨ nm = [114, 101] → ∃ s ∈ T, s.1 = 1) := by
  unfold drawF at h1 h2
  by_cases c1 : nm = [109]
  · rw [if_pos c1] at h1 h2
    obtain ⟨a, ha, h1⟩ := bd h1
    obtain ⟨a', ha', h2⟩ := bd h2
    cases h1; cases h2
    exact ⟨.cons ⟨rfl, fun _ => led_pt ha ha', fun h => by cases h⟩ .nil, fun _ => ⟨mvS a, List.mem_cons_self .., rfl⟩⟩
  rw [if_neg c1] at h1 h2
  by_cases c2 : nm = [108]
  · rw [if_pos c2] at h1 h2
    obtain ⟨a, ha, h1⟩ := bd h1
    obtain ⟨a', ha', h2⟩ := bd h2
    cases h1; cases h2
    exact ⟨.cons ⟨rfl, fun _ => led_pt ha ha', fun h => by cases h⟩ .nil, fun h => by subst c2; exact absurd h (by decide)⟩
  rw [if_neg c2] at h1 h2
  by_cases c3 : nm = [99]
  · rw [if_pos c3] at h1 h2
    obtain ⟨a, ha, h1⟩ := bd h1
    obtain ⟨b, hb, h1⟩ := bd h1
    obtain ⟨c, hc, h1⟩ := bd h1
    obtain ⟨a', ha', h2⟩ := bd h2
    obtain ⟨b', hb', h2⟩ := bd h2
    obtain ⟨c', hc', h2⟩ := bd h2
    cases h1; cases h2
    exact ⟨.cons ⟨rfl, fun _ => led_pt hc hc', fun _ => ⟨led_pt ha ha', led_pt hb hb'⟩⟩ .nil, fun h => by subst c3; exact absurd h (by decide)⟩
  rw [if_neg c3] at h1 h2
  by_cases c4 : nm = [118]
  · rw [if_pos c4] at h1 h2
    obtain ⟨a, ha, h1⟩ := bd h1
    obtain ⟨b, hb, h1⟩ := bd h1
    obtain ⟨a', ha', h2⟩ := bd h2
    obtain ⟨b', hb', h2⟩ := bd h2
    cases h1; cases h2
    exact ⟨.cons ⟨rfl, fun _ => led_pt hb hb', fun _ => ⟨hh c4, led_pt ha ha'⟩⟩ .nil, fun h => by subst c4; exact absurd h (by decide)⟩
  rw [if_neg c4] at h1 h2
  by_cases c5 : nm = [121]
  · rw [if_pos c5] at h1 h2
    obtain ⟨a, ha, h1⟩ := bd h1
    obtain ⟨b, hb, h1⟩ := bd h1
    obtain ⟨a', ha', h2⟩ := bd h2
    obtain ⟨b', hb', h2⟩ := bd h2
    cases h1; cases h2
    exact ⟨.cons ⟨rfl, fun _ => led_pt hb hb', fun _ => ⟨led_pt ha ha', led_pt hb hb'⟩⟩ .nil, fun h => by subst c5; exact absurd h (by decide)⟩
  rw [if_neg c5] at h1 h2
  by_cases c6 : nm = [104]
  · rw [if_pos c6] at h1 h2
    cases h1; cases h2
    exact ⟨.cons ⟨rfl, fun h => absurd rfl h, fun h => by cases h⟩ .nil, fun h => by subst c6; exact absurd h (by decide)⟩
  rw [if_neg c6] at h1 h2
  by_cases c7 : nm = [114, 101]
  · rw [if_pos c7] at h1 h2
    obtain ⟨k1, k2⟩ := led_rect h1 h2
    exact ⟨k1, fun _ => k2⟩
  rw [if_neg c7] at h1 h2
  cases h1; cases h2
  exact ⟨.nil, fun h => (h.elim c1 c7).elim⟩
/-- A path and its image. -/
def LedP (m : Mx) (p q : Pa) : Prop := LedL m p.L q.L ∧ (p.L ≠ [] → applyP m p.bg = some q.bg)
theorem LedP.cur {m : Mx} {p q : Pa} (h : LedP m p q) (hne : p.L ≠ []) : applyP m (curS p.L p.bg) = some (curS q.L q.bg) := by
  have hl := h.1.len
  have hq : q.L ≠ [] := fun e => by rw [e] at hl; exact hne (List.eq_nil_of_length_eq_zero hl)
  obtain ⟨s, hs⟩ : ∃ s, p.L.getLast? = some s := ⟨_, List.getLast?_eq_some_getLast hne⟩
  obtain ⟨t, ht⟩ : ∃ t, q.L.getLast? = some t := ⟨_, List.getLast?_eq_some_getLast hq⟩
  have hst := h.1.last hs ht
  unfold curS
  rw [hs, ht]
  dsimp only
  by_cases h4 : s.1 = 4
  · rw [if_pos h4, if_pos (hst.1 ▸ h4)]
    exact h.2 hne
  · rw [if_neg h4, if_neg (hst.1 ▸ h4)]
    exact hst.2.1 h4
/-- What an operator that is not refused does. -/
theorem do_ok {p : Pa} {nm d : By} {L : List Ob} {m : Mx} (h : (doP p nm d L m).1 = 0) : nm ∈ nine ∧ chkF nm L d = 0 ∧ ¬ (nm ≠ [109] ∧ nm ≠ [114, 101] ∧ p.L = []) ∧ ∃ l T, nmO L = some l ∧ drawF nm m (curS p.L p.bg) l = some T ∧
    (doP p nm d L m).2 = ⟨p.L ++ T, T.foldl bgF p.bg, p.cl || clipN nm⟩ := by
  unfold doP at h ⊢
  by_cases c1 : nm ∉ nine
  · rw [if_pos c1] at h; exact absurd h (by show (8 : Int) ≠ 0; decide)
  rw [if_neg c1] at h ⊢
  by_cases c2 : chkF nm L d ≠ 0
  · rw [if_pos c2] at h; exact absurd h c2
  rw [if_neg c2] at h ⊢
  by_cases c3 : nm ≠ [109] ∧ nm ≠ [114, 101] ∧ p.L = []
  · rw [if_pos c3] at h; exact absurd h (by show (29 : Int) ≠ 0; decide)
  rw [if_neg c3] at h ⊢
  refine ⟨Decidable.not_not.1 c1, Decidable.not_not.1 c2, c3, ?_⟩
  cases hn : nmO L with
  | none => rw [hn] at h; exact absurd h (by show (2 : Int) ≠ 0; decide)
  | some l =>
    rw [hn] at h
    dsimp only at h ⊢
    cases hd : drawF nm m (curS p.L p.bg) l with
    | none => rw [hd] at h; exact absurd h (by show (2 : Int) ≠ 0; decide)
    | some T =>
      rw [hd] at h
      dsimp only at h ⊢
      by_cases c4 : p.L.length + T.length ≤ 8192
      · rw [if_pos c4]
        exact ⟨l, T, rfl, hd, rfl⟩
      · rw [if_neg c4] at h
        exact absurd h (by show (6 : Int) ≠ 0; decide)
theorem led_do {m : Mx} {p q : Pa} {nm d : By} {L : List Ob} (h : LedP m p q) (h1 : (doP p nm d L one).1 = 0) (h2 : (doP q nm d L m).1 = 0) : LedP m (doP p nm d L one).2 (doP q nm d L m).2 := by
  obtain ⟨_, _, g1, l, T, hn, hd, e1⟩ := do_ok h1
  obtain ⟨_, _, g2, l', T', hn', hd', e2⟩ := do_ok h2
  rw [hn] at hn'
  cases hn'
  have hne : nm ≠ [109] → nm ≠ [114, 101] → p.L ≠ [] := fun a b e => g1 ⟨a, b, e⟩
  obtain ⟨k1, k2⟩ := led_draw hd hd' fun e => h.cur (hne (by rw [e]; decide) (by rw [e]; decide))
  rw [e1, e2]
  refine ⟨h.1.app k1, fun _ => k1.fold ?_⟩
  by_cases c : nm = [109] ∨ nm = [114, 101]
  · exact .inr (k2 c)
  · exact .inl (h.2 (hne (fun e => c (.inl e)) fun e => c (.inr e)))
theorem led_play {m : Mx} : ∀ (Q : List PO) {p q p' q' : Pa}, LedP m p q → playP one Q p = some p' → playP m Q q = some q' → LedP m p' q'
  | [], p, q, p', q', h, h1, h2 => by cases h1; cases h2; exact h
  | o :: Q, p, q, p', q', h, h1, h2 => by
    unfold playP at h1 h2
    split at h1
    · rename_i c1
      split at h2
      · rename_i c2
        exact led_play Q (led_do h c1 c2) h1 h2
      · cases h2
    · cases h1
end Pat
end Go.Proofs.YtjbeembbnkmpeaaDoor
