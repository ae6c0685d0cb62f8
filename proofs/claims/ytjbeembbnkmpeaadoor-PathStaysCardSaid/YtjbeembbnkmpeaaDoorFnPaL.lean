/- The formulas of 5 functions of the program, written by program (gen.py); the kernel checks each. No condition. -/
import Derived.Test.YtjbeembbnkmpeaaDoorFn
import Derived.Test.YtjbeembbnkmpeaaDoorFnFix
import Derived.Test.YtjbeembbnkmpeaaDoorFnMat
import Derived.Test.YtjbeembbnkmpeaaDoorFnObj
import Derived.Test.YtjbeembbnkmpeaaDoorFnOps
import Derived.Test.YtjbeembbnkmpeaaDoorFnPath
import Derived.Test.YtjbeembbnkmpeaaDoorFnPaR
import Derived.Test.YtjbeembbnkmpeaaDoorPaI
namespace Go.Proofs.YtjbeembbnkmpeaaDoor
open Sh
set_option linter.unusedVariables false
set_option maxRecDepth 100000

def C33 (l1 : Slc) (w : World) (R : Bool → World → Prop) : Prop :=
  Calls Tryd.prog 33 #[Slc.v l1] w fun e w' => ∃ r0 : Bool, e = .returned (.bool r0) ∧ R r0 w'
theorem C33.mono {l1 : Slc} {w : World} {R R' : Bool → World → Prop} (h : C33 l1 w R) (hr : ∀ r0 w', R r0 w' → R' r0 w') : C33 l1 w R' :=
  Calls.mono h fun _ _ ⟨r0, he, hR⟩ => ⟨r0, he, hr _ _ hR⟩
def C42 (name1 : ByteArray) (nums2 : Slc) (w : World) (R : (ByteArray × Slc × ByteArray) → World → Prop) : Prop :=
  Calls Tryd.prog 42 #[.string name1, Slc.v nums2] w fun e w' => ∃ r0 : ByteArray × Slc × ByteArray, e = .returned (.agg #[.string r0.1, Slc.v r0.2.1, .string r0.2.2]) ∧ R r0 w'
theorem C42.mono {name1 : ByteArray} {nums2 : Slc} {w : World} {R R' : (ByteArray × Slc × ByteArray) → World → Prop} (h : C42 name1 nums2 w R) (hr : ∀ r0 w', R r0 w' → R' r0 w') : C42 name1 nums2 w R' :=
  Calls.mono h fun _ _ ⟨r0, he, hR⟩ => ⟨r0, he, hr _ _ hR⟩
def C34 (w : World) (R : Bool → World → Prop) : Prop :=
  Calls Tryd.prog 34 #[] w fun e w' => ∃ r0 : Bool, e = .returned (.bool r0) ∧ R r0 w'
theorem C34.mono {w : World} {R R' : Bool → World → Prop} (h : C34 w R) (hr : ∀ r0 w', R r0 w' → R' r0 w') : C34 w R' :=
  Calls.mono h fun _ _ ⟨r0, he, hR⟩ => ⟨r0, he, hr _ _ hR⟩
def C41 (l1 : Slc) (m2 : Int × Int × Int × Int × Int × Int) (w : World) (R : Option Addr → Bool → World → Prop) : Prop :=
  Calls Tryd.prog 41 #[Slc.v l1, .agg #[.int .i64 (m2.1), .int .i64 (m2.2.1), .int .i64 (m2.2.2.1), .int .i64 (m2.2.2.2.1), .int .i64 (m2.2.2.2.2.1), .int .i64 (m2.2.2.2.2.2)]] w fun e w' => ∃ r0 : Option Addr, ∃ r1 : Bool, e = .returned (.tuple #[.pointer r0, .bool r1]) ∧ R r0 r1 w'
theorem C41.mono {l1 : Slc} {m2 : Int × Int × Int × Int × Int × Int} {w : World} {R R' : Option Addr → Bool → World → Prop} (h : C41 l1 m2 w R) (hr : ∀ r0 r1 w', R r0 r1 w' → R' r0 r1 w') : C41 l1 m2 w R' :=
  Calls.mono h fun _ _ ⟨r0, r1, he, hR⟩ => ⟨r0, r1, he, hr _ _ _ hR⟩
def C7 (l1 : Slc) (m2 : Int × Int × Int × Int × Int × Int) (w : World) (R : Bool → World → Prop) : Prop :=
  Calls Tryd.prog 7 #[Slc.v l1, .agg #[.int .i64 (m2.1), .int .i64 (m2.2.1), .int .i64 (m2.2.2.1), .int .i64 (m2.2.2.2.1), .int .i64 (m2.2.2.2.2.1), .int .i64 (m2.2.2.2.2.2)]] w fun e w' => ∃ r0 : Bool, e = .returned (.bool r0) ∧ R r0 w'
theorem C7.mono {l1 : Slc} {m2 : Int × Int × Int × Int × Int × Int} {w : World} {R R' : Bool → World → Prop} (h : C7 l1 m2 w R) (hr : ∀ r0 w', R r0 w' → R' r0 w') : C7 l1 m2 w R' :=
  Calls.mono h fun _ _ ⟨r0, he, hR⟩ => ⟨r0, he, hr _ _ hR⟩

def S33L1 (s2 : Int) (I4 : Int → World → Prop) (x13 : Slc) (R : Bool → World → Prop) (I16 : Int → World → Prop) (s14 : Int) (vw15 : World) : Prop :=
  Br (decide (s14 < ((x13.len : Nat) : Int))) (0 ≤ s14 ∧ s14 < (x13.len : Nat) ∧ Nn x13.p fun a17 =>
    Ld vw15 (a17.add ((s14).toNat * 6)) (Value.int .i64) fun (x18 : Int) =>
    Ld vw15 ((a17.add ((s14).toNat * 6)).add 1) (Value.int .i64) fun (x19 : Int) =>
    Ld vw15 ((a17.add ((s14).toNat * 6)).add 2) (Value.int .i64) fun (x20 : Int) =>
    Ld vw15 ((a17.add ((s14).toNat * 6)).add 3) Value.string fun (x21 : ByteArray) =>
    Ld vw15 ((a17.add ((s14).toNat * 6)).add 4) Slc.v fun (x22 : Slc) =>
    Ld vw15 ((a17.add ((s14).toNat * 6)).add 5) Slc.v fun (x23 : Slc) =>
    Nw vw15 (.cells #[.int .i64 0, .int .i64 0, .int .i64 0, .string ((⟨#[]⟩ : ByteArray)), Slc.v ((⟨none, 0, 0⟩ : Slc)), Slc.v ((⟨none, 0, 0⟩ : Slc))] 81) fun vw24 =>
    St vw24 (⟨vw15.heap.size, 0, none⟩ : Addr) (.int .i64 x18) fun vw25 =>
    St vw25 ((⟨vw15.heap.size, 0, none⟩ : Addr).add 1) (.int .i64 x19) fun vw26 =>
    St vw26 ((⟨vw15.heap.size, 0, none⟩ : Addr).add 2) (.int .i64 x20) fun vw27 =>
    St vw27 ((⟨vw15.heap.size, 0, none⟩ : Addr).add 3) (.string x21) fun vw28 =>
    St vw28 ((⟨vw15.heap.size, 0, none⟩ : Addr).add 4) (Slc.v x22) fun vw29 =>
    St vw29 ((⟨vw15.heap.size, 0, none⟩ : Addr).add 5) (Slc.v x23) fun vw30 =>
    Ld vw30 (⟨vw15.heap.size, 0, none⟩ : Addr) (Value.int .i64) fun (x31 : Int) =>
    Ld vw30 ((⟨vw15.heap.size, 0, none⟩ : Addr).add 1) (Value.int .i64) fun (x32 : Int) =>
    Ld vw30 ((⟨vw15.heap.size, 0, none⟩ : Addr).add 2) (Value.int .i64) fun (x33 : Int) =>
    Ld vw30 ((⟨vw15.heap.size, 0, none⟩ : Addr).add 3) Value.string fun (x34 : ByteArray) =>
    Ld vw30 ((⟨vw15.heap.size, 0, none⟩ : Addr).add 4) Slc.v fun (x35 : Slc) =>
    Ld vw30 ((⟨vw15.heap.size, 0, none⟩ : Addr).add 5) Slc.v fun (x36 : Slc) =>
    C95 (x31, x32, x33, x34, x35, x36) vw30 fun r37 vw38 =>
      Br (decide (r37 > 40)) (R false vw38) (I16 (IntKind.i64.wrap (s14 + 1)) vw38)) (I4 (IntKind.i64.wrap (s2 + 1)) vw15)
def S33L2 (l1 : Slc) (R : Bool → World → Prop) (I4 : Int → World → Prop) (s2 : Int) (vw3 : World) : Prop :=
  Br (decide (s2 < ((l1.len : Nat) : Int))) (0 ≤ s2 ∧ s2 < (l1.len : Nat) ∧ Nn l1.p fun a5 =>
    Ld vw3 (a5.add ((s2).toNat * 3)) Value.string fun (x6 : ByteArray) =>
    Ld vw3 ((a5.add ((s2).toNat * 3)).add 1) Slc.v fun (x7 : Slc) =>
    Ld vw3 ((a5.add ((s2).toNat * 3)).add 2) Value.string fun (x8 : ByteArray) =>
    Nw vw3 (.cells #[.string ((⟨#[]⟩ : ByteArray)), Slc.v ((⟨none, 0, 0⟩ : Slc)), .string ((⟨#[]⟩ : ByteArray))] 63) fun vw9 =>
    St vw9 (⟨vw3.heap.size, 0, none⟩ : Addr) (.string x6) fun vw10 =>
    St vw10 ((⟨vw3.heap.size, 0, none⟩ : Addr).add 1) (Slc.v x7) fun vw11 =>
    St vw11 ((⟨vw3.heap.size, 0, none⟩ : Addr).add 2) (.string x8) fun vw12 =>
    Ld vw12 ((⟨vw3.heap.size, 0, none⟩ : Addr).add 1) Slc.v fun (x13 : Slc) =>
    Lp (σ := Int) (S33L1 s2 I4 x13 R) 0 vw12) (R true vw3)
/-- foliant/foliantlaw45.small -/
def S33 (l1 : Slc) (w : World) (R : Bool → World → Prop) : Prop :=
  Br (decide (((l1.len : Nat) : Int) > 60)) (R false w) (Lp (σ := Int) (S33L2 l1 R) 0 w)
def pl33 : Plan := (.seq (.reg .seq) (.seq (.seq (.reg .seq) (.cond (.seq (.reg .seq) .leaf) .leaf)) (.seq (.seq (.reg .seq) (.block (.loop [(12, (.one (.int .i64)))] [10, 11] (.seq (.reg .seq) (.seq (.cond .leaf .leaf) (.seq (.block (.seq (.reg .seq) (.seq (.reg .seq) (.block (.loop [(19, (.one (.int .i64)))] [10, 11, 12, 17, 18] (.seq (.reg .seq) (.seq (.cond .leaf .leaf) (.seq (.block (.seq (.reg .seq) (.seq (.reg .seq) (.cond (.seq (.reg .seq) .leaf) .leaf)))) (.reg .seq))))))))) (.reg .seq))))))) (.seq (.reg .seq) .leaf))))
set_option maxRecDepth 100000 in
theorem T33 (l1 : Slc) (w : World) (R : Bool → World → Prop) (h : S33 l1 w R) : C33 l1 w R := by
  have e : fnT Tryd.prog ⟨FF, MAY, (fun _ _ => False)⟩ pl33 Tryd.f33 [Slc.v l1] w [(.one .bool)] (fun s w => R s w) = S33 l1 w R := by kernel_rfl
  exact (fn_calls okF okM Tryd.func33 (by kernel_rfl) (by kernel_rfl) (e.mpr h)).mono fun _ _ ⟨s, he, hR⟩ => ⟨s, he, hR⟩

def S42L1 (w : World) (nums2 : Slc) (vw3 : World) (R : (ByteArray × Slc × ByteArray) → World → Prop) (I10 : Int → World → Prop) (s8 : Int) (vw9 : World) : Prop :=
  Br (decide (s8 < ((nums2.len : Nat) : Int))) (0 ≤ s8 ∧ s8 < (nums2.len : Nat) ∧ Nn nums2.p fun a11 =>
    Ld vw9 (a11.add ((s8).toNat * 1)) (Value.int .i64) fun (x12 : Int) =>
    Ld vw9 ((⟨vw3.heap.size, 0, none⟩ : Addr).add 1) Slc.v fun (x13 : Slc) =>
    Nw vw9 (.cells #[.int .i64 2, .int .i64 x12, .int .i64 0, .string ((⟨#[]⟩ : ByteArray)), Slc.v ((⟨none, 0, 0⟩ : Slc)), Slc.v ((⟨none, 0, 0⟩ : Slc))] 81) fun vw14 =>
    Rn Tryd.prog (Builtin.append_ #[60, 60] 60 #[Slc.v x13, Slc.v ((⟨some ⟨vw9.heap.size, 0, none⟩, 1, 1⟩ : Slc))]) vw14 Slc.v fun (x15 : Slc) vw16 =>
    St vw16 ((⟨vw3.heap.size, 0, none⟩ : Addr).add 1) (Slc.v x15) fun vw17 =>
    I10 (IntKind.i64.wrap (s8 + 1)) vw17) (Ld vw9 (⟨vw3.heap.size, 0, none⟩ : Addr) Value.string fun (x18 : ByteArray) =>
    Ld vw9 ((⟨vw3.heap.size, 0, none⟩ : Addr).add 1) Slc.v fun (x19 : Slc) =>
    Ld vw9 ((⟨vw3.heap.size, 0, none⟩ : Addr).add 2) Value.string fun (x20 : ByteArray) =>
    St vw9 (⟨w.heap.size, 0, none⟩ : Addr) (.string x18) fun vw21 =>
    St vw21 ((⟨w.heap.size, 0, none⟩ : Addr).add 1) (Slc.v x19) fun vw22 =>
    St vw22 ((⟨w.heap.size, 0, none⟩ : Addr).add 2) (.string x20) fun vw23 =>
    Ld vw23 (⟨w.heap.size, 0, none⟩ : Addr) Value.string fun (x24 : ByteArray) =>
    Ld vw23 ((⟨w.heap.size, 0, none⟩ : Addr).add 1) Slc.v fun (x25 : Slc) =>
    Ld vw23 ((⟨w.heap.size, 0, none⟩ : Addr).add 2) Value.string fun (x26 : ByteArray) =>
    R (x24, x25, x26) vw23)
/-- foliant/foliantlaw45.Op -/
def S42 (name1 : ByteArray) (nums2 : Slc) (w : World) (R : (ByteArray × Slc × ByteArray) → World → Prop) : Prop :=
  Nw w (.cells #[.string ((⟨#[]⟩ : ByteArray)), Slc.v ((⟨none, 0, 0⟩ : Slc)), .string ((⟨#[]⟩ : ByteArray))] 63) fun vw3 =>
  Nw vw3 (.cells #[.string ((⟨#[]⟩ : ByteArray)), Slc.v ((⟨none, 0, 0⟩ : Slc)), .string ((⟨#[]⟩ : ByteArray))] 63) fun vw4 =>
  St vw4 (⟨vw3.heap.size, 0, none⟩ : Addr) (.string name1) fun vw5 =>
  St vw5 ((⟨vw3.heap.size, 0, none⟩ : Addr).add 1) (Slc.v ((⟨none, 0, 0⟩ : Slc))) fun vw6 =>
  St vw6 ((⟨vw3.heap.size, 0, none⟩ : Addr).add 2) (.string ((⟨#[]⟩ : ByteArray))) fun vw7 =>
  Lp (σ := Int) (S42L1 w nums2 vw3 R) 0 vw7
def pl42 : Plan := (.seq (.reg .seq) (.seq (.reg .seq) (.seq (.seq (.reg .seq) (.block (.loop [(12, (.one (.int .i64)))] [4, 5, 10, 11] (.seq (.reg .seq) (.seq (.cond .leaf .leaf) (.seq (.block (.seq (.reg .seq) (.reg .seq))) (.reg .seq))))))) (.seq (.reg .seq) .leaf))))
set_option maxRecDepth 100000 in
theorem T42 (name1 : ByteArray) (nums2 : Slc) (w : World) (R : (ByteArray × Slc × ByteArray) → World → Prop) (h : S42 name1 nums2 w R) : C42 name1 nums2 w R := by
  have e : fnT Tryd.prog ⟨FF, MAY, (fun _ _ => False)⟩ pl42 Tryd.f42 [.string name1, Slc.v nums2] w [(.agg [.str, .slc, .str])] (fun s w => R s w) = S42 name1 nums2 w R := by kernel_rfl
  exact (fn_calls okF okM Tryd.func42 (by kernel_rfl) (by kernel_rfl) (e.mpr h)).mono fun _ _ ⟨s, he, hR⟩ => ⟨s, he, hR⟩

/-- foliant/foliantlaw45.lives -/
def S34 (w : World) (R : Bool → World → Prop) : Prop :=
  C44 w fun r1 vw2 =>
    Nw vw2 (.cells #[.int .i64 0, .int .i64 0, .int .i64 0, .int .i64 0, .int .i64 0, .int .i64 0] 23) fun vw3 =>
    St vw3 (⟨vw2.heap.size, 0, none⟩ : Addr) (.int .i64 (r1.1)) fun vw4 =>
    St vw4 ((⟨vw2.heap.size, 0, none⟩ : Addr).add 1) (.int .i64 (r1.2.1)) fun vw5 =>
    St vw5 ((⟨vw2.heap.size, 0, none⟩ : Addr).add 2) (.int .i64 (r1.2.2.1)) fun vw6 =>
    St vw6 ((⟨vw2.heap.size, 0, none⟩ : Addr).add 3) (.int .i64 (r1.2.2.2.1)) fun vw7 =>
    St vw7 ((⟨vw2.heap.size, 0, none⟩ : Addr).add 4) (.int .i64 (r1.2.2.2.2.1)) fun vw8 =>
    St vw8 ((⟨vw2.heap.size, 0, none⟩ : Addr).add 5) (.int .i64 (r1.2.2.2.2.2)) fun vw9 =>
    C22 vw9 fun r10 vw11 =>
      Br r10.isNone (R false vw11) (∃ vS12 : World → Prop, vS12 vw11.drew ∧ LdS vS12 (⟨vw2.heap.size, 0, none⟩ : Addr) (Value.int .i64) fun (x13 : Int) =>
        LdS vS12 ((⟨vw2.heap.size, 0, none⟩ : Addr).add 1) (Value.int .i64) fun (x14 : Int) =>
        LdS vS12 ((⟨vw2.heap.size, 0, none⟩ : Addr).add 2) (Value.int .i64) fun (x15 : Int) =>
        LdS vS12 ((⟨vw2.heap.size, 0, none⟩ : Addr).add 3) (Value.int .i64) fun (x16 : Int) =>
        LdS vS12 ((⟨vw2.heap.size, 0, none⟩ : Addr).add 4) (Value.int .i64) fun (x17 : Int) =>
        LdS vS12 ((⟨vw2.heap.size, 0, none⟩ : Addr).add 5) (Value.int .i64) fun (x18 : Int) =>
        Nw vw11.drew (.cells #[.int .i64 1, .int .i64 1] 2) fun vw19 =>
        vS12 vw19 ∧ C42 (⟨#[108]⟩ : ByteArray) (⟨some ⟨vw11.drew.heap.size, 0, none⟩, 2, 2⟩ : Slc) vw19 fun r20 vw21 =>
          vS12 vw21 ∧ C23 r10 (r20.1, r20.2.1, r20.2.2) (x13, x14, x15, x16, x17, x18) vw21 fun r22 vw23 =>
            ∃ vS24 : World → Prop, vS24 vw23.drew ∧ LdS vS24 (⟨vw2.heap.size, 0, none⟩ : Addr) (Value.int .i64) fun (x25 : Int) =>
            LdS vS24 ((⟨vw2.heap.size, 0, none⟩ : Addr).add 1) (Value.int .i64) fun (x26 : Int) =>
            LdS vS24 ((⟨vw2.heap.size, 0, none⟩ : Addr).add 2) (Value.int .i64) fun (x27 : Int) =>
            LdS vS24 ((⟨vw2.heap.size, 0, none⟩ : Addr).add 3) (Value.int .i64) fun (x28 : Int) =>
            LdS vS24 ((⟨vw2.heap.size, 0, none⟩ : Addr).add 4) (Value.int .i64) fun (x29 : Int) =>
            LdS vS24 ((⟨vw2.heap.size, 0, none⟩ : Addr).add 5) (Value.int .i64) fun (x30 : Int) =>
            Nw vw23.drew (.cells #[.int .i64 1, .int .i64 1] 2) fun vw31 =>
            vS24 vw31 ∧ C42 (⟨#[109]⟩ : ByteArray) (⟨some ⟨vw23.drew.heap.size, 0, none⟩, 2, 2⟩ : Slc) vw31 fun r32 vw33 =>
              vS24 vw33 ∧ C23 r10 (r32.1, r32.2.1, r32.2.2) (x25, x26, x27, x28, x29, x30) vw33 fun r34 vw35 =>
                ∃ vS36 : World → Prop, vS36 vw35.drew ∧ LdS vS36 (⟨vw2.heap.size, 0, none⟩ : Addr) (Value.int .i64) fun (x37 : Int) =>
                LdS vS36 ((⟨vw2.heap.size, 0, none⟩ : Addr).add 1) (Value.int .i64) fun (x38 : Int) =>
                LdS vS36 ((⟨vw2.heap.size, 0, none⟩ : Addr).add 2) (Value.int .i64) fun (x39 : Int) =>
                LdS vS36 ((⟨vw2.heap.size, 0, none⟩ : Addr).add 3) (Value.int .i64) fun (x40 : Int) =>
                LdS vS36 ((⟨vw2.heap.size, 0, none⟩ : Addr).add 4) (Value.int .i64) fun (x41 : Int) =>
                LdS vS36 ((⟨vw2.heap.size, 0, none⟩ : Addr).add 5) (Value.int .i64) fun (x42 : Int) =>
                Nw vw35.drew (.cells #[.int .i64 2, .int .i64 1] 2) fun vw43 =>
                vS36 vw43 ∧ C42 (⟨#[108]⟩ : ByteArray) (⟨some ⟨vw35.drew.heap.size, 0, none⟩, 2, 2⟩ : Slc) vw43 fun r44 vw45 =>
                  vS36 vw45 ∧ C23 r10 (r44.1, r44.2.1, r44.2.2) (x37, x38, x39, x40, x41, x42) vw45 fun r46 vw47 =>
                    ∃ vS48 : World → Prop, vS48 vw47.drew ∧ LdS vS48 (⟨vw2.heap.size, 0, none⟩ : Addr) (Value.int .i64) fun (x49 : Int) =>
                    LdS vS48 ((⟨vw2.heap.size, 0, none⟩ : Addr).add 1) (Value.int .i64) fun (x50 : Int) =>
                    LdS vS48 ((⟨vw2.heap.size, 0, none⟩ : Addr).add 2) (Value.int .i64) fun (x51 : Int) =>
                    LdS vS48 ((⟨vw2.heap.size, 0, none⟩ : Addr).add 3) (Value.int .i64) fun (x52 : Int) =>
                    LdS vS48 ((⟨vw2.heap.size, 0, none⟩ : Addr).add 4) (Value.int .i64) fun (x53 : Int) =>
                    LdS vS48 ((⟨vw2.heap.size, 0, none⟩ : Addr).add 5) (Value.int .i64) fun (x54 : Int) =>
                    Nw vw47.drew (.cells #[.int .i64 2] 2) fun vw55 =>
                    vS48 vw55 ∧ C42 (⟨#[108]⟩ : ByteArray) (⟨some ⟨vw47.drew.heap.size, 0, none⟩, 1, 1⟩ : Slc) vw55 fun r56 vw57 =>
                      vS48 vw57 ∧ C23 r10 (r56.1, r56.2.1, r56.2.2) (x49, x50, x51, x52, x53, x54) vw57 fun r58 vw59 =>
                        ∃ vS60 : World → Prop, vS60 vw59.drew ∧ LdS vS60 (⟨vw2.heap.size, 0, none⟩ : Addr) (Value.int .i64) fun (x61 : Int) =>
                        LdS vS60 ((⟨vw2.heap.size, 0, none⟩ : Addr).add 1) (Value.int .i64) fun (x62 : Int) =>
                        LdS vS60 ((⟨vw2.heap.size, 0, none⟩ : Addr).add 2) (Value.int .i64) fun (x63 : Int) =>
                        LdS vS60 ((⟨vw2.heap.size, 0, none⟩ : Addr).add 3) (Value.int .i64) fun (x64 : Int) =>
                        LdS vS60 ((⟨vw2.heap.size, 0, none⟩ : Addr).add 4) (Value.int .i64) fun (x65 : Int) =>
                        LdS vS60 ((⟨vw2.heap.size, 0, none⟩ : Addr).add 5) (Value.int .i64) fun (x66 : Int) =>
                        C42 (⟨#[113]⟩ : ByteArray) (⟨none, 0, 0⟩ : Slc) vw59.drew fun r67 vw68 =>
                          vS60 vw68 ∧ C23 r10 (r67.1, r67.2.1, r67.2.2) (x61, x62, x63, x64, x65, x66) vw68 fun r69 vw70 =>
                            ∃ vS71 : World → Prop, vS71 vw70.drew ∧ LdS vS71 (⟨vw2.heap.size, 0, none⟩ : Addr) (Value.int .i64) fun (x72 : Int) =>
                            LdS vS71 ((⟨vw2.heap.size, 0, none⟩ : Addr).add 1) (Value.int .i64) fun (x73 : Int) =>
                            LdS vS71 ((⟨vw2.heap.size, 0, none⟩ : Addr).add 2) (Value.int .i64) fun (x74 : Int) =>
                            LdS vS71 ((⟨vw2.heap.size, 0, none⟩ : Addr).add 3) (Value.int .i64) fun (x75 : Int) =>
                            LdS vS71 ((⟨vw2.heap.size, 0, none⟩ : Addr).add 4) (Value.int .i64) fun (x76 : Int) =>
                            LdS vS71 ((⟨vw2.heap.size, 0, none⟩ : Addr).add 5) (Value.int .i64) fun (x77 : Int) =>
                            Nw vw70.drew (.cells #[.int .i64 3, .int .i64 3, .int .i64 4, .int .i64 1] 2) fun vw78 =>
                            vS71 vw78 ∧ C42 (⟨#[118]⟩ : ByteArray) (⟨some ⟨vw70.drew.heap.size, 0, none⟩, 4, 4⟩ : Slc) vw78 fun r79 vw80 =>
                              vS71 vw80 ∧ C23 r10 (r79.1, r79.2.1, r79.2.2) (x72, x73, x74, x75, x76, x77) vw80 fun r81 vw82 =>
                                C25 r10 vw82 fun r83 vw84 =>
                                  C25 r10 vw84 fun r85 vw86 =>
                                    C29 r85 vw86 fun r87 r88 vw89 =>
                                      Nw vw89 (.cells #[.int .i64 0, .int .i64 0, .int .i64 0, .int .i64 0] 72) fun vw90 =>
                                      St vw90 (⟨vw89.heap.size, 0, none⟩ : Addr) (.int .i64 (r87.1)) fun vw91 =>
                                      St vw91 ((⟨vw89.heap.size, 0, none⟩ : Addr).add 1) (.int .i64 (r87.2.1)) fun vw92 =>
                                      St vw92 ((⟨vw89.heap.size, 0, none⟩ : Addr).add 2) (.int .i64 (r87.2.2.1)) fun vw93 =>
                                      St vw93 ((⟨vw89.heap.size, 0, none⟩ : Addr).add 3) (.int .i64 (r87.2.2.2)) fun vw94 =>
                                      C42 (⟨#[115]⟩ : ByteArray) (⟨none, 0, 0⟩ : Slc) vw94 fun r95 vw96 =>
                                        C30 r10 (r95.1, r95.2.1, r95.2.2) ((0, 0, 0, 0, 0, 0, 0, 0, 0, 0, (⟨none, 0, 0⟩ : Slc), 0, 0, 5, 0, 0, 0, 0, 0, 0, 0, 0, 0, 0, 0, 0, 0, 0, (⟨#[]⟩ : ByteArray), 0) : TyA29) vw96 fun r97 r98 r99 vw100 =>
                                          Nw vw100 (.cells #[.int .i64 0, Slc.v ((⟨none, 0, 0⟩ : Slc)), .int .i64 0, .int .i64 0, .int .i64 0, .int .i64 0, .int .i64 0, .int .i64 0, .int .i64 0, .int .i64 0, .int .i64 0, .int .i64 0] 76) fun vw101 =>
                                          StT (⟨vw100.heap.size, 0, none⟩ : Addr) 0 LiA75 r97 vw101 fun vw102 =>
                                          C42 (⟨#[110]⟩ : ByteArray) (⟨none, 0, 0⟩ : Slc) vw102 fun r103 vw104 =>
                                            C30 r10 (r103.1, r103.2.1, r103.2.2) ((0, 0, 0, 0, 0, 0, 0, 0, 0, 0, (⟨none, 0, 0⟩ : Slc), 0, 0, 0, 0, 0, 0, 0, 0, 0, 0, 0, 0, 0, 0, 0, 0, 0, (⟨#[]⟩ : ByteArray), 0) : TyA29) vw104 fun r105 r106 r107 vw108 =>
                                              Nw vw108 (.cells #[.int .i64 0, Slc.v ((⟨none, 0, 0⟩ : Slc)), .int .i64 0, .int .i64 0, .int .i64 0, .int .i64 0, .int .i64 0, .int .i64 0, .int .i64 0, .int .i64 0, .int .i64 0, .int .i64 0] 76) fun vw109 =>
                                              StT (⟨vw108.heap.size, 0, none⟩ : Addr) 0 LiA75 r105 vw109 fun vw110 =>
                                              Nw vw110 (.cells #[.int .i64 1, .int .i64 1] 2) fun vw111 =>
                                              C42 (⟨#[109]⟩ : ByteArray) (⟨some ⟨vw110.heap.size, 0, none⟩, 2, 2⟩ : Slc) vw111 fun r112 vw113 =>
                                                C30 r10 (r112.1, r112.2.1, r112.2.2) ((0, 0, 0, 0, 0, 0, 0, 0, 0, 0, (⟨none, 0, 0⟩ : Slc), 0, 0, 0, 0, 0, 0, 0, 0, 0, 0, 0, 0, 0, 0, 0, 0, 0, (⟨#[]⟩ : ByteArray), 0) : TyA29) vw113 fun r114 r115 r116 vw117 =>
                                                  Nw vw117 (.cells #[.int .i64 0, Slc.v ((⟨none, 0, 0⟩ : Slc)), .int .i64 0, .int .i64 0, .int .i64 0, .int .i64 0, .int .i64 0, .int .i64 0, .int .i64 0, .int .i64 0, .int .i64 0, .int .i64 0] 76) fun vw118 =>
                                                  StT (⟨vw117.heap.size, 0, none⟩ : Addr) 0 LiA75 r114 vw118 fun vw119 =>
                                                  Nw vw119 (.cells #[.int .i64 0, .int .i64 0, .int .i64 2, .int .i64 3] 2) fun vw120 =>
                                                  C42 (⟨#[114, 101]⟩ : ByteArray) (⟨some ⟨vw119.heap.size, 0, none⟩, 4, 4⟩ : Slc) vw120 fun r121 vw122 =>
                                                    C96 20000 10000 vw122 fun r123 vw124 =>
                                                      C23 r10 (r121.1, r121.2.1, r121.2.2) (r123.1, r123.2.1, r123.2.2.1, r123.2.2.2.1, r123.2.2.2.2.1, r123.2.2.2.2.2) vw124 fun r125 vw126 =>
                                                        ∃ vS127 : World → Prop, vS127 vw126.drew ∧ LdS vS127 (⟨vw2.heap.size, 0, none⟩ : Addr) (Value.int .i64) fun (x128 : Int) =>
                                                        LdS vS127 ((⟨vw2.heap.size, 0, none⟩ : Addr).add 1) (Value.int .i64) fun (x129 : Int) =>
                                                        LdS vS127 ((⟨vw2.heap.size, 0, none⟩ : Addr).add 2) (Value.int .i64) fun (x130 : Int) =>
                                                        LdS vS127 ((⟨vw2.heap.size, 0, none⟩ : Addr).add 3) (Value.int .i64) fun (x131 : Int) =>
                                                        LdS vS127 ((⟨vw2.heap.size, 0, none⟩ : Addr).add 4) (Value.int .i64) fun (x132 : Int) =>
                                                        LdS vS127 ((⟨vw2.heap.size, 0, none⟩ : Addr).add 5) (Value.int .i64) fun (x133 : Int) =>
                                                        C42 (⟨#[87]⟩ : ByteArray) (⟨none, 0, 0⟩ : Slc) vw126.drew fun r134 vw135 =>
                                                          vS127 vw135 ∧ C23 r10 (r134.1, r134.2.1, r134.2.2) (x128, x129, x130, x131, x132, x133) vw135 fun r136 vw137 =>
                                                            C25 r10 vw137 fun r138 vw139 =>
                                                              C42 (⟨#[110]⟩ : ByteArray) (⟨none, 0, 0⟩ : Slc) vw139 fun r140 vw141 =>
                                                                C30 r10 (r140.1, r140.2.1, r140.2.2) ((0, 0, 0, 0, 0, 0, 0, 0, 0, 0, (⟨none, 0, 0⟩ : Slc), 0, 0, 0, 0, 0, 0, 0, 0, 0, 0, 0, 0, 0, 0, 0, 0, 0, (⟨#[]⟩ : ByteArray), 0) : TyA29) vw141 fun r142 r143 r144 vw145 =>
                                                                  Nw vw145 (.cells #[.int .i64 0, Slc.v ((⟨none, 0, 0⟩ : Slc)), .int .i64 0, .int .i64 0, .int .i64 0, .int .i64 0, .int .i64 0, .int .i64 0, .int .i64 0, .int .i64 0, .int .i64 0, .int .i64 0] 76) fun vw146 =>
                                                                  StT (⟨vw145.heap.size, 0, none⟩ : Addr) 0 LiA75 r142 vw146 fun vw147 =>
                                                                  C29 (⟨none, 0, 0⟩ : Slc) vw147 fun r148 r149 vw150 =>
                                                                    Nw vw150 (.cells #[.int .i64 0, .int .i64 0, .int .i64 0, .int .i64 0] 72) fun vw151 =>
                                                                    St vw151 (⟨vw150.heap.size, 0, none⟩ : Addr) (.int .i64 (r148.1)) fun vw152 =>
                                                                    St vw152 ((⟨vw150.heap.size, 0, none⟩ : Addr).add 1) (.int .i64 (r148.2.1)) fun vw153 =>
                                                                    St vw153 ((⟨vw150.heap.size, 0, none⟩ : Addr).add 2) (.int .i64 (r148.2.2.1)) fun vw154 =>
                                                                    St vw154 ((⟨vw150.heap.size, 0, none⟩ : Addr).add 3) (.int .i64 (r148.2.2.2)) fun vw155 =>
                                                                    Br (r22 != 29) (R false vw155) (Br (r34 != 0) (R false vw155) (Br (r46 != 0) (R false vw155) (Br (r58 != 28) (R false vw155) (Br (r69 != 8) (R false vw155) (Br (r81 != 0) (R false vw155) (Br (((r83.len : Nat) : Int) != 3) (R false vw155) (Br (!r88) (R false vw155) (Ld vw155 (⟨vw89.heap.size, 0, none⟩ : Addr) (Value.int .i64) fun (x170 : Int) =>
                                                                                    Ld vw155 ((⟨vw89.heap.size, 0, none⟩ : Addr).add 1) (Value.int .i64) fun (x171 : Int) =>
                                                                                    Ld vw155 ((⟨vw89.heap.size, 0, none⟩ : Addr).add 2) (Value.int .i64) fun (x172 : Int) =>
                                                                                    Ld vw155 ((⟨vw89.heap.size, 0, none⟩ : Addr).add 3) (Value.int .i64) fun (x173 : Int) =>
                                                                                    Br (!((x170 == 10000) && ((x171 == 10000) && ((x172 == 40000) && ((x173 == 30000) && true))))) (R false vw155) (Br (!r98) (R false vw155) (Br (r99 != 0) (R false vw155) (Ld vw155 (⟨vw100.heap.size, 0, none⟩ : Addr) (Value.int .i64) fun (x174 : Int) =>
                                                                                          Br (x174 != 4) (R false vw155) (Ld vw155 ((⟨vw100.heap.size, 0, none⟩ : Addr).add 1) Slc.v fun (x175 : Slc) =>
                                                                                            Br (((x175.len : Nat) : Int) != 4) (R false vw155) (Ld vw155 ((⟨vw100.heap.size, 0, none⟩ : Addr).add 1) Slc.v fun (x176 : Slc) =>
                                                                                              0 ≤ (3 : Int) ∧ (3 : Int) < (x176.len : Nat) ∧ Nn x176.p fun a177 =>
                                                                                              Ld vw155 (a177.add (((3 : Int)).toNat * 7)) (Value.int .i64) fun (x178 : Int) =>
                                                                                              Br (x178 != 4) (R false vw155) (Ld vw155 ((⟨vw100.heap.size, 0, none⟩ : Addr).add 1) Slc.v fun (x179 : Slc) =>
                                                                                                0 ≤ (2 : Int) ∧ (2 : Int) < (x179.len : Nat) ∧ Nn x179.p fun a180 =>
                                                                                                Ld vw155 ((a180.add (((2 : Int)).toNat * 7)).add 1) (Value.int .i64) fun (x181 : Int) =>
                                                                                                Ld vw155 (((a180.add (((2 : Int)).toNat * 7)).add 1).add 1) (Value.int .i64) fun (x182 : Int) =>
                                                                                                Br (!((x181 == 20000) && ((x182 == 10000) && true))) (R false vw155) (Ld vw155 (((⟨vw100.heap.size, 0, none⟩ : Addr).add 2).add 1) (Value.int .i64) fun (x183 : Int) =>
                                                                                                  Br (x183 != 5) (R false vw155) (Br r106 (R false vw155) (Br (r107 != 0) (R false vw155) (Br (r116 != 8) (R false vw155) (∃ vS184 : World → Prop, vS184 vw155.drew ∧ Br (r125 == 0) (Br (r136 == 0) (Br (((r138.len : Nat) : Int) == 5) (0 ≤ (2 : Int) ∧ (2 : Int) < (r138.len : Nat) ∧ Nn r138.p fun a185 =>
                                                                                                                LdS vS184 ((a185.add (((2 : Int)).toNat * 7)).add 5) (Value.int .i64) fun (x186 : Int) =>
                                                                                                                LdS vS184 (((a185.add (((2 : Int)).toNat * 7)).add 5).add 1) (Value.int .i64) fun (x187 : Int) =>
                                                                                                                vS184 vw155.drew ∧ Br ((x186 == 40000) && ((x187 == 30000) && true)) (Br r143 (Br (r144 == 0) (LdS vS184 (⟨vw145.heap.size, 0, none⟩ : Addr) (Value.int .i64) fun (x188 : Int) =>
                                                                                                                      Br (x188 == 8) (C25 r10 vw155.drew fun r189 vw190 =>
                                                                                                                          ∃ vS191 : World → Prop, vS191 vw190 ∧ Br (((r189.len : Nat) : Int) == 0) (Br (!r149) (LdS vS191 (⟨vw2.heap.size, 0, none⟩ : Addr) (Value.int .i64) fun (x192 : Int) =>
                                                                                                                              LdS vS191 ((⟨vw2.heap.size, 0, none⟩ : Addr).add 1) (Value.int .i64) fun (x193 : Int) =>
                                                                                                                              LdS vS191 ((⟨vw2.heap.size, 0, none⟩ : Addr).add 2) (Value.int .i64) fun (x194 : Int) =>
                                                                                                                              LdS vS191 ((⟨vw2.heap.size, 0, none⟩ : Addr).add 3) (Value.int .i64) fun (x195 : Int) =>
                                                                                                                              LdS vS191 ((⟨vw2.heap.size, 0, none⟩ : Addr).add 4) (Value.int .i64) fun (x196 : Int) =>
                                                                                                                              LdS vS191 ((⟨vw2.heap.size, 0, none⟩ : Addr).add 5) (Value.int .i64) fun (x197 : Int) =>
                                                                                                                              Nw vw190 (.cells #[.int .i64 1, .int .i64 1] 2) fun vw198 =>
                                                                                                                              vS191 vw198 ∧ C42 (⟨#[109]⟩ : ByteArray) (⟨some ⟨vw190.heap.size, 0, none⟩, 2, 2⟩ : Slc) vw198 fun r199 vw200 =>
                                                                                                                                vS191 vw200 ∧ C23 none (r199.1, r199.2.1, r199.2.2) (x192, x193, x194, x195, x196, x197) vw200 fun r201 vw202 =>
                                                                                                                                  Br (r201 == 1) (C25 none vw202 fun r203 vw204 =>
                                                                                                                                      Br (((r203.len : Nat) : Int) == 0) (C28 r138 r138 vw204 fun r205 vw206 =>
                                                                                                                                          Br r205 (C28 r138 (⟨none, 0, 0⟩ : Slc) vw206 fun r207 vw208 =>
                                                                                                                                              R (!r207) vw208) (R false vw206)) (R false vw204)) (R false vw202)) (R false vw190)) (R false vw190)) (∃ vS209 : World → Prop, vS209 vw155.drew ∧ R false vw155.drew)) (∃ vS210 : World → Prop, vS210 vw155.drew ∧ R false vw155.drew)) (∃ vS211 : World → Prop, vS211 vw155.drew ∧ R false vw155.drew)) (∃ vS212 : World → Prop, vS212 vw155.drew ∧ R false vw155.drew)) (∃ vS213 : World → Prop, vS213 vw155.drew ∧ R false vw155.drew)) (∃ vS214 : World → Prop, vS214 vw155.drew ∧ R false vw155.drew)) (∃ vS215 : World → Prop, vS215 vw155.drew ∧ R false vw155.drew)))))))))))))))))))))
def pl34 : Plan := (.seq (.reg .seq) (.seq (.reg .seq) (.seq (.reg .seq) (.seq (.seq (.reg .seq) (.cond (.seq (.reg .seq) .leaf) .leaf)) (.seq (.reg (.held [4] (.take 0 (.take 3 (.eff 1 none (.eff 2 none (.eff 4 (some []) (.take 5 .done)))))))) (.seq (.reg (.held [4] (.take 0 (.take 3 (.eff 1 none (.eff 2 none (.eff 4 (some []) (.take 5 .done)))))))) (.seq (.reg (.held [4] (.take 0 (.take 3 (.eff 1 none (.eff 2 none (.eff 4 (some []) (.take 5 .done)))))))) (.seq (.reg (.held [4] (.take 0 (.take 3 (.eff 1 none (.eff 2 none (.eff 4 (some []) (.take 5 .done)))))))) (.seq (.reg (.held [3] (.take 0 (.take 2 (.eff 1 none (.eff 3 (some []) (.take 4 .done))))))) (.seq (.reg (.held [4] (.take 0 (.take 3 (.eff 1 none (.eff 2 none (.eff 4 (some []) (.take 5 .done)))))))) (.seq (.reg .seq) (.seq (.reg .seq) (.seq (.reg .seq) (.seq (.reg .seq) (.seq (.reg .seq) (.seq (.reg .seq) (.seq (.reg (.held [3] (.take 0 (.take 2 (.eff 1 none (.eff 3 (some []) (.take 4 .done))))))) (.seq (.reg .seq) (.seq (.reg .seq) (.seq (.reg .seq) (.seq (.reg .seq) (.seq (.seq (.reg .seq) (.cond (.seq (.reg .seq) .leaf) .leaf)) (.seq (.reg (.held [33] (.take 0 (.take 1 (.take 2 (.take 3 (.take 4 (.take 5 (.take 6 (.take 7 (.take 8 (.take 9 (.take 10 (.take 11 (.take 12 (.take 13 (.take 14 (.take 15 (.eff 16 none (.take 17 (.take 18 (.take 19 (.take 20 (.take 21 (.take 22 (.take 23 (.take 24 (.take 25 (.take 26 (.take 27 (.take 28 (.take 29 (.take 30 (.take 31 (.take 32 (.eff 33 (some [46]) (.take 34 (.take 35 (.take 36 (.take 37 (.take 38 (.take 39 (.take 40 (.take 41 (.take 42 (.take 45 (.eff 43 none (.eff 44 none (.eff 46 (some [51]) (.take 47 (.take 48 (.take 49 (.take 50 (.eff 51 (some [58]) (.take 52 (.take 53 (.take 54 (.take 55 (.take 56 (.take 57 (.eff 58 (some [62]) (.take 59 (.take 60 (.take 61 (.eff 62 (some []) (.take 63 (.take 64 (.take 65 .done)))))))))))))))))))))))))))))))))))))))))))))))))))))))))))))))))))) .leaf)))))))))))))))))))))))
set_option maxRecDepth 100000 in
theorem T34 (w : World) (R : Bool → World → Prop) (h : S34 w R) : C34 w R := by
  have e : fnT Tryd.prog ⟨FF, MAY, (fun _ _ => False)⟩ pl34 Tryd.f34 [] w [(.one .bool)] (fun s w => R s w) = S34 w R := by kernel_rfl
  exact (fn_calls okF okM Tryd.func34 (by kernel_rfl) (by kernel_rfl) (e.mpr h)).mono fun _ _ ⟨s, he, hR⟩ => ⟨s, he, hR⟩

def S41L1 (w : World) (l1 : Slc) (r4 : Option Addr) (R : Option Addr → Bool → World → Prop) (I30 : Int → World → Prop) (s28 : Int) (vw29 : World) : Prop :=
  Br (decide (s28 < ((l1.len : Nat) : Int))) (0 ≤ s28 ∧ s28 < (l1.len : Nat) ∧ Nn l1.p fun a31 =>
    Ld vw29 (a31.add ((s28).toNat * 3)) Value.string fun (x32 : ByteArray) =>
    Ld vw29 ((a31.add ((s28).toNat * 3)).add 1) Slc.v fun (x33 : Slc) =>
    Ld vw29 ((a31.add ((s28).toNat * 3)).add 2) Value.string fun (x34 : ByteArray) =>
    Nw vw29 (.cells #[.string ((⟨#[]⟩ : ByteArray)), Slc.v ((⟨none, 0, 0⟩ : Slc)), .string ((⟨#[]⟩ : ByteArray))] 63) fun vw35 =>
    St vw35 (⟨vw29.heap.size, 0, none⟩ : Addr) (.string x32) fun vw36 =>
    St vw36 ((⟨vw29.heap.size, 0, none⟩ : Addr).add 1) (Slc.v x33) fun vw37 =>
    St vw37 ((⟨vw29.heap.size, 0, none⟩ : Addr).add 2) (.string x34) fun vw38 =>
    Br r4.isNone (R r4 false vw38) (Ld vw38 (⟨vw29.heap.size, 0, none⟩ : Addr) Value.string fun (x39 : ByteArray) =>
      Ld vw38 ((⟨vw29.heap.size, 0, none⟩ : Addr).add 1) Slc.v fun (x40 : Slc) =>
      Ld vw38 ((⟨vw29.heap.size, 0, none⟩ : Addr).add 2) Value.string fun (x41 : ByteArray) =>
      Ld vw38 (⟨w.heap.size, 0, none⟩ : Addr) (Value.int .i64) fun (x42 : Int) =>
      Ld vw38 ((⟨w.heap.size, 0, none⟩ : Addr).add 1) (Value.int .i64) fun (x43 : Int) =>
      Ld vw38 ((⟨w.heap.size, 0, none⟩ : Addr).add 2) (Value.int .i64) fun (x44 : Int) =>
      Ld vw38 ((⟨w.heap.size, 0, none⟩ : Addr).add 3) (Value.int .i64) fun (x45 : Int) =>
      Ld vw38 ((⟨w.heap.size, 0, none⟩ : Addr).add 4) (Value.int .i64) fun (x46 : Int) =>
      Ld vw38 ((⟨w.heap.size, 0, none⟩ : Addr).add 5) (Value.int .i64) fun (x47 : Int) =>
      C23 r4 (x39, x40, x41) (x42, x43, x44, x45, x46, x47) vw38 fun r48 vw49 =>
        Br (r48 != 0) (R r4 false vw49) (I30 (IntKind.i64.wrap (s28 + 1)) vw49))) (R r4 (!(r4.isNone)) vw29)
/-- foliant/foliantlaw45.played -/
def S41 (l1 : Slc) (m2 : Int × Int × Int × Int × Int × Int) (w : World) (R : Option Addr → Bool → World → Prop) : Prop :=
  Nw w (.cells #[.int .i64 (m2.1), .int .i64 (m2.2.1), .int .i64 (m2.2.2.1), .int .i64 (m2.2.2.2.1), .int .i64 (m2.2.2.2.2.1), .int .i64 (m2.2.2.2.2.2)] 23) fun vw3 =>
  C22 vw3 fun r4 vw5 =>
    Lp (σ := Int) (S41L1 w l1 r4 R) 0 vw5
def pl41 : Plan := (.seq (.reg .seq) (.seq (.reg .seq) (.seq (.seq (.reg .seq) (.block (.loop [(12, (.one (.int .i64)))] [3, 6, 10, 11] (.seq (.reg .seq) (.seq (.cond .leaf .leaf) (.seq (.block (.seq (.reg .seq) (.seq (.reg .seq) (.cond (.seq (.reg .seq) .leaf) .leaf)))) (.reg .seq))))))) (.seq (.reg .seq) .leaf))))
set_option maxRecDepth 100000 in
theorem T41 (l1 : Slc) (m2 : Int × Int × Int × Int × Int × Int) (w : World) (R : Option Addr → Bool → World → Prop) (h : S41 l1 m2 w R) : C41 l1 (m2.1, m2.2.1, m2.2.2.1, m2.2.2.2.1, m2.2.2.2.2.1, m2.2.2.2.2.2) w R := by
  have e : fnT Tryd.prog ⟨FF, MAY, (fun _ _ => False)⟩ pl41 Tryd.f41 [Slc.v l1, .agg #[.int .i64 (m2.1), .int .i64 (m2.2.1), .int .i64 (m2.2.2.1), .int .i64 (m2.2.2.2.1), .int .i64 (m2.2.2.2.2.1), .int .i64 (m2.2.2.2.2.2)]] w [(.one .ptr), (.one .bool)] (fun s w => R s.1 s.2 w) = S41 l1 m2 w R := by kernel_rfl
  exact (fn_calls okF okM Tryd.func41 (by kernel_rfl) (by kernel_rfl) (e.mpr h)).mono fun _ _ ⟨s, he, hR⟩ => ⟨s.1, s.2, he, hR⟩

def S7L1 (w : World) (l1 : Slc) (r8 : Option Addr) (R : Bool → World → Prop) (I16 : Int → World → Prop) (s14 : Int) (vw15 : World) : Prop :=
  Br (decide (s14 < ((l1.len : Nat) : Int))) (0 ≤ s14 ∧ s14 < (l1.len : Nat) ∧ Nn l1.p fun a17 =>
    Ld vw15 (a17.add ((s14).toNat * 3)) Value.string fun (x18 : ByteArray) =>
    Ld vw15 ((a17.add ((s14).toNat * 3)).add 1) Slc.v fun (x19 : Slc) =>
    Ld vw15 ((a17.add ((s14).toNat * 3)).add 2) Value.string fun (x20 : ByteArray) =>
    Nw vw15 (.cells #[.string ((⟨#[]⟩ : ByteArray)), Slc.v ((⟨none, 0, 0⟩ : Slc)), .string ((⟨#[]⟩ : ByteArray))] 63) fun vw21 =>
    St vw21 (⟨vw15.heap.size, 0, none⟩ : Addr) (.string x18) fun vw22 =>
    St vw22 ((⟨vw15.heap.size, 0, none⟩ : Addr).add 1) (Slc.v x19) fun vw23 =>
    St vw23 ((⟨vw15.heap.size, 0, none⟩ : Addr).add 2) (.string x20) fun vw24 =>
    C25 r8 vw24 fun r25 vw26 =>
      Ld vw26 (⟨vw15.heap.size, 0, none⟩ : Addr) Value.string fun (x71 : ByteArray) =>
      C35 x71 vw26 fun r72 vw73 =>
        Br r72 (Ld vw73 (⟨vw15.heap.size, 0, none⟩ : Addr) Value.string fun (x74 : ByteArray) =>
          Ld vw73 ((⟨vw15.heap.size, 0, none⟩ : Addr).add 1) Slc.v fun (x75 : Slc) =>
          Ld vw73 ((⟨vw15.heap.size, 0, none⟩ : Addr).add 2) Value.string fun (x76 : ByteArray) =>
          C30 r8 (x74, x75, x76) ((0, 0, 0, 0, 0, 0, 0, 0, 0, 0, (⟨none, 0, 0⟩ : Slc), 0, 0, 0, 0, 0, 0, 0, 0, 0, 0, 0, 0, 0, 0, 0, 0, 0, (⟨#[]⟩ : ByteArray), 0) : TyA29) vw73 fun r77 r78 r79 vw80 =>
            Nw vw80 (.cells #[.int .i64 0, Slc.v ((⟨none, 0, 0⟩ : Slc)), .int .i64 0, .int .i64 0, .int .i64 0, .int .i64 0, .int .i64 0, .int .i64 0, .int .i64 0, .int .i64 0, .int .i64 0, .int .i64 0] 76) fun vw81 =>
            StT (⟨vw80.heap.size, 0, none⟩ : Addr) 0 LiA75 r77 vw81 fun vw82 =>
            C25 r8 vw82 fun r83 vw84 =>
              Br (r79 != 0) (Br r78 (R false vw84) (C28 r25 r83 vw84 fun r85 vw86 =>
                    Br (!r85) (R false vw86) (Br (r79 == 0) (Br (((r83.len : Nat) : Int) != 0) (R false vw86) (Br r78 (Ld vw86 ((⟨vw80.heap.size, 0, none⟩ : Addr).add 1) Slc.v fun (x87 : Slc) =>
                            Br (decide (((x87.len : Nat) : Int) < ((r25.len : Nat) : Int))) (R false vw86) (Ld vw86 ((⟨vw80.heap.size, 0, none⟩ : Addr).add 1) Slc.v fun (x88 : Slc) =>
                              Br (decide (((x88.len : Nat) : Int) > (IntKind.i64.wrap (((r25.len : Nat) : Int) + 1)))) (R false vw86) (Ld vw86 ((⟨vw80.heap.size, 0, none⟩ : Addr).add 1) Slc.v fun (x89 : Slc) =>
                                0 ≤ ((r25.len : Nat) : Int) ∧ ((r25.len : Nat) : Int) ≤ ((x89.cap : Nat) : Int) ∧ C28 (x89.cut 7 0 ((((r25.len : Nat) : Int)).toNat) x89.cap) r25 vw86 fun r90 vw91 =>
                                  Br (!r90) (R false vw91) (Br r78 (Ld vw91 (⟨vw80.heap.size, 0, none⟩ : Addr) (Value.int .i64) fun (x92 : Int) =>
                                      Br (x92 == 0) (R false vw91) (I16 (IntKind.i64.wrap (s14 + 1)) vw91)) (I16 (IntKind.i64.wrap (s14 + 1)) vw91))))) (Br r78 (Ld vw86 (⟨vw80.heap.size, 0, none⟩ : Addr) (Value.int .i64) fun (x93 : Int) =>
                              Br (x93 == 0) (R false vw86) (I16 (IntKind.i64.wrap (s14 + 1)) vw86)) (I16 (IntKind.i64.wrap (s14 + 1)) vw86)))) (Br r78 (Ld vw86 ((⟨vw80.heap.size, 0, none⟩ : Addr).add 1) Slc.v fun (x94 : Slc) =>
                          Br (decide (((x94.len : Nat) : Int) < ((r25.len : Nat) : Int))) (R false vw86) (Ld vw86 ((⟨vw80.heap.size, 0, none⟩ : Addr).add 1) Slc.v fun (x95 : Slc) =>
                            Br (decide (((x95.len : Nat) : Int) > (IntKind.i64.wrap (((r25.len : Nat) : Int) + 1)))) (R false vw86) (Ld vw86 ((⟨vw80.heap.size, 0, none⟩ : Addr).add 1) Slc.v fun (x96 : Slc) =>
                              0 ≤ ((r25.len : Nat) : Int) ∧ ((r25.len : Nat) : Int) ≤ ((x96.cap : Nat) : Int) ∧ C28 (x96.cut 7 0 ((((r25.len : Nat) : Int)).toNat) x96.cap) r25 vw86 fun r97 vw98 =>
                                Br (!r97) (R false vw98) (Br r78 (Ld vw98 (⟨vw80.heap.size, 0, none⟩ : Addr) (Value.int .i64) fun (x99 : Int) =>
                                    Br (x99 == 0) (R false vw98) (I16 (IntKind.i64.wrap (s14 + 1)) vw98)) (I16 (IntKind.i64.wrap (s14 + 1)) vw98))))) (Br r78 (Ld vw86 (⟨vw80.heap.size, 0, none⟩ : Addr) (Value.int .i64) fun (x100 : Int) =>
                            Br (x100 == 0) (R false vw86) (I16 (IntKind.i64.wrap (s14 + 1)) vw86)) (I16 (IntKind.i64.wrap (s14 + 1)) vw86)))))) (Br (r79 == 0) (Br (((r83.len : Nat) : Int) != 0) (R false vw84) (Br r78 (Ld vw84 ((⟨vw80.heap.size, 0, none⟩ : Addr).add 1) Slc.v fun (x101 : Slc) =>
                      Br (decide (((x101.len : Nat) : Int) < ((r25.len : Nat) : Int))) (R false vw84) (Ld vw84 ((⟨vw80.heap.size, 0, none⟩ : Addr).add 1) Slc.v fun (x102 : Slc) =>
                        Br (decide (((x102.len : Nat) : Int) > (IntKind.i64.wrap (((r25.len : Nat) : Int) + 1)))) (R false vw84) (Ld vw84 ((⟨vw80.heap.size, 0, none⟩ : Addr).add 1) Slc.v fun (x103 : Slc) =>
                          0 ≤ ((r25.len : Nat) : Int) ∧ ((r25.len : Nat) : Int) ≤ ((x103.cap : Nat) : Int) ∧ C28 (x103.cut 7 0 ((((r25.len : Nat) : Int)).toNat) x103.cap) r25 vw84 fun r104 vw105 =>
                            Br (!r104) (R false vw105) (Br r78 (Ld vw105 (⟨vw80.heap.size, 0, none⟩ : Addr) (Value.int .i64) fun (x106 : Int) =>
                                Br (x106 == 0) (R false vw105) (I16 (IntKind.i64.wrap (s14 + 1)) vw105)) (I16 (IntKind.i64.wrap (s14 + 1)) vw105))))) (Br r78 (Ld vw84 (⟨vw80.heap.size, 0, none⟩ : Addr) (Value.int .i64) fun (x107 : Int) =>
                        Br (x107 == 0) (R false vw84) (I16 (IntKind.i64.wrap (s14 + 1)) vw84)) (I16 (IntKind.i64.wrap (s14 + 1)) vw84)))) (Br r78 (Ld vw84 ((⟨vw80.heap.size, 0, none⟩ : Addr).add 1) Slc.v fun (x108 : Slc) =>
                    Br (decide (((x108.len : Nat) : Int) < ((r25.len : Nat) : Int))) (R false vw84) (Ld vw84 ((⟨vw80.heap.size, 0, none⟩ : Addr).add 1) Slc.v fun (x109 : Slc) =>
                      Br (decide (((x109.len : Nat) : Int) > (IntKind.i64.wrap (((r25.len : Nat) : Int) + 1)))) (R false vw84) (Ld vw84 ((⟨vw80.heap.size, 0, none⟩ : Addr).add 1) Slc.v fun (x110 : Slc) =>
                        0 ≤ ((r25.len : Nat) : Int) ∧ ((r25.len : Nat) : Int) ≤ ((x110.cap : Nat) : Int) ∧ C28 (x110.cut 7 0 ((((r25.len : Nat) : Int)).toNat) x110.cap) r25 vw84 fun r111 vw112 =>
                          Br (!r111) (R false vw112) (Br r78 (Ld vw112 (⟨vw80.heap.size, 0, none⟩ : Addr) (Value.int .i64) fun (x113 : Int) =>
                              Br (x113 == 0) (R false vw112) (I16 (IntKind.i64.wrap (s14 + 1)) vw112)) (I16 (IntKind.i64.wrap (s14 + 1)) vw112))))) (Br r78 (Ld vw84 (⟨vw80.heap.size, 0, none⟩ : Addr) (Value.int .i64) fun (x114 : Int) =>
                      Br (x114 == 0) (R false vw84) (I16 (IntKind.i64.wrap (s14 + 1)) vw84)) (I16 (IntKind.i64.wrap (s14 + 1)) vw84))))) (Ld vw73 (⟨vw15.heap.size, 0, none⟩ : Addr) Value.string fun (x115 : ByteArray) =>
          Ld vw73 ((⟨vw15.heap.size, 0, none⟩ : Addr).add 1) Slc.v fun (x116 : Slc) =>
          Ld vw73 ((⟨vw15.heap.size, 0, none⟩ : Addr).add 2) Value.string fun (x117 : ByteArray) =>
          Ld vw73 (⟨w.heap.size, 0, none⟩ : Addr) (Value.int .i64) fun (x118 : Int) =>
          Ld vw73 ((⟨w.heap.size, 0, none⟩ : Addr).add 1) (Value.int .i64) fun (x119 : Int) =>
          Ld vw73 ((⟨w.heap.size, 0, none⟩ : Addr).add 2) (Value.int .i64) fun (x120 : Int) =>
          Ld vw73 ((⟨w.heap.size, 0, none⟩ : Addr).add 3) (Value.int .i64) fun (x121 : Int) =>
          Ld vw73 ((⟨w.heap.size, 0, none⟩ : Addr).add 4) (Value.int .i64) fun (x122 : Int) =>
          Ld vw73 ((⟨w.heap.size, 0, none⟩ : Addr).add 5) (Value.int .i64) fun (x123 : Int) =>
          C23 r8 (x115, x116, x117) (x118, x119, x120, x121, x122, x123) vw73 fun r124 vw125 =>
            C25 r8 vw125 fun r126 vw127 =>
              Br (decide (((r126.len : Nat) : Int) < ((r25.len : Nat) : Int))) (R false vw127) (0 ≤ ((r25.len : Nat) : Int) ∧ ((r25.len : Nat) : Int) ≤ ((r126.cap : Nat) : Int) ∧ C28 (r126.cut 7 0 ((((r25.len : Nat) : Int)).toNat) r126.cap) r25 vw127 fun r128 vw129 =>
                  Br (!r128) (R false vw129) (Br (r124 != 0) (Br (((r126.len : Nat) : Int) != ((r25.len : Nat) : Int)) (R false vw129) (I16 (IntKind.i64.wrap (s14 + 1)) vw129)) (I16 (IntKind.i64.wrap (s14 + 1)) vw129))))) (R true vw15)
/-- foliant/foliantlaw45.PathStays -/
def S7 (l1 : Slc) (m2 : Int × Int × Int × Int × Int × Int) (w : World) (R : Bool → World → Prop) : Prop :=
  Nw w (.cells #[.int .i64 (m2.1), .int .i64 (m2.2.1), .int .i64 (m2.2.2.1), .int .i64 (m2.2.2.2.1), .int .i64 (m2.2.2.2.2.1), .int .i64 (m2.2.2.2.2.2)] 23) fun vw3 =>
  C34 vw3 fun r6 vw7 =>
    Br (!r6) (R false vw7) (C22 vw7 fun r8 vw9 =>
        C33 l1 vw9 fun r12 vw13 =>
          Br (!r12) (R (!(r8.isNone)) vw13) (Br r8.isNone (R (!(r8.isNone)) vw13) (Lp (σ := Int) (S7L1 w l1 r8 R) 0 vw13)))
def pl7 : Plan := (.seq (.reg .seq) (.seq (.seq (.reg .seq) (.cond (.seq (.reg .seq) .leaf) .leaf)) (.seq (.reg .seq) (.seq (.seq (.reg .seq) (.cond (.seq (.reg .seq) .leaf) .leaf)) (.seq (.seq (.reg .seq) (.block (.loop [(29, (.one (.int .i64)))] [3, 5, 27, 28] (.seq (.reg .seq) (.seq (.cond .leaf .leaf) (.seq (.block (.seq (.reg .seq) (.seq (.reg .seq) (.seq (.seq (.reg .seq) (.cond (.seq (.reg .seq) (.seq (.reg .seq) (.seq (.seq (.reg .seq) (.cond (.seq (.reg .seq) .leaf) .leaf)) .leaf))) .leaf)) (.seq (.reg .seq) (.seq (.reg .seq) (.seq (.reg .seq) (.cond (.seq (.reg .seq) .leaf) .leaf)))))))) (.reg .seq))))))) (.seq (.reg .seq) .leaf))))))
set_option maxRecDepth 100000 in
theorem T7 (l1 : Slc) (m2 : Int × Int × Int × Int × Int × Int) (w : World) (R : Bool → World → Prop) (h : S7 l1 m2 w R) : C7 l1 (m2.1, m2.2.1, m2.2.2.1, m2.2.2.2.1, m2.2.2.2.2.1, m2.2.2.2.2.2) w R := by
  have e : fnT Tryd.prog ⟨FF, MAY, (fun _ _ => False)⟩ pl7 Tryd.f7 [Slc.v l1, .agg #[.int .i64 (m2.1), .int .i64 (m2.2.1), .int .i64 (m2.2.2.1), .int .i64 (m2.2.2.2.1), .int .i64 (m2.2.2.2.2.1), .int .i64 (m2.2.2.2.2.2)]] w [(.one .bool)] (fun s w => R s w) = S7 l1 m2 w R := by kernel_rfl
  exact (fn_calls okF okM Tryd.func7 (by kernel_rfl) (by kernel_rfl) (e.mpr h)).mono fun _ _ ⟨s, he, hR⟩ => ⟨s, he, hR⟩

end Go.Proofs.YtjbeembbnkmpeaaDoor
