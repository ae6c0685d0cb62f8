/- The formulas of 14 functions of the program, written by program (gen.py); the kernel checks each. No condition. -/
import Derived.Test.YtjkoafjnmkchdaaGreatDoorQIZd3
import Derived.Test.YtjkoafjnmkchdaaGreatDoorQIZd4
import Derived.Test.YtjkoafjnmkchdaaGreatDoorQIZd6
import Derived.Test.YtjkoafjnmkchdaaGreatDoorQIZd7
import Derived.Test.YtjkoafjnmkchdaaGreatDoorQIZd8
import Derived.Test.YtjkoafjnmkchdaaGreatDoorQIZd9
import Derived.Test.YtjkoafjnmkchdaaGreatDoorQIZd5
import Derived.Test.YtjkoafjnmkchdaaGreatDoorRows
import Derived.WalkKit
import Derived.ProofKit
import Derived.OpenShut
import Derived.Deep.DeepHandedRow
import Derived.Lib.LaidTab
import Derived.LaidMore
import Derived.Maps.OwnSet
import Derived.ChangeSame
namespace Go.Proofs.YtjkoafjnmkchdaaGreatDoor
open Sh
set_option linter.unusedVariables false
set_option maxRecDepth 100000

def C25 (x1 : Int × Int) (c2 : Int) (w : World) (R : (Int × Int) → World → Prop) : Prop :=
  Calls Tryz.prog 25 #[.agg #[.int .u32 (x1.1), .int .u32 (x1.2)], .int .u8 c2] w fun e w' => ∃ r0 : Int × Int, e = .returned (.agg #[.int .u32 (r0.1), .int .u32 (r0.2)]) ∧ R r0 w'
theorem C25.mono {x1 : Int × Int} {c2 : Int} {w : World} {R R' : (Int × Int) → World → Prop} (h : C25 x1 c2 w R) (hr : ∀ r0 w', R r0 w' → R' r0 w') : C25 x1 c2 w R' :=
  Calls.mono h fun _ _ ⟨r0, he, hR⟩ => ⟨r0, he, hr _ _ hR⟩
def C12 (was1 : Int) (s2 : ByteArray) (w : World) (R : Int → World → Prop) : Prop :=
  Calls Tryz.prog 12 #[.int .u32 was1, .string s2] w fun e w' => ∃ r0 : Int, e = .returned (.int .u32 r0) ∧ R r0 w'
theorem C12.mono {was1 : Int} {s2 : ByteArray} {w : World} {R R' : Int → World → Prop} (h : C12 was1 s2 w R) (hr : ∀ r0 w', R r0 w' → R' r0 w') : C12 was1 s2 w R' :=
  Calls.mono h fun _ _ ⟨r0, he, hR⟩ => ⟨r0, he, hr _ _ hR⟩
def C11 (s1 : ByteArray) (w : World) (R : Int → World → Prop) : Prop :=
  Calls Tryz.prog 11 #[.string s1] w fun e w' => ∃ r0 : Int, e = .returned (.int .u32 r0) ∧ R r0 w'
theorem C11.mono {s1 : ByteArray} {w : World} {R R' : Int → World → Prop} (h : C11 s1 w R) (hr : ∀ r0 w', R r0 w' → R' r0 w') : C11 s1 w R' :=
  Calls.mono h fun _ _ ⟨r0, he, hR⟩ => ⟨r0, he, hr _ _ hR⟩
def C33 (sum1 : Int) (s2 : ByteArray) (w : World) (R : Int → World → Prop) : Prop :=
  Calls Tryz.prog 33 #[.int .u32 sum1, .string s2] w fun e w' => ∃ r0 : Int, e = .returned (.int .u32 r0) ∧ R r0 w'
theorem C33.mono {sum1 : Int} {s2 : ByteArray} {w : World} {R R' : Int → World → Prop} (h : C33 sum1 s2 w R) (hr : ∀ r0 w', R r0 w' → R' r0 w') : C33 sum1 s2 w R' :=
  Calls.mono h fun _ _ ⟨r0, he, hR⟩ => ⟨r0, he, hr _ _ hR⟩
def C18 (s1 : ByteArray) (w : World) (R : Int → World → Prop) : Prop :=
  Calls Tryz.prog 18 #[.string s1] w fun e w' => ∃ r0 : Int, e = .returned (.int .u32 r0) ∧ R r0 w'
theorem C18.mono {s1 : ByteArray} {w : World} {R R' : Int → World → Prop} (h : C18 s1 w R) (hr : ∀ r0 w', R r0 w' → R' r0 w') : C18 s1 w R' :=
  Calls.mono h fun _ _ ⟨r0, he, hR⟩ => ⟨r0, he, hr _ _ hR⟩
def C15 (n1 : Int) (w : World) (R : ByteArray → World → Prop) : Prop :=
  Calls Tryz.prog 15 #[.int .u32 n1] w fun e w' => ∃ r0 : ByteArray, e = .returned (.string r0) ∧ R r0 w'
theorem C15.mono {n1 : Int} {w : World} {R R' : ByteArray → World → Prop} (h : C15 n1 w R) (hr : ∀ r0 w', R r0 w' → R' r0 w') : C15 n1 w R' :=
  Calls.mono h fun _ _ ⟨r0, he, hR⟩ => ⟨r0, he, hr _ _ hR⟩
def C8 (s1 : ByteArray) (level2 : Int) (w : World) (R : ByteArray → Int → World → Prop) (PR : Value → World → Prop) : Prop :=
  Calls Tryz.prog 8 #[.string s1, .int .i64 level2] w fun e w' => (∃ r0 : ByteArray, ∃ r1 : Int, e = .returned (.tuple #[.string r0, .int .i64 r1]) ∧ R r0 r1 w') ∨ ∃ v, e = .panicked (onePanic v) ∧ PR v w'
theorem C8.mono {s1 : ByteArray} {level2 : Int} {w : World} {R R' : ByteArray → Int → World → Prop} {PR PR' : Value → World → Prop} (h : C8 s1 level2 w R PR) (hr : ∀ r0 r1 w', R r0 r1 w' → R' r0 r1 w') (hp : ∀ v w', PR v w' → PR' v w') : C8 s1 level2 w R' PR' :=
  Calls.mono h fun _ _ he => he.elim (fun ⟨r0, r1, he, hR⟩ => .inl ⟨r0, r1, he, hr _ _ _ hR⟩) fun ⟨v, he, hP⟩ => .inr ⟨v, he, hp _ _ hP⟩
def C17 (sum1 : Int) (w : World) (R : ByteArray → World → Prop) : Prop :=
  Calls Tryz.prog 17 #[.int .u32 sum1] w fun e w' => ∃ r0 : ByteArray, e = .returned (.string r0) ∧ R r0 w'
theorem C17.mono {sum1 : Int} {w : World} {R R' : ByteArray → World → Prop} (h : C17 sum1 w R) (hr : ∀ r0 w', R r0 w' → R' r0 w') : C17 sum1 w R' :=
  Calls.mono h fun _ _ ⟨r0, he, hR⟩ => ⟨r0, he, hr _ _ hR⟩
def C13 (s1 : ByteArray) (w : World) (R : Int → World → Prop) : Prop :=
  Calls Tryz.prog 13 #[.string s1] w fun e w' => ∃ r0 : Int, e = .returned (.int .i64 r0) ∧ R r0 w'
theorem C13.mono {s1 : ByteArray} {w : World} {R R' : Int → World → Prop} (h : C13 s1 w R) (hr : ∀ r0 w', R r0 w' → R' r0 w') : C13 s1 w R' :=
  Calls.mono h fun _ _ ⟨r0, he, hR⟩ => ⟨r0, he, hr _ _ hR⟩
def C6 (s1 : ByteArray) (most2 : Int) (w : World) (R : ByteArray → Int → World → Prop) : Prop :=
  Calls Tryz.prog 6 #[.string s1, .int .i64 most2] w fun e w' => ∃ r0 : ByteArray, ∃ r1 : Int, e = .returned (.tuple #[.string r0, .int .i64 r1]) ∧ R r0 r1 w'
theorem C6.mono {s1 : ByteArray} {most2 : Int} {w : World} {R R' : ByteArray → Int → World → Prop} (h : C6 s1 most2 w R) (hr : ∀ r0 r1 w', R r0 r1 w' → R' r0 r1 w') : C6 s1 most2 w R' :=
  Calls.mono h fun _ _ ⟨r0, r1, he, hR⟩ => ⟨r0, r1, he, hr _ _ _ hR⟩
def C7 (s1 : ByteArray) (most2 : Int) (w : World) (R : ByteArray → Int → World → Prop) : Prop :=
  Calls Tryz.prog 7 #[.string s1, .int .i64 most2] w fun e w' => ∃ r0 : ByteArray, ∃ r1 : Int, e = .returned (.tuple #[.string r0, .int .i64 r1]) ∧ R r0 r1 w'
theorem C7.mono {s1 : ByteArray} {most2 : Int} {w : World} {R R' : ByteArray → Int → World → Prop} (h : C7 s1 most2 w R) (hr : ∀ r0 r1 w', R r0 r1 w' → R' r0 r1 w') : C7 s1 most2 w R' :=
  Calls.mono h fun _ _ ⟨r0, r1, he, hR⟩ => ⟨r0, r1, he, hr _ _ _ hR⟩
def C5 (w : World) (R : Bool → World → Prop) (PR : Value → World → Prop) : Prop :=
  Calls Tryz.prog 5 #[] w fun e w' => (∃ r0 : Bool, e = .returned (.bool r0) ∧ R r0 w') ∨ ∃ v, e = .panicked (onePanic v) ∧ PR v w'
theorem C5.mono {w : World} {R R' : Bool → World → Prop} {PR PR' : Value → World → Prop} (h : C5 w R PR) (hr : ∀ r0 w', R r0 w' → R' r0 w') (hp : ∀ v w', PR v w' → PR' v w') : C5 w R' PR' :=
  Calls.mono h fun _ _ he => he.elim (fun ⟨r0, he, hR⟩ => .inl ⟨r0, he, hr _ _ hR⟩) fun ⟨v, he, hP⟩ => .inr ⟨v, he, hp _ _ hP⟩
def C3 (s1 : ByteArray) (most2 : Int) (w : World) (R : Bool → World → Prop) (PR : Value → World → Prop) : Prop :=
  Calls Tryz.prog 3 #[.string s1, .int .i64 most2] w fun e w' => (∃ r0 : Bool, e = .returned (.bool r0) ∧ R r0 w') ∨ ∃ v, e = .panicked (onePanic v) ∧ PR v w'
theorem C3.mono {s1 : ByteArray} {most2 : Int} {w : World} {R R' : Bool → World → Prop} {PR PR' : Value → World → Prop} (h : C3 s1 most2 w R PR) (hr : ∀ r0 w', R r0 w' → R' r0 w') (hp : ∀ v w', PR v w' → PR' v w') : C3 s1 most2 w R' PR' :=
  Calls.mono h fun _ _ he => he.elim (fun ⟨r0, he, hR⟩ => .inl ⟨r0, he, hr _ _ hR⟩) fun ⟨v, he, hP⟩ => .inr ⟨v, he, hp _ _ hP⟩
def C4 (s1 : ByteArray) (vat2 : Int) (vby3 : Int) (p4 : Int × Int × Int) (w : World) (R : Bool → World → Prop) (PR : Value → World → Prop) : Prop :=
  Calls Tryz.prog 4 #[.string s1, .int .i64 vat2, .int .u8 vby3, .agg #[.int .i64 (p4.1), .int .i64 (p4.2.1), .int .i64 (p4.2.2)]] w fun e w' => (∃ r0 : Bool, e = .returned (.bool r0) ∧ R r0 w') ∨ ∃ v, e = .panicked (onePanic v) ∧ PR v w'
theorem C4.mono {s1 : ByteArray} {vat2 : Int} {vby3 : Int} {p4 : Int × Int × Int} {w : World} {R R' : Bool → World → Prop} {PR PR' : Value → World → Prop} (h : C4 s1 vat2 vby3 p4 w R PR) (hr : ∀ r0 w', R r0 w' → R' r0 w') (hp : ∀ v w', PR v w' → PR' v w') : C4 s1 vat2 vby3 p4 w R' PR' :=
  Calls.mono h fun _ _ he => he.elim (fun ⟨r0, he, hR⟩ => .inl ⟨r0, he, hr _ _ hR⟩) fun ⟨v, he, hP⟩ => .inr ⟨v, he, hp _ _ hP⟩

/-- (foliant/zlib.sum).by -/
def S25 (x1 : Int × Int) (c2 : Int) (w : World) (R : (Int × Int) → World → Prop) : Prop :=
  Nw w (.cells #[.int .u32 (x1.1), .int .u32 (x1.2)] 48) fun vw3 =>
  Nw vw3 (.cells #[.int .u32 0, .int .u32 0] 48) fun vw4 =>
  Ld vw4 (⟨w.heap.size, 0, none⟩ : Addr) (Value.int .u32) fun (x5 : Int) =>
  St vw4 (⟨w.heap.size, 0, none⟩ : Addr) (.int .u32 (Int.tmod (IntKind.u32.wrap (x5 + (IntKind.u32.wrap c2))) 65521)) fun vw6 =>
  Ld vw6 ((⟨w.heap.size, 0, none⟩ : Addr).add 1) (Value.int .u32) fun (x7 : Int) =>
  Ld vw6 (⟨w.heap.size, 0, none⟩ : Addr) (Value.int .u32) fun (x8 : Int) =>
  St vw6 ((⟨w.heap.size, 0, none⟩ : Addr).add 1) (.int .u32 (Int.tmod (IntKind.u32.wrap (x7 + x8)) 65521)) fun vw9 =>
  Ld vw9 (⟨w.heap.size, 0, none⟩ : Addr) (Value.int .u32) fun (x10 : Int) =>
  Ld vw9 ((⟨w.heap.size, 0, none⟩ : Addr).add 1) (Value.int .u32) fun (x11 : Int) =>
  St vw9 (⟨vw3.heap.size, 0, none⟩ : Addr) (.int .u32 x10) fun vw12 =>
  St vw12 ((⟨vw3.heap.size, 0, none⟩ : Addr).add 1) (.int .u32 x11) fun vw13 =>
  Ld vw13 (⟨vw3.heap.size, 0, none⟩ : Addr) (Value.int .u32) fun (x14 : Int) =>
  Ld vw13 ((⟨vw3.heap.size, 0, none⟩ : Addr).add 1) (Value.int .u32) fun (x15 : Int) =>
  R (x14, x15) vw13
def pl25 : Plan := (.seq (.reg .seq) (.seq (.reg .seq) (.seq (.reg .seq) (.seq (.reg .seq) .leaf))))
set_option maxRecDepth 100000 in
theorem T25 (x1 : Int × Int) (c2 : Int) (w : World) (R : (Int × Int) → World → Prop) (h : S25 x1 c2 w R) : C25 (x1.1, x1.2) c2 w R := by
  have e : fnT Tryz.prog ⟨FF, MAY, (fun _ _ => False)⟩ pl25 Tryz.f25 [.agg #[.int .u32 (x1.1), .int .u32 (x1.2)], .int .u8 c2] w [(.agg [(.int .u32), (.int .u32)])] (fun s w => R s w) = S25 x1 c2 w R := by kernel_rfl
  exact (fn_calls okF okM Tryz.func25 (by kernel_rfl) (by kernel_rfl) (e.mpr h)).mono fun _ _ ⟨s, he, hR⟩ => ⟨s, he, hR⟩

def S12L1 (w : World) (s2 : ByteArray) (R : Int → World → Prop) (I17 : Int → World → Prop) (s15 : Int) (vw16 : World) : Prop :=
  Br (decide (s15 < (((s2).size : Nat) : Int))) (Ld vw16.drew (⟨w.heap.size, 0, none⟩ : Addr) (Value.int .u32) fun (x18 : Int) =>
    Ld vw16.drew ((⟨w.heap.size, 0, none⟩ : Addr).add 1) (Value.int .u32) fun (x19 : Int) =>
    0 ≤ s15 ∧ s15 < ((s2).size : Nat) ∧ C25 (x18, x19) (bAt s2 s15) vw16.drew fun r20 vw21 =>
      St vw21 (⟨w.heap.size, 0, none⟩ : Addr) (.int .u32 (r20.1)) fun vw22 =>
      St vw22 ((⟨w.heap.size, 0, none⟩ : Addr).add 1) (.int .u32 (r20.2)) fun vw23 =>
      I17 (IntKind.i64.wrap (s15 + 1)) vw23) (Ld vw16 ((⟨w.heap.size, 0, none⟩ : Addr).add 1) (Value.int .u32) fun (x24 : Int) =>
    Ld vw16 (⟨w.heap.size, 0, none⟩ : Addr) (Value.int .u32) fun (x25 : Int) =>
    R (ior .u32 (IntKind.u32.wrap (x24 * 2 ^ 16)) x25) vw16)
/-- foliant/zlib.More -/
def S12 (was1 : Int) (s2 : ByteArray) (w : World) (R : Int → World → Prop) : Prop :=
  Nw w (.cells #[.int .u32 0, .int .u32 0] 48) fun vw3 =>
  St vw3 (⟨w.heap.size, 0, none⟩ : Addr) (.int .u32 (Int.tmod (iand .u32 was1 65535) 65521)) fun vw4 =>
  St vw4 ((⟨w.heap.size, 0, none⟩ : Addr).add 1) (.int .u32 (Int.tmod (Int.fdiv was1 (2 ^ 16)) 65521)) fun vw5 =>
  Lp (σ := Int) (S12L1 w s2 R) 0 vw5
def pl12 : Plan := (.seq (.reg .seq) (.seq (.reg .seq) (.seq (.seq (.reg .seq) (.block (.loop [(16, (.one (.int .i64)))] [1, 5, 15] (.seq (.reg .seq) (.seq (.cond .leaf .leaf) (.seq (.block (.seq (.reg .seq) (.reg (.tail 4)))) (.reg .seq))))))) (.seq (.reg .seq) .leaf))))
set_option maxRecDepth 100000 in
theorem T12 (was1 : Int) (s2 : ByteArray) (w : World) (R : Int → World → Prop) (h : S12 was1 s2 w R) : C12 was1 s2 w R := by
  have e : fnT Tryz.prog ⟨FF, MAY, (fun _ _ => False)⟩ pl12 Tryz.f12 [.int .u32 was1, .string s2] w [(.one (.int .u32))] (fun s w => R s w) = S12 was1 s2 w R := by kernel_rfl
  exact (fn_calls okF okM Tryz.func12 (by kernel_rfl) (by kernel_rfl) (e.mpr h)).mono fun _ _ ⟨s, he, hR⟩ => ⟨s, he, hR⟩

/-- foliant/zlib.Sum -/
def S11 (s1 : ByteArray) (w : World) (R : Int → World → Prop) : Prop :=
  C12 1 s1 w fun r2 vw3 =>
    R r2 vw3
def pl11 : Plan := (.seq (.reg .seq) (.seq (.reg .seq) .leaf))
set_option maxRecDepth 100000 in
theorem T11 (s1 : ByteArray) (w : World) (R : Int → World → Prop) (h : S11 s1 w R) : C11 s1 w R := by
  have e : fnT Tryz.prog ⟨FF, MAY, (fun _ _ => False)⟩ pl11 Tryz.f11 [.string s1] w [(.one (.int .u32))] (fun s w => R s w) = S11 s1 w R := by kernel_rfl
  exact (fn_calls okF okM Tryz.func11 (by kernel_rfl) (by kernel_rfl) (e.mpr h)).mono fun _ _ ⟨s, he, hR⟩ => ⟨s, he, hR⟩

def S33L1 (s2 : ByteArray) (R : Int → World → Prop) (I9 : (Int × Int × Int) → World → Prop) (s7 : Int × Int × Int) (vw8 : World) : Prop :=
  Br (decide (s7.2.2 < (((s2).size : Nat) : Int))) (0 ≤ s7.2.2 ∧ s7.2.2 < ((s2).size : Nat) ∧ Lt (IntKind.u32.wrap (s7.2.1 + (Int.tmod (IntKind.u32.wrap (s7.1 + (IntKind.u32.wrap (bAt s2 s7.2.2)))) 65521))) fun (x10 : Int) =>
    I9 (Int.tmod (IntKind.u32.wrap (s7.1 + (IntKind.u32.wrap (bAt s2 s7.2.2)))) 65521, Int.tmod x10 65521, IntKind.i64.wrap (s7.2.2 + 1)) vw8) (R (IntKind.u32.wrap ((IntKind.u32.wrap (65536 * s7.2.1)) + s7.1)) vw8)
/-- foliant/foliantref13.More -/
def S33 (sum1 : Int) (s2 : ByteArray) (w : World) (R : Int → World → Prop) : Prop :=
  Lp (σ := Int × Int × Int) (S33L1 s2 R) (Int.tmod (Int.tmod sum1 65536) 65521, Int.tmod (IntKind.u32.wrap (Int.tdiv sum1 65536)) 65521, 0) w
def pl33 : Plan := (.seq (.reg .seq) (.seq (.reg .seq) (.seq (.seq (.reg .seq) (.block (.loop [(5, (.one (.int .u32))), (6, (.one (.int .u32))), (7, (.one (.int .i64)))] [1] (.seq (.seq (.reg .seq) (.cond .leaf .leaf)) (.seq (.block (.seq (.reg .seq) (.reg .seq))) (.reg .seq)))))) (.seq (.reg .seq) .leaf))))
set_option maxRecDepth 100000 in
theorem T33 (sum1 : Int) (s2 : ByteArray) (w : World) (R : Int → World → Prop) (h : S33 sum1 s2 w R) : C33 sum1 s2 w R := by
  have e : fnT Tryz.prog ⟨FF, MAY, (fun _ _ => False)⟩ pl33 Tryz.f33 [.int .u32 sum1, .string s2] w [(.one (.int .u32))] (fun s w => R s w) = S33 sum1 s2 w R := by kernel_rfl
  exact (fn_calls okF okM Tryz.func33 (by kernel_rfl) (by kernel_rfl) (e.mpr h)).mono fun _ _ ⟨s, he, hR⟩ => ⟨s, he, hR⟩

/-- foliant/foliantref13.Sum -/
def S18 (s1 : ByteArray) (w : World) (R : Int → World → Prop) : Prop :=
  C33 1 s1 w fun r2 vw3 =>
    R r2 vw3
def pl18 : Plan := (.seq (.reg .seq) (.seq (.reg .seq) .leaf))
set_option maxRecDepth 100000 in
theorem T18 (s1 : ByteArray) (w : World) (R : Int → World → Prop) (h : S18 s1 w R) : C18 s1 w R := by
  have e : fnT Tryz.prog ⟨FF, MAY, (fun _ _ => False)⟩ pl18 Tryz.f18 [.string s1] w [(.one (.int .u32))] (fun s w => R s w) = S18 s1 w R := by kernel_rfl
  exact (fn_calls okF okM Tryz.func18 (by kernel_rfl) (by kernel_rfl) (e.mpr h)).mono fun _ _ ⟨s, he, hR⟩ => ⟨s, he, hR⟩

/-- foliant/zlib.four -/
def S15 (n1 : Int) (w : World) (R : ByteArray → World → Prop) : Prop :=
  Nw w (.cells #[.int .u8 (IntKind.u8.wrap (Int.fdiv n1 (2 ^ 24))), .int .u8 (IntKind.u8.wrap (Int.fdiv n1 (2 ^ 16))), .int .u8 (IntKind.u8.wrap (Int.fdiv n1 (2 ^ 8))), .int .u8 (IntKind.u8.wrap n1)] 5) fun vw2 =>
  Rn Tryz.prog (convert 29 9 (Slc.v ((⟨some ⟨w.heap.size, 0, none⟩, 4, 4⟩ : Slc)))) vw2 Value.string fun (x3 : ByteArray) vw4 =>
  R x3 vw4
def pl15 : Plan := (.seq (.reg .seq) (.seq (.reg .seq) .leaf))
set_option maxRecDepth 100000 in
theorem T15 (n1 : Int) (w : World) (R : ByteArray → World → Prop) (h : S15 n1 w R) : C15 n1 w R := by
  have e : fnT Tryz.prog ⟨FF, MAY, (fun _ _ => False)⟩ pl15 Tryz.f15 [.int .u32 n1] w [(.one .str)] (fun s w => R s w) = S15 n1 w R := by kernel_rfl
  exact (fn_calls okF okM Tryz.func15 (by kernel_rfl) (by kernel_rfl) (e.mpr h)).mono fun _ _ ⟨s, he, hR⟩ => ⟨s, he, hR⟩

/-- foliant/zlib.Wrap -/
def S8 (s1 : ByteArray) (level2 : Int) (w : World) (R : ByteArray → Int → World → Prop) (PR : Value → World → Prop) : Prop :=
  C19 s1 level2 w (fun r3 r4 vw5 =>
    Br (r4 != 0) (R (⟨#[]⟩ : ByteArray) r4 vw5) (((((⟨#[120, 156]⟩ : ByteArray)).size + (r3).size : Nat) : Int) ≤ IntKind.i64.max ∧ C11 s1 vw5 fun r6 vw7 =>
        C15 r6 vw7 fun r8 vw9 =>
          ((((⟨#[120, 156]⟩ : ByteArray) ++ r3).size + (r8).size : Nat) : Int) ≤ IntKind.i64.max ∧ R (((⟨#[120, 156]⟩ : ByteArray) ++ r3) ++ r8) 0 vw9)) PR
def pl8 : Plan := (.seq (.reg .seq) (.seq (.reg .seq) (.seq (.seq (.reg .seq) (.cond (.seq (.reg .seq) .leaf) .leaf)) (.seq (.reg .seq) .leaf))))
set_option maxRecDepth 100000 in
theorem T8 (s1 : ByteArray) (level2 : Int) (w : World) (R : ByteArray → Int → World → Prop) (PR : Value → World → Prop) (h : S8 s1 level2 w R PR) : C8 s1 level2 w R PR := by
  have e : fnT Tryz.prog ⟨FF, MAY, PR⟩ pl8 Tryz.f8 [.string s1, .int .i64 level2] w [(.one .str), (.one (.int .i64))] (fun s w => R s.1 s.2 w) = S8 s1 level2 w R PR := by kernel_rfl
  exact (fn_callsP okF okM Tryz.func8 (by kernel_rfl) (by kernel_rfl) (e.mpr h)).mono fun _ _ he => he.elim (fun ⟨s, he, hR⟩ => .inl ⟨s.1, s.2, he, hR⟩) .inr

/-- foliant/foliantref13.Tail -/
def S17 (sum1 : Int) (w : World) (R : ByteArray → World → Prop) : Prop :=
  Nw w (.cells #[.int .u8 (IntKind.u8.wrap (Int.fdiv sum1 (2 ^ 24))), .int .u8 (IntKind.u8.wrap (Int.fdiv sum1 (2 ^ 16))), .int .u8 (IntKind.u8.wrap (Int.fdiv sum1 (2 ^ 8))), .int .u8 (IntKind.u8.wrap sum1)] 5) fun vw2 =>
  Rn Tryz.prog (convert 29 9 (Slc.v ((⟨some ⟨w.heap.size, 0, none⟩, 4, 4⟩ : Slc)))) vw2 Value.string fun (x3 : ByteArray) vw4 =>
  R x3 vw4
def pl17 : Plan := (.seq (.reg .seq) (.seq (.reg .seq) .leaf))
set_option maxRecDepth 100000 in
theorem T17 (sum1 : Int) (w : World) (R : ByteArray → World → Prop) (h : S17 sum1 w R) : C17 sum1 w R := by
  have e : fnT Tryz.prog ⟨FF, MAY, (fun _ _ => False)⟩ pl17 Tryz.f17 [.int .u32 sum1] w [(.one .str)] (fun s w => R s w) = S17 sum1 w R := by kernel_rfl
  exact (fn_calls okF okM Tryz.func17 (by kernel_rfl) (by kernel_rfl) (e.mpr h)).mono fun _ _ ⟨s, he, hR⟩ => ⟨s, he, hR⟩

/-- foliant/zlib.begins -/
def S13 (s1 : ByteArray) (w : World) (R : Int → World → Prop) : Prop :=
  Br (decide ((((s1).size : Nat) : Int) < 2)) (R 4 w) (0 ≤ (0 : Int) ∧ (0 : Int) < ((s1).size : Nat) ∧ 0 ≤ (1 : Int) ∧ (1 : Int) < ((s1).size : Nat) ∧ Br ((iand .i64 (IntKind.i64.wrap (bAt s1 0)) 15) != 8) (R 3 w.drew) (Br (decide ((Int.fdiv (IntKind.i64.wrap (bAt s1 0)) (2 ^ 4)) > 7)) (R 3 w.drew) (Lt (ior .i64 (IntKind.i64.wrap ((IntKind.i64.wrap (bAt s1 0)) * 2 ^ 8)) (IntKind.i64.wrap (bAt s1 1))) fun (x2 : Int) =>
        Br ((Int.tmod x2 31) != 0) (R 3 w.drew) (Br ((iand .i64 (IntKind.i64.wrap (bAt s1 1)) 32) != 0) (R 3 w.drew) (R 0 w.drew)))))
def pl13 : Plan := (.seq (.reg .seq) (.seq (.seq (.reg .seq) (.cond (.seq (.reg .seq) .leaf) .leaf)) (.seq (.reg .still) (.seq (.seq (.reg .seq) (.cond (.seq (.reg .seq) .leaf) .leaf)) (.seq (.reg .seq) .leaf)))))
set_option maxRecDepth 100000 in
theorem T13 (s1 : ByteArray) (w : World) (R : Int → World → Prop) (h : S13 s1 w R) : C13 s1 w R := by
  have e : fnT Tryz.prog ⟨FF, MAY, (fun _ _ => False)⟩ pl13 Tryz.f13 [.string s1] w [(.one (.int .i64))] (fun s w => R s w) = S13 s1 w R := by kernel_rfl
  exact (fn_calls okF okM Tryz.func13 (by kernel_rfl) (by kernel_rfl) (e.mpr h)).mono fun _ _ ⟨s, he, hR⟩ => ⟨s, he, hR⟩

/-- foliant/zlib.Unwrap -/
def S6 (s1 : ByteArray) (most2 : Int) (w : World) (R : ByteArray → Int → World → Prop) : Prop :=
  C13 s1 w fun r5 vw6 =>
    Br (r5 != 0) (R (⟨#[]⟩ : ByteArray) r5 vw6) (0 ≤ (2 : Int) ∧ (2 : Int) ≤ (((s1).size : Nat) : Int) ∧ C14 (s1.extract (((2 : Int)).toNat) ((s1).size)) most2 vw6 fun r7 r8 r9 vw10 =>
        Br (r9 != 0) (R (⟨#[]⟩ : ByteArray) r9 vw10) (Lt (decide ((IntKind.i64.wrap ((((s1.extract (((2 : Int)).toNat) ((s1).size)).size : Nat) : Int) - r8)) < 4)) fun (x11 : Bool) =>
          Br x11 (R (⟨#[]⟩ : ByteArray) 4 vw10) (0 ≤ (IntKind.i64.wrap (r8 + 4)) ∧ (IntKind.i64.wrap (r8 + 4)) ≤ (((s1.extract (((2 : Int)).toNat) ((s1).size)).size : Nat) : Int) ∧ 0 ≤ r8 ∧ r8 ≤ (((IntKind.i64.wrap (r8 + 4)).toNat : Nat) : Int) ∧ C11 r7 vw10.drew fun r12 vw13 =>
              C15 r12 vw13 fun r14 vw15 =>
                Br (!(((s1.extract (((2 : Int)).toNat) ((s1).size)).extract ((r8).toNat) ((IntKind.i64.wrap (r8 + 4)).toNat)).toList == r14.toList)) (R (⟨#[]⟩ : ByteArray) 12 vw15) (R r7 0 vw15))))
def pl6 : Plan := (.seq (.reg .seq) (.seq (.seq (.reg .seq) (.seq (.reg .seq) (.cond (.seq (.reg .seq) .leaf) .leaf))) (.seq (.reg .seq) (.seq (.reg .seq) (.seq (.block (.seq (.reg .seq) (.cond (.seq (.reg .seq) .leaf) (.seq (.reg .seq) (.cond (.seq (.reg .seq) .leaf) (.seq (.reg (.held [6] (.take 0 (.take 1 (.take 2 (.take 3 (.take 4 (.take 5 (.eff 6 (some [7]) (.eff 7 (some []) (.take 8 (.take 9 .done)))))))))))) (.cond (.seq (.reg .seq) .leaf) .leaf))))))) (.seq (.reg .seq) .leaf))))))
set_option maxRecDepth 100000 in
theorem T6 (s1 : ByteArray) (most2 : Int) (w : World) (R : ByteArray → Int → World → Prop) (h : S6 s1 most2 w R) : C6 s1 most2 w R := by
  have e : fnT Tryz.prog ⟨FF, MAY, (fun _ _ => False)⟩ pl6 Tryz.f6 [.string s1, .int .i64 most2] w [(.one .str), (.one (.int .i64))] (fun s w => R s.1 s.2 w) = S6 s1 most2 w R := by kernel_rfl
  exact (fn_calls okF okM Tryz.func6 (by kernel_rfl) (by kernel_rfl) (e.mpr h)).mono fun _ _ ⟨s, he, hR⟩ => ⟨s.1, s.2, he, hR⟩

/-- foliant/foliantref13.Unwrap -/
def S7 (s1 : ByteArray) (most2 : Int) (w : World) (R : ByteArray → Int → World → Prop) : Prop :=
  Br (decide ((((s1).size : Nat) : Int) < 2)) (R (⟨#[]⟩ : ByteArray) 4 w) (0 ≤ (0 : Int) ∧ (0 : Int) < ((s1).size : Nat) ∧ Br ((Int.tmod (bAt s1 0) 16) != 8) (R (⟨#[]⟩ : ByteArray) 3 w.drew) (0 ≤ (0 : Int) ∧ (0 : Int) < ((s1).size : Nat) ∧ Br (decide ((IntKind.u8.wrap (Int.tdiv (bAt s1 0) 16)) > 7)) (R (⟨#[]⟩ : ByteArray) 3 w.drew) (0 ≤ (0 : Int) ∧ (0 : Int) < ((s1).size : Nat) ∧ 0 ≤ (1 : Int) ∧ (1 : Int) < ((s1).size : Nat) ∧ Lt (IntKind.i64.wrap ((IntKind.i64.wrap (256 * (IntKind.i64.wrap (bAt s1 0)))) + (IntKind.i64.wrap (bAt s1 1)))) fun (x4 : Int) =>
        Br ((Int.tmod x4 31) != 0) (R (⟨#[]⟩ : ByteArray) 3 w.drew) (0 ≤ (1 : Int) ∧ (1 : Int) < ((s1).size : Nat) ∧ Br ((iand .u8 (bAt s1 1) 32) != 0) (R (⟨#[]⟩ : ByteArray) 3 w.drew) (0 ≤ (2 : Int) ∧ (2 : Int) ≤ (((s1).size : Nat) : Int) ∧ C16 (s1.extract (((2 : Int)).toNat) ((s1).size)) most2 w.drew fun r5 r6 r7 vw8 =>
              Br (r7 != 0) (R (⟨#[]⟩ : ByteArray) r7 vw8) (Br (decide ((IntKind.i64.wrap ((((s1).size : Nat) : Int) - (IntKind.i64.wrap (2 + r6)))) < 4)) (R (⟨#[]⟩ : ByteArray) 4 vw8) (0 ≤ (IntKind.i64.wrap ((IntKind.i64.wrap (2 + r6)) + 4)) ∧ (IntKind.i64.wrap ((IntKind.i64.wrap (2 + r6)) + 4)) ≤ (((s1).size : Nat) : Int) ∧ 0 ≤ (IntKind.i64.wrap (2 + r6)) ∧ (IntKind.i64.wrap (2 + r6)) ≤ (((IntKind.i64.wrap ((IntKind.i64.wrap (2 + r6)) + 4)).toNat : Nat) : Int) ∧ C18 r5 vw8.drew fun r9 vw10 =>
                    C17 r9 vw10 fun r11 vw12 =>
                      Br (!((s1.extract ((IntKind.i64.wrap (2 + r6)).toNat) ((IntKind.i64.wrap ((IntKind.i64.wrap (2 + r6)) + 4)).toNat)).toList == r11.toList)) (R (⟨#[]⟩ : ByteArray) 12 vw12) (R r5 0 vw12))))))))
def pl7 : Plan := (.seq (.reg .seq) (.seq (.seq (.reg .seq) (.cond (.seq (.reg .seq) .leaf) .leaf)) (.seq (.seq (.reg .still) (.cond (.seq (.reg .seq) .leaf) .leaf)) (.seq (.reg .seq) (.seq (.seq (.reg .seq) (.cond (.seq (.reg .seq) .leaf) .leaf)) (.seq (.reg .seq) (.seq (.seq (.reg .seq) (.cond (.seq (.reg .seq) .leaf) .leaf)) (.seq (.seq (.reg (.held [6] (.take 0 (.take 1 (.take 2 (.take 3 (.take 4 (.take 5 (.eff 6 (some [7]) (.eff 7 (some []) (.take 8 .done))))))))))) (.cond (.seq (.reg .seq) .leaf) .leaf)) (.seq (.reg .seq) .leaf)))))))))
set_option maxRecDepth 100000 in
theorem T7 (s1 : ByteArray) (most2 : Int) (w : World) (R : ByteArray → Int → World → Prop) (h : S7 s1 most2 w R) : C7 s1 most2 w R := by
  have e : fnT Tryz.prog ⟨FF, MAY, (fun _ _ => False)⟩ pl7 Tryz.f7 [.string s1, .int .i64 most2] w [(.one .str), (.one (.int .i64))] (fun s w => R s.1 s.2 w) = S7 s1 most2 w R := by kernel_rfl
  exact (fn_calls okF okM Tryz.func7 (by kernel_rfl) (by kernel_rfl) (e.mpr h)).mono fun _ _ ⟨s, he, hR⟩ => ⟨s.1, s.2, he, hR⟩

/-- foliant/foliantlaw13.lives -/
def S5 (w : World) (R : Bool → World → Prop) (PR : Value → World → Prop) : Prop :=
  C8 (⟨#[87, 105, 107, 105, 112, 101, 100, 105, 97]⟩ : ByteArray) 0 w (fun r1 r2 vw3 =>
    (((r1).size + ((⟨#[120]⟩ : ByteArray)).size : Nat) : Int) ≤ IntKind.i64.max ∧ C6 (r1 ++ (⟨#[120]⟩ : ByteArray)) 9 vw3 fun r4 r5 vw6 =>
      C6 (⟨#[120]⟩ : ByteArray) 9 vw6 fun r7 r8 vw9 =>
        C6 (⟨#[120, 157]⟩ : ByteArray) 9 vw9 fun r10 r11 vw12 =>
          C8 (⟨#[97]⟩ : ByteArray) 3 vw12 (fun r13 r14 vw15 =>
            C11 (⟨#[]⟩ : ByteArray) vw15 fun r16 vw17 =>
              Br (r16 == 1) (C11 (⟨#[87, 105, 107, 105, 112, 101, 100, 105, 97]⟩ : ByteArray) vw17 fun r18 vw19 =>
                  Br (r18 == 300286872) (C12 1 (⟨#[87, 105, 107, 105]⟩ : ByteArray) vw19 fun r20 vw21 =>
                      C11 (⟨#[87, 105, 107, 105]⟩ : ByteArray) vw21 fun r22 vw23 =>
                        Br (r20 == r22) (Br (r2 == 0) (Br ((((r1).size : Nat) : Int) == 20) (0 ≤ (2 : Int) ∧ (2 : Int) ≤ (((r1).size : Nat) : Int) ∧ Br ((r1.extract 0 (((2 : Int)).toNat)).toList == (⟨#[120, 156]⟩ : ByteArray).toList) (0 ≤ (16 : Int) ∧ (16 : Int) ≤ (((r1).size : Nat) : Int) ∧ Lt (((r1.extract (((16 : Int)).toNat) ((r1).size)).toList == (⟨#[17, 230, 3, 152]⟩ : ByteArray).toList)) fun (x24 : Bool) =>
                                Br x24 (Br (r4.toList == (⟨#[87, 105, 107, 105, 112, 101, 100, 105, 97]⟩ : ByteArray).toList) (Br (r5 == 0) (Br (r8 == 4) (Br (r11 == 3) (R (r14 == 1) vw23) (R false vw23)) (R false vw23)) (R false vw23)) (R false vw23)) (R false vw23)) (R false vw23)) (R false vw23)) (R false vw23)) (R false vw23)) (R false vw19)) (R false vw17)) PR) PR
def pl5 : Plan := (.seq (.reg .seq) (.seq (.reg .seq) (.seq (.reg .seq) (.seq (.reg .seq) (.seq (.reg .seq) (.seq (.reg .seq) (.seq (.reg .seq) .leaf)))))))
set_option maxRecDepth 100000 in
theorem T5 (w : World) (R : Bool → World → Prop) (PR : Value → World → Prop) (h : S5 w R PR) : C5 w R PR := by
  have e : fnT Tryz.prog ⟨FF, MAY, PR⟩ pl5 Tryz.f5 [] w [(.one .bool)] (fun s w => R s w) = S5 w R PR := by kernel_rfl
  exact (fn_callsP okF okM Tryz.func5 (by kernel_rfl) (by kernel_rfl) (e.mpr h)).mono fun _ _ he => he.elim (fun ⟨s, he, hR⟩ => .inl ⟨s, he, hR⟩) .inr

/-- foliant/foliantlaw13.ZlibUnwraps -/
def S3 (s1 : ByteArray) (most2 : Int) (w : World) (R : Bool → World → Prop) (PR : Value → World → Prop) : Prop :=
  Br (decide ((((s1).size : Nat) : Int) > 1000)) (C5 w (fun r7 vw8 =>
      R r7 vw8) PR) (Br (decide (most2 > 3000)) (C5 w (fun r9 vw10 =>
        R r9 vw10) PR) (C6 s1 most2 w fun r11 r12 vw13 =>
        C7 s1 most2 vw13 fun r14 r15 vw16 =>
          Br (r11.toList == r14.toList) (Br (r12 == r15) (C5 vw16 (fun r17 vw18 =>
                R r17 vw18) PR) (R false vw16)) (R false vw16)))
def pl3 : Plan := (.seq (.reg .seq) (.seq (.seq (.reg .seq) (.cond (.seq (.reg .seq) .leaf) .leaf)) (.seq (.reg .seq) (.seq (.reg .seq) (.seq (.reg .seq) .leaf)))))
set_option maxRecDepth 100000 in
theorem T3 (s1 : ByteArray) (most2 : Int) (w : World) (R : Bool → World → Prop) (PR : Value → World → Prop) (h : S3 s1 most2 w R PR) : C3 s1 most2 w R PR := by
  have e : fnT Tryz.prog ⟨FF, MAY, PR⟩ pl3 Tryz.f3 [.string s1, .int .i64 most2] w [(.one .bool)] (fun s w => R s w) = S3 s1 most2 w R PR := by kernel_rfl
  exact (fn_callsP okF okM Tryz.func3 (by kernel_rfl) (by kernel_rfl) (e.mpr h)).mono fun _ _ he => he.elim (fun ⟨s, he, hR⟩ => .inl ⟨s, he, hR⟩) .inr

def S4J1 (w : World) (s1 : ByteArray) (R : Bool → World → Prop) (PR : Value → World → Prop) (s25 : Unit) (vw26 : World) : Prop :=
  Ld vw26 (⟨w.heap.size, 0, none⟩ : Addr) (Value.int .i64) fun (x27 : Int) =>
  Ld vw26 ((⟨w.heap.size, 0, none⟩ : Addr).add 1) (Value.int .i64) fun (x28 : Int) =>
  Ld vw26 ((⟨w.heap.size, 0, none⟩ : Addr).add 2) (Value.int .i64) fun (x29 : Int) =>
  C9 (x27, x28, x29) s1 vw26 fun r30 r31 vw32 =>
    Br (r31 != 0) (R true vw32) (C8 r30 1 vw32 (fun r33 r34 vw35 =>
        C6 r33 (((r30).size : Nat) : Int) vw35 fun r36 r37 vw38 =>
          Ld vw38 (⟨w.heap.size, 0, none⟩ : Addr) (Value.int .i64) fun (x39 : Int) =>
          Ld vw38 ((⟨w.heap.size, 0, none⟩ : Addr).add 1) (Value.int .i64) fun (x40 : Int) =>
          Ld vw38 ((⟨w.heap.size, 0, none⟩ : Addr).add 2) (Value.int .i64) fun (x41 : Int) =>
          C10 (x39, x40, x41) r36 vw38 fun r42 r43 vw44 =>
            Br (r34 == 0) (Br (r37 == 0) (Br (r36.toList == r30.toList) (Br (r43 == 0) (R (r42.toList == s1.toList) vw44) (R false vw44)) (R false vw44)) (R false vw44)) (R false vw44)) PR)
/-- foliant/folianttop.TopSums -/
def S4 (s1 : ByteArray) (vat2 : Int) (vby3 : Int) (p4 : Int × Int × Int) (w : World) (R : Bool → World → Prop) (PR : Value → World → Prop) : Prop :=
  Nw w (.cells #[.int .i64 (p4.1), .int .i64 (p4.2.1), .int .i64 (p4.2.2)] 28) fun vw5 =>
  C8 (⟨#[97]⟩ : ByteArray) 1 vw5 (fun r6 r7 vw8 =>
    C6 r6 9 vw8 fun r12 r13 vw14 =>
      Br (!(r12.toList == (⟨#[97]⟩ : ByteArray).toList)) (R false vw14) (Br (r13 != 0) (R false vw14) (Br (r7 != 0) (R false vw14) (Br (decide ((((s1).size : Nat) : Int) > 800)) (R true vw14) (Br (decide (vat2 < 0)) (R true vw14) (Br (decide (vat2 > 3)) (R true vw14) (C8 s1 2 vw14 (fun r15 r16 vw17 =>
                    Br (r16 != 0) (R false vw17) (Br (decide ((((r15).size : Nat) : Int) < 6)) (R false vw17) (0 ≤ (IntKind.i64.wrap ((IntKind.i64.wrap ((((r15).size : Nat) : Int) - 4)) + vat2)) ∧ (IntKind.i64.wrap ((IntKind.i64.wrap ((((r15).size : Nat) : Int) - 4)) + vat2)) ≤ (((r15).size : Nat) : Int) ∧ 0 ≤ (IntKind.i64.wrap ((IntKind.i64.wrap ((((r15).size : Nat) : Int) - 4)) + vat2)) ∧ (IntKind.i64.wrap ((IntKind.i64.wrap ((((r15).size : Nat) : Int) - 4)) + vat2)) < ((r15).size : Nat) ∧ 0 ≤ (IntKind.i64.wrap ((IntKind.i64.wrap ((IntKind.i64.wrap ((((r15).size : Nat) : Int) - 4)) + vat2)) + 1)) ∧ (IntKind.i64.wrap ((IntKind.i64.wrap ((IntKind.i64.wrap ((((r15).size : Nat) : Int) - 4)) + vat2)) + 1)) ≤ (((r15).size : Nat) : Int) ∧ Nw vw17.drew (.cells #[.int .u8 (ixor .u8 (bAt r15 (IntKind.i64.wrap ((IntKind.i64.wrap ((((r15).size : Nat) : Int) - 4)) + vat2))) vby3)] 5) fun vw18 =>
                        Rn Tryz.prog (convert 29 9 (Slc.v ((⟨some ⟨vw17.drew.heap.size, 0, none⟩, 1, 1⟩ : Slc)))) vw18 Value.string fun (x19 : ByteArray) vw20 =>
                        (((r15.extract 0 ((IntKind.i64.wrap ((IntKind.i64.wrap ((((r15).size : Nat) : Int) - 4)) + vat2)).toNat)).size + (x19).size : Nat) : Int) ≤ IntKind.i64.max ∧ ((((r15.extract 0 ((IntKind.i64.wrap ((IntKind.i64.wrap ((((r15).size : Nat) : Int) - 4)) + vat2)).toNat)) ++ x19).size + (r15.extract ((IntKind.i64.wrap ((IntKind.i64.wrap ((IntKind.i64.wrap ((((r15).size : Nat) : Int) - 4)) + vat2)) + 1)).toNat) ((r15).size)).size : Nat) : Int) ≤ IntKind.i64.max ∧ Lt (((r15.extract 0 ((IntKind.i64.wrap ((IntKind.i64.wrap ((((r15).size : Nat) : Int) - 4)) + vat2)).toNat)) ++ x19) ++ (r15.extract ((IntKind.i64.wrap ((IntKind.i64.wrap ((IntKind.i64.wrap ((((r15).size : Nat) : Int) - 4)) + vat2)) + 1)).toNat) ((r15).size))) fun (x21 : ByteArray) =>
                        C6 x21 (((s1).size : Nat) : Int) vw20 fun r22 r23 vw24 =>
                          Join (S4J1 w s1 R PR) fun (vJ45 : Unit → World → Prop) =>
                            Br (vby3 == 0) (Br (r23 != 0) (R false vw24) (Br (!(r22.toList == s1.toList)) (R false vw24) (Br (vby3 != 0) (Br (r23 != 12) (R false vw24) (Br (!(r22.toList == (⟨#[]⟩ : ByteArray).toList)) (R false vw24) (vJ45 () vw24))) (vJ45 () vw24)))) (Br (vby3 != 0) (Br (r23 != 12) (R false vw24) (Br (!(r22.toList == (⟨#[]⟩ : ByteArray).toList)) (R false vw24) (vJ45 () vw24))) (vJ45 () vw24))))) PR))))))) PR
def pl4 : Plan := (.seq (.reg .seq) (.seq (.reg .seq) (.seq (.seq (.reg .seq) (.seq (.reg .seq) (.cond (.seq (.reg .seq) .leaf) .leaf))) (.seq (.seq (.reg .seq) (.cond (.seq (.reg .seq) .leaf) .leaf)) (.seq (.reg .seq) (.seq (.seq (.reg .seq) (.cond (.seq (.reg .seq) .leaf) .leaf)) (.seq (.reg .seq) (.seq (.reg (.held [8] (.take 0 (.take 1 (.take 2 (.take 3 (.take 4 (.take 5 (.take 6 (.take 7 (.take 11 (.take 12 (.take 13 (.take 14 (.eff 8 (some [9]) (.eff 9 (some []) (.take 10 (.take 15 (.take 16 .done))))))))))))))))))) (.seq (.reg .seq) (.join [] [0, 7] (.seq (.reg .seq) (.cond (.seq (.reg .seq) .leaf) .leaf)) (.seq (.reg .seq) (.seq (.seq (.reg .seq) (.cond (.seq (.reg .seq) .leaf) .leaf)) (.seq (.reg .seq) (.seq (.reg .seq) (.seq (.reg .seq) (.seq (.reg .seq) .leaf))))))))))))))))
set_option maxRecDepth 100000 in
theorem T4 (s1 : ByteArray) (vat2 : Int) (vby3 : Int) (p4 : Int × Int × Int) (w : World) (R : Bool → World → Prop) (PR : Value → World → Prop) (h : S4 s1 vat2 vby3 p4 w R PR) : C4 s1 vat2 vby3 (p4.1, p4.2.1, p4.2.2) w R PR := by
  have e : fnT Tryz.prog ⟨FF, MAY, PR⟩ pl4 Tryz.f4 [.string s1, .int .i64 vat2, .int .u8 vby3, .agg #[.int .i64 (p4.1), .int .i64 (p4.2.1), .int .i64 (p4.2.2)]] w [(.one .bool)] (fun s w => R s w) = S4 s1 vat2 vby3 p4 w R PR := by kernel_rfl
  exact (fn_callsP okF okM Tryz.func4 (by kernel_rfl) (by kernel_rfl) (e.mpr h)).mono fun _ _ he => he.elim (fun ⟨s, he, hR⟩ => .inl ⟨s, he, hR⟩) .inr

end Go.Proofs.YtjkoafjnmkchdaaGreatDoor

/- TopFlate: what is deflated is inflated again. Conditions: sizes; the laid variables. -/
namespace Go.Proofs.YtjkoafjnmkchdaaGreatDoor
namespace Inf
open Sh Bit
set_option linter.unusedVariables false
set_option linter.unusedSimpArgs false
set_option maxRecDepth 4000
set_option maxHeartbeats 1000000
attribute [local irreducible] Ld St Nw Nn Lt LdS
theorem Laid.to {N : Nat} {w w' : World} (h : Laid N w) (he : Ext (fun _ => False) w w') : Laid N w' := h.keep he fun _ h => h.elim
theorem all30 : allR ⟨#[3, 0]⟩ 9 = (⟨#[]⟩, 2, 0) := by decide +kernel
end Inf
end Go.Proofs.YtjkoafjnmkchdaaGreatDoor

/- Zlib: the sums, both sides; the four bytes. Conditions: sizes. -/
namespace Go.Proofs.YtjkoafjnmkchdaaGreatDoor
namespace Inf
open Sh Bit
set_option linter.unusedVariables false
set_option linter.unusedSimpArgs false
set_option maxRecDepth 4000
set_option maxHeartbeats 1000000
theorem u32_id {n : Int} (h : 0 ≤ n ∧ n ≤ 4294967295) : IntKind.u32.wrap n = n := by
  unfold IntKind.wrap
  simp [IntKind.bits, IntKind.signed]
  omega
theorem iand_u32 {x y : Nat} (hx : x < 2 ^ 32) (hy : y < 2 ^ 32) : iand .u32 (x : Int) (y : Int) = ((x &&& y : Nat) : Int) := by
  unfold iand
  rw [ofInt_nat, ofInt_nat]
  have h1 : (BitVec.ofNat IntKind.u32.bits x &&& BitVec.ofNat IntKind.u32.bits y).toNat = x &&& y := by
    rw [BitVec.toNat_and, BitVec.toNat_ofNat, BitVec.toNat_ofNat, Nat.mod_eq_of_lt (by simp [IntKind.bits]; omega), Nat.mod_eq_of_lt (by simp [IntKind.bits]; omega)]
  rw [h1]
  have h2 : x &&& y < 2 ^ 32 := Nat.and_lt_two_pow x hy
  exact u32_id (by omega)
theorem ior_u32 {x y : Nat} (hx : x < 2 ^ 32) (hy : y < 2 ^ 32) : ior .u32 (x : Int) (y : Int) = ((x ||| y : Nat) : Int) := by
  unfold ior
  rw [ofInt_nat, ofInt_nat]
  have h1 : (BitVec.ofNat IntKind.u32.bits x ||| BitVec.ofNat IntKind.u32.bits y).toNat = x ||| y := by
    rw [BitVec.toNat_or, BitVec.toNat_ofNat, BitVec.toNat_ofNat, Nat.mod_eq_of_lt (by simp [IntKind.bits]; omega), Nat.mod_eq_of_lt (by simp [IntKind.bits]; omega)]
  rw [h1]
  have h2 : x ||| y < 2 ^ 32 := Nat.or_lt_two_pow hx hy
  exact u32_id (by omega)
/-- One byte more. -/
def ad1 (p : Nat × Nat) (x : UInt8) : Nat × Nat := ((p.1 + x.toNat) % 65521, (p.2 + (p.1 + x.toNat) % 65521) % 65521)
def ad0 (was : Nat) : Nat × Nat := (was % 65536 % 65521, was / 65536 % 65521)
def adN (p : Nat × Nat) : Nat := p.2 * 65536 + p.1
/-- The sum of more bytes. -/
def adler (was : Nat) (l : List UInt8) : Nat := adN (l.foldl ad1 (ad0 was))
theorem ad_lt : ∀ (l : List UInt8) (p : Nat × Nat), p.1 < 65521 ∧ p.2 < 65521 → (l.foldl ad1 p).1 < 65521 ∧ (l.foldl ad1 p).2 < 65521
  | [], p, h => h
  | x :: l, p, h => by
    rw [List.foldl_cons]
    exact ad_lt l _ ⟨Nat.mod_lt _ (by decide), Nat.mod_lt _ (by decide)⟩
theorem ad0_lt (was : Nat) : (ad0 was).1 < 65521 ∧ (ad0 was).2 < 65521 := ⟨Nat.mod_lt _ (by decide), Nat.mod_lt _ (by decide)⟩
theorem adler_lt (was : Nat) (l : List UInt8) : adler was l < 4294967296 := by
  have := ad_lt l _ (ad0_lt was)
  unfold adler adN
  omega
theorem ad0_N {p : Nat × Nat} (h : p.1 < 65521 ∧ p.2 < 65521) : ad0 (adN p) = p := by
  unfold ad0 adN
  refine Prod.ext ?_ ?_
  · dsimp only; omega
  · dsimp only; omega
/-- Sums go on. -/
theorem adler_app (was : Nat) (s t : List UInt8) : adler (adler was s) t = adler was (s ++ t) := by
  unfold adler
  rw [ad0_N (ad_lt s _ (ad0_lt was)), List.foldl_append]
theorem tmodN (x n : Nat) : Int.tmod (x : Int) (n : Int) = ((x % n : Nat) : Int) := by
  rw [Int.tmod_eq_emod_of_nonneg (by omega)]
  simp
attribute [local irreducible] Ld St Nw Nn Lt LdS
theorem c_by {p : Nat × Nat} (h : p.1 < 65521 ∧ p.2 < 65521) (x : UInt8) {c : Int} (hc : c = (x.toNat : Int)) (w : World) : C25 ((p.1 : Int), (p.2 : Int)) c w fun r w1 => r = (((ad1 p x).1 : Int), ((ad1 p x).2 : Int)) ∧ Ext (fun _ => False) w w1 := by
  subst hc
  have hx := x.toNat_lt
  refine T25 ((p.1 : Int), (p.2 : Int)) _ _ _ ?_
  unfold S25
  refine (Hn.start w).nw fun w3 H => ?_
  simp only [List.nil_append] at H
  refine H.nw fun w4 H => ?_
  simp only [List.cons_append, List.nil_append] at H
  iterate 1 refine H.ld 0 rfl rfl ?_
  have e1 : Int.tmod (IntKind.u32.wrap ((p.1 : Int) + IntKind.u32.wrap (x.toNat : Int))) 65521 = (((p.1 + x.toNat) % 65521 : Nat) : Int) := by
    rw [u32_id (n := (x.toNat : Int)) (by omega), u32_id (by omega)]
    exact tmodN (p.1 + x.toNat) 65521
  have m1 : (p.1 + x.toNat) % 65521 < 65521 := Nat.mod_lt _ (by decide)
  rw [e1]
  iterate 1 (refine H.st 0 rfl (by simp) fun _ H => ?_; simp only [List.nil_append, List.cons_append, List.set_cons_zero, List.set_cons_succ, Nat.zero_add] at H)
  iterate 2 refine H.ld 0 rfl rfl ?_
  have e2 : Int.tmod (IntKind.u32.wrap ((p.2 : Int) + (((p.1 + x.toNat) % 65521 : Nat) : Int))) 65521 = (((p.2 + (p.1 + x.toNat) % 65521) % 65521 : Nat) : Int) := by
    rw [u32_id (by omega)]
    exact tmodN (p.2 + (p.1 + x.toNat) % 65521) 65521
  rw [e2]
  iterate 1 (refine H.st 0 rfl (by simp) fun _ H => ?_; simp only [List.nil_append, List.cons_append, List.set_cons_zero, List.set_cons_succ, Nat.zero_add] at H)
  iterate 2 refine H.ld 0 rfl rfl ?_
  iterate 2 (refine H.st 1 rfl (by simp) fun _ H => ?_; simp only [List.nil_append, List.cons_append, List.set_cons_zero, List.set_cons_succ, Nat.zero_add] at H)
  iterate 2 refine H.ld 1 rfl rfl ?_
  exact ⟨rfl, H.ext⟩
theorem take_fold {s : List UInt8} {i : Nat} (h : i < s.length) (p : Nat × Nat) : (s.take (i + 1)).foldl ad1 p = ad1 ((s.take i).foldl ad1 p) (s.getD i 0) := by
  rw [List.take_add_one, List.getElem?_eq_getElem h, List.foldl_append, List.getD_eq_getElem?_getD, List.getElem?_eq_getElem h]
  rfl
/-- foliant/zlib.More -/
theorem c_More {was : Nat} (hw : was < 4294967296) {S : ByteArray} (hs : S.size ≤ 4294967296) (w : World) : C12 (was : Int) S w fun r w1 => r = ((adler was S.data.toList : Nat) : Int) ∧ Ext (fun _ => False) w w1 := by
  have hsz : S.data.toList.length = S.size := (size_list S).symm
  refine T12 _ _ _ _ ?_
  unfold S12
  refine (Hn.start w).nw fun w3 H => ?_
  simp only [List.nil_append] at H
  have e1 : Int.tmod (iand .u32 (was : Int) 65535) 65521 = ((was % 65536 % 65521 : Nat) : Int) := by
    have := iand_u32 (x := was) (y := 65535) (by omega) (by decide)
    rw [show (65535 : Int) = ((65535 : Nat) : Int) from rfl, this, show (65535 : Nat) = 2 ^ 16 - 1 by decide, Nat.and_two_pow_sub_one_eq_mod]
    exact tmodN _ 65521
  have e2 : Int.tmod (Int.fdiv (was : Int) (2 ^ 16)) 65521 = ((was / 65536 % 65521 : Nat) : Int) := by
    rw [fdiv_pow, show (2 : Int) ^ 16 = ((65536 : Nat) : Int) by decide, ← Int.natCast_ediv]
    exact tmodN _ 65521
  rw [e1, e2]
  iterate 2 (refine H.st 0 rfl (by simp) fun _ H => ?_; simp only [List.nil_append, List.cons_append, List.set_cons_zero, List.set_cons_succ, Nat.zero_add] at H)
  refine ⟨fun m i' w5 => ∃ i : Nat, i' = (i : Int) ∧ i ≤ S.size ∧ m = S.size - i ∧ Hn w w5 [(w.heap.size, [.int .u32 (((S.data.toList.take i).foldl ad1 (ad0 was)).1 : Int), .int .u32 (((S.data.toList.take i).foldl ad1 (ad0 was)).2 : Int)], 48)], S.size, ⟨0, rfl, Nat.zero_le _, rfl, H⟩, ?_⟩
  rintro m i' w5 ⟨i, rfl, hi, rfl, H⟩
  unfold S12L1
  have hlt := ad_lt (S.data.toList.take i) _ (ad0_lt was)
  refine Br.dec (fun q => ?_) fun q => ?_
  · have H := H.drew
    iterate 2 refine H.ld 0 rfl rfl ?_
    refine ⟨by omega, by omega, ?_⟩
    have htf := take_fold (s := S.data.toList) (i := i) (by omega) (ad0 was)
    refine (c_by hlt (S.data.toList.getD i 0) (bAt_list S i) _).mono ?_
    rintro r w6 ⟨rfl, e6⟩
    have H := H.keep e6
    iterate 2 (refine H.st 0 rfl (by simp) fun _ H => ?_; simp only [List.nil_append, List.cons_append, List.set_cons_zero, List.set_cons_succ, Nat.zero_add] at H)
    refine ⟨S.size - (i + 1), by omega, i + 1, by rw [i64_id (by omega)]; rfl, by omega, rfl, ?_⟩
    rw [htf]
    exact H
  · have : i = S.size := by omega
    subst this
    rw [List.take_of_length_le (by omega)] at H hlt
    iterate 2 refine H.ld 0 rfl rfl ?_
    refine ⟨?_, H.ext⟩
    have hn : (((S.data.toList.foldl ad1 (ad0 was)).2 : Nat) : Int) * 2 ^ 16 = (((S.data.toList.foldl ad1 (ad0 was)).2 * 65536 : Nat) : Int) := by
      rw [show (2 : Int) ^ 16 = 65536 by decide]; simp
    rw [hn, u32_id (by omega), ior_u32 (by omega) (by omega), show (65536 : Nat) = 2 ^ 16 by decide, Nat.mul_comm, ← Nat.two_pow_add_eq_or_of_lt (by omega)]
    unfold adler adN
    rw [show (2 : Nat) ^ 16 = 65536 by decide, Nat.mul_comm]
theorem c_Sum {S : ByteArray} (hs : S.size ≤ 4294967296) (w : World) : C11 S w fun r w1 => r = ((adler 1 S.data.toList : Nat) : Int) ∧ Ext (fun _ => False) w w1 := by
  refine T11 _ _ _ ?_
  unfold S11
  exact (c_More (was := 1) (by decide) hs w).mono fun r w1 h => h
theorem r_More {was : Nat} (hw : was < 4294967296) {S : ByteArray} (hs : S.size ≤ 4294967296) (w : World) : C33 (was : Int) S w fun r w1 => r = ((adler was S.data.toList : Nat) : Int) ∧ Ext (fun _ => False) w w1 := by
  have hsz : S.data.toList.length = S.size := (size_list S).symm
  refine T33 _ _ _ _ ?_
  unfold S33
  have e1 : Int.tmod (Int.tmod (was : Int) 65536) 65521 = ((was % 65536 % 65521 : Nat) : Int) := by
    rw [show Int.tmod (was : Int) 65536 = ((was % 65536 : Nat) : Int) from tmodN was 65536]
    exact tmodN _ 65521
  have e2 : Int.tmod (IntKind.u32.wrap (Int.tdiv (was : Int) 65536)) 65521 = ((was / 65536 % 65521 : Nat) : Int) := by
    rw [Int.tdiv_eq_ediv_of_nonneg (by omega), show (65536 : Int) = ((65536 : Nat) : Int) from rfl, ← Int.natCast_ediv, u32_id (by omega)]
    exact tmodN _ 65521
  rw [e1, e2]
  refine ⟨fun m st w5 => ∃ i : Nat, st = ((((S.data.toList.take i).foldl ad1 (ad0 was)).1 : Int), (((S.data.toList.take i).foldl ad1 (ad0 was)).2 : Int), (i : Int)) ∧ i ≤ S.size ∧ m = S.size - i ∧ w5 = w, S.size, ⟨0, rfl, Nat.zero_le _, rfl, rfl⟩, ?_⟩
  rintro m st w5 ⟨i, rfl, hi, rfl, rfl⟩
  unfold S33L1
  have hlt := ad_lt (S.data.toList.take i) _ (ad0_lt was)
  dsimp only
  refine Br.dec (fun q => ?_) fun q => ?_
  · have htf := take_fold (s := S.data.toList) (i := i) (by omega) (ad0 was)
    generalize (S.data.toList.take i).foldl ad1 (ad0 was) = p at hlt htf ⊢
    have hx := (S.data.toList.getD i 0).toNat_lt
    have e3 : Int.tmod (IntKind.u32.wrap ((p.1 : Int) + IntKind.u32.wrap (bAt S (i : Int)))) 65521 = (((p.1 + (S.data.toList.getD i 0).toNat) % 65521 : Nat) : Int) := by
      rw [bAt_list, u32_id (n := ((S.data.toList.getD i 0).toNat : Int)) (by omega), u32_id (by omega)]
      exact tmodN (p.1 + (S.data.toList.getD i 0).toNat) 65521
    have m1 : (p.1 + (S.data.toList.getD i 0).toNat) % 65521 < 65521 := Nat.mod_lt _ (by decide)
    rw [e3, u32_id (n := (p.2 : Int) + _) (by omega)]
    refine ⟨by omega, by omega, Lt.of ?_⟩
    have e4 : Int.tmod ((p.2 : Int) + (((p.1 + (S.data.toList.getD i 0).toNat) % 65521 : Nat) : Int)) 65521 = (((p.2 + (p.1 + (S.data.toList.getD i 0).toNat) % 65521) % 65521 : Nat) : Int) := tmodN (p.2 + (p.1 + (S.data.toList.getD i 0).toNat) % 65521) 65521
    rw [e4]
    exact ⟨S.size - (i + 1), by omega, i + 1, by rw [i64_id (by omega), htf]; rfl, by omega, rfl, rfl⟩
  · have : i = S.size := by omega
    subst this
    rw [List.take_of_length_le (by omega)] at hlt ⊢
    refine ⟨?_, Ext.refl _ _⟩
    rw [u32_id (n := 65536 * _) (by omega), u32_id (by omega)]
    unfold adler adN
    omega
theorem r_Sum {S : ByteArray} (hs : S.size ≤ 4294967296) (w : World) : C18 S w fun r w1 => r = ((adler 1 S.data.toList : Nat) : Int) ∧ Ext (fun _ => False) w w1 := by
  refine T18 _ _ _ ?_
  unfold S18
  exact (r_More (was := 1) (by decide) hs w).mono fun r w1 h => h
end Inf
end Go.Proofs.YtjkoafjnmkchdaaGreatDoor

/- Zlib: wrapping and unwrapping. Conditions: sizes; the laid variables. -/
namespace Go.Proofs.YtjkoafjnmkchdaaGreatDoor
namespace Inf
open Sh Bit
set_option linter.unusedVariables false
set_option linter.unusedSimpArgs false
set_option maxRecDepth 4000
set_option maxHeartbeats 1000000
attribute [local irreducible] Ld St Nw Nn Lt LdS
theorem eqL (a b : ByteArray) : (a.toList == b.toList) = decide (a.data.toList = b.data.toList) := by
  rw [ByteArray.toList_eq, ByteArray.toList_eq]
  by_cases h : a.data.toList = b.data.toList
  · rw [decide_eq_true h]
    simpa using h
  · rw [decide_eq_false h]
    simpa using h
theorem mk_list (l : List UInt8) : (⟨l.toArray⟩ : ByteArray).data.toList = l := by simp
theorem app_mk (a b : List UInt8) : (⟨a.toArray⟩ : ByteArray) ++ ⟨b.toArray⟩ = ⟨(a ++ b).toArray⟩ := ba_ext (by rw [ByteArray.data_append, Array.toList_append])
theorem app_list (a b : ByteArray) : (a ++ b).data.toList = a.data.toList ++ b.data.toList := by rw [ByteArray.data_append, Array.toList_append]
theorem of_list (s : ByteArray) : (⟨s.data.toList.toArray⟩ : ByteArray) = s := ba_ext (by simp)
/-! ### The four bytes -/
def fourL (n : Nat) : List UInt8 := [UInt8.ofNat (n / 16777216), UInt8.ofNat (n / 65536), UInt8.ofNat (n / 256), UInt8.ofNat n]
theorem u8w (n : Nat) : IntKind.u8.wrap (n : Int) = ((UInt8.ofNat n).toNat : Int) := by
  unfold IntKind.wrap
  simp [IntKind.bits, IntKind.signed]
theorem fd24 (n : Nat) : Int.fdiv (n : Int) (2 ^ 24) = ((n / 16777216 : Nat) : Int) := by
  rw [fdiv_pow, show (2 : Int) ^ 24 = ((16777216 : Nat) : Int) by decide, ← Int.natCast_ediv]
theorem fd16 (n : Nat) : Int.fdiv (n : Int) (2 ^ 16) = ((n / 65536 : Nat) : Int) := by
  rw [fdiv_pow, show (2 : Int) ^ 16 = ((65536 : Nat) : Int) by decide, ← Int.natCast_ediv]
theorem fd8 (n : Nat) : Int.fdiv (n : Int) (2 ^ 8) = ((n / 256 : Nat) : Int) := by
  rw [fdiv_pow, show (2 : Int) ^ 8 = ((256 : Nat) : Int) by decide, ← Int.natCast_ediv]
theorem c_four {n : Nat} (w : World) : C15 (n : Int) w fun r w1 => r = ⟨(fourL n).toArray⟩ ∧ Ext (fun _ => False) w w1 := by
  refine T15 _ _ _ ?_
  unfold S15
  rw [fd24, fd16, fd8, u8w, u8w, u8w, u8w]
  refine Nw.of ?_
  have e1 := (Ext.refl (fun _ => False) w).alloc (.cells (bcs (fourL n)).toArray 5)
  have R1 : BRow (w.alloc (.cells (bcs (fourL n)).toArray 5)) ⟨some ⟨w.heap.size, 0, none⟩, 4, 4⟩ (fourL n) := Row.new w (bcs (fourL n)).toArray 5 1 4 rfl
  exact ⟨_, _, str_row R1, rfl, e1⟩
theorem c_byte1 (b : UInt8) (w : World) : ∃ w1, RunV Tryz.prog (convert 29 9 (Slc.v (⟨some ⟨w.heap.size, 0, none⟩, 1, 1⟩ : Slc))) (w.alloc (.cells #[.int .u8 (b.toNat : Int)] 5)) (.string ⟨#[b]⟩) w1 ∧ Ext (fun _ => False) w w1 := by
  have e1 := (Ext.refl (fun _ => False) w).alloc (.cells (bcs [b]).toArray 5)
  have R1 : BRow (w.alloc (.cells (bcs [b]).toArray 5)) ⟨some ⟨w.heap.size, 0, none⟩, 1, 1⟩ [b] := Row.new w (bcs [b]).toArray 5 1 1 rfl
  exact ⟨_, str_row R1, e1⟩
theorem fourL_len (n : Nat) : (fourL n).length = 4 := rfl
/-! ### The head -/
def headE (a b : Nat) : Int := if a % 16 ≠ 8 then 3 else if 7 < a / 16 then 3 else if (256 * a + b) % 31 ≠ 0 then 3 else if b / 32 % 2 ≠ 0 then 3 else 0
theorem headE_or (a b : Nat) : headE a b = 0 ∨ headE a b = 3 := by
  unfold headE
  repeat' split
  all_goals first | exact .inl rfl | exact .inr rfl
def beginsE (s : ByteArray) : Int := if s.size < 2 then 4 else headE (s.data.toList.getD 0 0).toNat (s.data.toList.getD 1 0).toNat
theorem and32 : ∀ b : Nat, b < 256 → b &&& 32 = b / 32 % 2 * 32 := by decide +kernel
theorem and15 : ∀ b : Nat, b < 256 → b &&& 15 = b % 16 := by decide +kernel
theorem c_begins (s : ByteArray) (w : World) : C13 s w fun r w1 => r = beginsE s ∧ Ext (fun _ => False) w w1 := by
  refine T13 _ _ _ ?_
  unfold S13
  refine Br.dec (fun q => ⟨by unfold beginsE; rw [if_pos (by omega)], Ext.refl _ _⟩) fun q => ⟨by decide, by omega, by decide, by omega, ?_⟩
  have e : beginsE s = headE (s.data.toList.getD 0 0).toNat (s.data.toList.getD 1 0).toNat := by unfold beginsE; rw [if_neg (by omega)]
  have h0 : bAt s 0 = (((s.data.toList.getD 0 0).toNat : Nat) : Int) := bAt_list s 0
  have h1 : bAt s 1 = (((s.data.toList.getD 1 0).toNat : Nat) : Int) := bAt_list s 1
  rw [e, h0, h1]
  have l0 := (s.data.toList.getD 0 0).toNat_lt
  have l1 := (s.data.toList.getD 1 0).toNat_lt
  generalize (s.data.toList.getD 0 0).toNat = a at *
  generalize (s.data.toList.getD 1 0).toNat = b at *
  have l0 : a < 256 := l0
  have l1 : b < 256 := l1
  rw [i64_id (n := (a : Int)) (by omega), i64_id (n := (b : Int)) (by omega)]
  have a1 : iand .i64 (a : Int) 15 = ((a % 16 : Nat) : Int) := by rw [show (15 : Int) = ((15 : Nat) : Int) from rfl, iand_nat (by omega) (by decide), and15 a l0]
  have a2 : Int.fdiv (a : Int) (2 ^ 4) = ((a / 16 : Nat) : Int) := by rw [fdiv_pow, show (2 : Int) ^ 4 = ((16 : Nat) : Int) by decide, ← Int.natCast_ediv]
  have a3 : ior .i64 (IntKind.i64.wrap ((a : Int) * 2 ^ 8)) (b : Int) = ((256 * a + b : Nat) : Int) := by
    rw [show (a : Int) * 2 ^ 8 = ((a * 2 ^ 8 : Nat) : Int) by simp, i64_id (by omega), ior_nat (by omega) (by omega), Nat.or_comm, or_shift (by omega)]
    omega
  have a4 : iand .i64 (b : Int) 32 = ((b / 32 % 2 * 32 : Nat) : Int) := by rw [show (32 : Int) = ((32 : Nat) : Int) from rfl, iand_nat (by omega) (by decide), and32 b l1]
  have hd := (Ext.refl (fun _ => False) w).drew
  rw [a1, a2, a3, a4]
  unfold headE
  refine Br.ne (fun h => ⟨(if_pos (by omega)).symm, hd⟩) fun h => ?_
  rw [if_neg (by omega)]
  refine Br.dec (fun h => ⟨(if_pos (by omega)).symm, hd⟩) fun h => ?_
  rw [if_neg (by omega)]
  refine Lt.of ?_
  have a5 : Int.tmod (((256 * a + b : Nat) : Int)) 31 = (((256 * a + b) % 31 : Nat) : Int) := tmodN _ 31
  rw [a5]
  refine Br.ne (fun h => ⟨(if_pos (by omega)).symm, hd⟩) fun h => ?_
  rw [if_neg (by omega)]
  refine Br.ne (fun h => ⟨(if_pos (by omega)).symm, hd⟩) fun h => ?_
  rw [if_neg (by omega)]
  exact ⟨rfl, hd⟩
/-! ### Wrap -/
def wrapT (T s : List UInt8) : List UInt8 := [120, 156] ++ (T ++ fourL (adler 1 s))
def WrapR (S : ByteArray) (lv : Int) (w : World) (r : ByteArray) (e : Int) (w1 : World) : Prop :=
  e = 0 ∧ (∃ T : List UInt8, r = ⟨(wrapT T S.data.toList).toArray⟩ ∧ Gives T S.data.toList ∧ T.length ≤ S.size + 5 ∧ (lv = 0 → T.length = S.size + 5) ∧ AllOf S.data.toList lv T) ∧ Ext (fun _ => False) w w1
theorem c_AllBad {S : ByteArray} {lv : Int} (h : lv < 0 ∨ 2 < lv) (w : World) : C19 S lv w (fun r e w1 => r = ⟨#[]⟩ ∧ e = 1 ∧ Ext (fun _ => False) w w1) (fun _ _ => False) := by
  refine T19 _ _ _ _ _ ?_
  unfold S19
  refine Br.dec (fun q => ⟨rfl, rfl, Ext.refl _ _⟩) fun q1 => Br.dec (fun q => ⟨rfl, rfl, Ext.refl _ _⟩) fun q2 => absurd h (by omega)
theorem c_Wrap {S : ByteArray} (hs : S.size ≤ 65535) {lv : Int} (h0 : 0 ≤ lv) (h2 : lv ≤ 2) (w : World) : C8 S lv w (fun r e w1 => WrapR S lv w r e w1) (fun _ _ => False) := by
  refine T8 _ _ _ _ _ ?_
  unfold S8
  refine (c_AllW hs h0 h2 w).mono ?_ fun _ _ h => h
  rintro r e w5 ⟨rfl, ⟨T, rfl, g, h1, h3, h4⟩, e5⟩
  have hmax : IntKind.i64.max = 9223372036854775807 := rfl
  have hs2 : (⟨#[120, 156]⟩ : ByteArray).size = 2 := rfl
  refine Br.ne (fun h => (h rfl).elim) fun _ => ⟨by rw [hmax, hs2, size_mk]; omega, ?_⟩
  refine (c_Sum (S := S) (by omega) w5).mono ?_
  rintro r6 w7 ⟨rfl, e7⟩
  refine (c_four w7).mono ?_
  rintro r8 w9 ⟨rfl, e9⟩
  refine ⟨by rw [hmax, ByteArray.size_append, hs2, size_mk, size_mk, fourL_len]; omega, rfl, ⟨T, ?_, g, h1, h3, h4⟩, (e5.tr e7).tr e9⟩
  refine ba_ext ?_
  rw [app_list, app_list, mk_list, mk_list, mk_list]
  exact List.append_assoc _ _ _
theorem c_WrapBad {S : ByteArray} {lv : Int} (h : lv < 0 ∨ 2 < lv) (w : World) : C8 S lv w (fun r e w1 => r = ⟨#[]⟩ ∧ e = 1 ∧ Ext (fun _ => False) w w1) (fun _ _ => False) := by
  refine T8 _ _ _ _ _ ?_
  unfold S8
  refine (c_AllBad h w).mono ?_ fun _ _ h => h
  rintro r e w5 ⟨rfl, rfl, e5⟩
  exact Br.ne (fun h => ⟨rfl, rfl, e5⟩) fun h => by cases h
/-! ### Unwrap -/
def unwrapF (s : ByteArray) (most : Int) : ByteArray × Int :=
  if beginsE s ≠ 0 then (⟨#[]⟩, beginsE s) else
  if (allR (s.extract 2 s.size) most).2.2 ≠ 0 then (⟨#[]⟩, (allR (s.extract 2 s.size) most).2.2) else
  if (s.size : Int) - 2 - (allR (s.extract 2 s.size) most).2.1 < 4 then (⟨#[]⟩, 4) else
  if ((s.data.toList.drop 2).drop (allR (s.extract 2 s.size) most).2.1.toNat).take 4 = fourL (adler 1 (allR (s.extract 2 s.size) most).1.data.toList) then ((allR (s.extract 2 s.size) most).1, 0) else (⟨#[]⟩, 12)
theorem allR_small {s : ByteArray} {most : Int} {d : ByteArray} {n : Int} (h : (d, n, 0) = allR s most) : d.size ≤ 1048576 := by
  by_cases hm : most < 0
  · unfold allR at h
    rw [if_pos hm] at h
    cases h
  · have e : allR s most = allR s (min most 1048576) := by
      rw [allR_Q (by omega), allR_Q (by omega), show min (min most 1048576) 1048576 = min most 1048576 by omega]
    rw [e] at h
    obtain ⟨u, _, _, _, u3, _, _⟩ := ends_plain h
    omega
theorem begins_two {s : ByteArray} (h : beginsE s = 0) : 2 ≤ s.size := by
  unfold beginsE at h
  split at h
  · cases h
  · omega
theorem c_Unwrap {s : ByteArray} (hs : s.size ≤ 1000000) {N : Nat} {w : World} (hL : Laid N w) (m : Int) : C6 s m w fun d e w1 => (d, e) = unwrapF s m ∧ Ext (fun _ => False) w w1 := by
  have hsz : s.data.toList.length = s.size := (size_list s).symm
  refine T6 _ _ _ _ ?_
  unfold S6
  refine (c_begins s w).mono ?_
  rintro r5 w6 ⟨rfl, e6⟩
  unfold unwrapF
  refine Br.ne (fun h => ⟨(if_pos h).symm, e6⟩) fun h => ?_
  rw [if_neg (fun k => k h)]
  have h2 := begins_two h
  refine ⟨by decide, by omega, ?_⟩
  have e2 : ((2 : Int)).toNat = 2 := rfl
  rw [e2]
  have hx : (s.extract 2 s.size).size = s.size - 2 := by rw [ByteArray.size_extract]; omega
  have hxl : (s.extract 2 s.size).data.toList = s.data.toList.drop 2 := extract_drop s 2
  generalize s.extract 2 s.size = x at *
  refine (c_All (s := x) (by omega) (hL.to e6) m).mono ?_
  rintro t n e w10 ⟨hR, e10⟩
  rw [← hR]
  dsimp only
  refine Br.ne (fun h => ⟨(if_pos h).symm, e6.tr e10⟩) fun h => ?_
  subst h
  rw [if_neg (fun k => k rfl)]
  have ht := allR_small hR
  obtain ⟨u, rfl, u1, u2, u3, _, _⟩ := ends_plain hR
  rw [i64_id (n := ((x.size : Nat) : Int) - (u : Int)) (by omega)]
  refine Lt.of ?_
  refine Br.dec (fun q => ⟨(if_pos (by omega)).symm, e6.tr e10⟩) fun q => ?_
  rw [if_neg (by omega)]
  have ew : IntKind.i64.wrap ((u : Int) + 4) = ((u + 4 : Nat) : Int) := i64_id (by omega)
  rw [ew, Int.toNat_natCast, Int.toNat_natCast]
  refine ⟨by omega, by omega, by omega, by omega, ?_⟩
  refine (c_Sum (S := t) (by omega) _).mono ?_
  rintro r12 w13 ⟨rfl, e13⟩
  refine (c_four _).mono ?_
  rintro r14 w15 ⟨rfl, e15⟩
  have E := (((e6.tr e10).drew).tr e13).tr e15
  have hex : (x.extract u (u + 4)).data.toList = ((s.data.toList.drop 2).drop u).take 4 := by
    rw [extract_list, hxl, show u + 4 - u = 4 by omega]
  rw [eqL, hex, mk_list]
  by_cases hq : ((s.data.toList.drop 2).drop u).take 4 = fourL (adler 1 t.data.toList)
  · rw [if_pos hq]
    exact Br.f (by rw [decide_eq_true hq]; rfl) ⟨rfl, E⟩
  · rw [if_neg hq]
    exact Br.t (by rw [decide_eq_false hq]; rfl) ⟨rfl, E⟩
/-! ### Plain -/
theorem unwrap_at {T out R : List UInt8} {a b : UInt8} (h : headE a.toNat b.toNat = 0) (g : Gives T out) (hb : out.length ≤ 1048576) {most : Int} (hm : (out.length : Int) ≤ most) :
    unwrapF ⟨(a :: b :: (T ++ R)).toArray⟩ most = if R.length < 4 then (⟨#[]⟩, 4) else if R.take 4 = fourL (adler 1 out) then (⟨out.toArray⟩, 0) else (⟨#[]⟩, 12) := by
  have hsz : (⟨(a :: b :: (T ++ R)).toArray⟩ : ByteArray).size = 2 + T.length + R.length := by rw [size_mk]; simp; omega
  have hbg : beginsE ⟨(a :: b :: (T ++ R)).toArray⟩ = 0 := by
    unfold beginsE
    rw [if_neg (by omega), mk_list]
    exact h
  have hex : (⟨(a :: b :: (T ++ R)).toArray⟩ : ByteArray).extract 2 (⟨(a :: b :: (T ++ R)).toArray⟩ : ByteArray).size = ⟨T.toArray⟩ ++ ⟨R.toArray⟩ := by
    refine ba_ext ?_
    rw [extract_drop, app_list, mk_list, mk_list, mk_list]
    rfl
  have hR := g.allR hb hm
  obtain ⟨u, hu, _, _, _, hplain, _⟩ := ends_plain hR.symm
  have hu : u = T.length := by omega
  subst hu
  have hT : (⟨T.toArray⟩ : ByteArray).extract 0 T.length = ⟨T.toArray⟩ := ba_ext (by rw [extract_list]; simp)
  have hall := hplain ⟨R.toArray⟩ 0 (by decide)
  rw [hT, Int.add_zero] at hall
  unfold unwrapF
  rw [hbg, if_neg (fun k => k rfl), hex, hall, hsz, mk_list]
  dsimp only
  rw [if_neg (fun k => k rfl)]
  by_cases hl : R.length < 4
  · have hne : ((2 + T.length + R.length : Nat) : Int) - 2 - ((T.length : Nat) : Int) < 4 := by omega
    rw [if_pos hl, if_pos hne]
  · have hne : ¬ ((2 + T.length + R.length : Nat) : Int) - 2 - ((T.length : Nat) : Int) < 4 := by omega
    have : List.drop T.length (List.drop 2 (a :: b :: (T ++ R))) = R := by simp
    rw [if_neg hl, if_neg hne, Int.toNat_natCast, this]
theorem unwrap_head {l : List UInt8} {a b : UInt8} (h : headE a.toNat b.toNat ≠ 0) (most : Int) : unwrapF ⟨(a :: b :: l).toArray⟩ most = (⟨#[]⟩, 3) := by
  have hbg : beginsE ⟨(a :: b :: l).toArray⟩ = 3 := by
    unfold beginsE
    rw [if_neg (by rw [size_mk]; simp), mk_list]
    exact (headE_or _ _).resolve_left h
  unfold unwrapF
  rw [hbg, if_pos (by decide)]
end Inf
end Go.Proofs.YtjkoafjnmkchdaaGreatDoor

/- Zlib: the sample, the sums, a spoilt sum. Conditions: sizes; the laid variables. -/
namespace Go.Proofs.YtjkoafjnmkchdaaGreatDoor
namespace Inf
open Sh Bit
set_option linter.unusedVariables false
set_option linter.unusedSimpArgs false
set_option maxRecDepth 4000
set_option maxHeartbeats 1000000
attribute [local irreducible] Ld St Nw Nn Lt LdS
def Wiki : List UInt8 := [87, 105, 107, 105, 112, 101, 100, 105, 97]
theorem adWiki : fourL (adler 1 Wiki) = [17, 230, 3, 152] := by decide +kernel
theorem adWiki2 : adler 1 Wiki = 300286872 := by decide +kernel
theorem adNone : adler 1 [] = 1 := by decide +kernel
theorem h156 : headE (120 : UInt8).toNat (156 : UInt8).toNat = 0 := by decide +kernel
theorem h157 : headE (120 : UInt8).toNat (157 : UInt8).toNat = 3 := by decide +kernel
theorem un1 : unwrapF ⟨#[120]⟩ 9 = (⟨#[]⟩, 4) := by
  unfold unwrapF
  have h : beginsE ⟨#[120]⟩ = 4 := by decide +kernel
  rw [h, if_pos (by decide)]
theorem un2 : unwrapF ⟨#[120, 157]⟩ 9 = (⟨#[]⟩, 3) := unwrap_head (l := []) (a := 120) (b := 157) (by rw [h157]; decide) 9
theorem z_lives {N : Nat} {w : World} (hL : Laid N w) : C5 w (fun r w1 => r = true ∧ Ext (fun _ => False) w w1) (fun _ _ => False) := by
  have hmax : IntKind.i64.max = 9223372036854775807 := rfl
  have sW : (⟨#[87, 105, 107, 105, 112, 101, 100, 105, 97]⟩ : ByteArray).size = 9 := rfl
  have lW : (⟨#[87, 105, 107, 105, 112, 101, 100, 105, 97]⟩ : ByteArray).data.toList = Wiki := rfl
  refine T5 _ _ _ ?_
  unfold S5
  refine (c_Wrap (S := ⟨#[87, 105, 107, 105, 112, 101, 100, 105, 97]⟩) (by decide) (lv := 0) (by decide) (by decide) w).mono ?_ fun _ _ h => h
  rintro r e w3 ⟨rfl, ⟨T, rfl, g, h1, h3, _⟩, e3⟩
  rw [sW] at h1 h3
  rw [lW] at g
  rw [lW]
  have hT := h3 rfl
  have hw : wrapT T Wiki = 120 :: 156 :: (T ++ [17, 230, 3, 152]) := by unfold wrapT; rw [adWiki]; rfl
  rw [hw]
  have hsz : (⟨(120 :: 156 :: (T ++ [17, 230, 3, 152])).toArray⟩ : ByteArray).size = 20 := by rw [size_mk]; simp; omega
  have s1 : (⟨#[120]⟩ : ByteArray).size = 1 := rfl
  refine ⟨by rw [hmax, hsz, s1]; decide, ?_⟩
  have hap : (⟨(120 :: 156 :: (T ++ [17, 230, 3, 152])).toArray⟩ : ByteArray) ++ ⟨#[120]⟩ = ⟨(120 :: 156 :: (T ++ [17, 230, 3, 152, 120])).toArray⟩ := by
    refine ba_ext ?_
    rw [app_list, mk_list, mk_list]
    simp
  rw [hap]
  have hw1 : unwrapF ⟨(120 :: 156 :: (T ++ [17, 230, 3, 152, 120])).toArray⟩ 9 = (⟨Wiki.toArray⟩, 0) := by
    rw [unwrap_at h156 g (by decide) (by decide), if_neg (by decide), adWiki, if_pos (by decide)]
  refine (c_Unwrap (s := ⟨(120 :: 156 :: (T ++ [17, 230, 3, 152, 120])).toArray⟩) (by rw [size_mk]; simp; omega) (hL.to e3) 9).mono ?_
  rintro r4 r5 w6 ⟨h, e6⟩
  rw [hw1] at h
  obtain ⟨rfl, rfl⟩ := Prod.mk.inj h
  have E6 := e3.tr e6
  refine (c_Unwrap (s := ⟨#[120]⟩) (by decide) (hL.to E6) 9).mono ?_
  rintro r7 r8 w9 ⟨h, e9⟩
  rw [un1] at h
  obtain ⟨rfl, rfl⟩ := Prod.mk.inj h
  have E9 := E6.tr e9
  refine (c_Unwrap (s := ⟨#[120, 157]⟩) (by decide) (hL.to E9) 9).mono ?_
  rintro r10 r11 w12 ⟨h, e12⟩
  rw [un2] at h
  obtain ⟨rfl, rfl⟩ := Prod.mk.inj h
  have E12 := E9.tr e12
  refine (c_WrapBad (S := ⟨#[97]⟩) (lv := 3) (.inr (by decide)) w12).mono ?_ fun _ _ h => h
  rintro r13 r14 w15 ⟨rfl, rfl, e15⟩
  refine (c_Sum (S := ⟨#[]⟩) (by decide) w15).mono ?_
  rintro r16 w17 ⟨rfl, e17⟩
  refine Br.eq (fun _ => ?_) fun h => absurd (by rw [show (⟨#[]⟩ : ByteArray).data.toList = [] from rfl, adNone]; rfl) h
  refine (c_Sum (S := ⟨#[87, 105, 107, 105, 112, 101, 100, 105, 97]⟩) (by decide) w17).mono ?_
  rintro r18 w19 ⟨rfl, e19⟩
  refine Br.eq (fun _ => ?_) fun h => absurd (by rw [lW, adWiki2]; rfl) h
  refine (c_More (was := 1) (by decide) (S := ⟨#[87, 105, 107, 105]⟩) (by decide) w19).mono ?_
  rintro r20 w21 ⟨rfl, e21⟩
  refine (c_Sum (S := ⟨#[87, 105, 107, 105]⟩) (by decide) w21).mono ?_
  rintro r22 w23 ⟨rfl, e23⟩
  have E := ((((E12.tr e15).tr e17).tr e19).tr e21).tr e23
  rw [hsz]
  have x1 : ((⟨(120 :: 156 :: (T ++ [17, 230, 3, 152])).toArray⟩ : ByteArray).extract 0 ((2 : Int)).toNat).data.toList = [120, 156] := by rw [extract_list, mk_list]; rfl
  have x2 : ((⟨(120 :: 156 :: (T ++ [17, 230, 3, 152])).toArray⟩ : ByteArray).extract ((16 : Int)).toNat 20).data.toList = [17, 230, 3, 152] := by
    rw [extract_list, mk_list, show ((16 : Int)).toNat = 16 from rfl]
    show List.take 4 (List.drop 14 (T ++ [17, 230, 3, 152])) = _
    rw [List.drop_append_of_le_length (by omega), List.drop_of_length_le (by omega)]
    rfl
  refine Br.t (beq_self_eq_true _) (Br.t rfl (Br.t rfl ⟨by decide, by decide, ?_⟩))
  refine Br.t (by rw [eqL, x1]; rfl) ⟨by decide, by decide, Lt.of ?_⟩
  refine Br.t (by rw [eqL, x2]; rfl) (Br.t (by rw [eqL]; rfl) (Br.t rfl (Br.t rfl (Br.t rfl ⟨rfl, E⟩))))
theorem set_mid (l : List UInt8) {i : Nat} (h : i < l.length) (c : UInt8) : l.take i ++ [c] ++ l.drop (i + 1) = l.set i c := by
  rw [List.set_eq_take_append_cons_drop, if_pos h, List.append_assoc]
  rfl
theorem four_set {n at' : Nat} (h : at' < 4) (c : UInt8) : ((fourL n).set at' c = fourL n ↔ (fourL n).getD at' 0 = c) := by
  constructor
  · intro e
    have := congrArg (fun l => l.getD at' 0) e
    rw [← this, List.getD_eq_getElem?_getD, List.getElem?_set_self (by rw [fourL_len]; exact h)]
    rfl
  · intro e
    subst e
    refine List.ext_getElem? fun j => ?_
    by_cases hj : at' = j
    · subst hj
      rw [List.getElem?_set_self (by rw [fourL_len]; exact h), List.getD_eq_getElem?_getD, List.getElem?_eq_getElem (by rw [fourL_len]; exact h)]
      rfl
    · rw [List.getElem?_set_ne hj]
end Inf
end Go.Proofs.YtjkoafjnmkchdaaGreatDoor

/- Zlib: the reference's Unwrap. Conditions: sizes; the laid variables. -/
namespace Go.Proofs.YtjkoafjnmkchdaaGreatDoor
namespace Inf
open Sh Bit
set_option linter.unusedVariables false
set_option linter.unusedSimpArgs false
set_option maxRecDepth 4000
set_option maxHeartbeats 1000000
attribute [local irreducible] Ld St Nw Nn Lt LdS
theorem rz_four {n : Nat} (w : World) : C17 (n : Int) w fun r w1 => r = ⟨(fourL n).toArray⟩ ∧ Ext (fun _ => False) w w1 := by
  refine T17 _ _ _ ?_
  unfold S17
  rw [fd24, fd16, fd8, u8w, u8w, u8w, u8w]
  refine Nw.of ?_
  have e1 := (Ext.refl (fun _ => False) w).alloc (.cells (bcs (fourL n)).toArray 5)
  have R1 : BRow (w.alloc (.cells (bcs (fourL n)).toArray 5)) ⟨some ⟨w.heap.size, 0, none⟩, 4, 4⟩ (fourL n) := Row.new w (bcs (fourL n)).toArray 5 1 4 rfl
  exact ⟨_, _, str_row R1, rfl, e1⟩
theorem unwrapF_bad {s : ByteArray} {m x : Int} (h : beginsE s = x) (hx : x ≠ 0) : unwrapF s m = (⟨#[]⟩, x) := by
  unfold unwrapF
  rw [h, if_pos hx]
theorem iand_u8n {x y : Nat} (hx : x < 2 ^ 8) (hy : y < 2 ^ 8) : iand .u8 (x : Int) (y : Int) = ((x &&& y : Nat) : Int) := by
  unfold iand
  rw [ofInt_nat, ofInt_nat]
  have h1 : (BitVec.ofNat IntKind.u8.bits x &&& BitVec.ofNat IntKind.u8.bits y).toNat = x &&& y := by
    rw [BitVec.toNat_and, BitVec.toNat_ofNat, BitVec.toNat_ofNat, Nat.mod_eq_of_lt (by simp [IntKind.bits]; omega), Nat.mod_eq_of_lt (by simp [IntKind.bits]; omega)]
  rw [h1]
  have h2 : x &&& y < 2 ^ 8 := Nat.and_lt_two_pow x hy
  exact u8_id (by omega)
theorem r_Unwrap {s : ByteArray} (hs : s.size ≤ 1000000) (m : Int) (w : World) : C7 s m w fun d e w1 => (d, e) = unwrapF s m ∧ Ext (fun _ => False) w w1 := by
  have hsz : s.data.toList.length = s.size := (size_list s).symm
  have hd := (Ext.refl (fun _ => False) w).drew
  refine T7 _ _ _ _ ?_
  unfold S7
  refine Br.dec (fun q => ⟨(unwrapF_bad (by unfold beginsE; rw [if_pos (by omega)]) (by decide)).symm, Ext.refl _ _⟩) fun q => ⟨by decide, by omega, ?_⟩
  have e : beginsE s = headE (s.data.toList.getD 0 0).toNat (s.data.toList.getD 1 0).toNat := by unfold beginsE; rw [if_neg (by omega)]
  have h0 : bAt s 0 = (((s.data.toList.getD 0 0).toNat : Nat) : Int) := bAt_list s 0
  have h1 : bAt s 1 = (((s.data.toList.getD 1 0).toNat : Nat) : Int) := bAt_list s 1
  rw [h0, h1]
  have l0 := (s.data.toList.getD 0 0).toNat_lt
  have l1 := (s.data.toList.getD 1 0).toNat_lt
  generalize (s.data.toList.getD 0 0).toNat = a at *
  generalize (s.data.toList.getD 1 0).toNat = b at *
  have l0 : a < 256 := l0
  have l1 : b < 256 := l1
  unfold headE at e
  have a1 : Int.tmod (a : Int) 16 = ((a % 16 : Nat) : Int) := tmodN _ 16
  have a2 : IntKind.u8.wrap (Int.tdiv (a : Int) 16) = ((a / 16 : Nat) : Int) := by
    rw [Int.tdiv_eq_ediv_of_nonneg (by omega), show (16 : Int) = ((16 : Nat) : Int) from rfl, ← Int.natCast_ediv, u8_id (by omega)]
  have a3 : IntKind.i64.wrap (IntKind.i64.wrap (256 * IntKind.i64.wrap (a : Int)) + IntKind.i64.wrap (b : Int)) = ((256 * a + b : Nat) : Int) := by
    rw [i64_id (n := (a : Int)) (by omega), i64_id (n := (b : Int)) (by omega), i64_id (n := 256 * (a : Int)) (by omega), i64_id (by omega)]
    omega
  have a4 : iand .u8 (b : Int) 32 = ((b / 32 % 2 * 32 : Nat) : Int) := by rw [show (32 : Int) = ((32 : Nat) : Int) from rfl, iand_u8n (by omega) (by decide), and32 b l1]
  rw [a1, a2, a3, a4]
  refine Br.ne (fun h => ⟨(unwrapF_bad (e.trans (if_pos (by omega))) (by decide)).symm, hd⟩) fun h => ⟨by decide, by omega, ?_⟩
  rw [if_neg (by omega)] at e
  refine Br.dec (fun h => ⟨(unwrapF_bad (e.trans (if_pos (by omega))) (by decide)).symm, hd⟩) fun h => ⟨by decide, by omega, by decide, by omega, Lt.of ?_⟩
  rw [if_neg (by omega)] at e
  have a5 : Int.tmod (((256 * a + b : Nat) : Int)) 31 = (((256 * a + b) % 31 : Nat) : Int) := tmodN _ 31
  rw [a5]
  refine Br.ne (fun h => ⟨(unwrapF_bad (e.trans (if_pos (by omega))) (by decide)).symm, hd⟩) fun h => ⟨by decide, by omega, ?_⟩
  rw [if_neg (by omega)] at e
  refine Br.ne (fun h => ⟨(unwrapF_bad (e.trans (if_pos (by omega))) (by decide)).symm, hd⟩) fun h => ⟨by decide, by omega, ?_⟩
  rw [if_neg (by omega)] at e
  unfold unwrapF
  rw [e, if_neg (fun k => k rfl)]
  have e2 : ((2 : Int)).toNat = 2 := rfl
  rw [e2]
  have hx : (s.extract 2 s.size).size = s.size - 2 := by rw [ByteArray.size_extract]; omega
  generalize hxx : s.extract 2 s.size = x at *
  refine (r_All (s := x) (by omega) m w.drew).mono ?_
  rintro t n e w10 ⟨hR, e10⟩
  rw [← hR]
  dsimp only
  have E10 := hd.tr e10
  refine Br.ne (fun h => ⟨(if_pos h).symm, E10⟩) fun h => ?_
  subst h
  rw [if_neg (fun k => k rfl)]
  have ht := allR_small hR
  obtain ⟨u, rfl, u1, u2, u3, _, _⟩ := ends_plain hR
  have ew : IntKind.i64.wrap (2 + (u : Int)) = ((2 + u : Nat) : Int) := by rw [i64_id (by omega)]; omega
  have ew4 : IntKind.i64.wrap (((2 + u : Nat) : Int) + 4) = ((2 + u + 4 : Nat) : Int) := by rw [i64_id (by omega)]; omega
  rw [ew, ew4, Int.toNat_natCast, Int.toNat_natCast, Int.toNat_natCast, i64_id (n := ((s.size : Nat) : Int) - ((2 + u : Nat) : Int)) (by omega)]
  refine Br.dec (fun q => ⟨(if_pos (by omega)).symm, E10⟩) fun q => ?_
  rw [if_neg (by omega)]
  refine ⟨by omega, by omega, by omega, by omega, ?_⟩
  refine (r_Sum (S := t) (by omega) _).mono ?_
  rintro r12 w13 ⟨rfl, e13⟩
  refine (rz_four _).mono ?_
  rintro r14 w15 ⟨rfl, e15⟩
  have E := ((E10.drew).tr e13).tr e15
  have hex : (s.extract (2 + u) (2 + u + 4)).data.toList = ((s.data.toList.drop 2).drop u).take 4 := by
    rw [extract_list, List.drop_drop, show 2 + u + 4 - (2 + u) = 4 by omega]
  rw [eqL, hex, mk_list]
  by_cases hq : ((s.data.toList.drop 2).drop u).take 4 = fourL (adler 1 t.data.toList)
  · rw [if_pos hq]
    exact Br.f (by rw [decide_eq_true hq]; rfl) ⟨rfl, E⟩
  · rw [if_neg hq]
    exact Br.t (by rw [decide_eq_false hq]; rfl) ⟨rfl, E⟩
theorem unwraps_law (S : ByteArray) (m : Int) {N : Nat} {w : World} (hL : Laid N w) : C3 S m w (fun r w1 => r = true ∧ Ext (fun _ => False) w w1) (fun _ _ => False) := by
  have live : ∀ w1, Ext (fun _ => False) w w1 → C5 w1 (fun r w2 => r = true ∧ Ext (fun _ => False) w w2) (fun _ _ => False) := fun w1 e1 =>
    (z_lives (hL.to e1)).mono (fun r w2 ⟨h, e⟩ => ⟨h, e1.tr e⟩) fun _ _ h => h
  refine T3 _ _ _ _ _ ?_
  unfold S3
  refine Br.dec (fun _ => live w (Ext.refl _ _)) fun q1 => Br.dec (fun _ => live w (Ext.refl _ _)) fun q2 => ?_
  refine (c_Unwrap (s := S) (by omega) hL m).mono ?_
  rintro d e w1 ⟨h, e1⟩
  refine (r_Unwrap (s := S) (by omega) m w1).mono ?_
  rintro d2 e2' w2 ⟨h2, e2⟩
  obtain ⟨rfl, rfl⟩ := Prod.mk.inj (h.trans h2.symm)
  exact Br.t (by simp) (Br.t (beq_self_eq_true _) (live w2 (e1.tr e2)))
end Inf
end Go.Proofs.YtjkoafjnmkchdaaGreatDoor

/- Inflate: what the laid variables give the walks. Condition: the rows' own list. -/
namespace Go.Proofs.YtjkoafjnmkchdaaGreatDoor
namespace Inf
open Sh Bit
open Go.ChangeShapes Go.WideShapes Go.ChangeAt Go.RowKit Go.WideElems Go.Maps
set_option linter.unusedVariables false
set_option linter.unusedSimpArgs false
set_option maxRecDepth 100000
theorem gOrd : Tryz.prog.globalNamed "foliant/inflate.order" = some 0 := by kernel_rfl
theorem gRep : Tryz.prog.globalNamed "foliant/inflate.repeats" = some 1 := by kernel_rfl
theorem tOrd : (Tryz.prog.globals[0]?).map (·.type) = some 108 := by kernel_rfl
theorem tRep : (Tryz.prog.globals[1]?).map (·.type) = some 159 := by kernel_rfl
theorem undInt : Tryz.prog.underlying 3 = some (.int .i64) := by kernel_rfl
theorem und19 : Tryz.prog.underlying 108 = some (.array 19 3) := by kernel_rfl
theorem undRep : Tryz.prog.underlying 159 = some (.map 3 157) := by kernel_rfl
theorem cInt : Tryz.prog.cellsOf 3 = 1 := by kernel_rfl
theorem c19 : Tryz.prog.cellsOf 108 = 19 := by kernel_rfl
theorem c2 : Tryz.prog.cellsOf 157 = 2 := by kernel_rfl
theorem undR : ∃ f0 f1 : Field, Tryz.prog.underlying 157 = some (.struct #[f0, f1]) ∧ f0.type = 3 ∧ f1.type = 3 ∧ f0.offset = 0 ∧ f1.offset = 1 := by
  refine ⟨⟨"least", 3, 0, false, "", "foliant/inflate", 0⟩, ⟨"more", 3, 1, false, "", "foliant/inflate", 8⟩, by kernel_rfl, rfl, rfl, rfl, rfl⟩
theorem zeroR (w : World) : (zeroValue 157).run Tryz.prog w = .ok (.agg #[.int .i64 0, .int .i64 0]) w := by kernel_rfl
theorem val2 {H : Type} {enc : TypeId × Value → H} {W : World} {base m : Nat} {sp : Nat → Bool} {held : Bool} {v : Value} {y : DataW H × List MemPlace} (h : elemAt enc Tryz.prog W base sp held m 157 v = some y) :
    ∃ a b : Int, v = .agg #[.int .i64 a, .int .i64 b] ∧ y.1 = .agg [.lit (.int .i64 a), .lit (.int .i64 b)] := by
  obtain ⟨f0, f1, hu, t0, t1, o0, o1⟩ := undR
  unfold elemAt at h
  split at h
  · rename_i hf
    obtain ⟨y0, y1, n, rfl, hl, h0, h1⟩ := trod_struct2 hu h
    rw [t0, o0, cInt] at h0
    rw [t1, o1, cInt] at h1
    obtain ⟨a, e0, rfl, _⟩ := DataW.trod_int undInt h0
    obtain ⟨b, e1, rfl, _⟩ := DataW.trod_int undInt h1
    refine ⟨a, b, ?_, rfl⟩
    rw [c2] at hl
    have hcs : v.cells.toList = [.int .i64 a, .int .i64 b] := by
      match hv : v.cells.toList, hl with
      | [c0, c1], _ =>
        rw [hv] at e0 e1
        simp at e0 e1
        rw [e0, e1]
    cases v with
    | agg cs =>
      have : cs.toList = [.int .i64 a, .int .i64 b] := hcs
      congr 1
      exact Array.ext' this
    | _ => simp [Value.formed, hu] at hf
  · cases h
theorem of_laid {W : World} (h : laidMetH Tryz.prog Rows.zlibUnwrapsRow.laid W) : Laid W.heap.size W := by
  have h : laidMetH Tryz.prog [("foliant/inflate.order", Rows.laid_foliant_inflate_order), ("foliant/inflate.repeats", Rows.laid_foliant_inflate_repeats)] W := h
  rw [MakeChecks.laidMetH_plain _ _ _ (by kernel_rfl)] at h
  have ht := Lib.tabIs_of_head (k := .i64) (zs := [16, 17, 18, 0, 8, 7, 9, 6, 10, 5, 11, 4, 12, 3, 13, 2, 14, 1, 15]) (rest := [("foliant/inflate.repeats", Rows.laid_foliant_inflate_repeats)]) gOrd tOrd und19 undInt cInt c19 h
  obtain ⟨ps, ⟨g0, t0, cs0, f0, p0, q0, hg0, ht0, hv0, hd0, ⟨g1, t1, cs1, f1, p1, q1, hg1, ht1, hv1, hd1, _, _⟩, _⟩, _, _⟩ := h
  obtain rfl := Option.some.inj (gRep.symm.trans hg1)
  obtain rfl := Option.some.inj (tRep.symm.trans ht1)
  rcases Go.WideElems.open_map undRep hd1 with ⟨_, hx⟩ | ⟨bm, es, clock, m, rfl, hcs, hb, _, F, hx⟩
  · simp [Rows.laid_foliant_inflate_repeats] at hx
  simp only [Prod.mk.injEq] at hx
  have hcell : W.cell? ⟨1, 0, none⟩ = some (.map (some bm)) := by
    have := World.var?_cell hg1 hv1 0
    rw [Array.eq_one_of_toList hcs] at this
    simpa using this
  have hz := cell_lt' hcell
  have hz : 1 < W.heap.size := hz
  have hbm := lt_of_block hb
  refine ⟨by omega, Nat.le_refl _, fun i hi => ?_, bm, _, hbm, hb, hcell, fun w' hw' n hn0 hn19 => ?_⟩
  · have hc := ht.cell gOrd i hi
    rw [hc]
    congr 2
    have : ∀ i : Nat, i < 19 → ([16, 17, 18, 0, 8, 7, 9, 6, 10, 5, 11, 4, 12, 3, 13, 2, 14, 1, 15] : List Int).getD i 0 = ((order.getD i 0 : Nat) : Int) := by decide
    first | exact this i hi | (rw [← this i hi]; simp)
  · have key : ∀ d : DataW Unit, (Rows.laid_foliant_inflate_repeats : DataW Unit).atKey (.int .i64 n) .nil = d → (d = .nil → repV n = ((0, 0), false)) → (∀ a b : Int, d = .agg [.lit (.int .i64 a), .lit (.int .i64 b)] → repV n = ((a, b), true)) → RunV Tryz.prog (Instr.lookup 159 (.map (some bm)) (.int .i64 n) true) w' (.tuple #[.agg #[.int .i64 (repV n).1.1, .int .i64 (repV n).1.2], .bool (repV n).2]) w' := fun d hd hA hB => by
      rcases fit_look (w := w') true (int_keyed undInt) undRep (zeroR w') hw' F (keyOf_int_mk undInt (WalkArith.wf_i64 (n := n) ⟨by omega, by omega⟩)) with ⟨hrun, _, hat⟩ | ⟨e0, y, _, _, hrun, hR, hat, _⟩
      · have := hat .nil
        rw [← hx.1, hd] at this
        rw [hA this]
        exact hrun
      · have := hat .nil
        rw [← hx.1, hd] at this
        obtain ⟨a, b, hv, hy⟩ := val2 hR
        rw [hB a b (this.trans hy)]
        rw [hv] at hrun
        exact hrun
    obtain ⟨k, rfl⟩ := Int.eq_ofNat_of_zero_le hn0
    have hk : k < 19 := by omega
    have hc : k = 0 ∨ k = 1 ∨ k = 2 ∨ k = 3 ∨ k = 4 ∨ k = 5 ∨ k = 6 ∨ k = 7 ∨ k = 8 ∨ k = 9 ∨ k = 10 ∨ k = 11 ∨ k = 12 ∨ k = 13 ∨ k = 14 ∨ k = 15 ∨ k = 16 ∨ k = 17 ∨ k = 18 := by omega
    rcases hc with rfl | rfl | rfl | rfl | rfl | rfl | rfl | rfl | rfl | rfl | rfl | rfl | rfl | rfl | rfl | rfl | rfl | rfl | rfl
    all_goals
      first
      | exact key .nil (by kernel_rfl) (fun _ => rfl) fun a b h => by cases h
      | exact key (.agg [.lit (.int .i64 3), .lit (.int .i64 2)]) (by kernel_rfl) (fun h => by cases h) fun a b h => by cases h; rfl
      | exact key (.agg [.lit (.int .i64 3), .lit (.int .i64 3)]) (by kernel_rfl) (fun h => by cases h) fun a b h => by cases h; rfl
      | exact key (.agg [.lit (.int .i64 11), .lit (.int .i64 7)]) (by kernel_rfl) (fun h => by cases h) fun a b h => by cases h; rfl
end Inf
end Go.Proofs.YtjkoafjnmkchdaaGreatDoor

/- Joined. -/
