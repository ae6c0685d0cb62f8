/- The formulas of 13 functions of the program, written by program (gen.py); the kernel checks each. No condition. -/
import Derived.Test.YtjkoafjnmkchdaaGreatDoorQIZe3
import Derived.Test.YtjkoafjnmkchdaaGreatDoorQIZe4
import Derived.Test.YtjkoafjnmkchdaaGreatDoorQIZe6
import Derived.Test.YtjkoafjnmkchdaaGreatDoorQIZe7
import Derived.Test.YtjkoafjnmkchdaaGreatDoorQIZe8
import Derived.Test.YtjkoafjnmkchdaaGreatDoorQIZe5
import Derived.Test.YtjkoafjnmkchdaaGreatDoorQIZe2
import Derived.Lib.ConvBytes
namespace Go.Proofs.YtjkoafjnmkchdaaGreatDoor
open Sh
set_option linter.unusedVariables false
set_option maxRecDepth 100000

def C39 (p1 : Int × Int × Int) (w : World) (R : Bool → World → Prop) : Prop :=
  Calls Tryz.prog 39 #[.agg #[.int .i64 (p1.1), .int .i64 (p1.2.1), .int .i64 (p1.2.2)]] w fun e w' => ∃ r0 : Bool, e = .returned (.bool r0) ∧ R r0 w'
theorem C39.mono {p1 : Int × Int × Int} {w : World} {R R' : Bool → World → Prop} (h : C39 p1 w R) (hr : ∀ r0 w', R r0 w' → R' r0 w') : C39 p1 w R' :=
  Calls.mono h fun _ _ ⟨r0, he, hR⟩ => ⟨r0, he, hr _ _ hR⟩
def C20 (p1 : Int × Int × Int) (w : World) (R : Int → World → Prop) : Prop :=
  Calls Tryz.prog 20 #[.agg #[.int .i64 (p1.1), .int .i64 (p1.2.1), .int .i64 (p1.2.2)]] w fun e w' => ∃ r0 : Int, e = .returned (.int .i64 r0) ∧ R r0 w'
theorem C20.mono {p1 : Int × Int × Int} {w : World} {R R' : Int → World → Prop} (h : C20 p1 w R) (hr : ∀ r0 w', R r0 w' → R' r0 w') : C20 p1 w R' :=
  Calls.mono h fun _ _ ⟨r0, he, hR⟩ => ⟨r0, he, hr _ _ hR⟩
def C21 (p1 : Int × Int × Int) (s2 : ByteArray) (row3 : Int) (w : World) (R : Int → World → Prop) : Prop :=
  Calls Tryz.prog 21 #[.agg #[.int .i64 (p1.1), .int .i64 (p1.2.1), .int .i64 (p1.2.2)], .string s2, .int .i64 row3] w fun e w' => ∃ r0 : Int, e = .returned (.int .i64 r0) ∧ R r0 w'
theorem C21.mono {p1 : Int × Int × Int} {s2 : ByteArray} {row3 : Int} {w : World} {R R' : Int → World → Prop} (h : C21 p1 s2 row3 w R) (hr : ∀ r0 w', R r0 w' → R' r0 w') : C21 p1 s2 row3 w R' :=
  Calls.mono h fun _ _ ⟨r0, he, hR⟩ => ⟨r0, he, hr _ _ hR⟩
def C69 (row1 : Slc) (i2 : Int) (w : World) (R : Int → World → Prop) : Prop :=
  Calls Tryz.prog 69 #[Slc.v row1, .int .i64 i2] w fun e w' => ∃ r0 : Int, e = .returned (.int .u8 r0) ∧ R r0 w'
theorem C69.mono {row1 : Slc} {i2 : Int} {w : World} {R R' : Int → World → Prop} (h : C69 row1 i2 w R) (hr : ∀ r0 w', R r0 w' → R' r0 w') : C69 row1 i2 w R' :=
  Calls.mono h fun _ _ ⟨r0, he, hR⟩ => ⟨r0, he, hr _ _ hR⟩
def C99 (a1 : Int) (b2 : Int) (w : World) (R : Int → World → Prop) : Prop :=
  Calls Tryz.prog 99 #[.int .i64 a1, .int .i64 b2] w fun e w' => ∃ r0 : Int, e = .returned (.int .i64 r0) ∧ R r0 w'
theorem C99.mono {a1 : Int} {b2 : Int} {w : World} {R R' : Int → World → Prop} (h : C99 a1 b2 w R) (hr : ∀ r0 w', R r0 w' → R' r0 w') : C99 a1 b2 w R' :=
  Calls.mono h fun _ _ ⟨r0, he, hR⟩ => ⟨r0, he, hr _ _ hR⟩
def C70 (a1 : Int) (b2 : Int) (c3 : Int) (w : World) (R : Int → World → Prop) : Prop :=
  Calls Tryz.prog 70 #[.int .u8 a1, .int .u8 b2, .int .u8 c3] w fun e w' => ∃ r0 : Int, e = .returned (.int .u8 r0) ∧ R r0 w'
theorem C70.mono {a1 : Int} {b2 : Int} {c3 : Int} {w : World} {R R' : Int → World → Prop} (h : C70 a1 b2 c3 w R) (hr : ∀ r0 w', R r0 w' → R' r0 w') : C70 a1 b2 c3 w R' :=
  Calls.mono h fun _ _ ⟨r0, he, hR⟩ => ⟨r0, he, hr _ _ hR⟩
def C40 (r1 : Slc × Slc × Int) (tag2 : Int) (i3 : Int) (w : World) (R : Int → World → Prop) : Prop :=
  Calls Tryz.prog 40 #[.agg #[Slc.v r1.1, Slc.v r1.2.1, .int .i64 (r1.2.2)], .int .i64 tag2, .int .i64 i3] w fun e w' => ∃ r0 : Int, e = .returned (.int .u8 r0) ∧ R r0 w'
theorem C40.mono {r1 : Slc × Slc × Int} {tag2 : Int} {i3 : Int} {w : World} {R R' : Int → World → Prop} (h : C40 r1 tag2 i3 w R) (hr : ∀ r0 w', R r0 w' → R' r0 w') : C40 r1 tag2 i3 w R' :=
  Calls.mono h fun _ _ ⟨r0, he, hR⟩ => ⟨r0, he, hr _ _ hR⟩
def C22 (r1 : Slc × Slc × Int) (tag2 : Int) (w : World) (R : Slc → World → Prop) : Prop :=
  Calls Tryz.prog 22 #[.agg #[Slc.v r1.1, Slc.v r1.2.1, .int .i64 (r1.2.2)], .int .i64 tag2] w fun e w' => ∃ r0 : Slc, e = .returned (Slc.v r0) ∧ R r0 w'
theorem C22.mono {r1 : Slc × Slc × Int} {tag2 : Int} {w : World} {R R' : Slc → World → Prop} (h : C22 r1 tag2 w R) (hr : ∀ r0 w', R r0 w' → R' r0 w') : C22 r1 tag2 w R' :=
  Calls.mono h fun _ _ ⟨r0, he, hR⟩ => ⟨r0, he, hr _ _ hR⟩
def C41 (row1 : Slc) (w : World) (R : Int → World → Prop) : Prop :=
  Calls Tryz.prog 41 #[Slc.v row1] w fun e w' => ∃ r0 : Int, e = .returned (.int .i64 r0) ∧ R r0 w'
theorem C41.mono {row1 : Slc} {w : World} {R R' : Int → World → Prop} (h : C41 row1 w R) (hr : ∀ r0 w', R r0 w' → R' r0 w') : C41 row1 w R' :=
  Calls.mono h fun _ _ ⟨r0, he, hR⟩ => ⟨r0, he, hr _ _ hR⟩
def C23 (r1 : Slc × Slc × Int) (w : World) (R : Int → World → Prop) : Prop :=
  Calls Tryz.prog 23 #[.agg #[Slc.v r1.1, Slc.v r1.2.1, .int .i64 (r1.2.2)]] w fun e w' => ∃ r0 : Int, e = .returned (.int .i64 r0) ∧ R r0 w'
theorem C23.mono {r1 : Slc × Slc × Int} {w : World} {R R' : Int → World → Prop} (h : C23 r1 w R) (hr : ∀ r0 w', R r0 w' → R' r0 w') : C23 r1 w R' :=
  Calls.mono h fun _ _ ⟨r0, he, hR⟩ => ⟨r0, he, hr _ _ hR⟩
def C9 (p1 : Int × Int × Int) (s2 : ByteArray) (w : World) (R : ByteArray → Int → World → Prop) : Prop :=
  Calls Tryz.prog 9 #[.agg #[.int .i64 (p1.1), .int .i64 (p1.2.1), .int .i64 (p1.2.2)], .string s2] w fun e w' => ∃ r0 : ByteArray, ∃ r1 : Int, e = .returned (.tuple #[.string r0, .int .i64 r1]) ∧ R r0 r1 w'
theorem C9.mono {p1 : Int × Int × Int} {s2 : ByteArray} {w : World} {R R' : ByteArray → Int → World → Prop} (h : C9 p1 s2 w R) (hr : ∀ r0 r1 w', R r0 r1 w' → R' r0 r1 w') : C9 p1 s2 w R' :=
  Calls.mono h fun _ _ ⟨r0, r1, he, hR⟩ => ⟨r0, r1, he, hr _ _ _ hR⟩
def C24 (r1 : Slc × Slc × Int) (tag2 : Int) (w : World) (R : World → Prop) : Prop :=
  Calls Tryz.prog 24 #[.agg #[Slc.v r1.1, Slc.v r1.2.1, .int .i64 (r1.2.2)], .int .i64 tag2] w fun e w' => e = .returned (.tuple #[]) ∧ R w'
theorem C24.mono {r1 : Slc × Slc × Int} {tag2 : Int} {w : World} {R R' : World → Prop} (h : C24 r1 tag2 w R) (hr : ∀ w', R w' → R' w') : C24 r1 tag2 w R' :=
  Calls.mono h fun _ _ ⟨he, hR⟩ => ⟨he, hr _ hR⟩
def C10 (p1 : Int × Int × Int) (s2 : ByteArray) (w : World) (R : ByteArray → Int → World → Prop) : Prop :=
  Calls Tryz.prog 10 #[.agg #[.int .i64 (p1.1), .int .i64 (p1.2.1), .int .i64 (p1.2.2)], .string s2] w fun e w' => ∃ r0 : ByteArray, ∃ r1 : Int, e = .returned (.tuple #[.string r0, .int .i64 r1]) ∧ R r0 r1 w'
theorem C10.mono {p1 : Int × Int × Int} {s2 : ByteArray} {w : World} {R R' : ByteArray → Int → World → Prop} (h : C10 p1 s2 w R) (hr : ∀ r0 r1 w', R r0 r1 w' → R' r0 r1 w') : C10 p1 s2 w R' :=
  Calls.mono h fun _ _ ⟨r0, r1, he, hR⟩ => ⟨r0, r1, he, hr _ _ _ hR⟩

/-- foliant/predict.may -/
def S39 (p1 : Int × Int × Int) (w : World) (R : Bool → World → Prop) : Prop :=
  Nw w (.cells #[.int .i64 (p1.1), .int .i64 (p1.2.1), .int .i64 (p1.2.2)] 28) fun vw2 =>
  Ld vw2 (⟨w.heap.size, 0, none⟩ : Addr) (Value.int .i64) fun (x3 : Int) =>
  Br (x3 == 1) (Ld vw2.drew ((⟨w.heap.size, 0, none⟩ : Addr).add 1) (Value.int .i64) fun (x4 : Int) =>
    Br (decide (x4 ≥ 1)) (Ld vw2.drew ((⟨w.heap.size, 0, none⟩ : Addr).add 2) (Value.int .i64) fun (x5 : Int) =>
      Br (decide (x5 ≥ 1)) (Ld vw2.drew ((⟨w.heap.size, 0, none⟩ : Addr).add 1) (Value.int .i64) fun (x6 : Int) =>
        Br (decide (x6 ≤ 8192)) (Ld vw2.drew ((⟨w.heap.size, 0, none⟩ : Addr).add 2) (Value.int .i64) fun (x7 : Int) =>
          Ld vw2.drew ((⟨w.heap.size, 0, none⟩ : Addr).add 1) (Value.int .i64) fun (x8 : Int) =>
          x8 ≠ 0 ∧ R (decide (x7 ≤ (IntKind.i64.wrap (Int.tdiv 8192 x8)))) vw2.drew) (R false vw2.drew)) (R false vw2.drew)) (R false vw2.drew)) (Ld vw2 (⟨w.heap.size, 0, none⟩ : Addr) (Value.int .i64) fun (x9 : Int) =>
    Br (x9 == 2) (Ld vw2.drew ((⟨w.heap.size, 0, none⟩ : Addr).add 1) (Value.int .i64) fun (x10 : Int) =>
      Br (decide (x10 ≥ 1)) (Ld vw2.drew ((⟨w.heap.size, 0, none⟩ : Addr).add 2) (Value.int .i64) fun (x11 : Int) =>
        Br (decide (x11 ≥ 1)) (Ld vw2.drew ((⟨w.heap.size, 0, none⟩ : Addr).add 1) (Value.int .i64) fun (x12 : Int) =>
          Br (decide (x12 ≤ 8192)) (Ld vw2.drew ((⟨w.heap.size, 0, none⟩ : Addr).add 2) (Value.int .i64) fun (x13 : Int) =>
            Ld vw2.drew ((⟨w.heap.size, 0, none⟩ : Addr).add 1) (Value.int .i64) fun (x14 : Int) =>
            x14 ≠ 0 ∧ R (decide (x13 ≤ (IntKind.i64.wrap (Int.tdiv 8192 x14)))) vw2.drew) (R false vw2.drew)) (R false vw2.drew)) (R false vw2.drew)) (Ld vw2 (⟨w.heap.size, 0, none⟩ : Addr) (Value.int .i64) fun (x15 : Int) =>
      Br (decide (x15 ≥ 10)) (Ld vw2 (⟨w.heap.size, 0, none⟩ : Addr) (Value.int .i64) fun (x16 : Int) =>
        Br (decide (x16 ≤ 15)) (Ld vw2.drew ((⟨w.heap.size, 0, none⟩ : Addr).add 1) (Value.int .i64) fun (x17 : Int) =>
          Br (decide (x17 ≥ 1)) (Ld vw2.drew ((⟨w.heap.size, 0, none⟩ : Addr).add 2) (Value.int .i64) fun (x18 : Int) =>
            Br (decide (x18 ≥ 1)) (Ld vw2.drew ((⟨w.heap.size, 0, none⟩ : Addr).add 1) (Value.int .i64) fun (x19 : Int) =>
              Br (decide (x19 ≤ 8192)) (Ld vw2.drew ((⟨w.heap.size, 0, none⟩ : Addr).add 2) (Value.int .i64) fun (x20 : Int) =>
                Ld vw2.drew ((⟨w.heap.size, 0, none⟩ : Addr).add 1) (Value.int .i64) fun (x21 : Int) =>
                x21 ≠ 0 ∧ R (decide (x20 ≤ (IntKind.i64.wrap (Int.tdiv 8192 x21)))) vw2.drew) (R false vw2.drew)) (R false vw2.drew)) (R false vw2.drew)) (R false vw2.drew)) (R false vw2.drew)))
def pl39 : Plan := (.seq (.reg .seq) (.seq (.reg .seq) (.seq (.reg .still) .leaf)))
set_option maxRecDepth 100000 in
theorem T39 (p1 : Int × Int × Int) (w : World) (R : Bool → World → Prop) (h : S39 p1 w R) : C39 (p1.1, p1.2.1, p1.2.2) w R := by
  have e : fnT Tryz.prog ⟨FF, MAY, (fun _ _ => False)⟩ pl39 Tryz.f39 [.agg #[.int .i64 (p1.1), .int .i64 (p1.2.1), .int .i64 (p1.2.2)]] w [(.one .bool)] (fun s w => R s w) = S39 p1 w R := by kernel_rfl
  exact (fn_calls okF okM Tryz.func39 (by kernel_rfl) (by kernel_rfl) (e.mpr h)).mono fun _ _ ⟨s, he, hR⟩ => ⟨s, he, hR⟩

/-- foliant/predict.Row -/
def S20 (p1 : Int × Int × Int) (w : World) (R : Int → World → Prop) : Prop :=
  Nw w (.cells #[.int .i64 (p1.1), .int .i64 (p1.2.1), .int .i64 (p1.2.2)] 28) fun vw2 =>
  Ld vw2 (⟨w.heap.size, 0, none⟩ : Addr) (Value.int .i64) fun (x8 : Int) =>
  Ld vw2 ((⟨w.heap.size, 0, none⟩ : Addr).add 1) (Value.int .i64) fun (x9 : Int) =>
  Ld vw2 ((⟨w.heap.size, 0, none⟩ : Addr).add 2) (Value.int .i64) fun (x10 : Int) =>
  C39 (x8, x9, x10) vw2 fun r11 vw12 =>
    Br (!r11) (R 0 vw12) (Ld vw12 ((⟨w.heap.size, 0, none⟩ : Addr).add 1) (Value.int .i64) fun (x13 : Int) =>
      Ld vw12 ((⟨w.heap.size, 0, none⟩ : Addr).add 2) (Value.int .i64) fun (x14 : Int) =>
      R (IntKind.i64.wrap (x13 * x14)) vw12)
def pl20 : Plan := (.seq (.reg .seq) (.seq (.seq (.reg .seq) (.cond (.seq (.reg .seq) .leaf) .leaf)) (.seq (.reg .seq) .leaf)))
set_option maxRecDepth 100000 in
theorem T20 (p1 : Int × Int × Int) (w : World) (R : Int → World → Prop) (h : S20 p1 w R) : C20 (p1.1, p1.2.1, p1.2.2) w R := by
  have e : fnT Tryz.prog ⟨FF, MAY, (fun _ _ => False)⟩ pl20 Tryz.f20 [.agg #[.int .i64 (p1.1), .int .i64 (p1.2.1), .int .i64 (p1.2.2)]] w [(.one (.int .i64))] (fun s w => R s w) = S20 p1 w R := by kernel_rfl
  exact (fn_calls okF okM Tryz.func20 (by kernel_rfl) (by kernel_rfl) (e.mpr h)).mono fun _ _ ⟨s, he, hR⟩ => ⟨s, he, hR⟩

/-- foliant/predict.refuse -/
def S21 (p1 : Int × Int × Int) (s2 : ByteArray) (row3 : Int) (w : World) (R : Int → World → Prop) : Prop :=
  Nw w (.cells #[.int .i64 (p1.1), .int .i64 (p1.2.1), .int .i64 (p1.2.2)] 28) fun vw4 =>
  Ld vw4 (⟨w.heap.size, 0, none⟩ : Addr) (Value.int .i64) fun (x5 : Int) =>
  Ld vw4 ((⟨w.heap.size, 0, none⟩ : Addr).add 1) (Value.int .i64) fun (x6 : Int) =>
  Ld vw4 ((⟨w.heap.size, 0, none⟩ : Addr).add 2) (Value.int .i64) fun (x7 : Int) =>
  C39 (x5, x6, x7) vw4 fun r8 vw9 =>
    Br (!r8) (R 1 vw9) (Br (decide ((((s2).size : Nat) : Int) > 1048576)) (R 5 vw9) (Ld vw9 (⟨w.heap.size, 0, none⟩ : Addr) (Value.int .i64) fun (x10 : Int) =>
        Br (x10 != 1) (row3 ≠ 0 ∧ Br ((Int.tmod (((s2).size : Nat) : Int) row3) != 0) (R 16 vw9) (R 0 vw9)) (R 0 vw9)))
def pl21 : Plan := (.seq (.reg .seq) (.seq (.block (.seq (.reg .seq) (.cond (.seq (.reg .seq) .leaf) (.seq (.reg .seq) (.cond (.seq (.reg .seq) .leaf) (.seq (.reg .seq) (.cond (.seq (.reg .seq) .leaf) .leaf))))))) (.seq (.reg .seq) .leaf)))
set_option maxRecDepth 100000 in
theorem T21 (p1 : Int × Int × Int) (s2 : ByteArray) (row3 : Int) (w : World) (R : Int → World → Prop) (h : S21 p1 s2 row3 w R) : C21 (p1.1, p1.2.1, p1.2.2) s2 row3 w R := by
  have e : fnT Tryz.prog ⟨FF, MAY, (fun _ _ => False)⟩ pl21 Tryz.f21 [.agg #[.int .i64 (p1.1), .int .i64 (p1.2.1), .int .i64 (p1.2.2)], .string s2, .int .i64 row3] w [(.one (.int .i64))] (fun s w => R s w) = S21 p1 s2 row3 w R := by kernel_rfl
  exact (fn_calls okF okM Tryz.func21 (by kernel_rfl) (by kernel_rfl) (e.mpr h)).mono fun _ _ ⟨s, he, hR⟩ => ⟨s, he, hR⟩

/-- foliant/predict.at -/
def S69 (row1 : Slc) (i2 : Int) (w : World) (R : Int → World → Prop) : Prop :=
  Br (decide (i2 < 0)) (R 0 w) (Br (decide (i2 ≥ ((row1.len : Nat) : Int))) (R 0 w) (0 ≤ i2 ∧ i2 < (row1.len : Nat) ∧ Nn row1.p fun a3 =>
      Ld w (a3.add ((i2).toNat * 1)) (Value.int .u8) fun (x4 : Int) =>
      R x4 w))
def pl69 : Plan := (.seq (.reg .seq) (.seq (.seq (.reg .seq) (.cond (.seq (.reg .seq) .leaf) .leaf)) (.seq (.reg .seq) .leaf)))
set_option maxRecDepth 100000 in
theorem T69 (row1 : Slc) (i2 : Int) (w : World) (R : Int → World → Prop) (h : S69 row1 i2 w R) : C69 row1 i2 w R := by
  have e : fnT Tryz.prog ⟨FF, MAY, (fun _ _ => False)⟩ pl69 Tryz.f69 [Slc.v row1, .int .i64 i2] w [(.one (.int .u8))] (fun s w => R s w) = S69 row1 i2 w R := by kernel_rfl
  exact (fn_calls okF okM Tryz.func69 (by kernel_rfl) (by kernel_rfl) (e.mpr h)).mono fun _ _ ⟨s, he, hR⟩ => ⟨s, he, hR⟩

/-- foliant/predict.apart -/
def S99 (a1 : Int) (b2 : Int) (w : World) (R : Int → World → Prop) : Prop :=
  Lt ((if (IntKind.i64.wrap (b2 - a1)) > (IntKind.i64.wrap (a1 - b2)) then (IntKind.i64.wrap (b2 - a1)) else (IntKind.i64.wrap (a1 - b2)))) fun (x3 : Int) =>
  R x3 w
def pl99 : Plan := (.seq (.reg .seq) (.seq (.reg .seq) .leaf))
set_option maxRecDepth 100000 in
theorem T99 (a1 : Int) (b2 : Int) (w : World) (R : Int → World → Prop) (h : S99 a1 b2 w R) : C99 a1 b2 w R := by
  have e : fnT Tryz.prog ⟨FF, MAY, (fun _ _ => False)⟩ pl99 Tryz.f99 [.int .i64 a1, .int .i64 b2] w [(.one (.int .i64))] (fun s w => R s w) = S99 a1 b2 w R := by kernel_rfl
  exact (fn_calls okF okM Tryz.func99 (by kernel_rfl) (by kernel_rfl) (e.mpr h)).mono fun _ _ ⟨s, he, hR⟩ => ⟨s, he, hR⟩

def S70L1 (b2 : Int) (c3 : Int) (x4 : Int) (R : Int → World → Prop) (I7 : (Int × Int) → World → Prop) (s5 : Int × Int) (vw6 : World) : Prop :=
  Br (decide (s5.2 < 2)) (0 ≤ s5.2 ∧ s5.2 < (2 : Nat) ∧ ∃ x8 : Int, (#[.int .u8 b2, .int .u8 c3] : Array Value)[(s5.2).toNat * 1]? = some (.int .u8 x8) ∧ C99 (IntKind.i64.wrap x8) x4 vw6 fun r9 vw10 =>
      C99 (IntKind.i64.wrap s5.1) x4 vw10 fun r11 vw12 =>
        Br (decide (r9 < r11)) (I7 (x8, IntKind.i64.wrap (s5.2 + 1)) vw12) (I7 (s5.1, IntKind.i64.wrap (s5.2 + 1)) vw12)) (R s5.1 vw6)
/-- foliant/predict.Paeth -/
def S70 (a1 : Int) (b2 : Int) (c3 : Int) (w : World) (R : Int → World → Prop) : Prop :=
  Lt (IntKind.i64.wrap ((IntKind.i64.wrap ((IntKind.i64.wrap a1) + (IntKind.i64.wrap b2))) - (IntKind.i64.wrap c3))) fun (x4 : Int) =>
  Lp (σ := Int × Int) (S70L1 b2 c3 x4 R) (a1, 0) w
def pl70 : Plan := (.seq (.reg .seq) (.seq (.reg .seq) (.seq (.reg .seq) (.seq (.seq (.reg .seq) (.block (.loop [(8, (.one (.int .u8))), (23, (.one (.int .i64)))] [7, 22] (.seq (.reg .seq) (.seq (.cond .leaf .leaf) (.seq (.block (.seq (.reg .seq) (.seq (.reg .seq) (.cond (.reg .seq) .leaf)))) (.reg .seq))))))) (.seq (.reg .seq) .leaf)))))
set_option maxRecDepth 100000 in
theorem T70 (a1 : Int) (b2 : Int) (c3 : Int) (w : World) (R : Int → World → Prop) (h : S70 a1 b2 c3 w R) : C70 a1 b2 c3 w R := by
  have e : fnT Tryz.prog ⟨FF, MAY, (fun _ _ => False)⟩ pl70 Tryz.f70 [.int .u8 a1, .int .u8 b2, .int .u8 c3] w [(.one (.int .u8))] (fun s w => R s w) = S70 a1 b2 c3 w R := by kernel_rfl
  exact (fn_calls okF okM Tryz.func70 (by kernel_rfl) (by kernel_rfl) (e.mpr h)).mono fun _ _ ⟨s, he, hR⟩ => ⟨s, he, hR⟩

/-- (foliant/predict.rows).off -/
def S40 (r1 : Slc × Slc × Int) (tag2 : Int) (i3 : Int) (w : World) (R : Int → World → Prop) : Prop :=
  Nw w (.cells #[Slc.v r1.1, Slc.v r1.2.1, .int .i64 (r1.2.2)] 42) fun vw4 =>
  ∃ vS5 : World → Prop, vS5 vw4.drew ∧ LdS vS5 ((⟨w.heap.size, 0, none⟩ : Addr).add 1) Slc.v fun (x6 : Slc) =>
  LdS vS5 ((⟨w.heap.size, 0, none⟩ : Addr).add 2) (Value.int .i64) fun (x7 : Int) =>
  LdS vS5 (⟨w.heap.size, 0, none⟩ : Addr) Slc.v fun (x8 : Slc) =>
  LdS vS5 (⟨w.heap.size, 0, none⟩ : Addr) Slc.v fun (x9 : Slc) =>
  LdS vS5 ((⟨w.heap.size, 0, none⟩ : Addr).add 2) (Value.int .i64) fun (x10 : Int) =>
  C69 x6 (IntKind.i64.wrap (i3 - x7)) vw4.drew fun r11 vw12 =>
    vS5 vw12 ∧ C69 x8 i3 vw12 fun r13 vw14 =>
      vS5 vw14 ∧ C69 x9 (IntKind.i64.wrap (i3 - x10)) vw14 fun r15 vw16 =>
        Br (tag2 == 1) (R r11 vw16) (Br (tag2 == 2) (R r13 vw16) (Br (tag2 == 3) (Lt (IntKind.i64.wrap (Int.tdiv (IntKind.i64.wrap ((IntKind.i64.wrap r11) + (IntKind.i64.wrap r13))) 2)) fun (x17 : Int) =>
              R (IntKind.u8.wrap x17) vw16) (Br (tag2 == 4) (C70 r11 r13 r15 vw16 fun r18 vw19 =>
                  R r18 vw19) (R 0 vw16))))
def pl40 : Plan := (.seq (.reg .seq) (.seq (.reg (.held [17] (.take 0 (.take 1 (.take 2 (.take 3 (.take 4 (.take 5 (.take 7 (.take 8 (.take 9 (.take 11 (.take 12 (.take 13 (.take 14 (.take 15 (.take 16 (.eff 6 none (.eff 10 none (.eff 17 (some []) (.take 18 (.take 19 (.take 20 .done))))))))))))))))))))))) (.seq (.seq (.reg .seq) (.block (.seq (.reg .seq) (.cond (.seq (.reg .seq) .leaf) (.seq (.reg .seq) (.cond (.seq (.reg .seq) .leaf) (.seq (.reg .seq) (.cond (.seq (.reg .seq) .leaf) (.seq (.reg .seq) (.cond (.seq (.reg .seq) .leaf) .leaf)))))))))) (.seq (.reg .seq) .leaf))))
set_option maxRecDepth 100000 in
theorem T40 (r1 : Slc × Slc × Int) (tag2 : Int) (i3 : Int) (w : World) (R : Int → World → Prop) (h : S40 r1 tag2 i3 w R) : C40 (r1.1, r1.2.1, r1.2.2) tag2 i3 w R := by
  have e : fnT Tryz.prog ⟨FF, MAY, (fun _ _ => False)⟩ pl40 Tryz.f40 [.agg #[Slc.v r1.1, Slc.v r1.2.1, .int .i64 (r1.2.2)], .int .i64 tag2, .int .i64 i3] w [(.one (.int .u8))] (fun s w => R s w) = S40 r1 tag2 i3 w R := by kernel_rfl
  exact (fn_calls okF okM Tryz.func40 (by kernel_rfl) (by kernel_rfl) (e.mpr h)).mono fun _ _ ⟨s, he, hR⟩ => ⟨s, he, hR⟩

def S22L1 (w : World) (tag2 : Int) (x5 : Slc) (x7 : Slc) (R : Slc → World → Prop) (I10 : Int → World → Prop) (s8 : Int) (vw9 : World) : Prop :=
  Br (decide (s8 < ((x7.len : Nat) : Int))) (0 ≤ s8 ∧ s8 < (x7.len : Nat) ∧ Nn x7.p fun a11 =>
    Ld vw9 (a11.add ((s8).toNat * 1)) (Value.int .u8) fun (x12 : Int) =>
    Ld vw9 (⟨w.heap.size, 0, none⟩ : Addr) Slc.v fun (x13 : Slc) =>
    Ld vw9 ((⟨w.heap.size, 0, none⟩ : Addr).add 1) Slc.v fun (x14 : Slc) =>
    Ld vw9 ((⟨w.heap.size, 0, none⟩ : Addr).add 2) (Value.int .i64) fun (x15 : Int) =>
    C40 (x13, x14, x15) tag2 s8 vw9 fun r16 vw17 =>
      0 ≤ s8 ∧ s8 < (x5.len : Nat) ∧ Nn x5.p fun a18 =>
      St vw17 (a18.add ((s8).toNat * 1)) (.int .u8 (IntKind.u8.wrap (x12 - r16))) fun vw19 =>
      I10 (IntKind.i64.wrap (s8 + 1)) vw19) (R x5 vw9)
/-- (foliant/predict.rows).less -/
def S22 (r1 : Slc × Slc × Int) (tag2 : Int) (w : World) (R : Slc → World → Prop) : Prop :=
  Nw w (.cells #[Slc.v r1.1, Slc.v r1.2.1, .int .i64 (r1.2.2)] 42) fun vw3 =>
  Ld vw3 ((⟨w.heap.size, 0, none⟩ : Addr).add 1) Slc.v fun (x4 : Slc) =>
  Rn Tryz.prog (Instr.makeSlice 29 (.int .i64 ((x4.len : Nat) : Int)) (.int .i64 ((x4.len : Nat) : Int))) vw3 Slc.v fun (x5 : Slc) vw6 =>
  Ld vw6 ((⟨w.heap.size, 0, none⟩ : Addr).add 1) Slc.v fun (x7 : Slc) =>
  Lp (σ := Int) (S22L1 w tag2 x5 x7 R) 0 vw6
def pl22 : Plan := (.seq (.reg .seq) (.seq (.reg .seq) (.seq (.seq (.reg .seq) (.block (.loop [(15, (.one (.int .i64)))] [1, 2, 5, 13, 14] (.seq (.reg .seq) (.seq (.cond .leaf .leaf) (.seq (.block (.seq (.reg .seq) (.reg .seq))) (.reg .seq))))))) (.seq (.reg .seq) .leaf))))
set_option maxRecDepth 100000 in
theorem T22 (r1 : Slc × Slc × Int) (tag2 : Int) (w : World) (R : Slc → World → Prop) (h : S22 r1 tag2 w R) : C22 (r1.1, r1.2.1, r1.2.2) tag2 w R := by
  have e : fnT Tryz.prog ⟨FF, MAY, (fun _ _ => False)⟩ pl22 Tryz.f22 [.agg #[Slc.v r1.1, Slc.v r1.2.1, .int .i64 (r1.2.2)], .int .i64 tag2] w [(.one .slc)] (fun s w => R s w) = S22 r1 tag2 w R := by kernel_rfl
  exact (fn_calls okF okM Tryz.func22 (by kernel_rfl) (by kernel_rfl) (e.mpr h)).mono fun _ _ ⟨s, he, hR⟩ => ⟨s, he, hR⟩

def S41L1 (row1 : Slc) (R : Int → World → Prop) (I4 : (Int × Int) → World → Prop) (s2 : Int × Int) (vw3 : World) : Prop :=
  Br (decide (s2.2 < ((row1.len : Nat) : Int))) (0 ≤ s2.2 ∧ s2.2 < (row1.len : Nat) ∧ Nn row1.p fun a5 =>
    Ld vw3 (a5.add ((s2.2).toNat * 1)) (Value.int .u8) fun (x6 : Int) =>
    Lt ((if (IntKind.i64.wrap (256 - (IntKind.i64.wrap x6))) < (IntKind.i64.wrap x6) then (IntKind.i64.wrap (256 - (IntKind.i64.wrap x6))) else (IntKind.i64.wrap x6))) fun (x7 : Int) =>
    I4 (IntKind.i64.wrap (s2.1 + x7), IntKind.i64.wrap (s2.2 + 1)) vw3) (R s2.1 vw3)
/-- foliant/predict.weight -/
def S41 (row1 : Slc) (w : World) (R : Int → World → Prop) : Prop :=
  Lp (σ := Int × Int) (S41L1 row1 R) (0, 0) w
def pl41 : Plan := (.seq (.reg .seq) (.seq (.reg .seq) (.seq (.seq (.reg .seq) (.block (.loop [(3, (.one (.int .i64))), (8, (.one (.int .i64)))] [6, 7] (.seq (.reg .seq) (.seq (.cond .leaf .leaf) (.seq (.block (.seq (.reg .seq) (.reg .seq))) (.reg .seq))))))) (.seq (.reg .seq) .leaf))))
set_option maxRecDepth 100000 in
theorem T41 (row1 : Slc) (w : World) (R : Int → World → Prop) (h : S41 row1 w R) : C41 row1 w R := by
  have e : fnT Tryz.prog ⟨FF, MAY, (fun _ _ => False)⟩ pl41 Tryz.f41 [Slc.v row1] w [(.one (.int .i64))] (fun s w => R s w) = S41 row1 w R := by kernel_rfl
  exact (fn_calls okF okM Tryz.func41 (by kernel_rfl) (by kernel_rfl) (e.mpr h)).mono fun _ _ ⟨s, he, hR⟩ => ⟨s, he, hR⟩

def S23L1 (w : World) (R : Int → World → Prop) (I12 : (Int × Int × Int) → World → Prop) (s10 : Int × Int × Int) (vw11 : World) : Prop :=
  Br (decide (s10.2.2 < 5)) (Ld vw11 (⟨w.heap.size, 0, none⟩ : Addr) Slc.v fun (x13 : Slc) =>
    Ld vw11 ((⟨w.heap.size, 0, none⟩ : Addr).add 1) Slc.v fun (x14 : Slc) =>
    Ld vw11 ((⟨w.heap.size, 0, none⟩ : Addr).add 2) (Value.int .i64) fun (x15 : Int) =>
    C22 (x13, x14, x15) s10.2.2 vw11 fun r16 vw17 =>
      C41 r16 vw17 fun r18 vw19 =>
        Br (decide (r18 < s10.2.1)) (I12 (s10.2.2, r18, IntKind.i64.wrap (s10.2.2 + 1)) vw19) (I12 (s10.1, s10.2.1, IntKind.i64.wrap (s10.2.2 + 1)) vw19)) (R s10.1 vw11)
/-- (foliant/predict.rows).best -/
def S23 (r1 : Slc × Slc × Int) (w : World) (R : Int → World → Prop) : Prop :=
  Nw w (.cells #[Slc.v r1.1, Slc.v r1.2.1, .int .i64 (r1.2.2)] 42) fun vw2 =>
  Ld vw2 (⟨w.heap.size, 0, none⟩ : Addr) Slc.v fun (x3 : Slc) =>
  Ld vw2 ((⟨w.heap.size, 0, none⟩ : Addr).add 1) Slc.v fun (x4 : Slc) =>
  Ld vw2 ((⟨w.heap.size, 0, none⟩ : Addr).add 2) (Value.int .i64) fun (x5 : Int) =>
  C22 (x3, x4, x5) 0 vw2 fun r6 vw7 =>
    C41 r6 vw7 fun r8 vw9 =>
      Lp (σ := Int × Int × Int) (S23L1 w R) (0, r8, 1) vw9
def pl23 : Plan := (.seq (.reg .seq) (.seq (.reg .seq) (.seq (.reg .seq) (.seq (.seq (.reg .seq) (.block (.loop [(3, (.one (.int .i64))), (4, (.one (.int .i64))), (5, (.one (.int .i64)))] [1] (.seq (.seq (.reg .seq) (.cond .leaf .leaf)) (.seq (.block (.seq (.reg .seq) (.seq (.reg .seq) (.cond (.reg .seq) .leaf)))) (.reg .seq)))))) (.seq (.reg .seq) .leaf)))))
set_option maxRecDepth 100000 in
theorem T23 (r1 : Slc × Slc × Int) (w : World) (R : Int → World → Prop) (h : S23 r1 w R) : C23 (r1.1, r1.2.1, r1.2.2) w R := by
  have e : fnT Tryz.prog ⟨FF, MAY, (fun _ _ => False)⟩ pl23 Tryz.f23 [.agg #[Slc.v r1.1, Slc.v r1.2.1, .int .i64 (r1.2.2)]] w [(.one (.int .i64))] (fun s w => R s w) = S23 r1 w R := by kernel_rfl
  exact (fn_calls okF okM Tryz.func23 (by kernel_rfl) (by kernel_rfl) (e.mpr h)).mono fun _ _ ⟨s, he, hR⟩ => ⟨s, he, hR⟩

def S9J1 (w : World) (r7 : Int) (vw26 : World) (s32 : ByteArray × Slc) (I34 : (ByteArray × Slc) → World → Prop) (s45 : Unit) (vw46 : World) : Prop :=
  Ld vw46 (⟨w.heap.size, 0, none⟩ : Addr) (Value.int .i64) fun (x47 : Int) =>
  Ld vw46 (⟨w.heap.size, 0, none⟩ : Addr) (Value.int .i64) fun (x61 : Int) =>
  Br (x61 == 2) (Ld vw46 (⟨vw26.heap.size, 0, none⟩ : Addr) Slc.v fun (x62 : Slc) =>
    Ld vw46 ((⟨vw26.heap.size, 0, none⟩ : Addr).add 1) Slc.v fun (x63 : Slc) =>
    Ld vw46 ((⟨vw26.heap.size, 0, none⟩ : Addr).add 2) (Value.int .i64) fun (x64 : Int) =>
    C22 (x62, x63, x64) 1 vw46 fun r65 vw66 =>
      Rn Tryz.prog (Builtin.append_ #[29, 29] 29 #[Slc.v s32.2, Slc.v r65]) vw66 Slc.v fun (x67 : Slc) vw68 =>
      0 ≤ (if 1 > r7 then 1 else r7) ∧ (if 1 > r7 then 1 else r7) ≤ (((s32.1).size : Nat) : Int) ∧ I34 (s32.1.extract (((if 1 > r7 then 1 else r7)).toNat) ((s32.1).size), x67) vw68) (Br (x61 == 15) (Ld vw46 (⟨vw26.heap.size, 0, none⟩ : Addr) Slc.v fun (x69 : Slc) =>
      Ld vw46 ((⟨vw26.heap.size, 0, none⟩ : Addr).add 1) Slc.v fun (x70 : Slc) =>
      Ld vw46 ((⟨vw26.heap.size, 0, none⟩ : Addr).add 2) (Value.int .i64) fun (x71 : Int) =>
      C23 (x69, x70, x71) vw46 fun r72 vw73 =>
        ∃ vS74 : World → Prop, vS74 vw73.drew ∧ LdS vS74 (⟨vw26.heap.size, 0, none⟩ : Addr) Slc.v fun (x75 : Slc) =>
        LdS vS74 ((⟨vw26.heap.size, 0, none⟩ : Addr).add 1) Slc.v fun (x76 : Slc) =>
        LdS vS74 ((⟨vw26.heap.size, 0, none⟩ : Addr).add 2) (Value.int .i64) fun (x77 : Int) =>
        Nw vw73.drew (.cells #[.int .u8 (IntKind.u8.wrap r72)] 5) fun vw78 =>
        vS74 vw78 ∧ Rn Tryz.prog (Builtin.append_ #[29, 29] 29 #[Slc.v s32.2, Slc.v ((⟨some ⟨vw73.drew.heap.size, 0, none⟩, 1, 1⟩ : Slc))]) vw78 Slc.v fun (x79 : Slc) vw80 =>
        vS74 vw80 ∧ C22 (x75, x76, x77) r72 vw80 fun r81 vw82 =>
          Rn Tryz.prog (Builtin.append_ #[29, 29] 29 #[Slc.v x79, Slc.v r81]) vw82 Slc.v fun (x83 : Slc) vw84 =>
          0 ≤ (if 1 > r7 then 1 else r7) ∧ (if 1 > r7 then 1 else r7) ≤ (((s32.1).size : Nat) : Int) ∧ I34 (s32.1.extract (((if 1 > r7 then 1 else r7)).toNat) ((s32.1).size), x83) vw84) (∃ vS85 : World → Prop, vS85 vw46.drew ∧ LdS vS85 (⟨vw26.heap.size, 0, none⟩ : Addr) Slc.v fun (x86 : Slc) =>
      LdS vS85 ((⟨vw26.heap.size, 0, none⟩ : Addr).add 1) Slc.v fun (x87 : Slc) =>
      LdS vS85 ((⟨vw26.heap.size, 0, none⟩ : Addr).add 2) (Value.int .i64) fun (x88 : Int) =>
      Nw vw46.drew (.cells #[.int .u8 (IntKind.u8.wrap (IntKind.i64.wrap (x47 - 10)))] 5) fun vw89 =>
      vS85 vw89 ∧ Rn Tryz.prog (Builtin.append_ #[29, 29] 29 #[Slc.v s32.2, Slc.v ((⟨some ⟨vw46.drew.heap.size, 0, none⟩, 1, 1⟩ : Slc))]) vw89 Slc.v fun (x90 : Slc) vw91 =>
      vS85 vw91 ∧ C22 (x86, x87, x88) (IntKind.i64.wrap (x47 - 10)) vw91 fun r92 vw93 =>
        Rn Tryz.prog (Builtin.append_ #[29, 29] 29 #[Slc.v x90, Slc.v r92]) vw93 Slc.v fun (x94 : Slc) vw95 =>
        0 ≤ (if 1 > r7 then 1 else r7) ∧ (if 1 > r7 then 1 else r7) ≤ (((s32.1).size : Nat) : Int) ∧ I34 (s32.1.extract (((if 1 > r7 then 1 else r7)).toNat) ((s32.1).size), x94) vw95))
def S9L1 (w : World) (r7 : Int) (vw26 : World) (R : ByteArray → Int → World → Prop) (I34 : (ByteArray × Slc) → World → Prop) (s32 : ByteArray × Slc) (vw33 : World) : Prop :=
  Br (decide ((((s32.1).size : Nat) : Int) > 0)) (Join (S9J1 w r7 vw26 s32 I34) fun (vJ96 : Unit → World → Prop) =>
      ∃ vS97 : World → Prop, vS97 vw33.drew ∧ LdS vS97 ((⟨vw26.heap.size, 0, none⟩ : Addr).add 1) Slc.v fun (x98 : Slc) =>
      0 ≤ (if 1 > r7 then 1 else r7) ∧ (if 1 > r7 then 1 else r7) ≤ (((s32.1).size : Nat) : Int) ∧ (Rn Tryz.prog (convert 9 29 (.string (s32.1.extract 0 (((if 1 > r7 then 1 else r7)).toNat)))) vw33.drew Slc.v fun (x99 : Slc) vw100 =>
        vS97 vw100 ∧ St vw100 (⟨vw26.heap.size, 0, none⟩ : Addr) (Slc.v x98) fun vw101 =>
        St vw101 ((⟨vw26.heap.size, 0, none⟩ : Addr).add 1) (Slc.v x99) fun vw102 =>
        vJ96 () vw102) ∧
      (St vw33.drew (⟨vw26.heap.size, 0, none⟩ : Addr) (Slc.v x98) fun vw103 =>
        Rn Tryz.prog (convert 9 29 (.string (s32.1.extract 0 (((if 1 > r7 then 1 else r7)).toNat)))) vw103 Slc.v fun (x104 : Slc) vw105 =>
        St vw105 ((⟨vw26.heap.size, 0, none⟩ : Addr).add 1) (Slc.v x104) fun vw106 =>
        vJ96 () vw106)) (Rn Tryz.prog (convert 29 9 (Slc.v s32.2)) vw33 Value.string fun (x107 : ByteArray) vw108 =>
    R x107 0 vw108)
def S9J2 (w : World) (s2 : ByteArray) (r7 : Int) (R : ByteArray → Int → World → Prop) (s22 : Unit) (vw23 : World) : Prop :=
  (if 1 > r7 then 1 else r7) ≠ 0 ∧ Lt (IntKind.i64.wrap ((((s2).size : Nat) : Int) + (IntKind.i64.wrap (Int.tdiv (((s2).size : Nat) : Int) (if 1 > r7 then 1 else r7))))) fun (x24 : Int) =>
  Rn Tryz.prog (Instr.makeSlice 29 (.int .i64 0) (.int .i64 x24)) vw23 Slc.v fun (x25 : Slc) vw26 =>
  Ld vw26 ((⟨w.heap.size, 0, none⟩ : Addr).add 1) (Value.int .i64) fun (x27 : Int) =>
  Nw vw26 (.cells #[Slc.v ((⟨none, 0, 0⟩ : Slc)), Slc.v ((⟨none, 0, 0⟩ : Slc)), .int .i64 0] 42) fun vw28 =>
  St vw28 (⟨vw26.heap.size, 0, none⟩ : Addr) (Slc.v ((⟨none, 0, 0⟩ : Slc))) fun vw29 =>
  St vw29 ((⟨vw26.heap.size, 0, none⟩ : Addr).add 1) (Slc.v ((⟨none, 0, 0⟩ : Slc))) fun vw30 =>
  St vw30 ((⟨vw26.heap.size, 0, none⟩ : Addr).add 2) (.int .i64 x27) fun vw31 =>
  Lp (σ := ByteArray × Slc) (S9L1 w r7 vw26 R) (s2, x25) vw31
/-- foliant/predict.Encode -/
def S9 (p1 : Int × Int × Int) (s2 : ByteArray) (w : World) (R : ByteArray → Int → World → Prop) : Prop :=
  Nw w (.cells #[.int .i64 (p1.1), .int .i64 (p1.2.1), .int .i64 (p1.2.2)] 28) fun vw3 =>
  Ld vw3 (⟨w.heap.size, 0, none⟩ : Addr) (Value.int .i64) fun (x4 : Int) =>
  Ld vw3 ((⟨w.heap.size, 0, none⟩ : Addr).add 1) (Value.int .i64) fun (x5 : Int) =>
  Ld vw3 ((⟨w.heap.size, 0, none⟩ : Addr).add 2) (Value.int .i64) fun (x6 : Int) =>
  C20 (x4, x5, x6) vw3 fun r7 vw8 =>
    Ld vw8 (⟨w.heap.size, 0, none⟩ : Addr) (Value.int .i64) fun (x14 : Int) =>
    Ld vw8 ((⟨w.heap.size, 0, none⟩ : Addr).add 1) (Value.int .i64) fun (x15 : Int) =>
    Ld vw8 ((⟨w.heap.size, 0, none⟩ : Addr).add 2) (Value.int .i64) fun (x16 : Int) =>
    C21 (x14, x15, x16) s2 (if 1 > r7 then 1 else r7) vw8 fun r17 vw18 =>
      Br (r17 != 0) (R (⟨#[]⟩ : ByteArray) r17 vw18) (Join (S9J2 w s2 r7 R) fun (vJ109 : Unit → World → Prop) =>
          Ld vw18 (⟨w.heap.size, 0, none⟩ : Addr) (Value.int .i64) fun (x110 : Int) =>
          Br (x110 == 1) (R s2 0 vw18) (Ld vw18 (⟨w.heap.size, 0, none⟩ : Addr) (Value.int .i64) fun (x111 : Int) =>
            Br (decide (x111 ≥ 10)) ((if 1 > r7 then 1 else r7) ≠ 0 ∧ Lt (IntKind.i64.wrap ((((s2).size : Nat) : Int) + (IntKind.i64.wrap (Int.tdiv (((s2).size : Nat) : Int) (if 1 > r7 then 1 else r7))))) fun (x112 : Int) =>
              Br (decide (x112 > 1048576)) (R (⟨#[]⟩ : ByteArray) 5 vw18) (vJ109 () vw18)) (vJ109 () vw18)))
def pl9 : Plan := (.seq (.reg .seq) (.seq (.reg .seq) (.seq (.seq (.reg .seq) (.seq (.reg .seq) (.cond (.seq (.reg .seq) .leaf) .leaf))) (.join [] [1, 2, 6] (.block (.seq (.reg .seq) (.cond (.seq (.reg .seq) .leaf) (.seq (.reg .seq) (.cond (.seq (.reg .seq) .leaf) .leaf))))) (.seq (.reg .seq) (.seq (.reg .seq) (.seq (.block (.loop [(1, (.one .str)), (8, (.one .slc))] [2, 6, 9] (.seq (.seq (.reg .seq) (.cond .leaf .leaf)) (.seq (.block (.join [] [1, 2, 6, 8, 9] (.reg (.held [7] (.take 0 (.take 1 (.take 2 (.take 3 (.take 4 (.take 6 (.effs 5 none (.eff 7 (some [9]) (.take 8 (.eff 9 (some []) .done))) (.eff 7 (some [5]) (.eff 5 (some [9]) (.take 8 (.eff 9 (some []) .done))))))))))))) (.seq (.reg .seq) (.seq (.seq (.reg .seq) (.block (.seq (.reg .seq) (.cond (.seq (.reg .seq) .leaf) (.seq (.reg .seq) (.cond (.reg .seq) .leaf)))))) (.reg (.held [7] (.take 0 (.take 1 (.take 2 (.take 5 (.take 6 (.eff 3 none (.eff 4 none (.eff 7 (some [8]) (.eff 8 (some []) (.take 9 .done)))))))))))))))) (.reg .seq))))) (.seq (.reg .seq) .leaf))))))))
set_option maxRecDepth 100000 in
theorem T9 (p1 : Int × Int × Int) (s2 : ByteArray) (w : World) (R : ByteArray → Int → World → Prop) (h : S9 p1 s2 w R) : C9 (p1.1, p1.2.1, p1.2.2) s2 w R := by
  have e : fnT Tryz.prog ⟨FF, MAY, (fun _ _ => False)⟩ pl9 Tryz.f9 [.agg #[.int .i64 (p1.1), .int .i64 (p1.2.1), .int .i64 (p1.2.2)], .string s2] w [(.one .str), (.one (.int .i64))] (fun s w => R s.1 s.2 w) = S9 p1 s2 w R := by kernel_rfl
  exact (fn_calls okF okM Tryz.func9 (by kernel_rfl) (by kernel_rfl) (e.mpr h)).mono fun _ _ ⟨s, he, hR⟩ => ⟨s.1, s.2, he, hR⟩

def S24L1 (w : World) (tag2 : Int) (x4 : Slc) (R : World → Prop) (I7 : Int → World → Prop) (s5 : Int) (vw6 : World) : Prop :=
  Br (decide (s5 < ((x4.len : Nat) : Int))) (∃ vS8 : World → Prop, vS8 vw6.drew ∧ LdS vS8 ((⟨w.heap.size, 0, none⟩ : Addr).add 1) Slc.v fun (x9 : Slc) =>
    0 ≤ s5 ∧ s5 < (x9.len : Nat) ∧ Nn x9.p fun a10 =>
    LdS vS8 (a10.add ((s5).toNat * 1)) (Value.int .u8) fun (x11 : Int) =>
    LdS vS8 (⟨w.heap.size, 0, none⟩ : Addr) Slc.v fun (x12 : Slc) =>
    LdS vS8 ((⟨w.heap.size, 0, none⟩ : Addr).add 1) Slc.v fun (x13 : Slc) =>
    LdS vS8 ((⟨w.heap.size, 0, none⟩ : Addr).add 2) (Value.int .i64) fun (x14 : Int) =>
    C40 (x12, x13, x14) tag2 s5 vw6.drew fun r15 vw16 =>
      vS8 vw16 ∧ 0 ≤ s5 ∧ s5 < (x9.len : Nat) ∧ Nn x9.p fun a17 =>
      St vw16 (a17.add ((s5).toNat * 1)) (.int .u8 (IntKind.u8.wrap (x11 + r15))) fun vw18 =>
      I7 (IntKind.i64.wrap (s5 + 1)) vw18) (R vw6)
/-- (foliant/predict.rows).more -/
def S24 (r1 : Slc × Slc × Int) (tag2 : Int) (w : World) (R : World → Prop) : Prop :=
  Nw w (.cells #[Slc.v r1.1, Slc.v r1.2.1, .int .i64 (r1.2.2)] 42) fun vw3 =>
  Ld vw3 ((⟨w.heap.size, 0, none⟩ : Addr).add 1) Slc.v fun (x4 : Slc) =>
  Lp (σ := Int) (S24L1 w tag2 x4 R) 0 vw3
def pl24 : Plan := (.seq (.reg .seq) (.seq (.reg .seq) (.block (.loop [(8, (.one (.int .i64)))] [1, 2, 7] (.seq (.reg .seq) (.seq (.cond .leaf .leaf) (.seq (.block (.seq (.reg .seq) (.reg (.held [11] (.take 0 (.take 1 (.take 2 (.take 3 (.take 4 (.take 5 (.take 6 (.take 7 (.eff 8 none (.take 9 (.take 10 (.eff 11 (some []) .done)))))))))))))))) (.reg .seq))))))))
set_option maxRecDepth 100000 in
theorem T24 (r1 : Slc × Slc × Int) (tag2 : Int) (w : World) (R : World → Prop) (h : S24 r1 tag2 w R) : C24 (r1.1, r1.2.1, r1.2.2) tag2 w R := by
  have e : fnT Tryz.prog ⟨FF, MAY, (fun _ _ => False)⟩ pl24 Tryz.f24 [.agg #[Slc.v r1.1, Slc.v r1.2.1, .int .i64 (r1.2.2)], .int .i64 tag2] w [] (fun _ w => R w) = S24 r1 tag2 w R := by kernel_rfl
  exact (fn_calls okF okM Tryz.func24 (by kernel_rfl) (by kernel_rfl) (e.mpr h)).mono fun _ _ ⟨_, he, hR⟩ => ⟨he, hR⟩

def S10J1 (r7 : Int) (s10 : Int) (vw21 : World) (s29 : ByteArray × Slc) (I31 : (ByteArray × Slc) → World → Prop) (R : ByteArray → Int → World → Prop) (s32 : Int) (vw33 : World) : Prop :=
  Br (decide (s32 ≥ 5)) (R (⟨#[]⟩ : ByteArray) 3 vw33) (∃ vS44 : World → Prop, vS44 vw33.drew ∧ LdS vS44 ((⟨vw21.heap.size, 0, none⟩ : Addr).add 1) Slc.v fun (x45 : Slc) =>
    0 ≤ (IntKind.i64.wrap ((if 1 > r7 then 1 else r7) + s10)) ∧ (IntKind.i64.wrap ((if 1 > r7 then 1 else r7) + s10)) ≤ (((s29.1).size : Nat) : Int) ∧ 0 ≤ s10 ∧ s10 ≤ (((IntKind.i64.wrap ((if 1 > r7 then 1 else r7) + s10)).toNat : Nat) : Int) ∧ (Rn Tryz.prog (convert 9 29 (.string (s29.1.extract ((s10).toNat) ((IntKind.i64.wrap ((if 1 > r7 then 1 else r7) + s10)).toNat)))) vw33.drew Slc.v fun (x46 : Slc) vw47 =>
      vS44 vw47 ∧ St vw47 (⟨vw21.heap.size, 0, none⟩ : Addr) (Slc.v x45) fun vw48 =>
      St vw48 ((⟨vw21.heap.size, 0, none⟩ : Addr).add 1) (Slc.v x46) fun vw49 =>
      Ld vw49 (⟨vw21.heap.size, 0, none⟩ : Addr) Slc.v fun (x50 : Slc) =>
      Ld vw49 ((⟨vw21.heap.size, 0, none⟩ : Addr).add 1) Slc.v fun (x51 : Slc) =>
      Ld vw49 ((⟨vw21.heap.size, 0, none⟩ : Addr).add 2) (Value.int .i64) fun (x52 : Int) =>
      C24 (x50, x51, x52) s32 vw49 fun vw53 =>
        Ld vw53 ((⟨vw21.heap.size, 0, none⟩ : Addr).add 1) Slc.v fun (x54 : Slc) =>
        Rn Tryz.prog (Builtin.append_ #[29, 29] 29 #[Slc.v s29.2, Slc.v x54]) vw53 Slc.v fun (x55 : Slc) vw56 =>
        0 ≤ (IntKind.i64.wrap ((if 1 > r7 then 1 else r7) + s10)) ∧ (IntKind.i64.wrap ((if 1 > r7 then 1 else r7) + s10)) ≤ (((s29.1).size : Nat) : Int) ∧ I31 (s29.1.extract ((IntKind.i64.wrap ((if 1 > r7 then 1 else r7) + s10)).toNat) ((s29.1).size), x55) vw56) ∧
    (St vw33.drew (⟨vw21.heap.size, 0, none⟩ : Addr) (Slc.v x45) fun vw57 =>
      Rn Tryz.prog (convert 9 29 (.string (s29.1.extract ((s10).toNat) ((IntKind.i64.wrap ((if 1 > r7 then 1 else r7) + s10)).toNat)))) vw57 Slc.v fun (x58 : Slc) vw59 =>
      St vw59 ((⟨vw21.heap.size, 0, none⟩ : Addr).add 1) (Slc.v x58) fun vw60 =>
      Ld vw60 (⟨vw21.heap.size, 0, none⟩ : Addr) Slc.v fun (x61 : Slc) =>
      Ld vw60 ((⟨vw21.heap.size, 0, none⟩ : Addr).add 1) Slc.v fun (x62 : Slc) =>
      Ld vw60 ((⟨vw21.heap.size, 0, none⟩ : Addr).add 2) (Value.int .i64) fun (x63 : Int) =>
      C24 (x61, x62, x63) s32 vw60 fun vw64 =>
        Ld vw64 ((⟨vw21.heap.size, 0, none⟩ : Addr).add 1) Slc.v fun (x65 : Slc) =>
        Rn Tryz.prog (Builtin.append_ #[29, 29] 29 #[Slc.v s29.2, Slc.v x65]) vw64 Slc.v fun (x66 : Slc) vw67 =>
        0 ≤ (IntKind.i64.wrap ((if 1 > r7 then 1 else r7) + s10)) ∧ (IntKind.i64.wrap ((if 1 > r7 then 1 else r7) + s10)) ≤ (((s29.1).size : Nat) : Int) ∧ I31 (s29.1.extract ((IntKind.i64.wrap ((if 1 > r7 then 1 else r7) + s10)).toNat) ((s29.1).size), x66) vw67))
def S10L1 (r7 : Int) (s10 : Int) (vw21 : World) (R : ByteArray → Int → World → Prop) (I31 : (ByteArray × Slc) → World → Prop) (s29 : ByteArray × Slc) (vw30 : World) : Prop :=
  Br (decide ((((s29.1).size : Nat) : Int) > 0)) (Join (S10J1 r7 s10 vw21 s29 I31 R) fun (vJ68 : Int → World → Prop) =>
      Br (s10 == 1) (0 ≤ (0 : Int) ∧ (0 : Int) < ((s29.1).size : Nat) ∧ vJ68 (IntKind.i64.wrap (bAt s29.1 0)) vw30) (vJ68 1 vw30)) (Rn Tryz.prog (convert 29 9 (Slc.v s29.2)) vw30 Value.string fun (x69 : ByteArray) vw70 =>
    R x69 0 vw70)
def S10J2 (w : World) (s2 : ByteArray) (r7 : Int) (R : ByteArray → Int → World → Prop) (s10 : Int) (vw11 : World) : Prop :=
  Ld vw11 (⟨w.heap.size, 0, none⟩ : Addr) (Value.int .i64) fun (x17 : Int) =>
  Ld vw11 ((⟨w.heap.size, 0, none⟩ : Addr).add 1) (Value.int .i64) fun (x18 : Int) =>
  Ld vw11 ((⟨w.heap.size, 0, none⟩ : Addr).add 2) (Value.int .i64) fun (x19 : Int) =>
  C21 (x17, x18, x19) s2 (IntKind.i64.wrap ((if 1 > r7 then 1 else r7) + s10)) vw11 fun r20 vw21 =>
    Br (r20 != 0) (R (⟨#[]⟩ : ByteArray) r20 vw21) (Ld vw21 (⟨w.heap.size, 0, none⟩ : Addr) (Value.int .i64) fun (x23 : Int) =>
      Br (x23 == 1) (R s2 0 vw21) (Ld vw21 ((⟨w.heap.size, 0, none⟩ : Addr).add 1) (Value.int .i64) fun (x24 : Int) =>
        Nw vw21 (.cells #[Slc.v ((⟨none, 0, 0⟩ : Slc)), Slc.v ((⟨none, 0, 0⟩ : Slc)), .int .i64 0] 42) fun vw25 =>
        St vw25 (⟨vw21.heap.size, 0, none⟩ : Addr) (Slc.v ((⟨none, 0, 0⟩ : Slc))) fun vw26 =>
        St vw26 ((⟨vw21.heap.size, 0, none⟩ : Addr).add 1) (Slc.v ((⟨none, 0, 0⟩ : Slc))) fun vw27 =>
        St vw27 ((⟨vw21.heap.size, 0, none⟩ : Addr).add 2) (.int .i64 x24) fun vw28 =>
        Lp (σ := ByteArray × Slc) (S10L1 r7 s10 vw21 R) (s2, (⟨none, 0, 0⟩ : Slc)) vw28))
/-- foliant/predict.Decode -/
def S10 (p1 : Int × Int × Int) (s2 : ByteArray) (w : World) (R : ByteArray → Int → World → Prop) : Prop :=
  Nw w (.cells #[.int .i64 (p1.1), .int .i64 (p1.2.1), .int .i64 (p1.2.2)] 28) fun vw3 =>
  Ld vw3 (⟨w.heap.size, 0, none⟩ : Addr) (Value.int .i64) fun (x4 : Int) =>
  Ld vw3 ((⟨w.heap.size, 0, none⟩ : Addr).add 1) (Value.int .i64) fun (x5 : Int) =>
  Ld vw3 ((⟨w.heap.size, 0, none⟩ : Addr).add 2) (Value.int .i64) fun (x6 : Int) =>
  C20 (x4, x5, x6) vw3 fun r7 vw8 =>
    Join (S10J2 w s2 r7 R) fun (vJ71 : Int → World → Prop) =>
      Ld vw8 (⟨w.heap.size, 0, none⟩ : Addr) (Value.int .i64) fun (x72 : Int) =>
      Br (decide (x72 ≥ 10)) (vJ71 1 vw8) (vJ71 0 vw8)
def pl10 : Plan := (.seq (.reg .seq) (.seq (.reg .seq) (.join [(7, (.one (.int .i64)))] [1, 2, 6] (.seq (.reg .seq) (.cond (.reg .seq) .leaf)) (.seq (.seq (.reg .seq) (.seq (.reg .seq) (.cond (.seq (.reg .seq) .leaf) .leaf))) (.seq (.seq (.reg .seq) (.cond (.seq (.reg .seq) .leaf) .leaf)) (.seq (.reg .seq) (.seq (.reg .seq) (.seq (.block (.loop [(1, (.one .str)), (9, (.one .slc))] [6, 7, 10] (.seq (.seq (.reg .seq) (.cond .leaf .leaf)) (.seq (.block (.seq (.reg .seq) (.join [(11, (.one (.int .i64)))] [1, 6, 7, 9, 10] (.seq (.reg .seq) (.cond (.reg .seq) .leaf)) (.seq (.seq (.reg .seq) (.cond (.seq (.reg .seq) .leaf) .leaf)) (.seq (.reg (.held [10] (.take 0 (.take 1 (.take 2 (.take 3 (.take 4 (.take 5 (.take 6 (.take 7 (.take 9 (.effs 8 none (.eff 10 (some [12]) (.take 11 (.eff 12 (some []) .done))) (.eff 10 (some [8]) (.eff 8 (some [12]) (.take 11 (.eff 12 (some []) .done)))))))))))))))) (.seq (.reg .seq) (.reg .seq))))))) (.reg .seq))))) (.seq (.reg .seq) .leaf)))))))))
set_option maxRecDepth 100000 in
theorem T10 (p1 : Int × Int × Int) (s2 : ByteArray) (w : World) (R : ByteArray → Int → World → Prop) (h : S10 p1 s2 w R) : C10 (p1.1, p1.2.1, p1.2.2) s2 w R := by
  have e : fnT Tryz.prog ⟨FF, MAY, (fun _ _ => False)⟩ pl10 Tryz.f10 [.agg #[.int .i64 (p1.1), .int .i64 (p1.2.1), .int .i64 (p1.2.2)], .string s2] w [(.one .str), (.one (.int .i64))] (fun s w => R s.1 s.2 w) = S10 p1 s2 w R := by kernel_rfl
  exact (fn_calls okF okM Tryz.func10 (by kernel_rfl) (by kernel_rfl) (e.mpr h)).mono fun _ _ ⟨s, he, hR⟩ => ⟨s.1, s.2, he, hR⟩

end Go.Proofs.YtjkoafjnmkchdaaGreatDoor

/- The formulas of 14 functions of the program, written by program (gen.py); the kernel checks each. No condition. -/
namespace Go.Proofs.YtjkoafjnmkchdaaGreatDoor
open Sh
set_option linter.unusedVariables false
set_option maxRecDepth 100000

def C25 (x1 : Int × Int) (c2 : Int) (w : World) (R : (Int × Int) → World → Prop) : Prop :=
  Calls Tryz.prog 25 #[.agg #[.int .u32 (x1.1), .int .u32 (x1.2)], .int .u8 c2] w fun e w' => ∃ r0 : Int × Int, e = .returned (.agg #[.int .u32 (r0.1), .int .u32 (r0.2)]) ∧ R r0 w'
theorem C25.mono {x1 : Int × Int} {c2 : Int} {w : World} {R R' : (Int × Int) → World → Prop} (h : C25 x1 c2 w R) (hr : ∀ r0 w', R r0 w' → R' r0 w') : C25 x1 c2 w R' :=
  Calls.mono h fun _ _ ⟨r0, he, hR⟩ => ⟨r0, he, hr _ _ hR⟩
def C12 (was1 : Int) (s2 : ByteArray) (w : World) (R : Int → World → Prop) : Prop :=
  Calls Tryz.prog 12 #[.int .u32 was1, .string s2] w fun e w' => ∃ r0 : Int, e = .returned (.int .u32 r0) ∧ R r0 w'
theorem C12.mono {was1 : Int} {s2 : ByteArray} {w : World} {R R' : Int → World → Prop} (h : C12 was1 s2 w R) (hr : ∀ r0 w', R r0 w' → R' r0 w') : C12 was1 s2 w R' :=
  Calls.mono h fun _ _ ⟨r0, he, hR⟩ => ⟨r0, he, hr _ _ hR⟩
def C11 (s1 : ByteArray) (w : World) (R : Int → World → Prop) : Prop :=
  Calls Tryz.prog 11 #[.string s1] w fun e w' => ∃ r0 : Int, e = .returned (.int .u32 r0) ∧ R r0 w'
theorem C11.mono {s1 : ByteArray} {w : World} {R R' : Int → World → Prop} (h : C11 s1 w R) (hr : ∀ r0 w', R r0 w' → R' r0 w') : C11 s1 w R' :=
  Calls.mono h fun _ _ ⟨r0, he, hR⟩ => ⟨r0, he, hr _ _ hR⟩
def C33 (sum1 : Int) (s2 : ByteArray) (w : World) (R : Int → World → Prop) : Prop :=
  Calls Tryz.prog 33 #[.int .u32 sum1, .string s2] w fun e w' => ∃ r0 : Int, e = .returned (.int .u32 r0) ∧ R r0 w'
theorem C33.mono {sum1 : Int} {s2 : ByteArray} {w : World} {R R' : Int → World → Prop} (h : C33 sum1 s2 w R) (hr : ∀ r0 w', R r0 w' → R' r0 w') : C33 sum1 s2 w R' :=
  Calls.mono h fun _ _ ⟨r0, he, hR⟩ => ⟨r0, he, hr _ _ hR⟩
def C18 (s1 : ByteArray) (w : World) (R : Int → World → Prop) : Prop :=
  Calls Tryz.prog 18 #[.string s1] w fun e w' => ∃ r0 : Int, e = .returned (.int .u32 r0) ∧ R r0 w'
theorem C18.mono {s1 : ByteArray} {w : World} {R R' : Int → World → Prop} (h : C18 s1 w R) (hr : ∀ r0 w', R r0 w' → R' r0 w') : C18 s1 w R' :=
  Calls.mono h fun _ _ ⟨r0, he, hR⟩ => ⟨r0, he, hr _ _ hR⟩
def C15 (n1 : Int) (w : World) (R : ByteArray → World → Prop) : Prop :=
  Calls Tryz.prog 15 #[.int .u32 n1] w fun e w' => ∃ r0 : ByteArray, e = .returned (.string r0) ∧ R r0 w'
theorem C15.mono {n1 : Int} {w : World} {R R' : ByteArray → World → Prop} (h : C15 n1 w R) (hr : ∀ r0 w', R r0 w' → R' r0 w') : C15 n1 w R' :=
  Calls.mono h fun _ _ ⟨r0, he, hR⟩ => ⟨r0, he, hr _ _ hR⟩
def C8 (s1 : ByteArray) (level2 : Int) (w : World) (R : ByteArray → Int → World → Prop) (PR : Value → World → Prop) : Prop :=
  Calls Tryz.prog 8 #[.string s1, .int .i64 level2] w fun e w' => (∃ r0 : ByteArray, ∃ r1 : Int, e = .returned (.tuple #[.string r0, .int .i64 r1]) ∧ R r0 r1 w') ∨ ∃ v, e = .panicked (onePanic v) ∧ PR v w'
theorem C8.mono {s1 : ByteArray} {level2 : Int} {w : World} {R R' : ByteArray → Int → World → Prop} {PR PR' : Value → World → Prop} (h : C8 s1 level2 w R PR) (hr : ∀ r0 r1 w', R r0 r1 w' → R' r0 r1 w') (hp : ∀ v w', PR v w' → PR' v w') : C8 s1 level2 w R' PR' :=
  Calls.mono h fun _ _ he => he.elim (fun ⟨r0, r1, he, hR⟩ => .inl ⟨r0, r1, he, hr _ _ _ hR⟩) fun ⟨v, he, hP⟩ => .inr ⟨v, he, hp _ _ hP⟩
def C17 (sum1 : Int) (w : World) (R : ByteArray → World → Prop) : Prop :=
  Calls Tryz.prog 17 #[.int .u32 sum1] w fun e w' => ∃ r0 : ByteArray, e = .returned (.string r0) ∧ R r0 w'
theorem C17.mono {sum1 : Int} {w : World} {R R' : ByteArray → World → Prop} (h : C17 sum1 w R) (hr : ∀ r0 w', R r0 w' → R' r0 w') : C17 sum1 w R' :=
  Calls.mono h fun _ _ ⟨r0, he, hR⟩ => ⟨r0, he, hr _ _ hR⟩
def C13 (s1 : ByteArray) (w : World) (R : Int → World → Prop) : Prop :=
  Calls Tryz.prog 13 #[.string s1] w fun e w' => ∃ r0 : Int, e = .returned (.int .i64 r0) ∧ R r0 w'
theorem C13.mono {s1 : ByteArray} {w : World} {R R' : Int → World → Prop} (h : C13 s1 w R) (hr : ∀ r0 w', R r0 w' → R' r0 w') : C13 s1 w R' :=
  Calls.mono h fun _ _ ⟨r0, he, hR⟩ => ⟨r0, he, hr _ _ hR⟩
def C6 (s1 : ByteArray) (most2 : Int) (w : World) (R : ByteArray → Int → World → Prop) : Prop :=
  Calls Tryz.prog 6 #[.string s1, .int .i64 most2] w fun e w' => ∃ r0 : ByteArray, ∃ r1 : Int, e = .returned (.tuple #[.string r0, .int .i64 r1]) ∧ R r0 r1 w'
theorem C6.mono {s1 : ByteArray} {most2 : Int} {w : World} {R R' : ByteArray → Int → World → Prop} (h : C6 s1 most2 w R) (hr : ∀ r0 r1 w', R r0 r1 w' → R' r0 r1 w') : C6 s1 most2 w R' :=
  Calls.mono h fun _ _ ⟨r0, r1, he, hR⟩ => ⟨r0, r1, he, hr _ _ _ hR⟩
def C7 (s1 : ByteArray) (most2 : Int) (w : World) (R : ByteArray → Int → World → Prop) : Prop :=
  Calls Tryz.prog 7 #[.string s1, .int .i64 most2] w fun e w' => ∃ r0 : ByteArray, ∃ r1 : Int, e = .returned (.tuple #[.string r0, .int .i64 r1]) ∧ R r0 r1 w'
theorem C7.mono {s1 : ByteArray} {most2 : Int} {w : World} {R R' : ByteArray → Int → World → Prop} (h : C7 s1 most2 w R) (hr : ∀ r0 r1 w', R r0 r1 w' → R' r0 r1 w') : C7 s1 most2 w R' :=
  Calls.mono h fun _ _ ⟨r0, r1, he, hR⟩ => ⟨r0, r1, he, hr _ _ _ hR⟩
def C5 (w : World) (R : Bool → World → Prop) (PR : Value → World → Prop) : Prop :=
  Calls Tryz.prog 5 #[] w fun e w' => (∃ r0 : Bool, e = .returned (.bool r0) ∧ R r0 w') ∨ ∃ v, e = .panicked (onePanic v) ∧ PR v w'
theorem C5.mono {w : World} {R R' : Bool → World → Prop} {PR PR' : Value → World → Prop} (h : C5 w R PR) (hr : ∀ r0 w', R r0 w' → R' r0 w') (hp : ∀ v w', PR v w' → PR' v w') : C5 w R' PR' :=
  Calls.mono h fun _ _ he => he.elim (fun ⟨r0, he, hR⟩ => .inl ⟨r0, he, hr _ _ hR⟩) fun ⟨v, he, hP⟩ => .inr ⟨v, he, hp _ _ hP⟩
def C3 (s1 : ByteArray) (most2 : Int) (w : World) (R : Bool → World → Prop) (PR : Value → World → Prop) : Prop :=
  Calls Tryz.prog 3 #[.string s1, .int .i64 most2] w fun e w' => (∃ r0 : Bool, e = .returned (.bool r0) ∧ R r0 w') ∨ ∃ v, e = .panicked (onePanic v) ∧ PR v w'
theorem C3.mono {s1 : ByteArray} {most2 : Int} {w : World} {R R' : Bool → World → Prop} {PR PR' : Value → World → Prop} (h : C3 s1 most2 w R PR) (hr : ∀ r0 w', R r0 w' → R' r0 w') (hp : ∀ v w', PR v w' → PR' v w') : C3 s1 most2 w R' PR' :=
  Calls.mono h fun _ _ he => he.elim (fun ⟨r0, he, hR⟩ => .inl ⟨r0, he, hr _ _ hR⟩) fun ⟨v, he, hP⟩ => .inr ⟨v, he, hp _ _ hP⟩
def C4 (s1 : ByteArray) (vat2 : Int) (vby3 : Int) (p4 : Int × Int × Int) (w : World) (R : Bool → World → Prop) (PR : Value → World → Prop) : Prop :=
  Calls Tryz.prog 4 #[.string s1, .int .i64 vat2, .int .u8 vby3, .agg #[.int .i64 (p4.1), .int .i64 (p4.2.1), .int .i64 (p4.2.2)]] w fun e w' => (∃ r0 : Bool, e = .returned (.bool r0) ∧ R r0 w') ∨ ∃ v, e = .panicked (onePanic v) ∧ PR v w'
theorem C4.mono {s1 : ByteArray} {vat2 : Int} {vby3 : Int} {p4 : Int × Int × Int} {w : World} {R R' : Bool → World → Prop} {PR PR' : Value → World → Prop} (h : C4 s1 vat2 vby3 p4 w R PR) (hr : ∀ r0 w', R r0 w' → R' r0 w') (hp : ∀ v w', PR v w' → PR' v w') : C4 s1 vat2 vby3 p4 w R' PR' :=
  Calls.mono h fun _ _ he => he.elim (fun ⟨r0, he, hR⟩ => .inl ⟨r0, he, hr _ _ hR⟩) fun ⟨v, he, hP⟩ => .inr ⟨v, he, hp _ _ hP⟩

/-- (foliant/zlib.sum).by -/
def S25 (x1 : Int × Int) (c2 : Int) (w : World) (R : (Int × Int) → World → Prop) : Prop :=
  Nw w (.cells #[.int .u32 (x1.1), .int .u32 (x1.2)] 48) fun vw3 =>
  Nw vw3 (.cells #[.int .u32 0, .int .u32 0] 48) fun vw4 =>
  Ld vw4 (⟨w.heap.size, 0, none⟩ : Addr) (Value.int .u32) fun (x5 : Int) =>
  St vw4 (⟨w.heap.size, 0, none⟩ : Addr) (.int .u32 (Int.tmod (IntKind.u32.wrap (x5 + (IntKind.u32.wrap c2))) 65521)) fun vw6 =>
  Ld vw6 ((⟨w.heap.size, 0, none⟩ : Addr).add 1) (Value.int .u32) fun (x7 : Int) =>
  Ld vw6 (⟨w.heap.size, 0, none⟩ : Addr) (Value.int .u32) fun (x8 : Int) =>
  St vw6 ((⟨w.heap.size, 0, none⟩ : Addr).add 1) (.int .u32 (Int.tmod (IntKind.u32.wrap (x7 + x8)) 65521)) fun vw9 =>
  Ld vw9 (⟨w.heap.size, 0, none⟩ : Addr) (Value.int .u32) fun (x10 : Int) =>
  Ld vw9 ((⟨w.heap.size, 0, none⟩ : Addr).add 1) (Value.int .u32) fun (x11 : Int) =>
  St vw9 (⟨vw3.heap.size, 0, none⟩ : Addr) (.int .u32 x10) fun vw12 =>
  St vw12 ((⟨vw3.heap.size, 0, none⟩ : Addr).add 1) (.int .u32 x11) fun vw13 =>
  Ld vw13 (⟨vw3.heap.size, 0, none⟩ : Addr) (Value.int .u32) fun (x14 : Int) =>
  Ld vw13 ((⟨vw3.heap.size, 0, none⟩ : Addr).add 1) (Value.int .u32) fun (x15 : Int) =>
  R (x14, x15) vw13
def pl25 : Plan := (.seq (.reg .seq) (.seq (.reg .seq) (.seq (.reg .seq) (.seq (.reg .seq) .leaf))))
set_option maxRecDepth 100000 in
theorem T25 (x1 : Int × Int) (c2 : Int) (w : World) (R : (Int × Int) → World → Prop) (h : S25 x1 c2 w R) : C25 (x1.1, x1.2) c2 w R := by
  have e : fnT Tryz.prog ⟨FF, MAY, (fun _ _ => False)⟩ pl25 Tryz.f25 [.agg #[.int .u32 (x1.1), .int .u32 (x1.2)], .int .u8 c2] w [(.agg [(.int .u32), (.int .u32)])] (fun s w => R s w) = S25 x1 c2 w R := by kernel_rfl
  exact (fn_calls okF okM Tryz.func25 (by kernel_rfl) (by kernel_rfl) (e.mpr h)).mono fun _ _ ⟨s, he, hR⟩ => ⟨s, he, hR⟩

def S12L1 (w : World) (s2 : ByteArray) (R : Int → World → Prop) (I17 : Int → World → Prop) (s15 : Int) (vw16 : World) : Prop :=
  Br (decide (s15 < (((s2).size : Nat) : Int))) (Ld vw16.drew (⟨w.heap.size, 0, none⟩ : Addr) (Value.int .u32) fun (x18 : Int) =>
    Ld vw16.drew ((⟨w.heap.size, 0, none⟩ : Addr).add 1) (Value.int .u32) fun (x19 : Int) =>
    0 ≤ s15 ∧ s15 < ((s2).size : Nat) ∧ C25 (x18, x19) (bAt s2 s15) vw16.drew fun r20 vw21 =>
      St vw21 (⟨w.heap.size, 0, none⟩ : Addr) (.int .u32 (r20.1)) fun vw22 =>
      St vw22 ((⟨w.heap.size, 0, none⟩ : Addr).add 1) (.int .u32 (r20.2)) fun vw23 =>
      I17 (IntKind.i64.wrap (s15 + 1)) vw23) (Ld vw16 ((⟨w.heap.size, 0, none⟩ : Addr).add 1) (Value.int .u32) fun (x24 : Int) =>
    Ld vw16 (⟨w.heap.size, 0, none⟩ : Addr) (Value.int .u32) fun (x25 : Int) =>
    R (ior .u32 (IntKind.u32.wrap (x24 * 2 ^ 16)) x25) vw16)
/-- foliant/zlib.More -/
def S12 (was1 : Int) (s2 : ByteArray) (w : World) (R : Int → World → Prop) : Prop :=
  Nw w (.cells #[.int .u32 0, .int .u32 0] 48) fun vw3 =>
  St vw3 (⟨w.heap.size, 0, none⟩ : Addr) (.int .u32 (Int.tmod (iand .u32 was1 65535) 65521)) fun vw4 =>
  St vw4 ((⟨w.heap.size, 0, none⟩ : Addr).add 1) (.int .u32 (Int.tmod (Int.fdiv was1 (2 ^ 16)) 65521)) fun vw5 =>
  Lp (σ := Int) (S12L1 w s2 R) 0 vw5
def pl12 : Plan := (.seq (.reg .seq) (.seq (.reg .seq) (.seq (.seq (.reg .seq) (.block (.loop [(16, (.one (.int .i64)))] [1, 5, 15] (.seq (.reg .seq) (.seq (.cond .leaf .leaf) (.seq (.block (.seq (.reg .seq) (.reg (.tail 4)))) (.reg .seq))))))) (.seq (.reg .seq) .leaf))))
set_option maxRecDepth 100000 in
theorem T12 (was1 : Int) (s2 : ByteArray) (w : World) (R : Int → World → Prop) (h : S12 was1 s2 w R) : C12 was1 s2 w R := by
  have e : fnT Tryz.prog ⟨FF, MAY, (fun _ _ => False)⟩ pl12 Tryz.f12 [.int .u32 was1, .string s2] w [(.one (.int .u32))] (fun s w => R s w) = S12 was1 s2 w R := by kernel_rfl
  exact (fn_calls okF okM Tryz.func12 (by kernel_rfl) (by kernel_rfl) (e.mpr h)).mono fun _ _ ⟨s, he, hR⟩ => ⟨s, he, hR⟩

/-- foliant/zlib.Sum -/
def S11 (s1 : ByteArray) (w : World) (R : Int → World → Prop) : Prop :=
  C12 1 s1 w fun r2 vw3 =>
    R r2 vw3
def pl11 : Plan := (.seq (.reg .seq) (.seq (.reg .seq) .leaf))
set_option maxRecDepth 100000 in
theorem T11 (s1 : ByteArray) (w : World) (R : Int → World → Prop) (h : S11 s1 w R) : C11 s1 w R := by
  have e : fnT Tryz.prog ⟨FF, MAY, (fun _ _ => False)⟩ pl11 Tryz.f11 [.string s1] w [(.one (.int .u32))] (fun s w => R s w) = S11 s1 w R := by kernel_rfl
  exact (fn_calls okF okM Tryz.func11 (by kernel_rfl) (by kernel_rfl) (e.mpr h)).mono fun _ _ ⟨s, he, hR⟩ => ⟨s, he, hR⟩

/-- foliant/zlib.four -/
def S15 (n1 : Int) (w : World) (R : ByteArray → World → Prop) : Prop :=
  Nw w (.cells #[.int .u8 (IntKind.u8.wrap (Int.fdiv n1 (2 ^ 24))), .int .u8 (IntKind.u8.wrap (Int.fdiv n1 (2 ^ 16))), .int .u8 (IntKind.u8.wrap (Int.fdiv n1 (2 ^ 8))), .int .u8 (IntKind.u8.wrap n1)] 5) fun vw2 =>
  Rn Tryz.prog (convert 29 9 (Slc.v ((⟨some ⟨w.heap.size, 0, none⟩, 4, 4⟩ : Slc)))) vw2 Value.string fun (x3 : ByteArray) vw4 =>
  R x3 vw4
def pl15 : Plan := (.seq (.reg .seq) (.seq (.reg .seq) .leaf))
set_option maxRecDepth 100000 in
theorem T15 (n1 : Int) (w : World) (R : ByteArray → World → Prop) (h : S15 n1 w R) : C15 n1 w R := by
  have e : fnT Tryz.prog ⟨FF, MAY, (fun _ _ => False)⟩ pl15 Tryz.f15 [.int .u32 n1] w [(.one .str)] (fun s w => R s w) = S15 n1 w R := by kernel_rfl
  exact (fn_calls okF okM Tryz.func15 (by kernel_rfl) (by kernel_rfl) (e.mpr h)).mono fun _ _ ⟨s, he, hR⟩ => ⟨s, he, hR⟩

/-- foliant/zlib.Wrap -/
def S8 (s1 : ByteArray) (level2 : Int) (w : World) (R : ByteArray → Int → World → Prop) (PR : Value → World → Prop) : Prop :=
  C19 s1 level2 w (fun r3 r4 vw5 =>
    Br (r4 != 0) (R (⟨#[]⟩ : ByteArray) r4 vw5) (((((⟨#[120, 156]⟩ : ByteArray)).size + (r3).size : Nat) : Int) ≤ IntKind.i64.max ∧ C11 s1 vw5 fun r6 vw7 =>
        C15 r6 vw7 fun r8 vw9 =>
          ((((⟨#[120, 156]⟩ : ByteArray) ++ r3).size + (r8).size : Nat) : Int) ≤ IntKind.i64.max ∧ R (((⟨#[120, 156]⟩ : ByteArray) ++ r3) ++ r8) 0 vw9)) PR
def pl8 : Plan := (.seq (.reg .seq) (.seq (.reg .seq) (.seq (.seq (.reg .seq) (.cond (.seq (.reg .seq) .leaf) .leaf)) (.seq (.reg .seq) .leaf))))
set_option maxRecDepth 100000 in
theorem T8 (s1 : ByteArray) (level2 : Int) (w : World) (R : ByteArray → Int → World → Prop) (PR : Value → World → Prop) (h : S8 s1 level2 w R PR) : C8 s1 level2 w R PR := by
  have e : fnT Tryz.prog ⟨FF, MAY, PR⟩ pl8 Tryz.f8 [.string s1, .int .i64 level2] w [(.one .str), (.one (.int .i64))] (fun s w => R s.1 s.2 w) = S8 s1 level2 w R PR := by kernel_rfl
  exact (fn_callsP okF okM Tryz.func8 (by kernel_rfl) (by kernel_rfl) (e.mpr h)).mono fun _ _ he => he.elim (fun ⟨s, he, hR⟩ => .inl ⟨s.1, s.2, he, hR⟩) .inr

/-- foliant/zlib.begins -/
def S13 (s1 : ByteArray) (w : World) (R : Int → World → Prop) : Prop :=
  Br (decide ((((s1).size : Nat) : Int) < 2)) (R 4 w) (0 ≤ (0 : Int) ∧ (0 : Int) < ((s1).size : Nat) ∧ 0 ≤ (1 : Int) ∧ (1 : Int) < ((s1).size : Nat) ∧ Br ((iand .i64 (IntKind.i64.wrap (bAt s1 0)) 15) != 8) (R 3 w.drew) (Br (decide ((Int.fdiv (IntKind.i64.wrap (bAt s1 0)) (2 ^ 4)) > 7)) (R 3 w.drew) (Lt (ior .i64 (IntKind.i64.wrap ((IntKind.i64.wrap (bAt s1 0)) * 2 ^ 8)) (IntKind.i64.wrap (bAt s1 1))) fun (x2 : Int) =>
        Br ((Int.tmod x2 31) != 0) (R 3 w.drew) (Br ((iand .i64 (IntKind.i64.wrap (bAt s1 1)) 32) != 0) (R 3 w.drew) (R 0 w.drew)))))
def pl13 : Plan := (.seq (.reg .seq) (.seq (.seq (.reg .seq) (.cond (.seq (.reg .seq) .leaf) .leaf)) (.seq (.reg .still) (.seq (.seq (.reg .seq) (.cond (.seq (.reg .seq) .leaf) .leaf)) (.seq (.reg .seq) .leaf)))))
set_option maxRecDepth 100000 in
theorem T13 (s1 : ByteArray) (w : World) (R : Int → World → Prop) (h : S13 s1 w R) : C13 s1 w R := by
  have e : fnT Tryz.prog ⟨FF, MAY, (fun _ _ => False)⟩ pl13 Tryz.f13 [.string s1] w [(.one (.int .i64))] (fun s w => R s w) = S13 s1 w R := by kernel_rfl
  exact (fn_calls okF okM Tryz.func13 (by kernel_rfl) (by kernel_rfl) (e.mpr h)).mono fun _ _ ⟨s, he, hR⟩ => ⟨s, he, hR⟩

/-- foliant/zlib.Unwrap -/
def S6 (s1 : ByteArray) (most2 : Int) (w : World) (R : ByteArray → Int → World → Prop) : Prop :=
  C13 s1 w fun r5 vw6 =>
    Br (r5 != 0) (R (⟨#[]⟩ : ByteArray) r5 vw6) (0 ≤ (2 : Int) ∧ (2 : Int) ≤ (((s1).size : Nat) : Int) ∧ C14 (s1.extract (((2 : Int)).toNat) ((s1).size)) most2 vw6 fun r7 r8 r9 vw10 =>
        Br (r9 != 0) (R (⟨#[]⟩ : ByteArray) r9 vw10) (Lt (decide ((IntKind.i64.wrap ((((s1.extract (((2 : Int)).toNat) ((s1).size)).size : Nat) : Int) - r8)) < 4)) fun (x11 : Bool) =>
          Br x11 (R (⟨#[]⟩ : ByteArray) 4 vw10) (0 ≤ (IntKind.i64.wrap (r8 + 4)) ∧ (IntKind.i64.wrap (r8 + 4)) ≤ (((s1.extract (((2 : Int)).toNat) ((s1).size)).size : Nat) : Int) ∧ 0 ≤ r8 ∧ r8 ≤ (((IntKind.i64.wrap (r8 + 4)).toNat : Nat) : Int) ∧ C11 r7 vw10.drew fun r12 vw13 =>
              C15 r12 vw13 fun r14 vw15 =>
                Br (!(((s1.extract (((2 : Int)).toNat) ((s1).size)).extract ((r8).toNat) ((IntKind.i64.wrap (r8 + 4)).toNat)).toList == r14.toList)) (R (⟨#[]⟩ : ByteArray) 12 vw15) (R r7 0 vw15))))
def pl6 : Plan := (.seq (.reg .seq) (.seq (.seq (.reg .seq) (.seq (.reg .seq) (.cond (.seq (.reg .seq) .leaf) .leaf))) (.seq (.reg .seq) (.seq (.reg .seq) (.seq (.block (.seq (.reg .seq) (.cond (.seq (.reg .seq) .leaf) (.seq (.reg .seq) (.cond (.seq (.reg .seq) .leaf) (.seq (.reg (.held [6] (.take 0 (.take 1 (.take 2 (.take 3 (.take 4 (.take 5 (.eff 6 (some [7]) (.eff 7 (some []) (.take 8 (.take 9 .done)))))))))))) (.cond (.seq (.reg .seq) .leaf) .leaf))))))) (.seq (.reg .seq) .leaf))))))
set_option maxRecDepth 100000 in
theorem T6 (s1 : ByteArray) (most2 : Int) (w : World) (R : ByteArray → Int → World → Prop) (h : S6 s1 most2 w R) : C6 s1 most2 w R := by
  have e : fnT Tryz.prog ⟨FF, MAY, (fun _ _ => False)⟩ pl6 Tryz.f6 [.string s1, .int .i64 most2] w [(.one .str), (.one (.int .i64))] (fun s w => R s.1 s.2 w) = S6 s1 most2 w R := by kernel_rfl
  exact (fn_calls okF okM Tryz.func6 (by kernel_rfl) (by kernel_rfl) (e.mpr h)).mono fun _ _ ⟨s, he, hR⟩ => ⟨s.1, s.2, he, hR⟩

/-- foliant/foliantlaw13.ZlibUnwraps -/
def S3 (s1 : ByteArray) (most2 : Int) (w : World) (R : Bool → World → Prop) (PR : Value → World → Prop) : Prop :=
  Br (decide ((((s1).size : Nat) : Int) > 1000)) (C5 w (fun r7 vw8 =>
      R r7 vw8) PR) (Br (decide (most2 > 3000)) (C5 w (fun r9 vw10 =>
        R r9 vw10) PR) (C6 s1 most2 w fun r11 r12 vw13 =>
        C7 s1 most2 vw13 fun r14 r15 vw16 =>
          Br (r11.toList == r14.toList) (Br (r12 == r15) (C5 vw16 (fun r17 vw18 =>
                R r17 vw18) PR) (R false vw16)) (R false vw16)))
def pl3 : Plan := (.seq (.reg .seq) (.seq (.seq (.reg .seq) (.cond (.seq (.reg .seq) .leaf) .leaf)) (.seq (.reg .seq) (.seq (.reg .seq) (.seq (.reg .seq) .leaf)))))
set_option maxRecDepth 100000 in
theorem T3 (s1 : ByteArray) (most2 : Int) (w : World) (R : Bool → World → Prop) (PR : Value → World → Prop) (h : S3 s1 most2 w R PR) : C3 s1 most2 w R PR := by
  have e : fnT Tryz.prog ⟨FF, MAY, PR⟩ pl3 Tryz.f3 [.string s1, .int .i64 most2] w [(.one .bool)] (fun s w => R s w) = S3 s1 most2 w R PR := by kernel_rfl
  exact (fn_callsP okF okM Tryz.func3 (by kernel_rfl) (by kernel_rfl) (e.mpr h)).mono fun _ _ he => he.elim (fun ⟨s, he, hR⟩ => .inl ⟨s, he, hR⟩) .inr

def S4J1 (w : World) (s1 : ByteArray) (R : Bool → World → Prop) (PR : Value → World → Prop) (s25 : Unit) (vw26 : World) : Prop :=
  Ld vw26 (⟨w.heap.size, 0, none⟩ : Addr) (Value.int .i64) fun (x27 : Int) =>
  Ld vw26 ((⟨w.heap.size, 0, none⟩ : Addr).add 1) (Value.int .i64) fun (x28 : Int) =>
  Ld vw26 ((⟨w.heap.size, 0, none⟩ : Addr).add 2) (Value.int .i64) fun (x29 : Int) =>
  C9 (x27, x28, x29) s1 vw26 fun r30 r31 vw32 =>
    Br (r31 != 0) (R true vw32) (C8 r30 1 vw32 (fun r33 r34 vw35 =>
        C6 r33 (((r30).size : Nat) : Int) vw35 fun r36 r37 vw38 =>
          Ld vw38 (⟨w.heap.size, 0, none⟩ : Addr) (Value.int .i64) fun (x39 : Int) =>
          Ld vw38 ((⟨w.heap.size, 0, none⟩ : Addr).add 1) (Value.int .i64) fun (x40 : Int) =>
          Ld vw38 ((⟨w.heap.size, 0, none⟩ : Addr).add 2) (Value.int .i64) fun (x41 : Int) =>
          C10 (x39, x40, x41) r36 vw38 fun r42 r43 vw44 =>
            Br (r34 == 0) (Br (r37 == 0) (Br (r36.toList == r30.toList) (Br (r43 == 0) (R (r42.toList == s1.toList) vw44) (R false vw44)) (R false vw44)) (R false vw44)) (R false vw44)) PR)
/-- foliant/folianttop.TopSums -/
def S4 (s1 : ByteArray) (vat2 : Int) (vby3 : Int) (p4 : Int × Int × Int) (w : World) (R : Bool → World → Prop) (PR : Value → World → Prop) : Prop :=
  Nw w (.cells #[.int .i64 (p4.1), .int .i64 (p4.2.1), .int .i64 (p4.2.2)] 28) fun vw5 =>
  C8 (⟨#[97]⟩ : ByteArray) 1 vw5 (fun r6 r7 vw8 =>
    C6 r6 9 vw8 fun r12 r13 vw14 =>
      Br (!(r12.toList == (⟨#[97]⟩ : ByteArray).toList)) (R false vw14) (Br (r13 != 0) (R false vw14) (Br (r7 != 0) (R false vw14) (Br (decide ((((s1).size : Nat) : Int) > 800)) (R true vw14) (Br (decide (vat2 < 0)) (R true vw14) (Br (decide (vat2 > 3)) (R true vw14) (C8 s1 2 vw14 (fun r15 r16 vw17 =>
                    Br (r16 != 0) (R false vw17) (Br (decide ((((r15).size : Nat) : Int) < 6)) (R false vw17) (0 ≤ (IntKind.i64.wrap ((IntKind.i64.wrap ((((r15).size : Nat) : Int) - 4)) + vat2)) ∧ (IntKind.i64.wrap ((IntKind.i64.wrap ((((r15).size : Nat) : Int) - 4)) + vat2)) ≤ (((r15).size : Nat) : Int) ∧ 0 ≤ (IntKind.i64.wrap ((IntKind.i64.wrap ((((r15).size : Nat) : Int) - 4)) + vat2)) ∧ (IntKind.i64.wrap ((IntKind.i64.wrap ((((r15).size : Nat) : Int) - 4)) + vat2)) < ((r15).size : Nat) ∧ 0 ≤ (IntKind.i64.wrap ((IntKind.i64.wrap ((IntKind.i64.wrap ((((r15).size : Nat) : Int) - 4)) + vat2)) + 1)) ∧ (IntKind.i64.wrap ((IntKind.i64.wrap ((IntKind.i64.wrap ((((r15).size : Nat) : Int) - 4)) + vat2)) + 1)) ≤ (((r15).size : Nat) : Int) ∧ Nw vw17.drew (.cells #[.int .u8 (ixor .u8 (bAt r15 (IntKind.i64.wrap ((IntKind.i64.wrap ((((r15).size : Nat) : Int) - 4)) + vat2))) vby3)] 5) fun vw18 =>
                        Rn Tryz.prog (convert 29 9 (Slc.v ((⟨some ⟨vw17.drew.heap.size, 0, none⟩, 1, 1⟩ : Slc)))) vw18 Value.string fun (x19 : ByteArray) vw20 =>
                        (((r15.extract 0 ((IntKind.i64.wrap ((IntKind.i64.wrap ((((r15).size : Nat) : Int) - 4)) + vat2)).toNat)).size + (x19).size : Nat) : Int) ≤ IntKind.i64.max ∧ ((((r15.extract 0 ((IntKind.i64.wrap ((IntKind.i64.wrap ((((r15).size : Nat) : Int) - 4)) + vat2)).toNat)) ++ x19).size + (r15.extract ((IntKind.i64.wrap ((IntKind.i64.wrap ((IntKind.i64.wrap ((((r15).size : Nat) : Int) - 4)) + vat2)) + 1)).toNat) ((r15).size)).size : Nat) : Int) ≤ IntKind.i64.max ∧ Lt (((r15.extract 0 ((IntKind.i64.wrap ((IntKind.i64.wrap ((((r15).size : Nat) : Int) - 4)) + vat2)).toNat)) ++ x19) ++ (r15.extract ((IntKind.i64.wrap ((IntKind.i64.wrap ((IntKind.i64.wrap ((((r15).size : Nat) : Int) - 4)) + vat2)) + 1)).toNat) ((r15).size))) fun (x21 : ByteArray) =>
                        C6 x21 (((s1).size : Nat) : Int) vw20 fun r22 r23 vw24 =>
                          Join (S4J1 w s1 R PR) fun (vJ45 : Unit → World → Prop) =>
                            Br (vby3 == 0) (Br (r23 != 0) (R false vw24) (Br (!(r22.toList == s1.toList)) (R false vw24) (Br (vby3 != 0) (Br (r23 != 12) (R false vw24) (Br (!(r22.toList == (⟨#[]⟩ : ByteArray).toList)) (R false vw24) (vJ45 () vw24))) (vJ45 () vw24)))) (Br (vby3 != 0) (Br (r23 != 12) (R false vw24) (Br (!(r22.toList == (⟨#[]⟩ : ByteArray).toList)) (R false vw24) (vJ45 () vw24))) (vJ45 () vw24))))) PR))))))) PR
def pl4 : Plan := (.seq (.reg .seq) (.seq (.reg .seq) (.seq (.seq (.reg .seq) (.seq (.reg .seq) (.cond (.seq (.reg .seq) .leaf) .leaf))) (.seq (.seq (.reg .seq) (.cond (.seq (.reg .seq) .leaf) .leaf)) (.seq (.reg .seq) (.seq (.seq (.reg .seq) (.cond (.seq (.reg .seq) .leaf) .leaf)) (.seq (.reg .seq) (.seq (.reg (.held [8] (.take 0 (.take 1 (.take 2 (.take 3 (.take 4 (.take 5 (.take 6 (.take 7 (.take 11 (.take 12 (.take 13 (.take 14 (.eff 8 (some [9]) (.eff 9 (some []) (.take 10 (.take 15 (.take 16 .done))))))))))))))))))) (.seq (.reg .seq) (.join [] [0, 7] (.seq (.reg .seq) (.cond (.seq (.reg .seq) .leaf) .leaf)) (.seq (.reg .seq) (.seq (.seq (.reg .seq) (.cond (.seq (.reg .seq) .leaf) .leaf)) (.seq (.reg .seq) (.seq (.reg .seq) (.seq (.reg .seq) (.seq (.reg .seq) .leaf))))))))))))))))
set_option maxRecDepth 100000 in
theorem T4 (s1 : ByteArray) (vat2 : Int) (vby3 : Int) (p4 : Int × Int × Int) (w : World) (R : Bool → World → Prop) (PR : Value → World → Prop) (h : S4 s1 vat2 vby3 p4 w R PR) : C4 s1 vat2 vby3 (p4.1, p4.2.1, p4.2.2) w R PR := by
  have e : fnT Tryz.prog ⟨FF, MAY, PR⟩ pl4 Tryz.f4 [.string s1, .int .i64 vat2, .int .u8 vby3, .agg #[.int .i64 (p4.1), .int .i64 (p4.2.1), .int .i64 (p4.2.2)]] w [(.one .bool)] (fun s w => R s w) = S4 s1 vat2 vby3 p4 w R PR := by kernel_rfl
  exact (fn_callsP okF okM Tryz.func4 (by kernel_rfl) (by kernel_rfl) (e.mpr h)).mono fun _ _ he => he.elim (fun ⟨s, he, hR⟩ => .inl ⟨s, he, hR⟩) .inr

end Go.Proofs.YtjkoafjnmkchdaaGreatDoor

/- TopFlate: what is deflated is inflated again. Conditions: sizes; the laid variables. -/
namespace Go.Proofs.YtjkoafjnmkchdaaGreatDoor
namespace Inf
open Sh Bit
set_option linter.unusedVariables false
set_option linter.unusedSimpArgs false
set_option maxRecDepth 4000
set_option maxHeartbeats 1000000
attribute [local irreducible] Ld St Nw Nn Lt LdS
theorem Laid.to {N : Nat} {w w' : World} (h : Laid N w) (he : Ext (fun _ => False) w w') : Laid N w' := h.keep he fun _ h => h.elim
end Inf
end Go.Proofs.YtjkoafjnmkchdaaGreatDoor

/- Zlib: the sums, both sides; the four bytes. Conditions: sizes. -/
namespace Go.Proofs.YtjkoafjnmkchdaaGreatDoor
namespace Inf
open Sh Bit
set_option linter.unusedVariables false
set_option linter.unusedSimpArgs false
set_option maxRecDepth 4000
set_option maxHeartbeats 1000000
theorem u32_id {n : Int} (h : 0 ≤ n ∧ n ≤ 4294967295) : IntKind.u32.wrap n = n := by
  unfold IntKind.wrap
  simp [IntKind.bits, IntKind.signed]
  omega
theorem iand_u32 {x y : Nat} (hx : x < 2 ^ 32) (hy : y < 2 ^ 32) : iand .u32 (x : Int) (y : Int) = ((x &&& y : Nat) : Int) := by
  unfold iand
  rw [ofInt_nat, ofInt_nat]
  have h1 : (BitVec.ofNat IntKind.u32.bits x &&& BitVec.ofNat IntKind.u32.bits y).toNat = x &&& y := by
    rw [BitVec.toNat_and, BitVec.toNat_ofNat, BitVec.toNat_ofNat, Nat.mod_eq_of_lt (by simp [IntKind.bits]; omega), Nat.mod_eq_of_lt (by simp [IntKind.bits]; omega)]
  rw [h1]
  have h2 : x &&& y < 2 ^ 32 := Nat.and_lt_two_pow x hy
  exact u32_id (by omega)
theorem ior_u32 {x y : Nat} (hx : x < 2 ^ 32) (hy : y < 2 ^ 32) : ior .u32 (x : Int) (y : Int) = ((x ||| y : Nat) : Int) := by
  unfold ior
  rw [ofInt_nat, ofInt_nat]
  have h1 : (BitVec.ofNat IntKind.u32.bits x ||| BitVec.ofNat IntKind.u32.bits y).toNat = x ||| y := by
    rw [BitVec.toNat_or, BitVec.toNat_ofNat, BitVec.toNat_ofNat, Nat.mod_eq_of_lt (by simp [IntKind.bits]; omega), Nat.mod_eq_of_lt (by simp [IntKind.bits]; omega)]
  rw [h1]
  have h2 : x ||| y < 2 ^ 32 := Nat.or_lt_two_pow hx hy
  exact u32_id (by omega)
/-- One byte more. -/
def ad1 (p : Nat × Nat) (x : UInt8) : Nat × Nat := ((p.1 + x.toNat) % 65521, (p.2 + (p.1 + x.toNat) % 65521) % 65521)
def ad0 (was : Nat) : Nat × Nat := (was % 65536 % 65521, was / 65536 % 65521)
def adN (p : Nat × Nat) : Nat := p.2 * 65536 + p.1
/-- The sum of more bytes. -/
def adler (was : Nat) (l : List UInt8) : Nat := adN (l.foldl ad1 (ad0 was))
theorem ad_lt : ∀ (l : List UInt8) (p : Nat × Nat), p.1 < 65521 ∧ p.2 < 65521 → (l.foldl ad1 p).1 < 65521 ∧ (l.foldl ad1 p).2 < 65521
  | [], p, h => h
  | x :: l, p, h => by
    rw [List.foldl_cons]
    exact ad_lt l _ ⟨Nat.mod_lt _ (by decide), Nat.mod_lt _ (by decide)⟩
theorem ad0_lt (was : Nat) : (ad0 was).1 < 65521 ∧ (ad0 was).2 < 65521 := ⟨Nat.mod_lt _ (by decide), Nat.mod_lt _ (by decide)⟩
theorem tmodN (x n : Nat) : Int.tmod (x : Int) (n : Int) = ((x % n : Nat) : Int) := by
  rw [Int.tmod_eq_emod_of_nonneg (by omega)]
  simp
attribute [local irreducible] Ld St Nw Nn Lt LdS
theorem c_by {p : Nat × Nat} (h : p.1 < 65521 ∧ p.2 < 65521) (x : UInt8) {c : Int} (hc : c = (x.toNat : Int)) (w : World) : C25 ((p.1 : Int), (p.2 : Int)) c w fun r w1 => r = (((ad1 p x).1 : Int), ((ad1 p x).2 : Int)) ∧ Ext (fun _ => False) w w1 := by
  subst hc
  have hx := x.toNat_lt
  refine T25 ((p.1 : Int), (p.2 : Int)) _ _ _ ?_
  unfold S25
  refine (Hn.start w).nw fun w3 H => ?_
  simp only [List.nil_append] at H
  refine H.nw fun w4 H => ?_
  simp only [List.cons_append, List.nil_append] at H
  iterate 1 refine H.ld 0 rfl rfl ?_
  have e1 : Int.tmod (IntKind.u32.wrap ((p.1 : Int) + IntKind.u32.wrap (x.toNat : Int))) 65521 = (((p.1 + x.toNat) % 65521 : Nat) : Int) := by
    rw [u32_id (n := (x.toNat : Int)) (by omega), u32_id (by omega)]
    exact tmodN (p.1 + x.toNat) 65521
  have m1 : (p.1 + x.toNat) % 65521 < 65521 := Nat.mod_lt _ (by decide)
  rw [e1]
  iterate 1 (refine H.st 0 rfl (by simp) fun _ H => ?_; simp only [List.nil_append, List.cons_append, List.set_cons_zero, List.set_cons_succ, Nat.zero_add] at H)
  iterate 2 refine H.ld 0 rfl rfl ?_
  have e2 : Int.tmod (IntKind.u32.wrap ((p.2 : Int) + (((p.1 + x.toNat) % 65521 : Nat) : Int))) 65521 = (((p.2 + (p.1 + x.toNat) % 65521) % 65521 : Nat) : Int) := by
    rw [u32_id (by omega)]
    exact tmodN (p.2 + (p.1 + x.toNat) % 65521) 65521
  rw [e2]
  iterate 1 (refine H.st 0 rfl (by simp) fun _ H => ?_; simp only [List.nil_append, List.cons_append, List.set_cons_zero, List.set_cons_succ, Nat.zero_add] at H)
  iterate 2 refine H.ld 0 rfl rfl ?_
  iterate 2 (refine H.st 1 rfl (by simp) fun _ H => ?_; simp only [List.nil_append, List.cons_append, List.set_cons_zero, List.set_cons_succ, Nat.zero_add] at H)
  iterate 2 refine H.ld 1 rfl rfl ?_
  exact ⟨rfl, H.ext⟩
theorem take_fold {s : List UInt8} {i : Nat} (h : i < s.length) (p : Nat × Nat) : (s.take (i + 1)).foldl ad1 p = ad1 ((s.take i).foldl ad1 p) (s.getD i 0) := by
  rw [List.take_add_one, List.getElem?_eq_getElem h, List.foldl_append, List.getD_eq_getElem?_getD, List.getElem?_eq_getElem h]
  rfl
/-- foliant/zlib.More -/
theorem c_More {was : Nat} (hw : was < 4294967296) {S : ByteArray} (hs : S.size ≤ 4294967296) (w : World) : C12 (was : Int) S w fun r w1 => r = ((adler was S.data.toList : Nat) : Int) ∧ Ext (fun _ => False) w w1 := by
  have hsz : S.data.toList.length = S.size := (size_list S).symm
  refine T12 _ _ _ _ ?_
  unfold S12
  refine (Hn.start w).nw fun w3 H => ?_
  simp only [List.nil_append] at H
  have e1 : Int.tmod (iand .u32 (was : Int) 65535) 65521 = ((was % 65536 % 65521 : Nat) : Int) := by
    have := iand_u32 (x := was) (y := 65535) (by omega) (by decide)
    rw [show (65535 : Int) = ((65535 : Nat) : Int) from rfl, this, show (65535 : Nat) = 2 ^ 16 - 1 by decide, Nat.and_two_pow_sub_one_eq_mod]
    exact tmodN _ 65521
  have e2 : Int.tmod (Int.fdiv (was : Int) (2 ^ 16)) 65521 = ((was / 65536 % 65521 : Nat) : Int) := by
    rw [fdiv_pow, show (2 : Int) ^ 16 = ((65536 : Nat) : Int) by decide, ← Int.natCast_ediv]
    exact tmodN _ 65521
  rw [e1, e2]
  iterate 2 (refine H.st 0 rfl (by simp) fun _ H => ?_; simp only [List.nil_append, List.cons_append, List.set_cons_zero, List.set_cons_succ, Nat.zero_add] at H)
  refine ⟨fun m i' w5 => ∃ i : Nat, i' = (i : Int) ∧ i ≤ S.size ∧ m = S.size - i ∧ Hn w w5 [(w.heap.size, [.int .u32 (((S.data.toList.take i).foldl ad1 (ad0 was)).1 : Int), .int .u32 (((S.data.toList.take i).foldl ad1 (ad0 was)).2 : Int)], 48)], S.size, ⟨0, rfl, Nat.zero_le _, rfl, H⟩, ?_⟩
  rintro m i' w5 ⟨i, rfl, hi, rfl, H⟩
  unfold S12L1
  have hlt := ad_lt (S.data.toList.take i) _ (ad0_lt was)
  refine Br.dec (fun q => ?_) fun q => ?_
  · have H := H.drew
    iterate 2 refine H.ld 0 rfl rfl ?_
    refine ⟨by omega, by omega, ?_⟩
    have htf := take_fold (s := S.data.toList) (i := i) (by omega) (ad0 was)
    refine (c_by hlt (S.data.toList.getD i 0) (bAt_list S i) _).mono ?_
    rintro r w6 ⟨rfl, e6⟩
    have H := H.keep e6
    iterate 2 (refine H.st 0 rfl (by simp) fun _ H => ?_; simp only [List.nil_append, List.cons_append, List.set_cons_zero, List.set_cons_succ, Nat.zero_add] at H)
    refine ⟨S.size - (i + 1), by omega, i + 1, by rw [i64_id (by omega)]; rfl, by omega, rfl, ?_⟩
    rw [htf]
    exact H
  · have : i = S.size := by omega
    subst this
    rw [List.take_of_length_le (by omega)] at H hlt
    iterate 2 refine H.ld 0 rfl rfl ?_
    refine ⟨?_, H.ext⟩
    have hn : (((S.data.toList.foldl ad1 (ad0 was)).2 : Nat) : Int) * 2 ^ 16 = (((S.data.toList.foldl ad1 (ad0 was)).2 * 65536 : Nat) : Int) := by
      rw [show (2 : Int) ^ 16 = 65536 by decide]; simp
    rw [hn, u32_id (by omega), ior_u32 (by omega) (by omega), show (65536 : Nat) = 2 ^ 16 by decide, Nat.mul_comm, ← Nat.two_pow_add_eq_or_of_lt (by omega)]
    unfold adler adN
    rw [show (2 : Nat) ^ 16 = 65536 by decide, Nat.mul_comm]
theorem c_Sum {S : ByteArray} (hs : S.size ≤ 4294967296) (w : World) : C11 S w fun r w1 => r = ((adler 1 S.data.toList : Nat) : Int) ∧ Ext (fun _ => False) w w1 := by
  refine T11 _ _ _ ?_
  unfold S11
  exact (c_More (was := 1) (by decide) hs w).mono fun r w1 h => h
end Inf
end Go.Proofs.YtjkoafjnmkchdaaGreatDoor

/- Zlib: wrapping and unwrapping. Conditions: sizes; the laid variables. -/
namespace Go.Proofs.YtjkoafjnmkchdaaGreatDoor
namespace Inf
open Sh Bit
set_option linter.unusedVariables false
set_option linter.unusedSimpArgs false
set_option maxRecDepth 4000
set_option maxHeartbeats 1000000
attribute [local irreducible] Ld St Nw Nn Lt LdS
theorem eqL (a b : ByteArray) : (a.toList == b.toList) = decide (a.data.toList = b.data.toList) := by
  rw [ByteArray.toList_eq, ByteArray.toList_eq]
  by_cases h : a.data.toList = b.data.toList
  · rw [decide_eq_true h]
    simpa using h
  · rw [decide_eq_false h]
    simpa using h
theorem mk_list (l : List UInt8) : (⟨l.toArray⟩ : ByteArray).data.toList = l := by simp
theorem app_list (a b : ByteArray) : (a ++ b).data.toList = a.data.toList ++ b.data.toList := by rw [ByteArray.data_append, Array.toList_append]
theorem of_list (s : ByteArray) : (⟨s.data.toList.toArray⟩ : ByteArray) = s := ba_ext (by simp)
/-! ### The four bytes -/
def fourL (n : Nat) : List UInt8 := [UInt8.ofNat (n / 16777216), UInt8.ofNat (n / 65536), UInt8.ofNat (n / 256), UInt8.ofNat n]
theorem u8w (n : Nat) : IntKind.u8.wrap (n : Int) = ((UInt8.ofNat n).toNat : Int) := by
  unfold IntKind.wrap
  simp [IntKind.bits, IntKind.signed]
theorem fd24 (n : Nat) : Int.fdiv (n : Int) (2 ^ 24) = ((n / 16777216 : Nat) : Int) := by
  rw [fdiv_pow, show (2 : Int) ^ 24 = ((16777216 : Nat) : Int) by decide, ← Int.natCast_ediv]
theorem fd16 (n : Nat) : Int.fdiv (n : Int) (2 ^ 16) = ((n / 65536 : Nat) : Int) := by
  rw [fdiv_pow, show (2 : Int) ^ 16 = ((65536 : Nat) : Int) by decide, ← Int.natCast_ediv]
theorem fd8 (n : Nat) : Int.fdiv (n : Int) (2 ^ 8) = ((n / 256 : Nat) : Int) := by
  rw [fdiv_pow, show (2 : Int) ^ 8 = ((256 : Nat) : Int) by decide, ← Int.natCast_ediv]
theorem c_four {n : Nat} (w : World) : C15 (n : Int) w fun r w1 => r = ⟨(fourL n).toArray⟩ ∧ Ext (fun _ => False) w w1 := by
  refine T15 _ _ _ ?_
  unfold S15
  rw [fd24, fd16, fd8, u8w, u8w, u8w, u8w]
  refine Nw.of ?_
  have e1 := (Ext.refl (fun _ => False) w).alloc (.cells (bcs (fourL n)).toArray 5)
  have R1 : BRow (w.alloc (.cells (bcs (fourL n)).toArray 5)) ⟨some ⟨w.heap.size, 0, none⟩, 4, 4⟩ (fourL n) := Row.new w (bcs (fourL n)).toArray 5 1 4 rfl
  exact ⟨_, _, str_row R1, rfl, e1⟩
theorem c_byte1 (b : UInt8) (w : World) : ∃ w1, RunV Tryz.prog (convert 29 9 (Slc.v (⟨some ⟨w.heap.size, 0, none⟩, 1, 1⟩ : Slc))) (w.alloc (.cells #[.int .u8 (b.toNat : Int)] 5)) (.string ⟨#[b]⟩) w1 ∧ Ext (fun _ => False) w w1 := by
  have e1 := (Ext.refl (fun _ => False) w).alloc (.cells (bcs [b]).toArray 5)
  have R1 : BRow (w.alloc (.cells (bcs [b]).toArray 5)) ⟨some ⟨w.heap.size, 0, none⟩, 1, 1⟩ [b] := Row.new w (bcs [b]).toArray 5 1 1 rfl
  exact ⟨_, str_row R1, e1⟩
theorem fourL_len (n : Nat) : (fourL n).length = 4 := rfl
/-! ### The head -/
def headE (a b : Nat) : Int := if a % 16 ≠ 8 then 3 else if 7 < a / 16 then 3 else if (256 * a + b) % 31 ≠ 0 then 3 else if b / 32 % 2 ≠ 0 then 3 else 0
def beginsE (s : ByteArray) : Int := if s.size < 2 then 4 else headE (s.data.toList.getD 0 0).toNat (s.data.toList.getD 1 0).toNat
theorem and32 : ∀ b : Nat, b < 256 → b &&& 32 = b / 32 % 2 * 32 := by decide +kernel
theorem and15 : ∀ b : Nat, b < 256 → b &&& 15 = b % 16 := by decide +kernel
theorem c_begins (s : ByteArray) (w : World) : C13 s w fun r w1 => r = beginsE s ∧ Ext (fun _ => False) w w1 := by
  refine T13 _ _ _ ?_
  unfold S13
  refine Br.dec (fun q => ⟨by unfold beginsE; rw [if_pos (by omega)], Ext.refl _ _⟩) fun q => ⟨by decide, by omega, by decide, by omega, ?_⟩
  have e : beginsE s = headE (s.data.toList.getD 0 0).toNat (s.data.toList.getD 1 0).toNat := by unfold beginsE; rw [if_neg (by omega)]
  have h0 : bAt s 0 = (((s.data.toList.getD 0 0).toNat : Nat) : Int) := bAt_list s 0
  have h1 : bAt s 1 = (((s.data.toList.getD 1 0).toNat : Nat) : Int) := bAt_list s 1
  rw [e, h0, h1]
  have l0 := (s.data.toList.getD 0 0).toNat_lt
  have l1 := (s.data.toList.getD 1 0).toNat_lt
  generalize (s.data.toList.getD 0 0).toNat = a at *
  generalize (s.data.toList.getD 1 0).toNat = b at *
  have l0 : a < 256 := l0
  have l1 : b < 256 := l1
  rw [i64_id (n := (a : Int)) (by omega), i64_id (n := (b : Int)) (by omega)]
  have a1 : iand .i64 (a : Int) 15 = ((a % 16 : Nat) : Int) := by rw [show (15 : Int) = ((15 : Nat) : Int) from rfl, iand_nat (by omega) (by decide), and15 a l0]
  have a2 : Int.fdiv (a : Int) (2 ^ 4) = ((a / 16 : Nat) : Int) := by rw [fdiv_pow, show (2 : Int) ^ 4 = ((16 : Nat) : Int) by decide, ← Int.natCast_ediv]
  have a3 : ior .i64 (IntKind.i64.wrap ((a : Int) * 2 ^ 8)) (b : Int) = ((256 * a + b : Nat) : Int) := by
    rw [show (a : Int) * 2 ^ 8 = ((a * 2 ^ 8 : Nat) : Int) by simp, i64_id (by omega), ior_nat (by omega) (by omega), Nat.or_comm, or_shift (by omega)]
    omega
  have a4 : iand .i64 (b : Int) 32 = ((b / 32 % 2 * 32 : Nat) : Int) := by rw [show (32 : Int) = ((32 : Nat) : Int) from rfl, iand_nat (by omega) (by decide), and32 b l1]
  have hd := (Ext.refl (fun _ => False) w).drew
  rw [a1, a2, a3, a4]
  unfold headE
  refine Br.ne (fun h => ⟨(if_pos (by omega)).symm, hd⟩) fun h => ?_
  rw [if_neg (by omega)]
  refine Br.dec (fun h => ⟨(if_pos (by omega)).symm, hd⟩) fun h => ?_
  rw [if_neg (by omega)]
  refine Lt.of ?_
  have a5 : Int.tmod (((256 * a + b : Nat) : Int)) 31 = (((256 * a + b) % 31 : Nat) : Int) := tmodN _ 31
  rw [a5]
  refine Br.ne (fun h => ⟨(if_pos (by omega)).symm, hd⟩) fun h => ?_
  rw [if_neg (by omega)]
  refine Br.ne (fun h => ⟨(if_pos (by omega)).symm, hd⟩) fun h => ?_
  rw [if_neg (by omega)]
  exact ⟨rfl, hd⟩
/-! ### Wrap -/
def wrapT (T s : List UInt8) : List UInt8 := [120, 156] ++ (T ++ fourL (adler 1 s))
def WrapR (S : ByteArray) (lv : Int) (w : World) (r : ByteArray) (e : Int) (w1 : World) : Prop :=
  e = 0 ∧ (∃ T : List UInt8, r = ⟨(wrapT T S.data.toList).toArray⟩ ∧ Gives T S.data.toList ∧ T.length ≤ S.size + 5 ∧ (lv = 0 → T.length = S.size + 5) ∧ AllOf S.data.toList lv T) ∧ Ext (fun _ => False) w w1
theorem c_Wrap {S : ByteArray} (hs : S.size ≤ 65535) {lv : Int} (h0 : 0 ≤ lv) (h2 : lv ≤ 2) (w : World) : C8 S lv w (fun r e w1 => WrapR S lv w r e w1) (fun _ _ => False) := by
  refine T8 _ _ _ _ _ ?_
  unfold S8
  refine (c_AllW hs h0 h2 w).mono ?_ fun _ _ h => h
  rintro r e w5 ⟨rfl, ⟨T, rfl, g, h1, h3, h4⟩, e5⟩
  have hmax : IntKind.i64.max = 9223372036854775807 := rfl
  have hs2 : (⟨#[120, 156]⟩ : ByteArray).size = 2 := rfl
  refine Br.ne (fun h => (h rfl).elim) fun _ => ⟨by rw [hmax, hs2, size_mk]; omega, ?_⟩
  refine (c_Sum (S := S) (by omega) w5).mono ?_
  rintro r6 w7 ⟨rfl, e7⟩
  refine (c_four w7).mono ?_
  rintro r8 w9 ⟨rfl, e9⟩
  refine ⟨by rw [hmax, ByteArray.size_append, hs2, size_mk, size_mk, fourL_len]; omega, rfl, ⟨T, ?_, g, h1, h3, h4⟩, (e5.tr e7).tr e9⟩
  refine ba_ext ?_
  rw [app_list, app_list, mk_list, mk_list, mk_list]
  exact List.append_assoc _ _ _
/-! ### Unwrap -/
def unwrapF (s : ByteArray) (most : Int) : ByteArray × Int :=
  if beginsE s ≠ 0 then (⟨#[]⟩, beginsE s) else
  if (allR (s.extract 2 s.size) most).2.2 ≠ 0 then (⟨#[]⟩, (allR (s.extract 2 s.size) most).2.2) else
  if (s.size : Int) - 2 - (allR (s.extract 2 s.size) most).2.1 < 4 then (⟨#[]⟩, 4) else
  if ((s.data.toList.drop 2).drop (allR (s.extract 2 s.size) most).2.1.toNat).take 4 = fourL (adler 1 (allR (s.extract 2 s.size) most).1.data.toList) then ((allR (s.extract 2 s.size) most).1, 0) else (⟨#[]⟩, 12)
theorem allR_small {s : ByteArray} {most : Int} {d : ByteArray} {n : Int} (h : (d, n, 0) = allR s most) : d.size ≤ 1048576 := by
  by_cases hm : most < 0
  · unfold allR at h
    rw [if_pos hm] at h
    cases h
  · have e : allR s most = allR s (min most 1048576) := by
      rw [allR_Q (by omega), allR_Q (by omega), show min (min most 1048576) 1048576 = min most 1048576 by omega]
    rw [e] at h
    obtain ⟨u, _, _, _, u3, _, _⟩ := ends_plain h
    omega
theorem begins_two {s : ByteArray} (h : beginsE s = 0) : 2 ≤ s.size := by
  unfold beginsE at h
  split at h
  · cases h
  · omega
theorem c_Unwrap {s : ByteArray} (hs : s.size ≤ 1000000) {N : Nat} {w : World} (hL : Laid N w) (m : Int) : C6 s m w fun d e w1 => (d, e) = unwrapF s m ∧ Ext (fun _ => False) w w1 := by
  have hsz : s.data.toList.length = s.size := (size_list s).symm
  refine T6 _ _ _ _ ?_
  unfold S6
  refine (c_begins s w).mono ?_
  rintro r5 w6 ⟨rfl, e6⟩
  unfold unwrapF
  refine Br.ne (fun h => ⟨(if_pos h).symm, e6⟩) fun h => ?_
  rw [if_neg (fun k => k h)]
  have h2 := begins_two h
  refine ⟨by decide, by omega, ?_⟩
  have e2 : ((2 : Int)).toNat = 2 := rfl
  rw [e2]
  have hx : (s.extract 2 s.size).size = s.size - 2 := by rw [ByteArray.size_extract]; omega
  have hxl : (s.extract 2 s.size).data.toList = s.data.toList.drop 2 := extract_drop s 2
  generalize s.extract 2 s.size = x at *
  refine (c_All (s := x) (by omega) (hL.to e6) m).mono ?_
  rintro t n e w10 ⟨hR, e10⟩
  rw [← hR]
  dsimp only
  refine Br.ne (fun h => ⟨(if_pos h).symm, e6.tr e10⟩) fun h => ?_
  subst h
  rw [if_neg (fun k => k rfl)]
  have ht := allR_small hR
  obtain ⟨u, rfl, u1, u2, u3, _, _⟩ := ends_plain hR
  rw [i64_id (n := ((x.size : Nat) : Int) - (u : Int)) (by omega)]
  refine Lt.of ?_
  refine Br.dec (fun q => ⟨(if_pos (by omega)).symm, e6.tr e10⟩) fun q => ?_
  rw [if_neg (by omega)]
  have ew : IntKind.i64.wrap ((u : Int) + 4) = ((u + 4 : Nat) : Int) := i64_id (by omega)
  rw [ew, Int.toNat_natCast, Int.toNat_natCast]
  refine ⟨by omega, by omega, by omega, by omega, ?_⟩
  refine (c_Sum (S := t) (by omega) _).mono ?_
  rintro r12 w13 ⟨rfl, e13⟩
  refine (c_four _).mono ?_
  rintro r14 w15 ⟨rfl, e15⟩
  have E := (((e6.tr e10).drew).tr e13).tr e15
  have hex : (x.extract u (u + 4)).data.toList = ((s.data.toList.drop 2).drop u).take 4 := by
    rw [extract_list, hxl, show u + 4 - u = 4 by omega]
  rw [eqL, hex, mk_list]
  by_cases hq : ((s.data.toList.drop 2).drop u).take 4 = fourL (adler 1 t.data.toList)
  · rw [if_pos hq]
    exact Br.f (by rw [decide_eq_true hq]; rfl) ⟨rfl, E⟩
  · rw [if_neg hq]
    exact Br.t (by rw [decide_eq_false hq]; rfl) ⟨rfl, E⟩
/-! ### Plain -/
theorem unwrap_at {T out R : List UInt8} {a b : UInt8} (h : headE a.toNat b.toNat = 0) (g : Gives T out) (hb : out.length ≤ 1048576) {most : Int} (hm : (out.length : Int) ≤ most) :
    unwrapF ⟨(a :: b :: (T ++ R)).toArray⟩ most = if R.length < 4 then (⟨#[]⟩, 4) else if R.take 4 = fourL (adler 1 out) then (⟨out.toArray⟩, 0) else (⟨#[]⟩, 12) := by
  have hsz : (⟨(a :: b :: (T ++ R)).toArray⟩ : ByteArray).size = 2 + T.length + R.length := by rw [size_mk]; simp; omega
  have hbg : beginsE ⟨(a :: b :: (T ++ R)).toArray⟩ = 0 := by
    unfold beginsE
    rw [if_neg (by omega), mk_list]
    exact h
  have hex : (⟨(a :: b :: (T ++ R)).toArray⟩ : ByteArray).extract 2 (⟨(a :: b :: (T ++ R)).toArray⟩ : ByteArray).size = ⟨T.toArray⟩ ++ ⟨R.toArray⟩ := by
    refine ba_ext ?_
    rw [extract_drop, app_list, mk_list, mk_list, mk_list]
    rfl
  have hR := g.allR hb hm
  obtain ⟨u, hu, _, _, _, hplain, _⟩ := ends_plain hR.symm
  have hu : u = T.length := by omega
  subst hu
  have hT : (⟨T.toArray⟩ : ByteArray).extract 0 T.length = ⟨T.toArray⟩ := ba_ext (by rw [extract_list]; simp)
  have hall := hplain ⟨R.toArray⟩ 0 (by decide)
  rw [hT, Int.add_zero] at hall
  unfold unwrapF
  rw [hbg, if_neg (fun k => k rfl), hex, hall, hsz, mk_list]
  dsimp only
  rw [if_neg (fun k => k rfl)]
  by_cases hl : R.length < 4
  · have hne : ((2 + T.length + R.length : Nat) : Int) - 2 - ((T.length : Nat) : Int) < 4 := by omega
    rw [if_pos hl, if_pos hne]
  · have hne : ¬ ((2 + T.length + R.length : Nat) : Int) - 2 - ((T.length : Nat) : Int) < 4 := by omega
    have : List.drop T.length (List.drop 2 (a :: b :: (T ++ R))) = R := by simp
    rw [if_neg hl, if_neg hne, Int.toNat_natCast, this]
end Inf
end Go.Proofs.YtjkoafjnmkchdaaGreatDoor

/- Zlib: the sample, the sums, a spoilt sum. Conditions: sizes; the laid variables. -/
namespace Go.Proofs.YtjkoafjnmkchdaaGreatDoor
namespace Inf
open Sh Bit
set_option linter.unusedVariables false
set_option linter.unusedSimpArgs false
set_option maxRecDepth 4000
set_option maxHeartbeats 1000000
attribute [local irreducible] Ld St Nw Nn Lt LdS
theorem h156 : headE (120 : UInt8).toNat (156 : UInt8).toNat = 0 := by decide +kernel
theorem set_mid (l : List UInt8) {i : Nat} (h : i < l.length) (c : UInt8) : l.take i ++ [c] ++ l.drop (i + 1) = l.set i c := by
  rw [List.set_eq_take_append_cons_drop, if_pos h, List.append_assoc]
  rfl
theorem four_set {n at' : Nat} (h : at' < 4) (c : UInt8) : ((fourL n).set at' c = fourL n ↔ (fourL n).getD at' 0 = c) := by
  constructor
  · intro e
    have := congrArg (fun l => l.getD at' 0) e
    rw [← this, List.getD_eq_getElem?_getD, List.getElem?_set_self (by rw [fourL_len]; exact h)]
    rfl
  · intro e
    subst e
    refine List.ext_getElem? fun j => ?_
    by_cases hj : at' = j
    · subst hj
      rw [List.getElem?_set_self (by rw [fourL_len]; exact h), List.getD_eq_getElem?_getD, List.getElem?_eq_getElem (by rw [fourL_len]; exact h)]
      rfl
    · rw [List.getElem?_set_ne hj]
end Inf
end Go.Proofs.YtjkoafjnmkchdaaGreatDoor

/- The predictors: what their functions answer, in plain terms, and that decoding undoes encoding. No condition. -/
namespace Go.Proofs.YtjkoafjnmkchdaaGreatDoor
namespace Pre
open Sh
set_option maxRecDepth 4000
set_option linter.unusedVariables false
set_option linter.unusedSimpArgs false

/-- A byte of a row, or 0 outside of it. -/
def pAt (l : List UInt8) (i : Int) : Nat := if i < 0 then 0 else (l.getD i.toNat 0).toNat
theorem pAt_lt (l : List UInt8) (i : Int) : pAt l i < 256 := by unfold pAt; split; omega; exact UInt8.toNat_lt _
def paeth (a b c : Nat) : Nat :=
  if ((a : Int) + b - c - a).natAbs ≤ ((a : Int) + b - c - b).natAbs ∧ ((a : Int) + b - c - a).natAbs ≤ ((a : Int) + b - c - c).natAbs then a
  else if ((a : Int) + b - c - b).natAbs ≤ ((a : Int) + b - c - c).natAbs then b else c
theorem paeth_lt {a b c : Nat} (ha : a < 256) (hb : b < 256) (hc : c < 256) : paeth a b c < 256 := by unfold paeth; split; exact ha; split; exact hb; exact hc
/-- What a tag's filter takes off byte i. -/
def off (tag : Int) (prev row : List UInt8) (i colors : Nat) : Nat :=
  if tag = 1 then pAt row ((i : Int) - colors)
  else if tag = 2 then pAt prev i
  else if tag = 3 then (pAt row ((i : Int) - colors) + pAt prev i) / 2
  else if tag = 4 then paeth (pAt row ((i : Int) - colors)) (pAt prev i) (pAt prev ((i : Int) - colors))
  else 0
theorem off_lt (tag : Int) (prev row : List UInt8) (i colors : Nat) : off tag prev row i colors < 256 := by
  have h1 := pAt_lt row ((i : Int) - colors)
  have h2 := pAt_lt prev i
  have h3 := pAt_lt prev ((i : Int) - colors)
  unfold off
  split
  · exact h1
  · split
    · exact h2
    · split
      · omega
      · split
        · exact paeth_lt h1 h2 h3
        · omega
/-- The filter looks at no byte of the row from i on. -/
theorem off_row {tag : Int} {prev row row' : List UInt8} {i colors : Nat} (hc : 1 ≤ colors) (h : ∀ j, j < i → row.getD j 0 = row'.getD j 0) : off tag prev row i colors = off tag prev row' i colors := by
  have : pAt row ((i : Int) - colors) = pAt row' ((i : Int) - colors) := by
    unfold pAt
    split
    · rfl
    · rw [h _ (by omega)]
  unfold off
  rw [this]
/-- The filtered row. -/
def less (tag : Int) (prev row : List UInt8) (colors : Nat) : List UInt8 := (List.range row.length).map fun i => row.getD i 0 - UInt8.ofNat (off tag prev row i colors)
theorem less_len (tag : Int) (prev row : List UInt8) (colors : Nat) : (less tag prev row colors).length = row.length := by simp [less]
theorem less_get {tag : Int} {prev row : List UInt8} {colors i : Nat} (h : i < row.length) : (less tag prev row colors).getD i 0 = row.getD i 0 - UInt8.ofNat (off tag prev row i colors) := by
  simp [less, List.getD_eq_getElem?_getD, h]
theorem less_take {tag : Int} {prev row : List UInt8} {colors i : Nat} (h : i < row.length) : (less tag prev row colors).take (i + 1) = (less tag prev row colors).take i ++ [row.getD i 0 - UInt8.ofNat (off tag prev row i colors)] := by
  rw [List.take_add_one, List.getElem?_eq_getElem (by rw [less_len]; exact h)]
  congr 1
  have := less_get (tag := tag) (prev := prev) (colors := colors) h
  rw [List.getD_eq_getElem?_getD, List.getElem?_eq_getElem (by rw [less_len]; exact h)] at this
  simpa using this
/-- The distance from zero of the bytes, as signed numbers. -/
def far (l : List UInt8) : Nat := (l.map fun b => min b.toNat (256 - b.toNat)).sum
theorem far_take (l : List UInt8) {i : Nat} (h : i < l.length) : far (l.take (i + 1)) = far (l.take i) + min (l.getD i 0).toNat (256 - (l.getD i 0).toNat) := by
  have e : l.take (i + 1) = l.take i ++ [l.getD i 0] := by
    rw [List.take_add_one, List.getElem?_eq_getElem h]
    simp [List.getD_eq_getElem?_getD, h]
  unfold far
  rw [e, List.map_append, List.sum_append]
  simp
theorem far_le : ∀ (l : List UInt8), far l ≤ 256 * l.length
  | [] => by simp [far]
  | b :: l => by
    have ih := far_le l
    have := b.toNat_lt
    simp only [far, List.map_cons, List.sum_cons, List.length_cons] at *
    omega
/-- The first k tags: which of them leaves the least, and how much. -/
def bestK (prev row : List UInt8) (colors : Nat) : Nat → Nat × Nat
  | 0 => (0, 0)
  | k + 1 => let n := far (less k prev row colors); if k = 0 ∨ n < (bestK prev row colors k).2 then (k, n) else bestK prev row colors k
def best (prev row : List UInt8) (colors : Nat) : Nat := (bestK prev row colors 5).1
/-- The first i bytes of the row that a filtered row stands for. -/
def dec (tag : Int) (prev raw : List UInt8) (colors : Nat) : Nat → List UInt8
  | 0 => []
  | i + 1 => dec tag prev raw colors i ++ [raw.getD i 0 + UInt8.ofNat (off tag prev (dec tag prev raw colors i) i colors)]
theorem dec_len (tag : Int) (prev raw : List UInt8) (colors : Nat) : ∀ i, (dec tag prev raw colors i).length = i
  | 0 => rfl
  | i + 1 => by simp [dec, dec_len tag prev raw colors i]
/-- Decoding a filtered row gives the row. -/
theorem dec_less {tag : Int} {prev row : List UInt8} {colors : Nat} (hc : 1 ≤ colors) : ∀ i, i ≤ row.length → dec tag prev (less tag prev row colors) colors i = row.take i
  | 0, _ => by simp [dec]
  | i + 1, h => by
    have ih := dec_less (tag := tag) (prev := prev) (row := row) hc i (by omega)
    have hg : row[i]? = some (row.getD i 0) := by rw [List.getElem?_eq_getElem (by omega)]; simp [List.getD_eq_getElem?_getD, show i < row.length by omega]
    rw [dec, ih, less_get (by omega), List.take_add_one, hg]
    congr 1
    rw [off_row (row := row.take i) (row' := row) hc fun j hj => by simp [List.getD_eq_getElem?_getD, hj]]
    simp
end Pre
end Go.Proofs.YtjkoafjnmkchdaaGreatDoor

/- Rows of bytes that are read and written in place, among them those that '[]byte(s)' makes; make of bytes. No condition but sizes. -/
namespace Go.Proofs.YtjkoafjnmkchdaaGreatDoor
namespace Sh
set_option linter.unusedVariables false
set_option linter.unusedSimpArgs false

/-- Block b is this row of cells; it may bear the mark of a conversion. -/
def BlkM (w : World) (b : Nat) (cs : Array Value) (t : TypeId) : Prop := ∃ z : Nat × Nat, w.heap[b]? = some (.cells cs t z) ∧ (z = (0, 0) ∨ z = (cs.size, cs.size + 1))
theorem Blk.toM {w : World} {b : Nat} {cs : Array Value} {t : TypeId} (h : Blk w b cs t) : BlkM w b cs t := ⟨_, h, .inl rfl⟩
theorem BlkM.cell {w : World} {b : Nat} {cs : Array Value} {t : TypeId} (h : BlkM w b cs t) (o : Nat) : w.cell? ⟨b, o, none⟩ = cs[o]? := by
  obtain ⟨z, h, _⟩ := h
  simp [World.cell?, h]
theorem BlkM.lt {w : World} {b : Nat} {cs : Array Value} {t : TypeId} (h : BlkM w b cs t) : b < w.heap.size := (Array.getElem?_eq_some_iff.1 h.choose_spec.1).1
theorem BlkM.can {w : World} {b : Nat} {cs : Array Value} {t : TypeId} (h : BlkM w b cs t) {o : Nat} (ho : o < cs.size) : CanSt w ⟨b, o, none⟩ := by
  refine ⟨⟨cs[o], by rw [h.cell, Array.getElem?_eq_getElem ho]⟩, ?_⟩
  obtain ⟨z, h, hz⟩ := h
  rcases hz with rfl | rfl
  · simp [World.frozen?, h]
  · simp [World.frozen?, h]
    omega
theorem BlkM.set {w : World} {b : Nat} {cs : Array Value} {t : TypeId} (h : BlkM w b cs t) (o : Nat) (v : Value) : BlkM (w.setCell ⟨b, o, none⟩ v) b (cs.setIfInBounds o v) t := by
  obtain ⟨z, h, hz⟩ := h
  exact ⟨z, by simp [World.setCell, Array.getElem?_modify, h], by simpa using hz⟩
theorem Ext.blkM {F : Nat → Prop} {a w : World} (h : Ext F a w) {b : Nat} {cs : Array Value} {t : TypeId} (hb : BlkM a b cs t) (hn : ¬ F b) : BlkM w b cs t := by
  obtain ⟨z, hb, hz⟩ := hb
  exact ⟨z, by rw [h.block b (Array.getElem?_eq_some_iff.1 hb).1 hn]; exact hb, hz⟩

/-- A slice of bytes that begins a row of its own. -/
structure RRow (w : World) (s : Slc) (l : List UInt8) : Prop where
  len : s.len = l.length
  row : s = ⟨none, 0, 0⟩ ∨ ∃ g cur, s.p = some ⟨g, 0, none⟩ ∧ BlkM w g cur 5 ∧ s.len ≤ cur.size ∧ cur.toList.take s.len = bcs l
theorem RRow.nil (w : World) : RRow w ⟨none, 0, 0⟩ [] := ⟨rfl, .inl rfl⟩
theorem BRow.toR {w : World} {s : Slc} {l : List UInt8} (h : BRow w s l) : RRow w s l := by
  refine ⟨h.len, ?_⟩
  rcases h.2 with h2 | ⟨g, cur, hp, hb, hle, hsz, ht⟩
  · exact .inl h2
  · exact .inr ⟨g, cur, hp, hb.toM, by omega, by simpa using ht⟩
theorem RRow.keep {F : Nat → Prop} {w w' : World} {s : Slc} {l : List UInt8} (h : RRow w s l) (he : Ext F w w') (hn : ∀ j, s.own j → ¬ F j) : RRow w' s l := by
  refine ⟨h.len, ?_⟩
  rcases h.row with h2 | ⟨g, cur, hp, hb, r⟩
  · exact .inl h2
  · exact .inr ⟨g, cur, hp, he.blkM hb (hn g ⟨_, hp, rfl⟩), r⟩
theorem RRow.own_lt {w : World} {s : Slc} {l : List UInt8} (h : RRow w s l) {j : Nat} (hj : s.own j) : j < w.heap.size := by
  obtain ⟨a, ha, rfl⟩ := hj
  rcases h.row with rfl | ⟨g, cur, hp, hb, _⟩
  · cases ha
  · rw [hp] at ha; cases ha; exact hb.lt
theorem RRow.get {w : World} {s : Slc} {l : List UInt8} (h : RRow w s l) {i : Nat} {b : UInt8} (hi : l[i]? = some b) : ∃ g, s.p = some ⟨g, 0, none⟩ ∧ w.cell? ⟨g, i, none⟩ = some (.int .u8 (b.toNat : Int)) := by
  have hlt : i < l.length := (List.getElem?_eq_some_iff.1 hi).1
  rcases h.row with h2 | ⟨g, cur, hp, hb, hle, ht⟩
  · have := h.len
    rw [h2] at this
    simp only at this
    omega
  · refine ⟨g, hp, ?_⟩
    have h3 := bcs_get hi
    rw [← ht, List.getElem?_take, if_pos (by rw [h.len]; exact hlt)] at h3
    rw [hb.cell]
    simpa using h3
theorem RRow.set {w : World} {s : Slc} {l : List UInt8} (h : RRow w s l) {i : Nat} (hi : i < l.length) (b : UInt8) : ∃ g, s.p = some ⟨g, 0, none⟩ ∧ CanSt w ⟨g, i, none⟩ ∧
    RRow (w.setCell ⟨g, i, none⟩ (.int .u8 (b.toNat : Int))) s (l.set i b) ∧ Ext (· = g) w (w.setCell ⟨g, i, none⟩ (.int .u8 (b.toNat : Int))) := by
  rcases h.row with h2 | ⟨g, cur, hp, hb, hle, ht⟩
  · have := h.len
    rw [h2] at this
    simp only at this
    omega
  · have hlen := h.len
    refine ⟨g, hp, hb.can (by omega), ⟨by rw [List.length_set]; exact hlen, .inr ⟨g, _, hp, hb.set i _, by simpa using hle, ?_⟩⟩, (Ext.refl (· = g) w).set (.inl rfl) _⟩
    rw [Array.toList_setIfInBounds, List.take_set, ht]
    simp [bcs, List.map_set]
/-- '[]byte(s)'. -/
theorem bytes_str (w : World) (s : ByteArray) : ∃ r w', RunV Tryz.prog (convert 9 29 (.string s)) w (Slc.v r) w' ∧ RRow w' r s.data.toList ∧ Ext (fun _ => False) w w' ∧ ∀ j, r.own j → w.heap.size ≤ j := by
  refine ⟨⟨some ⟨w.heap.size, 0, none⟩, s.size, grownCap w s.size 0 5⟩, Go.Lib.bytesWorld w 5 s, Go.Lib.run_convert_string_bytes w _ _ 5 s und_string und_bytes und_byte, ⟨?_, .inr ⟨_, _, rfl, ⟨_, Go.Lib.bytesWorld_at_new w _ s, .inr rfl⟩, ?_, ?_⟩⟩, ?_, ?_⟩
  · exact Array.length_toList.symm
  · unfold Go.Lib.bytesCells
    rw [Array.size_append, Array.size_map]
    exact Nat.le_add_right _ _
  · unfold Go.Lib.bytesCells
    rw [Array.toList_append, Array.toList_map]
    exact List.take_left' (by rw [List.length_map]; exact Array.length_toList)
  · exact ⟨rfl, rfl, rfl, by rw [Go.Lib.bytesWorld_size]; omega, fun k hk _ => Go.Lib.bytesWorld_at_old w _ s k hk⟩
  · rintro j ⟨a, ha, rfl⟩
    cases ha
    exact Nat.le_refl _
/-- append(a, b...), b a row of bytes. -/
theorem app_rrow {w : World} {s s2 : Slc} {ty : TypeId} {l m : List UInt8} (own : BRow w s l) (h2 : RRow w s2 m) (hb : l.length + m.length ≤ 1099511627776) :
    Appended w s (l ++ m) (Builtin.append_ #[29, 29] ty #[Slc.v s, Slc.v s2]) := by
  refine app_any (.inl ⟨_, und_bytes⟩) (by rw [← h2.len]; rfl) (fun w' hw' => ?_) own hb
  rcases h2.row with rfl | ⟨g, cur, hp, hg, hle, htk⟩
  · have : m = [] := List.eq_nil_of_length_eq_zero (by have := h2.len; simpa using this.symm)
    subst this
    exact run_firstCells_none (P := Tryz.prog) (w := w') 1 0 0 0
  · have hget : ∀ (i : Nat) (b : UInt8), m[i]? = some b → ∃ g, s2.p = some ⟨g, 0, none⟩ ∧ w.cell? ⟨g, i, none⟩ = some (.int .u8 (b.toNat : Int)) := fun i b h => h2.get h
    obtain ⟨p, len, cap⟩ := s2
    simp only at hp
    subst hp
    refine run_firstCells_some w' 1 m.length ⟨g, 0, none⟩ len cap (bcs m) (by rw [bcs_len, Nat.mul_one]) fun j v hj => ?_
    simp only [bcs, List.getElem?_map, Option.map_eq_some_iff] at hj
    obtain ⟨b, hb1, rfl⟩ := hj
    obtain ⟨g', hg', h⟩ := hget _ _ hb1
    cases hg'
    simpa [World.cell?, hw'] using h
theorem info_byte_z : ∃ i, Tryz.prog.info? 5 = some i ∧ i.size = 1 ∧ i.bytes = 1 ∧ i.zero = some (.int .u8 0) := by
  have h : (match Tryz.prog.info? 5 with
    | some i => Nat.beq i.size 1 && Nat.beq i.bytes 1 && (match i.zero with
      | some (.int .u8 0) => true
      | _ => false)
    | none => false) = true := by kernel_rfl
  split at h
  · rename_i i hi
    simp only [Bool.and_eq_true] at h
    obtain ⟨⟨h1, h2⟩, h3⟩ := h
    split at h3
    · rename_i hz
      exact ⟨i, hi, Nat.eq_of_beq_eq_true h1, Nat.eq_of_beq_eq_true h2, hz⟩
    · cases h3
  · cases h
/-- 'make([]byte, n, c)'. -/
theorem bytes_make (w : World) (n c : Nat) (hnc : n ≤ c) (hc : c ≤ 1099511627776) : ∃ r w', RunV Tryz.prog (Instr.makeSlice 29 (.int .i64 (n : Int)) (.int .i64 (c : Int))) w (Slc.v r) w' ∧
    BRow w' r (List.replicate n 0) ∧ Ext (fun _ => False) w w' ∧ ∀ j, r.own j → w.heap.size ≤ j := by
  obtain ⟨i, hi, h1, h2, hz⟩ := info_byte_z
  have hr := run_make (P := Tryz.prog) w 29 5 i (.int .u8 0) und_bytes hi hz .i64 .i64 n c (by omega) (by omega) (by rw [h2]; omega) (by omega)
  simp only [Int.toNat_natCast, h1, Nat.mul_one] at hr
  refine ⟨⟨some ⟨w.heap.size, 0, none⟩, n, c⟩, _, hr, ⟨by rw [bcs_len]; simp, .inr ⟨_, _, rfl, Blk.new _ _ _, hnc, ?_, ?_⟩⟩, (Ext.refl _ w).alloc _, ?_⟩
  · rw [size_madeCells, Nat.mul_one]
  · show List.take (n * 1) (madeCells #[.int .u8 0] c).toList = _
    rw [toList_madeCells_one, Nat.mul_one, List.take_replicate, Nat.min_eq_left hnc]
    simp [bcs]
  · rintro j ⟨a, ha, rfl⟩
    cases ha
    exact Nat.le_refl _
end Sh
end Go.Proofs.YtjkoafjnmkchdaaGreatDoor

/- What the small functions of package predict answer. Conditions: sizes. -/
namespace Go.Proofs.YtjkoafjnmkchdaaGreatDoor
namespace Pre
open Sh
set_option maxRecDepth 4000
set_option linter.unusedVariables false
set_option linter.unusedSimpArgs false

/-- Are the parameters (predictor, colors, columns) valid? -/
def okP (p : Int × Int × Int) : Bool := decide ((p.1 = 1 ∨ p.1 = 2 ∨ (10 ≤ p.1 ∧ p.1 ≤ 15)) ∧ 1 ≤ p.2.1 ∧ 1 ≤ p.2.2 ∧ p.2.1 * p.2.2 ≤ 8192)
theorem okP_no {p : Int × Int × Int} (h : ¬ ((p.1 = 1 ∨ p.1 = 2 ∨ (10 ≤ p.1 ∧ p.1 ≤ 15)) ∧ 1 ≤ p.2.1 ∧ 1 ≤ p.2.2 ∧ p.2.1 * p.2.2 ≤ 8192)) : okP p = false := decide_eq_false h
theorem okP_spec {p : Int × Int × Int} (h : okP p = true) : (p.1 = 1 ∨ p.1 = 2 ∨ (10 ≤ p.1 ∧ p.1 ≤ 15)) ∧ 1 ≤ p.2.1 ∧ 1 ≤ p.2.2 ∧ p.2.1 * p.2.2 ≤ 8192 := of_decide_eq_true h
theorem c_may (p : Int × Int × Int) (w : World) : C39 p w fun r w1 => r = okP p ∧ Ext (fun _ => False) w w1 := by
  refine T39 _ _ _ ?_
  unfold S39
  refine (Hx.start w (fun _ => False)).nw fun w2 H => ?_
  have no : ∀ {u : World}, Ext (fun _ => False) w u → ¬ ((p.1 = 1 ∨ p.1 = 2 ∨ (10 ≤ p.1 ∧ p.1 ≤ 15)) ∧ 1 ≤ p.2.1 ∧ 1 ≤ p.2.2 ∧ p.2.1 * p.2.2 ≤ 8192) → false = okP p ∧ Ext (fun _ => False) w u := fun he h => ⟨(okP_no h).symm, he⟩
  refine H.ld 0 rfl rfl (Br_of (fun k => ?a) fun k1 => H.ld 0 rfl rfl (Br_of (fun k => ?b) fun k2 => H.ld 0 rfl rfl (Br_of (fun k3 => H.ld 0 rfl rfl (Br_of (fun k => ?c) fun k => ?d)) fun k => ?e)))
  case d =>
    have a1 : ¬ p.1 = 1 := by simpa using k1
    have a2 : ¬ p.1 = 2 := by simpa using k2
    have a3 : 10 ≤ p.1 := by simpa using k3
    have a4 : ¬ p.1 ≤ 15 := by simpa using k
    exact no H.drew.ext (fun h => by omega)
  case e =>
    have a1 : ¬ p.1 = 1 := by simpa using k1
    have a2 : ¬ p.1 = 2 := by simpa using k2
    have a3 : ¬ 10 ≤ p.1 := by simpa using k
    exact no H.drew.ext (fun h => by omega)
  case' a => have hk : p.1 = 1 ∨ p.1 = 2 ∨ (10 ≤ p.1 ∧ p.1 ≤ 15) := .inl (by simpa using k)
  case' b => have hk : p.1 = 1 ∨ p.1 = 2 ∨ (10 ≤ p.1 ∧ p.1 ≤ 15) := .inr (.inl (by simpa using k))
  case' c => have hk : p.1 = 1 ∨ p.1 = 2 ∨ (10 ≤ p.1 ∧ p.1 ≤ 15) := .inr (.inr ⟨by simpa using k3, by simpa using k⟩)
  all_goals
    refine H.drew.ld 0 rfl rfl (Br_of (fun g1 => H.drew.ld 0 rfl rfl (Br_of (fun g2 => H.drew.ld 0 rfl rfl (Br_of (fun g3 => H.drew.ld 0 rfl rfl (H.drew.ld 0 rfl rfl ?f)) fun g3 => ?g)) fun g2 => ?h)) fun g1 => ?i)
    case i =>
      have b1 : ¬ 1 ≤ p.2.1 := by simpa using g1
      exact no H.drew.ext (fun h => by omega)
    case h =>
      have b1 : ¬ 1 ≤ p.2.2 := by simpa using g2
      exact no H.drew.ext (fun h => by omega)
    case g =>
      have b1 : 1 ≤ p.2.1 := by simpa using g1
      have b2 : 1 ≤ p.2.2 := by simpa using g2
      have b3 : ¬ p.2.1 ≤ 8192 := by simpa using g3
      refine no H.drew.ext (fun h => ?_)
      have : p.2.1 * 1 ≤ p.2.1 * p.2.2 := Int.mul_le_mul_of_nonneg_left b2 (by omega)
      omega
    case f =>
      have b1 : 1 ≤ p.2.1 := by simpa using g1
      have b2 : 1 ≤ p.2.2 := by simpa using g2
      refine ⟨by omega, ?_, H.drew.ext⟩
      have hd : (8192 : Int) / p.2.1 ≤ 8192 := Int.ediv_le_self _ (by omega)
      have h0 : 0 ≤ (8192 : Int) / p.2.1 := Int.ediv_nonneg (by omega) (by omega)
      rw [tdiv_id (by omega), i64_id (by omega)]
      unfold okP
      refine decide_eq_decide.2 ⟨fun h => ⟨hk, b1, b2, ?_⟩, fun h => ?_⟩
      · rw [Int.mul_comm]
        exact (Int.le_ediv_iff_mul_le (by omega)).1 h
      · exact (Int.le_ediv_iff_mul_le (by omega)).2 (by rw [Int.mul_comm]; exact h.2.2.2)
/-- Bytes in a row. -/
def rowP (p : Int × Int × Int) : Int := if okP p = true then p.2.1 * p.2.2 else 0
theorem c_row (p : Int × Int × Int) (w : World) : C20 p w fun r w1 => r = rowP p ∧ Ext (fun _ => False) w w1 := by
  refine T20 _ _ _ ?_
  unfold S20
  refine (Hx.start w (fun _ => False)).nw fun w2 H => H.ld 0 rfl rfl (H.ld 0 rfl rfl (H.ld 0 rfl rfl ((c_may _ _).mono ?_)))
  rintro r w3 ⟨rfl, he⟩
  have H := H.keep he
  unfold rowP
  refine Br_of (fun e => ?_) fun e => ?_
  · have e : okP p = false := by simpa using e
    rw [e]
    exact ⟨rfl, H.ext⟩
  · have e : okP p = true := by simpa using e
    have h := okP_spec e
    refine H.ld 0 rfl rfl (H.ld 0 rfl rfl ⟨?_, H.ext⟩)
    rw [if_pos e, i64_id]
    have : 1 * 1 ≤ p.2.1 * p.2.2 := Int.mul_le_mul h.2.1 h.2.2.1 (by omega) (by omega)
    omega
/-- Why bytes are refused. -/
def refuseP (p : Int × Int × Int) (n row : Int) : Int := if okP p = false then 1 else if 1048576 < n then 5 else if p.1 ≠ 1 ∧ Int.tmod n row ≠ 0 then 16 else 0
theorem c_refuse (p : Int × Int × Int) (s : ByteArray) {row : Int} (hr : row ≠ 0) (w : World) : C21 p s row w fun r w1 => r = refuseP p s.size row ∧ Ext (fun _ => False) w w1 := by
  refine T21 _ _ _ _ _ ?_
  unfold S21
  refine (Hx.start w (fun _ => False)).nw fun w2 H => H.ld 0 rfl rfl (H.ld 0 rfl rfl (H.ld 0 rfl rfl ((c_may _ _).mono ?_)))
  rintro r w3 ⟨rfl, he⟩
  have H := H.keep he
  unfold refuseP
  refine Br_of (fun e => ?_) fun e => Br_of (fun e2 => ?_) fun e2 => H.ld 0 rfl rfl (Br_of (fun e3 => ⟨hr, Br_of (fun e4 => ?_) fun e4 => ?_⟩) fun e3 => ?_)
  · have e : okP p = false := by simpa using e
    exact ⟨by rw [if_pos e], H.ext⟩
  all_goals have e : ¬ okP p = false := by simpa using e
  · have e2 : (1048576 : Int) < (s.size : Int) := by simpa using e2
    exact ⟨by rw [if_neg e, if_pos e2], H.ext⟩
  all_goals have e2 : ¬ (1048576 : Int) < (s.size : Int) := by simpa using e2
  · have e3 : ¬ p.1 = 1 := by simpa using e3
    have e4 : ¬ Int.tmod (s.size : Int) row = 0 := by simpa using e4
    exact ⟨by rw [if_neg e, if_neg e2, if_pos ⟨e3, e4⟩], H.ext⟩
  · have e4 : Int.tmod (s.size : Int) row = 0 := by simpa using e4
    exact ⟨by rw [if_neg e, if_neg e2, if_neg (fun h => h.2 e4)], H.ext⟩
  · have e3 : p.1 = 1 := by simpa using e3
    exact ⟨by rw [if_neg e, if_neg e2, if_neg (fun h => h.1 e3)], H.ext⟩
theorem c_apart {a b : Int} (ha : -100000 ≤ a ∧ a ≤ 100000) (hb : -100000 ≤ b ∧ b ≤ 100000) (w : World) : C99 a b w fun r w1 => r = ((a - b).natAbs : Int) ∧ w1 = w := by
  refine T99 _ _ _ _ ?_
  unfold S99
  rw [i64_id (n := b - a) (by omega), i64_id (n := a - b) (by omega)]
  refine Lt.of ⟨?_, rfl⟩
  split <;> omega
theorem c_paeth {a b c : Nat} (ha : a < 256) (hb : b < 256) (hc : c < 256) (w : World) : C70 (a : Int) (b : Int) (c : Int) w fun r w1 => r = ((paeth a b c : Nat) : Int) ∧ w1 = w := by
  refine T70 _ _ _ _ _ ?_
  unfold S70
  rw [i64_id (n := (a : Int)) (by omega), i64_id (n := (b : Int)) (by omega), i64_id (n := (c : Int)) (by omega), i64_id (n := (a : Int) + b) (by omega), i64_id (by omega)]
  refine Lt.of ⟨fun n st w' => w' = w ∧ ((n = 2 ∧ st = ((a : Int), 0)) ∨ (n = 1 ∧ st = ((if ((b : Int) - (a + b - c)).natAbs < ((a : Int) - (a + b - c)).natAbs then (b : Int) else a), 1)) ∨
    (n = 0 ∧ st = (((paeth a b c : Nat) : Int), 2))), 2, ⟨rfl, .inl ⟨rfl, rfl⟩⟩, ?_⟩
  rintro n st w' ⟨rfl, h⟩
  unfold S70L1
  rcases h with ⟨rfl, rfl⟩ | ⟨rfl, rfl⟩ | ⟨rfl, rfl⟩
  · refine Br_of (fun _ => ?_) fun h => by cases h
    refine ⟨by show (0 : Int) ≤ 0; omega, by show (0 : Int) < 2; omega, (b : Int), rfl, ?_⟩
    rw [i64_id (n := (b : Int)) (by omega), i64_id (n := (a : Int)) (by omega)]
    refine (c_apart (by omega) (by omega) w').mono ?_
    rintro x w1 ⟨rfl, rfl⟩
    refine (c_apart (by omega) (by omega) w1).mono ?_
    rintro x w1 ⟨rfl, rfl⟩
    refine Br_of (fun e => ⟨1, by omega, rfl, .inr (.inl ⟨rfl, ?_⟩)⟩) fun e => ⟨1, by omega, rfl, .inr (.inl ⟨rfl, ?_⟩)⟩
    · have e : (((b : Int) - (a + b - c)).natAbs : Int) < (((a : Int) - (a + b - c)).natAbs : Int) := by simpa using e
      rw [if_pos (by omega)]
      rfl
    · have e : ¬ (((b : Int) - (a + b - c)).natAbs : Int) < (((a : Int) - (a + b - c)).natAbs : Int) := by simpa using e
      rw [if_neg (by omega)]
      rfl
  · refine Br_of (fun _ => ?_) fun h => by cases h
    refine ⟨by show (0 : Int) ≤ 1; omega, by show (1 : Int) < 2; omega, (c : Int), rfl, ?_⟩
    generalize hm : (if ((b : Int) - (a + b - c)).natAbs < ((a : Int) - (a + b - c)).natAbs then (b : Int) else a) = m
    have hmb : 0 ≤ m ∧ m < 256 := by rw [← hm]; split <;> omega
    dsimp only
    rw [i64_id (n := (c : Int)) (by omega), i64_id (n := m) (by omega)]
    refine (c_apart (by omega) (by omega) w').mono ?_
    rintro x w1 ⟨rfl, rfl⟩
    refine (c_apart (by omega) (by omega) w1).mono ?_
    rintro x w1 ⟨rfl, rfl⟩
    refine Br_of (fun e => ⟨0, by omega, rfl, .inr (.inr ⟨rfl, ?_⟩)⟩) fun e => ⟨0, by omega, rfl, .inr (.inr ⟨rfl, ?_⟩)⟩
    · have e : (((c : Int) - (a + b - c)).natAbs : Int) < ((m - (a + b - c)).natAbs : Int) := by simpa using e
      refine Prod.ext ?_ rfl
      show (c : Int) = _
      unfold paeth
      split at hm <;> subst hm <;> split <;> (try split) <;> omega
    · have e : ¬ (((c : Int) - (a + b - c)).natAbs : Int) < ((m - (a + b - c)).natAbs : Int) := by simpa using e
      refine Prod.ext ?_ rfl
      show m = _
      unfold paeth
      split at hm <;> subst hm <;> split <;> (try split) <;> omega
  · refine Br_of (fun h => by cases h) fun _ => ⟨rfl, rfl⟩
theorem c_at {w : World} {s : Slc} {l : List UInt8} (h : RRow w s l) (i : Int) : C69 s i w fun r w1 => r = ((pAt l i : Nat) : Int) ∧ w1 = w := by
  refine T69 _ _ _ _ ?_
  unfold S69
  have hl := h.len
  unfold pAt
  refine Br_of (fun e => ?_) fun e => Br_of (fun e2 => ?_) fun e2 => ?_
  · have e : i < 0 := by simpa using e
    rw [if_pos e]
    exact ⟨rfl, rfl⟩
  · have e : ¬ i < 0 := by simpa using e
    have e2 : (s.len : Int) ≤ i := by simpa using e2
    rw [if_neg e, List.getD_eq_getElem?_getD, List.getElem?_eq_none (by omega)]
    exact ⟨rfl, rfl⟩
  · have e : ¬ i < 0 := by simpa using e
    have e2 : ¬ (s.len : Int) ≤ i := by simpa using e2
    rw [if_neg e]
    obtain ⟨k, rfl⟩ := Int.eq_ofNat_of_zero_le (show 0 ≤ i by omega)
    rw [Int.toNat_natCast]
    have hk : k < l.length := by omega
    obtain ⟨g, hp, hc⟩ := h.get (List.getElem?_eq_getElem hk)
    rw [hp]
    refine ⟨by omega, by omega, Nn.of ⟨((l[k].toNat : Nat) : Int), by rw [add_lit]; simpa using hc, ?_, rfl⟩⟩
    simp [List.getD_eq_getElem?_getD, hk]
theorem c_off {w : World} {s1 s2 : Slc} {prev row : List UInt8} (h1 : RRow w s1 prev) (h2 : RRow w s2 row) (tag : Int) {i colors : Nat} (hi : i ≤ 1099511627776) (hc : colors ≤ 9223372036854775807) :
    C40 (s1, s2, (colors : Int)) tag (i : Int) w fun r w1 => r = ((off tag prev row i colors : Nat) : Int) ∧ Ext (fun _ => False) w w1 := by
  refine T40 (s1, s2, (colors : Int)) _ _ _ _ ?_
  unfold S40
  refine (Hx.start w (fun _ => False)).nw fun w2 H => ?_
  have HD := H.drew
  have hS : ∀ w3, w3 = w2.drew → Blk w3 w.heap.size #[Slc.v s1, Slc.v s2, .int .i64 (colors : Int)] 42 := fun w3 e => e ▸ HD.get 0 rfl
  refine ⟨fun w3 => w3 = w2.drew, rfl, LdS.of hS rfl (LdS.of hS rfl (LdS.of hS rfl (LdS.of hS rfl (LdS.of hS rfl ?_))))⟩
  have g1 := h1.keep HD.ext fun _ _ h => h
  have g2 := h2.keep HD.ext fun _ _ h => h
  rw [i64_id (n := (i : Int) - colors) (by omega)]
  refine (c_at g2 _).mono ?_
  rintro x w3 ⟨rfl, rfl⟩
  refine ⟨rfl, (c_at g1 _).mono ?_⟩
  rintro x w3 ⟨rfl, rfl⟩
  refine ⟨rfl, (c_at g1 _).mono ?_⟩
  rintro x w3 ⟨rfl, rfl⟩
  have b1 := pAt_lt row ((i : Int) - colors)
  have b2 := pAt_lt prev i
  have b3 := pAt_lt prev ((i : Int) - colors)
  unfold off
  refine Br_of (fun e => ?_) fun e => Br_of (fun e2 => ?_) fun e2 => Br_of (fun e3 => ?_) fun e3 => Br_of (fun e4 => ?_) fun e4 => ?_
  · have e : tag = 1 := by simpa using e
    rw [if_pos e]
    exact ⟨rfl, HD.ext⟩
  all_goals have e : ¬ tag = 1 := by simpa using e
  all_goals rw [if_neg e]
  · have e2 : tag = 2 := by simpa using e2
    rw [if_pos e2]
    exact ⟨rfl, HD.ext⟩
  all_goals have e2 : ¬ tag = 2 := by simpa using e2
  all_goals rw [if_neg e2]
  · have e3 : tag = 3 := by simpa using e3
    rw [if_pos e3, i64_id (n := ((pAt row ((i : Int) - colors) : Nat) : Int)) (by omega), i64_id (n := ((pAt prev i : Nat) : Int)) (by omega), i64_id (n := ((pAt row ((i : Int) - colors) : Nat) : Int) + ((pAt prev i : Nat) : Int)) (by omega), tdiv_id (by omega), i64_id (by omega)]
    exact Lt.of ⟨by rw [u8_id (by omega)]; omega, HD.ext⟩
  all_goals have e3 : ¬ tag = 3 := by simpa using e3
  all_goals rw [if_neg e3]
  · have e4 : tag = 4 := by simpa using e4
    rw [if_pos e4]
    refine (c_paeth b1 b2 b3 _).mono ?_
    rintro x w4 ⟨rfl, rfl⟩
    exact ⟨rfl, HD.ext⟩
  · have e4 : ¬ tag = 4 := by simpa using e4
    rw [if_neg e4]
    exact ⟨rfl, HD.ext⟩
theorem sub_u8 (x : UInt8) {o : Nat} (ho : o < 256) : IntKind.u8.wrap ((x.toNat : Int) - (o : Int)) = (((x - UInt8.ofNat o).toNat : Nat) : Int) := by
  have := x.toNat_lt
  rw [IntKind.wrap_u8, UInt8.toNat_sub, UInt8.toNat_ofNat_of_lt' ho]
  omega
theorem add_u8 (x : UInt8) {o : Nat} (ho : o < 256) : IntKind.u8.wrap ((x.toNat : Int) + (o : Int)) = (((x + UInt8.ofNat o).toNat : Nat) : Int) := by
  have := x.toNat_lt
  rw [IntKind.wrap_u8, UInt8.toNat_add, UInt8.toNat_ofNat_of_lt' ho]
  omega
theorem set_mid {l : List UInt8} {n i : Nat} {b : UInt8} (hl : l.length = i) (hi : i < n) : (l ++ List.replicate (n - i) 0).set i b = (l ++ [b]) ++ List.replicate (n - (i + 1)) 0 := by
  rw [List.set_append_right _ _ (by omega), hl, Nat.sub_self, show n - i = n - (i + 1) + 1 by omega, List.replicate_succ, List.set_cons_zero, List.append_assoc]
  rfl
theorem c_less {w : World} {s1 s2 : Slc} {prev row : List UInt8} (h1 : RRow w s1 prev) (h2 : RRow w s2 row) (tag : Int) {colors : Nat} (hsz : row.length ≤ 1099511627776) (hc : colors ≤ 9223372036854775807) :
    C22 (s1, s2, (colors : Int)) tag w fun r w1 => BRow w1 r (less tag prev row colors) ∧ Ext (fun _ => False) w w1 ∧ ∀ j, r.own j → w.heap.size ≤ j := by
  refine T22 (s1, s2, (colors : Int)) _ _ _ ?_
  unfold S22
  refine (Hx.start w (fun _ => False)).nw' fun w2 H he2 => H.ld 0 rfl rfl ?_
  have hl2 := h2.len
  dsimp only
  rw [hl2]
  obtain ⟨x5, w3, hrun, hrow, he3, hnew⟩ := bytes_make w2 row.length row.length (Nat.le_refl _) (by omega)
  have hsz2 : w.heap.size < w2.heap.size := (H.get 0 rfl).lt
  have H := H.keep he3
  refine ⟨x5, w3, hrun, H.ld 0 rfl rfl ?_⟩
  refine ⟨fun n st w4 => ∃ i : Nat, st = (i : Int) ∧ i ≤ row.length ∧ n = row.length - i ∧ Hx w (fun _ => False) w4 [(w.heap.size, #[Slc.v s1, Slc.v s2, .int .i64 (colors : Int)], 42)] ∧
    BRow w4 x5 ((less tag prev row colors).take i ++ List.replicate (row.length - i) 0), row.length, ⟨0, rfl, by omega, rfl, H, by simpa using hrow⟩, ?_⟩
  rintro n st w4 ⟨i, rfl, hi, rfl, H, hrow⟩
  unfold S22L1
  rw [hl2]
  refine Br_of (fun e => ?_) fun e => ?_
  · have hlt : i < row.length := by
      have : (i : Int) < (row.length : Int) := by simpa using e
      omega
    have g1 := h1.keep H.ext fun _ _ h => h
    have g2 := h2.keep H.ext fun _ _ h => h
    obtain ⟨g, hp, hcell⟩ := g2.get (List.getElem?_eq_getElem hlt)
    rw [hp]
    refine ⟨by omega, by omega, Nn.of ⟨((row[i].toNat : Nat) : Int), by rw [add_lit]; simpa using hcell, H.ld 0 rfl rfl (H.ld 0 rfl rfl (H.ld 0 rfl rfl ((c_off g1 g2 tag (by omega) hc).mono ?_)))⟩⟩
    rintro x w5 ⟨rfl, he⟩
    have hrow5 := hrow.keep he fun _ _ h => h
    have hlen5 := hrow5.len
    have htk : ((less tag prev row colors).take i).length = i := by rw [List.length_take, less_len]; omega
    rw [List.length_append, htk, List.length_replicate] at hlen5
    obtain ⟨g', hp', hcan, hset, hext⟩ := hrow5.set (i := i) (by rw [List.length_append, htk, List.length_replicate]; omega) (row[i] - UInt8.ofNat (off tag prev row i colors))
    rw [hp']
    have hg' : w2.heap.size ≤ g' := hnew g' ⟨_, hp', rfl⟩
    have H5 := (H.keep he).other hext (fun j hj hm => by
      have : j = w.heap.size := by simpa using hm
      omega) fun j hj => .inr (by omega)
    refine ⟨by omega, by omega, Nn.of ⟨by rw [add_lit]; simpa using hcan, row.length - (i + 1), by omega, i + 1, by rw [i64_id (by omega)]; rfl, by omega, rfl, ?_⟩⟩
    rw [add_lit, sub_u8 _ (off_lt _ _ _ _ _)]
    simp only [Nat.zero_add, Int.toNat_natCast, Nat.mul_one]
    refine ⟨H5, ?_⟩
    rw [less_take hlt, ← set_mid htk hlt]
    have : row.getD i 0 = row[i] := by simp [List.getD_eq_getElem?_getD, hlt]
    rw [this]
    exact hset
  · have hge : i = row.length := by
      have : ¬ (i : Int) < (row.length : Int) := by simpa using e
      omega
    subst hge
    rw [Nat.sub_self, List.replicate_zero, List.append_nil, List.take_of_length_le (by rw [less_len]; omega)] at hrow
    exact ⟨hrow, H.ext, fun j hj => Nat.le_trans (Nat.le_of_lt hsz2) (hnew j hj)⟩
theorem c_weight {w : World} {s : Slc} {l : List UInt8} (h : RRow w s l) (hsz : l.length ≤ 1099511627776) : C41 s w fun r w1 => r = ((far l : Nat) : Int) ∧ w1 = w := by
  refine T41 _ _ _ ?_
  unfold S41
  have hl := h.len
  refine ⟨fun n st w4 => ∃ i : Nat, st = (((far (l.take i) : Nat) : Int), (i : Int)) ∧ i ≤ l.length ∧ n = l.length - i ∧ w4 = w, l.length, ⟨0, by simp [far], by omega, rfl, rfl⟩, ?_⟩
  rintro n st w4 ⟨i, rfl, hi, rfl, rfl⟩
  unfold S41L1
  rw [hl]
  dsimp only
  refine Br_of (fun e => ?_) fun e => ?_
  · have hlt : i < l.length := by
      have : (i : Int) < (l.length : Int) := by simpa using e
      omega
    obtain ⟨g, hp, hcell⟩ := h.get (List.getElem?_eq_getElem hlt)
    rw [hp]
    have hb := l[i].toNat_lt
    have hf := far_le (l.take i)
    rw [List.length_take, Nat.min_eq_left hi] at hf
    refine ⟨by omega, by omega, Nn.of ⟨((l[i].toNat : Nat) : Int), by rw [add_lit]; simpa using hcell, ?_⟩⟩
    dsimp only
    rw [i64_id (n := ((l[i].toNat : Nat) : Int)) (by omega), i64_id (n := 256 - ((l[i].toNat : Nat) : Int)) (by omega)]
    refine Lt.of ⟨l.length - (i + 1), by omega, i + 1, ?_, by omega, rfl, rfl⟩
    have hg : l.getD i 0 = l[i] := by simp [List.getD_eq_getElem?_getD, hlt]
    rw [far_take l hlt, hg]
    refine Prod.ext ?_ ?_
    · dsimp only
      split
      · rw [i64_id (by omega)]; omega
      · rw [i64_id (by omega)]; omega
    · dsimp only
      rw [i64_id (by omega)]; rfl
  · have hge : i = l.length := by
      have : ¬ (i : Int) < (l.length : Int) := by simpa using e
      omega
    subst hge
    exact ⟨by rw [List.take_length], rfl⟩
theorem c_best {w : World} {s1 s2 : Slc} {prev row : List UInt8} (h1 : RRow w s1 prev) (h2 : RRow w s2 row) {colors : Nat} (hsz : row.length ≤ 1099511627776) (hc : colors ≤ 9223372036854775807) :
    C23 (s1, s2, (colors : Int)) w fun r w1 => r = ((best prev row colors : Nat) : Int) ∧ Ext (fun _ => False) w w1 := by
  refine T23 (s1, s2, (colors : Int)) _ _ ?_
  unfold S23
  refine (Hx.start w (fun _ => False)).nw' fun w2 H he2 => H.ld 0 rfl rfl (H.ld 0 rfl rfl (H.ld 0 rfl rfl ?_))
  refine (c_less (h1.keep he2 fun _ _ h => h) (h2.keep he2 fun _ _ h => h) 0 hsz hc).mono ?_
  rintro r w3 ⟨hr, he3, _⟩
  have H := H.keep he3
  refine (c_weight hr.toR (by rw [less_len]; omega)).mono ?_
  rintro x w3 ⟨rfl, rfl⟩
  refine ⟨fun n st w4 => ∃ k : Nat, 1 ≤ k ∧ st = (((bestK prev row colors k).1 : Int), (((bestK prev row colors k).2 : Nat) : Int), (k : Int)) ∧ k ≤ 5 ∧ n = 5 - k ∧ Hx w (fun _ => False) w4 [(w.heap.size, #[Slc.v s1, Slc.v s2, .int .i64 (colors : Int)], 42)],
    4, ⟨1, by omega, rfl, by omega, rfl, H⟩, ?_⟩
  rintro n st w4 ⟨k, hk1, rfl, hk, rfl, H⟩
  unfold S23L1
  dsimp only
  refine Br_of (fun e => ?_) fun e => ?_
  · have hlt : k < 5 := by
      have : (k : Int) < 5 := by simpa using e
      omega
    refine H.ld 0 rfl rfl (H.ld 0 rfl rfl (H.ld 0 rfl rfl ?_))
    refine (c_less (h1.keep H.ext fun _ _ h => h) (h2.keep H.ext fun _ _ h => h) k hsz hc).mono ?_
    rintro r w5 ⟨hr, he5, _⟩
    have H := H.keep he5
    refine (c_weight hr.toR (by rw [less_len]; omega)).mono ?_
    rintro x w5 ⟨rfl, rfl⟩
    rw [i64_id (n := (k : Int) + 1) (by omega)]
    refine Br_of (fun e2 => ?_) fun e2 => ?_
    · have e2 : far (less k prev row colors) < (bestK prev row colors k).2 := by
        have : ((far (less k prev row colors) : Nat) : Int) < (((bestK prev row colors k).2 : Nat) : Int) := by simpa using e2
        omega
      refine ⟨5 - (k + 1), by omega, k + 1, by omega, ?_, by omega, rfl, H⟩
      simp only [bestK]
      rw [if_pos (.inr e2)]
      rfl
    · have e2 : ¬ far (less k prev row colors) < (bestK prev row colors k).2 := by
        have : ¬ ((far (less k prev row colors) : Nat) : Int) < (((bestK prev row colors k).2 : Nat) : Int) := by simpa using e2
        omega
      refine ⟨5 - (k + 1), by omega, k + 1, by omega, ?_, by omega, rfl, H⟩
      simp only [bestK]
      rw [if_neg (by omega)]
      rfl
  · have hge : k = 5 := by
      have : ¬ (k : Int) < 5 := by simpa using e
      omega
    subst hge
    exact ⟨rfl, H.ext⟩
theorem mid_getD {l : List UInt8} {r : List UInt8} {i j : Nat} (hl : l.length = i) (hj : j < i) : (l ++ r).getD j 0 = l.getD j 0 := by
  rw [List.getD_eq_getElem?_getD, List.getElem?_append_left (by omega), List.getD_eq_getElem?_getD]
theorem mid_get {l raw : List UInt8} {i : Nat} (hl : l.length = i) (hi : i < raw.length) : (l ++ raw.drop i)[i]? = some (raw.getD i 0) := by
  rw [List.getElem?_append_right (by omega), hl, Nat.sub_self, List.getElem?_drop, Nat.add_zero, List.getElem?_eq_getElem hi]
  simp [List.getD_eq_getElem?_getD, hi]
theorem mid_set {l raw : List UInt8} {i : Nat} {b : UInt8} (hl : l.length = i) (hi : i < raw.length) : (l ++ raw.drop i).set i b = (l ++ [b]) ++ raw.drop (i + 1) := by
  rw [List.set_append_right _ _ (by omega), hl, Nat.sub_self, List.drop_eq_getElem_cons hi, List.set_cons_zero, List.append_assoc]
  rfl
theorem c_more {w : World} {s1 s2 : Slc} {prev raw : List UInt8} (h1 : RRow w s1 prev) (h2 : RRow w s2 raw) (hap : ∀ j, s1.own j → ¬ s2.own j) (tag : Int) {colors : Nat} (hsz : raw.length ≤ 1099511627776) (hc1 : 1 ≤ colors) (hc : colors ≤ 9223372036854775807) :
    C24 (s1, s2, (colors : Int)) tag w fun w1 => RRow w1 s2 (dec tag prev raw colors raw.length) ∧ Ext s2.own w w1 := by
  refine T24 (s1, s2, (colors : Int)) _ _ _ ?_
  unfold S24
  refine (Hx.start w s2.own).nw' fun w2 H he2 => H.ld 0 rfl rfl ?_
  have hl2 := h2.len
  dsimp only
  refine ⟨fun n st w4 => ∃ i : Nat, st = (i : Int) ∧ i ≤ raw.length ∧ n = raw.length - i ∧ Hx w s2.own w4 [(w.heap.size, #[Slc.v s1, Slc.v s2, .int .i64 (colors : Int)], 42)] ∧
    RRow w4 s2 (dec tag prev raw colors i ++ raw.drop i), raw.length, ⟨0, rfl, by omega, rfl, H, by simpa [dec] using h2.keep he2 fun _ _ h => h⟩, ?_⟩
  rintro n st w4 ⟨i, rfl, hi, rfl, H, hrow⟩
  unfold S24L1
  rw [hl2]
  have hdl := dec_len tag prev raw colors i
  refine Br_of (fun e => ?_) fun e => ?_
  · have hlt : i < raw.length := by
      have : (i : Int) < (raw.length : Int) := by simpa using e
      omega
    have HD := H.drew
    have hS : ∀ w3, Ext (fun _ => False) w4.drew w3 → Blk w3 w.heap.size #[Slc.v s1, Slc.v s2, .int .i64 (colors : Int)] 42 := fun w3 e => (HD.keep e).get 0 rfl
    have hrowD := hrow.keep (Ext.refl (fun _ => False) w4).drew fun _ _ h => h
    have g1 : RRow w4.drew s1 prev := h1.keep HD.ext hap
    obtain ⟨g, hp, hcell⟩ := hrowD.get (mid_get hdl hlt)
    refine ⟨fun w3 => Ext (fun _ => False) w4.drew w3, Ext.refl _ _, LdS.of hS rfl ?_⟩
    rw [hl2, hp]
    refine ⟨by omega, by omega, Nn.of ⟨(((raw.getD i 0).toNat : Nat) : Int), fun w3 e => by rw [add_lit]; exact e.cell_same (by simpa using hcell), LdS.of hS rfl (LdS.of hS rfl (LdS.of hS rfl ((c_off g1 hrowD tag (by omega) hc).mono ?_)))⟩⟩
    rintro x w5 ⟨rfl, he⟩
    rw [off_row (row' := dec tag prev raw colors i) hc1 fun j hj => mid_getD hdl hj]
    have hrow5 := hrowD.keep he fun _ _ h => h
    obtain ⟨g', hp', hcan, hset, hext⟩ := hrow5.set (i := i) (by rw [List.length_append, hdl, List.length_drop]; omega) (raw.getD i 0 + UInt8.ofNat (off tag prev (dec tag prev raw colors i) i colors))
    have : g' = g := by rw [hp] at hp'; cases hp'; rfl
    subst this
    have ho : s2.own g' := ⟨_, hp, rfl⟩
    have hlt' : g' < w.heap.size := h2.own_lt ho
    have H5 := (HD.keep he).other hext (fun j hj hm => by
      have : j = w.heap.size := by simpa using hm
      omega) fun j hj => .inl (by rw [hj]; exact ho)
    refine ⟨he, by omega, by omega, Nn.of ⟨by rw [add_lit]; simpa using hcan, raw.length - (i + 1), by omega, i + 1, by rw [i64_id (by omega)]; rfl, by omega, rfl, ?_⟩⟩
    rw [add_lit, add_u8 _ (off_lt _ _ _ _ _)]
    simp only [Nat.zero_add, Int.toNat_natCast, Nat.mul_one]
    refine ⟨H5, ?_⟩
    rw [dec, ← mid_set hdl hlt]
    exact hset
  · have hge : i = raw.length := by
      have : ¬ (i : Int) < (raw.length : Int) := by simpa using e
      omega
    subst hge
    rw [List.drop_length, List.append_nil] at hrow
    exact ⟨hrow, H.ext⟩
end Pre
end Go.Proofs.YtjkoafjnmkchdaaGreatDoor

/- What Encode and Decode of package predict answer. No condition. -/
namespace Go.Proofs.YtjkoafjnmkchdaaGreatDoor
namespace Pre
open Sh
set_option maxRecDepth 4000
set_option linter.unusedVariables false
set_option linter.unusedSimpArgs false

/-- The tag of a row. -/
def tagE (pred : Int) (prev row : List UInt8) (colors : Nat) : Int := if pred = 15 then ((best prev row colors : Nat) : Int) else pred - 10
def encRow (pred : Int) (prev row : List UInt8) (colors : Nat) : List UInt8 :=
  if pred = 2 then less 1 prev row colors else UInt8.ofNat (tagE pred prev row colors).toNat :: less (tagE pred prev row colors) prev row colors
/-- k rows of n bytes, encoded. -/
def encN (pred : Int) (n colors : Nat) : Nat → List UInt8 → List UInt8 → List UInt8
  | 0, _, _ => []
  | k + 1, prev, s => encRow pred prev (s.take n) colors ++ encN pred n colors k (s.take n) (s.drop n)
/-- One byte or more in a row. -/
def rowN (p : Int × Int × Int) : Nat := if okP p = true then (p.2.1 * p.2.2).toNat else 1
theorem rowN_spec (p : Int × Int × Int) : (if 1 > rowP p then 1 else rowP p) = ((rowN p : Nat) : Int) ∧ 1 ≤ rowN p ∧ rowN p ≤ 8192 := by
  unfold rowN rowP
  by_cases h : okP p = true
  · have h2 := okP_spec h
    have : 1 * 1 ≤ p.2.1 * p.2.2 := Int.mul_le_mul h2.2.1 h2.2.2.1 (by omega) (by omega)
    simp only [if_pos h]
    rw [if_neg (by omega)]
    omega
  · simp only [if_neg h]
    refine ⟨rfl, by omega, by omega⟩
/-- What Encode answers: the bytes, the error. -/
def encP (p : Int × Int × Int) (s : List UInt8) : List UInt8 × Int :=
  if refuseP p s.length (rowN p) ≠ 0 then ([], refuseP p s.length (rowN p))
  else if p.1 = 1 then (s, 0)
  else if 10 ≤ p.1 ∧ 1048576 < s.length + s.length / rowN p then ([], 5)
  else (encN p.1 (rowN p) p.2.1.toNat (s.length / rowN p) [] s, 0)
theorem refuse_ok {p : Int × Int × Int} {n m : Int} (h : refuseP p n m = 0) : okP p = true ∧ n ≤ 1048576 ∧ (p.1 ≠ 1 → Int.tmod n m = 0) := by
  unfold refuseP at h
  by_cases h1 : okP p = false
  · rw [if_pos h1] at h; cases h
  · rw [if_neg h1] at h
    by_cases h2 : 1048576 < n
    · rw [if_pos h2] at h; cases h
    · rw [if_neg h2] at h
      by_cases h3 : p.1 ≠ 1 ∧ Int.tmod n m ≠ 0
      · rw [if_pos h3] at h; cases h
      · refine ⟨by simpa using h1, by omega, fun h4 => ?_⟩
        refine Decidable.byContradiction fun h5 => h3 ⟨h4, h5⟩
theorem best_le (prev row : List UInt8) (colors : Nat) : best prev row colors ≤ 4 := by
  unfold best
  simp only [bestK]
  repeat (first | omega | split | (simp only []; omega))
theorem encRow_len (pred : Int) (prev row : List UInt8) (colors : Nat) : (encRow pred prev row colors).length ≤ row.length + 1 := by
  unfold encRow
  split
  · rw [less_len]; omega
  · rw [List.length_cons, less_len]; omega
section
variable {w : World}
/-- What the loop of Encode knows. -/
def EncI (w : World) (p : Int × Int × Int) (b : Nat) (total : List UInt8) (k : Nat) (st : ByteArray × Slc) (w4 : World) : Prop :=
  ∃ (prev acc : List UInt8) (s1 s2 : Slc), st.1.data.toList.length = k * rowN p ∧ acc ++ encN p.1 (rowN p) p.2.1.toNat k prev st.1.data.toList = total ∧ acc.length + 2 * st.1.data.toList.length ≤ 4194304 ∧
    Hx w (fun _ => False) w4 [(w.heap.size, #[.int .i64 p.1, .int .i64 p.2.1, .int .i64 p.2.2], 28), (b, #[Slc.v s1, Slc.v s2, .int .i64 p.2.1], 42)] ∧
    RRow w4 s2 prev ∧ BRow w4 st.2 acc ∧ (∀ j, st.2.own j → w.heap.size < j ∧ j ≠ b ∧ ¬ s2.own j) ∧ (∀ j, s2.own j → w.heap.size < j ∧ j ≠ b)
theorem c_encode (p : Int × Int × Int) (s : ByteArray) (w : World) : C9 p s w fun r e w1 => (r.data.toList, e) = encP p s.data.toList ∧ Ext (fun _ => False) w w1 := by
  refine T9 _ _ _ _ ?_
  unfold S9
  obtain ⟨hn, hn1, hn2⟩ := rowN_spec p
  refine (Hx.start w (fun _ => False)).nw' fun w2 H he2 => H.ld 0 rfl rfl (H.ld 0 rfl rfl (H.ld 0 rfl rfl ((c_row p _).mono ?_)))
  rintro r w3 ⟨rfl, he⟩
  have H := H.keep he
  have hsl := size_list s
  rw [hn]
  refine H.ld 0 rfl rfl (H.ld 0 rfl rfl (H.ld 0 rfl rfl ((c_refuse p _ (by omega) _).mono ?_)))
  rintro r w4 ⟨rfl, he⟩
  have H := H.keep he
  rw [hsl]
  unfold encP
  refine Br.ne (fun e => ?_) fun e => ?_
  · rw [if_pos e]; exact ⟨rfl, H.ext⟩
  rw [if_neg (by rw [e]; simp)]
  obtain ⟨hok, hlen, hmod⟩ := refuse_ok e
  have hspec := okP_spec hok
  have hdiv : Int.tdiv (s.data.toList.length : Int) ((rowN p : Nat) : Int) = ((s.data.toList.length / rowN p : Nat) : Int) := by rw [tdiv_id (by omega)]; rfl
  have hdle : s.data.toList.length / rowN p ≤ s.data.toList.length := Nat.div_le_self _ _
  have hk0 : p.1 ≠ 1 → s.data.toList.length = s.data.toList.length / rowN p * rowN p := fun e1 => by
    have := hmod e1
    rw [tmod_id (by omega)] at this
    have h2 : s.data.toList.length % rowN p = 0 := by omega
    exact (Nat.div_mul_cancel (Nat.dvd_of_mod_eq_zero h2)).symm
  generalize hq : s.data.toList.length / rowN p = q at hdiv hdle hk0 ⊢
  rw [hdiv, i64_id (n := ((q : Nat) : Int)) (by omega), i64_id (by omega)]
  refine ⟨fun _ w5 => Hx w (fun _ => False) w5 [(w.heap.size, #[.int .i64 p.1, .int .i64 p.2.1, .int .i64 p.2.2], 28)] ∧ p.1 ≠ 1 ∧ ¬ (10 ≤ p.1 ∧ 1048576 < s.data.toList.length + q), ?_, ?_⟩
  case refine_2 =>
    refine H.ld 0 rfl rfl (Br.eq (fun e1 => ?_) fun e1 => H.ld 0 rfl rfl (Br.dec (fun e2 => ⟨by omega, Lt.of (Br.dec (fun e3 => ?_) fun e3 => ?_)⟩) fun e2 => ?_))
    · rw [if_pos e1]; exact ⟨rfl, H.ext⟩
    · rw [if_neg e1, if_pos ⟨e2, by omega⟩]; exact ⟨rfl, H.ext⟩
    · exact ⟨H, e1, by omega⟩
    · exact ⟨H, e1, by omega⟩
  rintro _ w5 ⟨H, e1, e2⟩
  rw [if_neg e1, if_neg e2]
  have hk := hk0 e1
  unfold S9J2
  rw [hn, hsl, hdiv, i64_id (n := ((q : Nat) : Int)) (by omega), i64_id (by omega)]
  refine ⟨by omega, Lt.of ?_⟩
  obtain ⟨x25, w6, hrun, hrow, he6, hnew⟩ := bytes_make w5 0 (s.data.toList.length + q) (by omega) (by omega)
  have hlt5 := (H.get 0 rfl).lt
  have H := H.keep he6
  refine ⟨x25, w6, by simpa using hrun, H.ld 0 rfl rfl (H.nw' fun w7 H he7 => ?_)⟩
  have hown6 : ∀ j, x25.own j → j < w6.heap.size := fun j hj => hrow.own_lt hj
  have hrow := hrow.keep he7 fun _ _ h => h
  refine H.st' 1 rfl (by simp) (.inr (by have := he6.size; omega)) fun w8 H he8 => ?_
  have hrow := hrow.keep he8 fun j hj h => by have := hown6 j hj; omega
  rw [add_lit, add_lit]
  refine H.st' 1 rfl (by simp) (.inr (by have := he6.size; omega)) fun w9 H he9 => ?_
  have hrow := hrow.keep he9 fun j hj h => by have := hown6 j hj; omega
  refine H.st' 1 rfl (by simp) (.inr (by have := he6.size; omega)) fun w10 H he10 => ?_
  have hrow := hrow.keep he10 fun j hj h => by have := hown6 j hj; omega
  refine ⟨EncI w p w6.heap.size (encN p.1 (rowN p) p.2.1.toNat (q) [] s.data.toList), _, ⟨[], [], ⟨none, 0, 0⟩, ⟨none, 0, 0⟩, hk, rfl, by simp only [List.length_nil]; omega, H, RRow.nil _, hrow, fun j hj => ⟨by have := hnew j hj; omega, fun h => by have := hown6 j hj; omega, by rintro ⟨a, ha, _⟩; cases ha⟩, by rintro j ⟨a, ha, _⟩; cases ha⟩, ?_⟩
  generalize encN p.1 (rowN p) p.2.1.toNat (q) [] s.data.toList = total
  rintro k ⟨st1, out⟩ w11 ⟨prev, acc, s1, s2, hl, htot, hb, H, hr2, hrow, ho1, ho2⟩
  unfold S9L1
  simp only at hl htot hb hr2 hrow ho1 ho2 ⊢
  rw [hn]
  have hsz := size_list st1
  refine Br.dec (fun e3 => ?_) fun e3 => ?_
  case refine_2 =>
    have h0 : st1.data.toList.length = 0 := by omega
    have hk0 : k = 0 := by
      rw [h0] at hl
      rcases Nat.mul_eq_zero.1 hl.symm with h | h
      · exact h
      · omega
    subst hk0
    refine ⟨_, w11, str_row hrow, ?_, H.ext⟩
    rw [← htot]
    simp [encN]
  have hk0 : k ≠ 0 := fun h => by subst h; rw [Nat.zero_mul] at hl; omega
  obtain ⟨k, rfl⟩ : ∃ k', k = k' + 1 := ⟨k - 1, by omega⟩
  have hN : rowN p ≤ st1.data.toList.length := by rw [hl]; exact Nat.le_mul_of_pos_left _ (by omega)
  have htk : (st1.data.toList.take (rowN p)).length = rowN p := by rw [List.length_take]; omega
  refine ⟨fun _ w12 => ∃ s3 : Slc, Hx w (fun _ => False) w12 [(w.heap.size, #[.int .i64 p.1, .int .i64 p.2.1, .int .i64 p.2.2], 28), (w6.heap.size, #[Slc.v s2, Slc.v s3, .int .i64 p.2.1], 42)] ∧
    RRow w12 s2 prev ∧ RRow w12 s3 (st1.data.toList.take (rowN p)) ∧ BRow w12 out acc ∧ (∀ j, out.own j → ¬ s3.own j) ∧ (∀ j, s3.own j → w.heap.size < j ∧ j ≠ w6.heap.size), ?_, ?_⟩
  case refine_2 =>
    have HD := H.drew
    have hlt6 := (H.get 1 rfl).lt
    have hr2D := hr2.keep (Ext.refl (fun _ => False) w11).drew fun _ _ h => h
    have hrowD := hrow.keep (Ext.refl (fun _ => False) w11).drew fun _ _ h => h
    refine ⟨fun w12 => Ext (fun _ => False) w11.drew w12, Ext.refl _ _, LdS.of (fun w12 he => (HD.keep he).get 1 rfl) rfl ⟨by omega, by omega, ?_, ?_⟩⟩
    · obtain ⟨x, w12, hrun, hx, he, hnew⟩ := bytes_str w11.drew (st1.extract 0 (((rowN p : Nat) : Int)).toNat)
      refine ⟨x, w12, hrun, he, ?_⟩
      have H12 := HD.keep he
      have hxl : ∀ j, x.own j → w6.heap.size < j := fun j hj => by have := hnew j hj; simp at this; omega
      refine H12.st' 1 rfl (by simp) (.inr (by have := he6.size; omega)) fun w13 H13 he13 => ?_
      rw [add_lit]
      refine H13.st' 1 rfl (by simp) (.inr (by have := he6.size; omega)) fun w14 H14 he14 => ?_
      have hb' : ∀ j, x.own j → ¬ j = w6.heap.size := fun j hj h => by have := hxl j hj; omega
      refine ⟨x, H14, ((hr2D.keep he fun _ _ h => h).keep he13 fun j hj => (ho2 j hj).2).keep he14 fun j hj => (ho2 j hj).2, ?_, ((hrowD.keep he fun _ _ h => h).keep he13 fun j hj => (ho1 j hj).2.1).keep he14 fun j hj => (ho1 j hj).2.1, fun j hj h => ?_, fun j hj => ⟨?_, hb' j hj⟩⟩
      · have := (hx.keep he13 hb').keep he14 hb'
        rw [extract_list, List.drop_zero, Nat.sub_zero, Int.toNat_natCast] at this
        exact this
      · have h1 := hrow.own_lt hj
        have h2 := hnew j h
        simp at h2
        omega
      · have := hxl j hj; have := he6.size; omega
    · refine HD.st' 1 rfl (by simp) (.inr (by have := he6.size; omega)) fun w13 H13 he13 => ?_
      obtain ⟨x, w12, hrun, hx, he, hnew⟩ := bytes_str w13 (st1.extract 0 (((rowN p : Nat) : Int)).toNat)
      refine ⟨x, w12, hrun, ?_⟩
      have H12 := H13.keep he
      have hs13 := he13.size
      simp at hs13
      have hxl : ∀ j, x.own j → w6.heap.size < j := fun j hj => by have := hnew j hj; omega
      rw [add_lit]
      refine H12.st' 1 rfl (by simp) (.inr (by have := he6.size; omega)) fun w14 H14 he14 => ?_
      have hb' : ∀ j, x.own j → ¬ j = w6.heap.size := fun j hj h => by have := hxl j hj; omega
      refine ⟨x, H14, ((hr2D.keep he13 fun j hj => (ho2 j hj).2).keep he fun _ _ h => h).keep he14 fun j hj => (ho2 j hj).2, ?_, ((hrowD.keep he13 fun j hj => (ho1 j hj).2.1).keep he fun _ _ h => h).keep he14 fun j hj => (ho1 j hj).2.1, fun j hj h => ?_, fun j hj => ⟨?_, hb' j hj⟩⟩
      · have := hx.keep he14 hb'
        rw [extract_list, List.drop_zero, Nat.sub_zero, Int.toNat_natCast] at this
        exact this
      · have h1 := hrow.own_lt hj
        have h2 := hnew j h
        omega
      · have := hxl j hj; have := he6.size; omega
  rintro _ w12 ⟨s3, H, hr2, hr3, hrow, ho3, ho4⟩
  unfold S9J1
  simp only
  rw [hn]
  have hc : ((p.2.1.toNat : Nat) : Int) = p.2.1 := by omega
  have hcb : p.2.1.toNat ≤ 9223372036854775807 := by
    have : p.2.1 * 1 ≤ p.2.1 * p.2.2 := Int.mul_le_mul_of_nonneg_left hspec.2.2.1 (by omega)
    omega
  have fin : ∀ (x : Slc) (w13 : World), BRow w13 x (acc ++ encRow p.1 prev (st1.data.toList.take (rowN p)) p.2.1.toNat) → Hx w (fun _ => False) w13 [(w.heap.size, #[.int .i64 p.1, .int .i64 p.2.1, .int .i64 p.2.2], 28), (w6.heap.size, #[Slc.v s2, Slc.v s3, .int .i64 p.2.1], 42)] →
      RRow w13 s3 (st1.data.toList.take (rowN p)) → (∀ j, x.own j → out.own j ∨ w12.heap.size ≤ j) →
      0 ≤ ((rowN p : Nat) : Int) ∧ ((rowN p : Nat) : Int) ≤ ((st1.size : Nat) : Int) ∧ ∃ n', n' < k + 1 ∧ EncI w p w6.heap.size total n' (st1.extract (((rowN p : Nat) : Int)).toNat st1.size, x) w13 := fun x w13 hx H13 hr hown => by
    have hd : (st1.extract (((rowN p : Nat) : Int)).toNat st1.size).data.toList = st1.data.toList.drop (rowN p) := by rw [Int.toNat_natCast, extract_drop]
    have hlr := encRow_len p.1 prev (st1.data.toList.take (rowN p)) p.2.1.toNat
    refine ⟨by omega, by omega, k, by omega, st1.data.toList.take (rowN p), _, s2, s3, ?_, ?_, ?_, H13, hr, hx, ?_, ho4⟩
    · rw [hd, List.length_drop, hl, Nat.add_mul, Nat.one_mul, Nat.add_sub_cancel]
    · rw [hd, List.append_assoc]
      exact htot
    · rw [hd, List.length_append, List.length_drop]
      omega
    · intro j hj
      rcases hown j hj with h | h
      · exact ⟨(ho1 j h).1, (ho1 j h).2.1, ho3 j h⟩
      · have h1 := (H.get 0 rfl).lt
        have h2 := (H.get 1 rfl).lt
        exact ⟨by omega, by omega, fun h3 => by have := hr3.own_lt h3; omega⟩
  have tagged : p.1 ≠ 2 → ∀ (t : Int) (w13 : World), Ext (fun _ => False) w12 w13 → tagE p.1 prev (st1.data.toList.take (rowN p)) p.2.1.toNat = t → 0 ≤ t → t ≤ 4 →
      ∃ vS74 : World → Prop, vS74 w13.drew ∧ LdS vS74 (⟨w6.heap.size, 0, none⟩ : Addr) Slc.v fun (x75 : Slc) =>
        LdS vS74 ((⟨w6.heap.size, 0, none⟩ : Addr).add 1) Slc.v fun (x76 : Slc) =>
        LdS vS74 ((⟨w6.heap.size, 0, none⟩ : Addr).add 2) (Value.int .i64) fun (x77 : Int) =>
        Nw w13.drew (.cells #[.int .u8 (IntKind.u8.wrap t)] 5) fun vw78 =>
        vS74 vw78 ∧ Rn Tryz.prog (Builtin.append_ #[29, 29] 29 #[Slc.v out, Slc.v ((⟨some ⟨w13.drew.heap.size, 0, none⟩, 1, 1⟩ : Slc))]) vw78 Slc.v fun (x79 : Slc) vw80 =>
        vS74 vw80 ∧ C22 (x75, x76, x77) t vw80 fun r81 vw82 =>
          Rn Tryz.prog (Builtin.append_ #[29, 29] 29 #[Slc.v x79, Slc.v r81]) vw82 Slc.v fun (x83 : Slc) vw84 =>
          0 ≤ ((rowN p : Nat) : Int) ∧ ((rowN p : Nat) : Int) ≤ ((st1.size : Nat) : Int) ∧ ∃ n', n' < k + 1 ∧ EncI w p w6.heap.size total n' (st1.extract (((rowN p : Nat) : Int)).toNat st1.size, x83) vw84 := by
    intro e4 t w13 he ht ht0 ht4
    have HD := (H.keep he).drew
    have hrowD := (hrow.keep he fun _ _ h => h).keep (Ext.refl (fun _ => False) w13).drew fun _ _ h => h
    have hr2D := (hr2.keep he fun _ _ h => h).keep (Ext.refl (fun _ => False) w13).drew fun _ _ h => h
    have hr3D := (hr3.keep he fun _ _ h => h).keep (Ext.refl (fun _ => False) w13).drew fun _ _ h => h
    have hS : ∀ w3, Ext out.own w13.drew w3 → Blk w3 w6.heap.size #[Slc.v s2, Slc.v s3, .int .i64 p.2.1] 42 := fun w3 h => h.blk (HD.get 1 rfl) fun h => (ho1 _ h).2.1 rfl
    refine ⟨fun w3 => Ext out.own w13.drew w3, Ext.refl _ _, LdS.of hS rfl (LdS.of hS rfl (LdS.of hS rfl (HD.nw' fun w14 H14 he14 => ⟨he14.mono fun _ _ h => h.elim, ?_⟩)))⟩
    have hu : IntKind.u8.wrap t = (((UInt8.ofNat t.toNat).toNat : Nat) : Int) := by rw [u8_id (by omega), UInt8.toNat_ofNat_of_lt' (by show t.toNat < 256; omega)]; omega
    have hblk := H14.get 2 rfl
    rw [hu] at hblk
    obtain ⟨x, w15, hrun, hx, he15, hown⟩ := app_one (ty := 29) (hrowD.keep he14 fun _ _ h => h) hblk (by omega)
    have hlt13 : ∀ j, out.own j → j < w13.drew.heap.size := fun j hj => hrowD.own_lt hj
    have H15 := H14.other he15 (fun j hj hm => by
      have h1 := ho1 j hj
      have h2 := hlt13 j hj
      simp at hm h2
      omega) fun j hj => .inr (by have := (ho1 j hj).1; omega)
    refine ⟨x, w15, hrun, (he14.mono fun _ _ h => h.elim).tr he15, ?_⟩
    have hless := c_less ((hr2D.keep he14 fun _ _ h => h).keep he15 fun j hj h => (ho1 j h).2.2 hj) ((hr3D.keep he14 fun _ _ h => h).keep he15 fun j hj h => ho3 j h hj) t (colors := p.2.1.toNat) (by omega) hcb
    rw [hc] at hless
    refine hless.mono ?_
    rintro r w16 ⟨hr, he16, hnewr⟩
    obtain ⟨x2, w17, hrun2, hx2, he17, hown2⟩ := app_row (ty := 29) (hx.keep he16 fun _ _ h => h) hr (by rw [less_len, List.length_append, List.length_singleton]; omega)
    have hxo : ∀ j, x.own j → w.heap.size < j ∧ j ≠ w6.heap.size ∧ ¬ s3.own j := fun j hj => by
      rcases hown j hj with h | h
      · exact ⟨(ho1 j h).1, (ho1 j h).2.1, ho3 j h⟩
      · have h1 := (HD.get 0 rfl).lt
        have h2 := (HD.get 1 rfl).lt
        have h3 := he14.size
        exact ⟨by omega, by omega, fun h5 => by have := hr3D.own_lt h5; omega⟩
    refine ⟨x2, w17, hrun2, fin x2 w17 ?_ (((H15.keep he16).left (L := [_, _]) (M := [_])).other he17 (fun j hj hm => ?_) fun j hj => .inr (by have := (hxo j hj).1; omega)) ((((hr3D.keep he14 fun _ _ h => h).keep he15 fun j hj h => ho3 j h hj).keep he16 fun _ _ h => h).keep he17 fun j hj h => (hxo j h).2.2 hj) fun j hj => ?_⟩
    · unfold encRow
      rw [if_neg e4, ht]
      rw [List.append_assoc] at hx2
      exact hx2
    · have := hxo j hj
      simp at hm
      omega
    · have g1 := he.size
      have g2 := he14.size
      have g3 := he15.size
      have g4 := he16.size
      simp at g2
      rcases hown2 j hj with h | h
      · rcases hown j h with h | h
        · exact .inl h
        · exact .inr (by omega)
      · exact .inr (by omega)
  refine H.ld 0 rfl rfl (H.ld 0 rfl rfl (Br.eq (fun e4 => ?_) fun e4 => Br.eq (fun e5 => ?_) fun e5 => ?_))
  · refine H.ld 1 rfl rfl (H.ld 1 rfl rfl (H.ld 1 rfl rfl ?_))
    have hless := c_less hr2 hr3 1 (colors := p.2.1.toNat) (by omega) hcb
    rw [hc] at hless
    refine hless.mono ?_
    rintro r w13 ⟨hr, he, hnewr⟩
    obtain ⟨x, w14, hrun, hx, he14, hown⟩ := app_row (ty := 29) (hrow.keep he fun _ _ h => h) hr (by rw [less_len]; omega)
    refine ⟨x, w14, hrun, fin x w14 (by unfold encRow; rw [if_pos e4]; exact hx) ((H.keep he).other he14 (fun j hj hm => ?_) fun j hj => .inr (by have := (ho1 j hj).1; omega)) ((hr3.keep he fun _ _ h => h).keep he14 fun j hj h => ho3 j h hj) fun j hj => (hown j hj).imp id fun h => Nat.le_trans he.size h⟩
    have := ho1 j hj
    simp at hm
    omega
  · refine H.ld 1 rfl rfl (H.ld 1 rfl rfl (H.ld 1 rfl rfl ?_))
    have hbest := c_best hr2 hr3 (colors := p.2.1.toNat) (by omega) hcb
    rw [hc] at hbest
    refine hbest.mono ?_
    rintro r w13 ⟨rfl, he⟩
    have ht : tagE p.1 prev (st1.data.toList.take (rowN p)) p.2.1.toNat = ((best prev (st1.data.toList.take (rowN p)) p.2.1.toNat : Nat) : Int) := by unfold tagE; rw [if_pos e5]
    have ht4 : ((best prev (st1.data.toList.take (rowN p)) p.2.1.toNat : Nat) : Int) ≤ 4 := by have := best_le prev (st1.data.toList.take (rowN p)) p.2.1.toNat; omega
    have ht0 : 0 ≤ ((best prev (st1.data.toList.take (rowN p)) p.2.1.toNat : Nat) : Int) := by omega
    exact tagged e4 _ w13 he ht ht0 ht4
  · have ht : tagE p.1 prev (st1.data.toList.take (rowN p)) p.2.1.toNat = p.1 - 10 := by unfold tagE; rw [if_neg e5]
    rw [i64_id (n := p.1 - 10) (by omega)]
    exact tagged e4 _ w12 (Ext.refl _ _) ht (by omega) (by omega)

/-- The byte of the tag in front of a row. -/
def headN (p : Int × Int × Int) : Nat := if 10 ≤ p.1 then 1 else 0
def tagD (h : Nat) (s : List UInt8) : Nat := if h = 1 then (s.getD 0 0).toNat else 1
/-- k rows, decoded. -/
def decN (h n colors : Nat) : Nat → List UInt8 → List UInt8 → Option (List UInt8)
  | 0, _, _ => some []
  | k + 1, prev, s => if 5 ≤ tagD h s then none else (decN h n colors k (dec (tagD h s) prev ((s.drop h).take n) colors n) (s.drop (n + h))).map fun l => dec (tagD h s) prev ((s.drop h).take n) colors n ++ l
/-- What Decode answers: the bytes, the error. -/
def decP (p : Int × Int × Int) (s : List UInt8) : List UInt8 × Int :=
  if refuseP p s.length ((rowN p + headN p : Nat) : Int) ≠ 0 then ([], refuseP p s.length ((rowN p + headN p : Nat) : Int))
  else if p.1 = 1 then (s, 0)
  else match decN (headN p) (rowN p) p.2.1.toNat (s.length / (rowN p + headN p)) [] s with
    | none => ([], 3)
    | some l => (l, 0)
/-- What the loop of Decode knows. -/
def DecI (w : World) (p : Int × Int × Int) (b : Nat) (total : Option (List UInt8)) (k : Nat) (st : ByteArray × Slc) (w4 : World) : Prop :=
  ∃ (prev acc : List UInt8) (s1 s2 : Slc), st.1.data.toList.length = k * (rowN p + headN p) ∧ (decN (headN p) (rowN p) p.2.1.toNat k prev st.1.data.toList).map (fun l => acc ++ l) = total ∧ acc.length + st.1.data.toList.length ≤ 4194304 ∧
    Hx w (fun _ => False) w4 [(w.heap.size, #[.int .i64 p.1, .int .i64 p.2.1, .int .i64 p.2.2], 28), (b, #[Slc.v s1, Slc.v s2, .int .i64 p.2.1], 42)] ∧
    RRow w4 s2 prev ∧ BRow w4 st.2 acc ∧ (∀ j, st.2.own j → w.heap.size < j ∧ j ≠ b ∧ ¬ s2.own j) ∧ (∀ j, s2.own j → w.heap.size < j ∧ j ≠ b)
theorem c_decode (p : Int × Int × Int) (s : ByteArray) (w : World) : C10 p s w fun r e w1 => (r.data.toList, e) = decP p s.data.toList ∧ Ext (fun _ => False) w w1 := by
  refine T10 _ _ _ _ ?_
  unfold S10
  obtain ⟨hn, hn1, hn2⟩ := rowN_spec p
  have hh : headN p = 0 ∨ headN p = 1 := by unfold headN; split <;> simp
  refine (Hx.start w (fun _ => False)).nw' fun w2 H he2 => H.ld 0 rfl rfl (H.ld 0 rfl rfl (H.ld 0 rfl rfl ((c_row p _).mono ?_)))
  rintro r w3 ⟨rfl, he⟩
  have H := H.keep he
  have hsl := size_list s
  refine ⟨fun h w4 => h = ((headN p : Nat) : Int) ∧ Hx w (fun _ => False) w4 [(w.heap.size, #[.int .i64 p.1, .int .i64 p.2.1, .int .i64 p.2.2], 28)], ?_, H.ld 0 rfl rfl (Br.dec (fun e => ⟨?_, H⟩) fun e => ⟨?_, H⟩)⟩
  case refine_2 => unfold headN; rw [if_pos e]; rfl
  case refine_3 => unfold headN; rw [if_neg e]; rfl
  rintro _ w4 ⟨rfl, H⟩
  unfold S10J2
  have hm : IntKind.i64.wrap (((rowN p : Nat) : Int) + ((headN p : Nat) : Int)) = ((rowN p + headN p : Nat) : Int) := by rw [i64_id (by omega)]; omega
  rw [hn, hm]
  refine H.ld 0 rfl rfl (H.ld 0 rfl rfl (H.ld 0 rfl rfl ((c_refuse p _ (by omega) _).mono ?_)))
  rintro r w5 ⟨rfl, he⟩
  have H := H.keep he
  rw [hsl]
  unfold decP
  refine Br.ne (fun e => ?_) fun e => ?_
  · rw [if_pos e]; exact ⟨rfl, H.ext⟩
  rw [if_neg (by rw [e]; simp)]
  obtain ⟨hok, hlen, hmod⟩ := refuse_ok e
  have hspec := okP_spec hok
  refine H.ld 0 rfl rfl (Br.eq (fun e1 => ?_) fun e1 => H.ld 0 rfl rfl ?_)
  · rw [if_pos e1]; exact ⟨rfl, H.ext⟩
  rw [if_neg e1]
  have hc : ((p.2.1.toNat : Nat) : Int) = p.2.1 := by omega
  have hcb : p.2.1.toNat ≤ 9223372036854775807 := by
    have : p.2.1 * 1 ≤ p.2.1 * p.2.2 := Int.mul_le_mul_of_nonneg_left hspec.2.2.1 (by omega)
    omega
  have hk : s.data.toList.length = s.data.toList.length / (rowN p + headN p) * (rowN p + headN p) := by
    have := hmod e1
    rw [tmod_id (by omega)] at this
    have h2 : s.data.toList.length % (rowN p + headN p) = 0 := by omega
    exact (Nat.div_mul_cancel (Nat.dvd_of_mod_eq_zero h2)).symm
  have hlt5 := (H.get 0 rfl).lt
  generalize hq : s.data.toList.length / (rowN p + headN p) = q at hk ⊢
  refine H.nw' fun w7 H he7 => H.st' 1 rfl (by simp) (.inr (by omega)) fun w8 H he8 => ?_
  rw [add_lit, add_lit]
  refine H.st' 1 rfl (by simp) (.inr (by omega)) fun w9 H he9 => H.st' 1 rfl (by simp) (.inr (by omega)) fun w10 H he10 => ?_
  refine ⟨DecI w p w5.heap.size (decN (headN p) (rowN p) p.2.1.toNat q [] s.data.toList), _, ⟨[], [], ⟨none, 0, 0⟩, ⟨none, 0, 0⟩, hk, by simp, by simp only [List.length_nil]; omega, H, RRow.nil _, BRow.nil _, (by rintro j ⟨a, ha, _⟩; cases ha), (by rintro j ⟨a, ha, _⟩; cases ha)⟩, ?_⟩
  generalize decN (headN p) (rowN p) p.2.1.toNat q [] s.data.toList = total
  rintro k ⟨st1, out⟩ w11 ⟨prev, acc, s1, s2, hl, htot, hb, H, hr2, hrow, ho1, ho2⟩
  unfold S10L1
  simp only at hl htot hb hr2 hrow ho1 ho2 ⊢
  have hsz := size_list st1
  refine Br.dec (fun e3 => ?_) fun e3 => ?_
  case refine_2 =>
    have h0 : st1.data.toList.length = 0 := by omega
    have hk0 : k = 0 := by
      rw [h0] at hl
      rcases Nat.mul_eq_zero.1 hl.symm with h | h
      · exact h
      · omega
    subst hk0
    refine ⟨_, w11, str_row hrow, ?_, H.ext⟩
    rw [← htot]
    simp [decN]
  have hk0 : k ≠ 0 := fun h => by subst h; rw [Nat.zero_mul] at hl; omega
  obtain ⟨k, rfl⟩ : ∃ k', k = k' + 1 := ⟨k - 1, by omega⟩
  have hN : rowN p + headN p ≤ st1.data.toList.length := by rw [hl]; exact Nat.le_mul_of_pos_left _ (by omega)
  have hraw : ((st1.data.toList.drop (headN p)).take (rowN p)).length = rowN p := by rw [List.length_take, List.length_drop]; omega
  refine ⟨fun t w12 => t = ((tagD (headN p) st1.data.toList : Nat) : Int) ∧ w12 = w11, ?_, ?_⟩
  case refine_2 =>
    refine Br.eq (fun e4 => ⟨by omega, by omega, ?_, rfl⟩) fun e4 => ⟨?_, rfl⟩
    · unfold tagD
      rw [if_pos (by omega), show (0 : Int) = ((0 : Nat) : Int) from rfl, bAt_list]
      have := (st1.data.toList.getD 0 0).toNat_lt
      rw [i64_id (by omega)]
    · unfold tagD
      rw [if_neg (by omega)]
      rfl
  rintro _ w12 ⟨rfl, rfl⟩
  unfold S10J1
  dsimp only
  simp only [decN] at htot
  rw [hn, hm]
  refine Br.dec (fun e4 => ?_) fun e4 => ?_
  · rw [if_pos (by omega)] at htot
    rw [← htot]
    exact ⟨rfl, H.ext⟩
  rw [if_neg (by omega)] at htot
  generalize htag : tagD (headN p) st1.data.toList = tag at htot e4 ⊢
  have tail : ∀ (x : Slc) (w5' : World), Hx w (fun _ => False) w5' [(w.heap.size, #[.int .i64 p.1, .int .i64 p.2.1, .int .i64 p.2.2], 28), (w5.heap.size, #[Slc.v s2, Slc.v x, .int .i64 p.2.1], 42)] →
      RRow w5' s2 prev → RRow w5' x ((st1.data.toList.drop (headN p)).take (rowN p)) → BRow w5' out acc → (∀ j, x.own j → w.heap.size < j ∧ j ≠ w5.heap.size ∧ ¬ s2.own j ∧ ¬ out.own j) →
      Ld w5' (⟨w5.heap.size, 0, none⟩ : Addr) Slc.v fun (x50 : Slc) =>
      Ld w5' ((⟨w5.heap.size, 0, none⟩ : Addr).add 1) Slc.v fun (x51 : Slc) =>
      Ld w5' ((⟨w5.heap.size, 0, none⟩ : Addr).add 2) (Value.int .i64) fun (x52 : Int) =>
      C24 (x50, x51, x52) ((tag : Nat) : Int) w5' fun vw53 =>
        Ld vw53 ((⟨w5.heap.size, 0, none⟩ : Addr).add 1) Slc.v fun (x54 : Slc) =>
        Rn Tryz.prog (Builtin.append_ #[29, 29] 29 #[Slc.v out, Slc.v x54]) vw53 Slc.v fun (x55 : Slc) vw56 =>
        0 ≤ ((rowN p + headN p : Nat) : Int) ∧ ((rowN p + headN p : Nat) : Int) ≤ ((st1.size : Nat) : Int) ∧ ∃ n', n' < k + 1 ∧ DecI w p w5.heap.size total n' (st1.extract (((rowN p + headN p : Nat) : Int)).toNat st1.size, x55) vw56 := by
    intro x w13 H hr2 hr3 hrow hx
    refine H.ld 1 rfl rfl (H.ld 1 rfl rfl (H.ld 1 rfl rfl ?_))
    have hmore := c_more hr2 hr3 (fun j hj h => (hx j h).2.2.1 hj) ((tag : Nat) : Int) (colors := p.2.1.toNat) (by omega) (by omega) hcb
    rw [hc, hraw] at hmore
    refine hmore.mono ?_
    rintro w14 ⟨hr3, he14⟩
    have H := H.other he14 (fun j hj hm => by
      have := hx j hj
      simp at hm
      omega) fun j hj => .inr (by have := (hx j hj).1; omega)
    have hrow := hrow.keep he14 fun j hj h => (hx j h).2.2.2 hj
    have hdl := dec_len ((tag : Nat) : Int) prev ((st1.data.toList.drop (headN p)).take (rowN p)) p.2.1.toNat (rowN p)
    obtain ⟨y, w15, hrun, hy, he15, hown⟩ := app_rrow (ty := 29) hrow hr3 (by omega)
    refine H.ld 1 rfl rfl ⟨y, w15, hrun, by omega, by omega, k, by omega, dec ((tag : Nat) : Int) prev ((st1.data.toList.drop (headN p)).take (rowN p)) p.2.1.toNat (rowN p), _, s2, x, ?_, ?_, ?_, H.other he15 (fun j hj hm => ?_) fun j hj => .inr (by have := (ho1 j hj).1; omega), hr3.keep he15 fun j hj h => (hx j hj).2.2.2 h, hy, ?_, fun j hj => ⟨(hx j hj).1, (hx j hj).2.1⟩⟩
    · rw [Int.toNat_natCast, extract_drop, List.length_drop, hl, Nat.add_mul, Nat.one_mul, Nat.add_sub_cancel]
    · rw [Int.toNat_natCast, extract_drop, ← htot, Option.map_map]
      refine congrArg (fun f => Option.map f _) (funext fun l => ?_)
      exact List.append_assoc _ _ _
    · rw [Int.toNat_natCast, extract_drop, List.length_append, List.length_drop]
      omega
    · have := ho1 j hj
      simp at hm
      omega
    · intro j hj
      rcases hown j hj with h | h
      · exact ⟨(ho1 j h).1, (ho1 j h).2.1, fun h2 => (hx j h2).2.2.2 h⟩
      · have h1 := (H.get 0 rfl).lt
        have h2 := (H.get 1 rfl).lt
        exact ⟨by omega, by omega, fun h3 => by have := hr3.own_lt h3; omega⟩
  have HD := H.drew
  have hlt6 := (H.get 1 rfl).lt
  have hr2D := hr2.keep (Ext.refl (fun _ => False) w12).drew fun _ _ h => h
  have hrowD := hrow.keep (Ext.refl (fun _ => False) w12).drew fun _ _ h => h
  have hex : (st1.extract (((headN p : Nat) : Int)).toNat (((rowN p + headN p : Nat) : Int)).toNat).data.toList = (st1.data.toList.drop (headN p)).take (rowN p) := by
    rw [extract_list, Int.toNat_natCast, Int.toNat_natCast, Nat.add_sub_cancel]
  refine ⟨fun w13 => Ext (fun _ => False) w12.drew w13, Ext.refl _ _, LdS.of (fun w13 he => (HD.keep he).get 1 rfl) rfl ⟨by omega, by omega, by omega, by rw [Int.toNat_natCast]; omega, ?_, ?_⟩⟩
  · obtain ⟨x, w13, hrun, hx, he, hnew⟩ := bytes_str w12.drew (st1.extract (((headN p : Nat) : Int)).toNat (((rowN p + headN p : Nat) : Int)).toNat)
    rw [hex] at hx
    refine ⟨x, w13, hrun, he, ?_⟩
    have H13 := HD.keep he
    have hxl : ∀ j, x.own j → w5.heap.size < j := fun j hj => by have := hnew j hj; simp at this; omega
    have hb' : ∀ j, x.own j → ¬ j = w5.heap.size := fun j hj h => by have := hxl j hj; omega
    refine H13.st' 1 rfl (by simp) (.inr (by omega)) fun w14 H14 he14 => ?_
    rw [add_lit]
    refine H14.st' 1 rfl (by simp) (.inr (by omega)) fun w15 H15 he15 => ?_
    exact tail x w15 H15 (((hr2D.keep he fun _ _ h => h).keep he14 fun j hj => (ho2 j hj).2).keep he15 fun j hj => (ho2 j hj).2) ((hx.keep he14 hb').keep he15 hb') (((hrowD.keep he fun _ _ h => h).keep he14 fun j hj => (ho1 j hj).2.1).keep he15 fun j hj => (ho1 j hj).2.1)
      fun j hj => ⟨by have := hxl j hj; omega, hb' j hj, fun h => by have h1 := hr2D.own_lt h; have h2 := hnew j hj; omega, fun h => by have h1 := hrowD.own_lt h; have h2 := hnew j hj; omega⟩
  · refine HD.st' 1 rfl (by simp) (.inr (by omega)) fun w13 H13 he13 => ?_
    obtain ⟨x, w14, hrun, hx, he, hnew⟩ := bytes_str w13 (st1.extract (((headN p : Nat) : Int)).toNat (((rowN p + headN p : Nat) : Int)).toNat)
    rw [hex] at hx
    refine ⟨x, w14, hrun, ?_⟩
    have H14 := H13.keep he
    have hs13 := he13.size
    simp at hs13
    have hxl : ∀ j, x.own j → w5.heap.size < j := fun j hj => by have := hnew j hj; omega
    have hb' : ∀ j, x.own j → ¬ j = w5.heap.size := fun j hj h => by have := hxl j hj; omega
    rw [add_lit]
    refine H14.st' 1 rfl (by simp) (.inr (by omega)) fun w15 H15 he15 => ?_
    have hr2E := hr2D.keep he13 fun j hj => (ho2 j hj).2
    have hrowE := hrowD.keep he13 fun j hj => (ho1 j hj).2.1
    exact tail x w15 H15 ((hr2E.keep he fun _ _ h => h).keep he15 fun j hj => (ho2 j hj).2) (hx.keep he15 hb') ((hrowE.keep he fun _ _ h => h).keep he15 fun j hj => (ho1 j hj).2.1)
      fun j hj => ⟨by have := hxl j hj; omega, hb' j hj, fun h => by have h1 := hr2E.own_lt h; have h2 := hnew j hj; omega, fun h => by have h1 := hrowE.own_lt h; have h2 := hnew j hj; omega⟩
end
end Pre
end Go.Proofs.YtjkoafjnmkchdaaGreatDoor

/- No functions here. -/

/- The reference of package predict answers the same. Conditions: sizes. -/
namespace Go.Proofs.YtjkoafjnmkchdaaGreatDoor
namespace Pre
open Sh
set_option maxRecDepth 4000
set_option linter.unusedVariables false
set_option linter.unusedSimpArgs false

theorem max1 (c : Int) : (if 1 > c then 1 else c) = (((max c 1).toNat : Nat) : Int) := by
  split <;> omega
theorem refuse_lit {p : Int × Int × Int} (h : okP p = true) {n m : Int} : refuseP p n m = if 1048576 < n then 5 else if p.1 ≠ 1 ∧ Int.tmod n m ≠ 0 then 16 else 0 := by
  unfold refuseP
  rw [if_neg (by rw [h]; simp)]
theorem encP_eq {p : Int × Int × Int} (hok : okP p = true) (s : List UInt8) : encP p s = if 1048576 < (s.length : Int) then (([], 5) : List UInt8 × Int) else if p.1 = 1 then (s, 0) else if Int.tmod s.length ((rowN p : Nat) : Int) ≠ 0 then ([], 16)
    else if 10 ≤ p.1 ∧ 1048576 < s.length + s.length / rowN p then ([], 5) else (encN p.1 (rowN p) p.2.1.toNat (s.length / rowN p) [] s, 0) := by
  unfold encP
  rw [refuse_lit hok]
  by_cases a : 1048576 < (s.length : Int)
  · rw [if_pos a, if_pos a, if_pos (by simp)]
  · rw [if_neg a, if_neg a]
    by_cases b : p.1 = 1
    · rw [if_neg (c := p.1 ≠ 1 ∧ _) (fun h => h.1 b), if_neg (by simp), if_pos b, if_pos b]
    · rw [if_neg b, if_neg b]
      by_cases c : Int.tmod (s.length : Int) ((rowN p : Nat) : Int) ≠ 0
      · rw [if_pos (show p.1 ≠ 1 ∧ _ from ⟨b, c⟩), if_pos (by simp), if_pos c]
      · rw [if_neg (c := p.1 ≠ 1 ∧ _) (fun h => c h.2), if_neg (by simp), if_neg c]
theorem decP_eq {p : Int × Int × Int} (hok : okP p = true) (s : List UInt8) : decP p s = if 1048576 < (s.length : Int) then (([], 5) : List UInt8 × Int) else if p.1 = 1 then (s, 0) else if Int.tmod s.length ((rowN p + headN p : Nat) : Int) ≠ 0 then ([], 16)
    else match decN (headN p) (rowN p) p.2.1.toNat (s.length / (rowN p + headN p)) [] s with
      | none => ([], 3)
      | some l => (l, 0) := by
  unfold decP
  rw [refuse_lit hok]
  by_cases a : 1048576 < (s.length : Int)
  · rw [if_pos a, if_pos a, if_pos (by simp)]
  · rw [if_neg a, if_neg a]
    by_cases b : p.1 = 1
    · rw [if_neg (c := p.1 ≠ 1 ∧ _) (fun h => h.1 b), if_neg (by simp), if_pos b, if_pos b]
    · rw [if_neg b, if_neg b]
      by_cases c : Int.tmod (s.length : Int) ((rowN p + headN p : Nat) : Int) ≠ 0
      · rw [if_pos (show p.1 ≠ 1 ∧ _ from ⟨b, c⟩), if_pos (by simp), if_pos c]
      · rw [if_neg (c := p.1 ≠ 1 ∧ _) (fun h => c h.2), if_neg (by simp), if_neg c]
        all_goals rfl
end Pre
end Go.Proofs.YtjkoafjnmkchdaaGreatDoor

/- No functions here. -/

/- The fixed checks of the laws on package predict; PredictTells, PredictBest, PredictBack. Conditions: none but that numbers fit their kinds. -/
namespace Go.Proofs.YtjkoafjnmkchdaaGreatDoor
namespace Pre
open Sh
set_option maxRecDepth 4000
set_option linter.unusedVariables false
set_option linter.unusedSimpArgs false

theorem encRow_len' {pred : Int} {prev row : List UInt8} {colors h : Nat} (hp : pred = 2 ∧ h = 0 ∨ 10 ≤ pred ∧ h = 1) : (encRow pred prev row colors).length = row.length + h := by
  unfold encRow
  rcases hp with ⟨h1, h2⟩ | ⟨h1, h2⟩
  · rw [if_pos h1, less_len]; omega
  · rw [if_neg (by omega), List.length_cons, less_len]; omega
theorem encN_len {pred : Int} {n colors h : Nat} (hp : pred = 2 ∧ h = 0 ∨ 10 ≤ pred ∧ h = 1) : ∀ (k : Nat) (prev s : List UInt8), s.length = k * n → (encN pred n colors k prev s).length = k * (n + h)
  | 0, _, _, _ => by simp [encN]
  | k + 1, prev, s, hs => by
    have h1 : (k + 1) * n = k * n + n := by rw [Nat.add_mul, Nat.one_mul]
    rw [encN, List.length_append, encRow_len' hp, encN_len hp k _ _ (by rw [List.length_drop]; omega), List.length_take, Nat.min_eq_left (by omega), Nat.add_mul k 1, Nat.one_mul]
    omega
theorem tagE_bd {pred : Int} {prev row : List UInt8} {colors : Nat} (h1 : 10 ≤ pred) (h2 : pred ≤ 15) : 0 ≤ tagE pred prev row colors ∧ tagE pred prev row colors ≤ 4 := by
  unfold tagE
  split
  · have := best_le prev row colors; omega
  · omega
theorem decN_encN {pred : Int} {n colors h : Nat} (hc : 1 ≤ colors) (hp : pred = 2 ∧ h = 0 ∨ 10 ≤ pred ∧ h = 1) (h15 : pred ≤ 15) : ∀ (k : Nat) (prev s : List UInt8), s.length = k * n → decN h n colors k prev (encN pred n colors k prev s) = some s
  | 0, prev, s, hs => by
    have : s = [] := List.eq_nil_of_length_eq_zero (by omega)
    rw [this]; rfl
  | k + 1, prev, s, hs => by
    have h1 : (k + 1) * n = k * n + n := by rw [Nat.add_mul, Nat.one_mul]
    have hl : (s.take n).length = n := by rw [List.length_take]; omega
    have ih := decN_encN (n := n) hc hp h15 k (s.take n) (s.drop n) (by rw [List.length_drop]; omega)
    have key : ∃ t : Nat, t ≤ 4 ∧ tagD h (encN pred n colors (k + 1) prev s) = t ∧ ((encN pred n colors (k + 1) prev s).drop h).take n = less (t : Int) prev (s.take n) colors ∧ (encN pred n colors (k + 1) prev s).drop (n + h) = encN pred n colors k (s.take n) (s.drop n) := by
      rw [encN]
      rcases hp with ⟨h1, rfl⟩ | ⟨h1, rfl⟩
      · refine ⟨1, by omega, rfl, ?_, ?_⟩
        · unfold encRow
          rw [if_pos h1, List.drop_zero, List.take_left' (by rw [less_len]; exact hl)]
          rfl
        · unfold encRow
          rw [if_pos h1, Nat.add_zero, List.drop_left' (by rw [less_len]; exact hl)]
      · obtain ⟨b1, b2⟩ := tagE_bd (prev := prev) (row := s.take n) (colors := colors) h1 h15
        refine ⟨(tagE pred prev (s.take n) colors).toNat, by omega, ?_, ?_, ?_⟩
        · unfold encRow
          rw [if_neg (show ¬ pred = 2 by omega)]
          unfold tagD
          rw [if_pos rfl]
          simp only [List.cons_append, List.getD_cons_zero]
          exact UInt8.toNat_ofNat_of_lt' (by show _ < 256; omega)
        · unfold encRow
          rw [if_neg (by omega), List.cons_append, List.drop_succ_cons, List.drop_zero, List.take_left' (by rw [less_len]; exact hl), Int.toNat_of_nonneg b1]
        · unfold encRow
          rw [if_neg (by omega), List.cons_append, List.drop_succ_cons, List.drop_left' (by rw [less_len]; exact hl)]
    obtain ⟨t, ht, e1, e2, e3⟩ := key
    rw [decN, e1, e2, e3, if_neg (by omega)]
    have hd := dec_less (tag := (t : Int)) (prev := prev) (row := s.take n) hc n (by omega)
    rw [hd, List.take_of_length_le (by omega), ih]
    simp
/-- Decode undoes Encode. -/
theorem back_plain {p : Int × Int × Int} (hok : okP p = true) {s : List UInt8} (hl : s.length ≤ 1000) (hm : s.length % rowN p = 0) : ∃ x, encP p s = (x, 0) ∧ decP p x = (s, 0) := by
  obtain ⟨_, hn1, hn2⟩ := rowN_spec p
  have hspec := okP_spec hok
  rw [encP_eq hok, if_neg (by omega)]
  by_cases h1 : p.1 = 1
  · refine ⟨s, by rw [if_pos h1], ?_⟩
    rw [decP_eq hok, if_neg (by omega), if_pos h1]
  · have hdle : s.length / rowN p ≤ s.length := Nat.div_le_self _ _
    have hk : s.length = s.length / rowN p * rowN p := (Nat.div_mul_cancel (Nat.dvd_of_mod_eq_zero hm)).symm
    rw [if_neg h1, if_neg (by rw [tmod_id (by omega)]; omega), if_neg (by omega)]
    refine ⟨_, rfl, ?_⟩
    generalize s.length / rowN p = k at hk hdle ⊢
    have hp : p.1 = 2 ∧ headN p = 0 ∨ 10 ≤ p.1 ∧ headN p = 1 := by
      unfold headN
      split <;> omega
    have hlen := encN_len (colors := p.2.1.toNat) hp k [] s hk
    have hmul : k * (rowN p + headN p) = k * rowN p + k * headN p := Nat.mul_add _ _ _
    have hkh : k * headN p ≤ k := by
      rcases hp with ⟨_, h⟩ | ⟨_, h⟩ <;> rw [h] <;> omega
    rw [decP_eq hok, if_neg (by omega), if_neg h1, hlen, if_neg, Nat.mul_div_cancel _ (by omega), decN_encN (by omega) hp (by omega) k [] s hk]
    rw [tmod_id (by omega)]
    have : k * (rowN p + headN p) % (rowN p + headN p) = 0 := Nat.mul_mod_left _ _
    omega
end Pre
end Go.Proofs.YtjkoafjnmkchdaaGreatDoor
