/- The formulas of 15 functions of the program, written by program (gen.py); the kernel checks each. No condition. -/
import Derived.Test.YtahdpfjikmechaaFn
namespace Go.Proofs.Ytahdpfjikmechaa
open Sh
set_option linter.unusedVariables false

/-- foliant/predict.may -/
def S95 (p1 : Int × Int × Int) (w : World) (R : Bool → World → Prop) : Prop :=
  Nw w (.cells #[.int .i64 (p1.1), .int .i64 (p1.2.1), .int .i64 (p1.2.2)] 50) fun vw2 =>
  Ld vw2 (⟨w.heap.size, 0, none⟩ : Addr) (Value.int .i64) fun (x3 : Int) =>
  Br (x3 == 1) (Ld vw2.drew ((⟨w.heap.size, 0, none⟩ : Addr).add 1) (Value.int .i64) fun (x4 : Int) =>
    Br (decide (x4 ≥ 1)) (Ld vw2.drew ((⟨w.heap.size, 0, none⟩ : Addr).add 2) (Value.int .i64) fun (x5 : Int) =>
      Br (decide (x5 ≥ 1)) (Ld vw2.drew ((⟨w.heap.size, 0, none⟩ : Addr).add 1) (Value.int .i64) fun (x6 : Int) =>
        Br (decide (x6 ≤ 8192)) (Ld vw2.drew ((⟨w.heap.size, 0, none⟩ : Addr).add 2) (Value.int .i64) fun (x7 : Int) =>
          Ld vw2.drew ((⟨w.heap.size, 0, none⟩ : Addr).add 1) (Value.int .i64) fun (x8 : Int) =>
          x8 ≠ 0 ∧ R (decide (x7 ≤ (IntKind.i64.wrap (Int.tdiv 8192 x8)))) vw2.drew) (R false vw2.drew)) (R false vw2.drew)) (R false vw2.drew)) (Ld vw2 (⟨w.heap.size, 0, none⟩ : Addr) (Value.int .i64) fun (x9 : Int) =>
    Br (x9 == 2) (Ld vw2.drew ((⟨w.heap.size, 0, none⟩ : Addr).add 1) (Value.int .i64) fun (x10 : Int) =>
      Br (decide (x10 ≥ 1)) (Ld vw2.drew ((⟨w.heap.size, 0, none⟩ : Addr).add 2) (Value.int .i64) fun (x11 : Int) =>
        Br (decide (x11 ≥ 1)) (Ld vw2.drew ((⟨w.heap.size, 0, none⟩ : Addr).add 1) (Value.int .i64) fun (x12 : Int) =>
          Br (decide (x12 ≤ 8192)) (Ld vw2.drew ((⟨w.heap.size, 0, none⟩ : Addr).add 2) (Value.int .i64) fun (x13 : Int) =>
            Ld vw2.drew ((⟨w.heap.size, 0, none⟩ : Addr).add 1) (Value.int .i64) fun (x14 : Int) =>
            x14 ≠ 0 ∧ R (decide (x13 ≤ (IntKind.i64.wrap (Int.tdiv 8192 x14)))) vw2.drew) (R false vw2.drew)) (R false vw2.drew)) (R false vw2.drew)) (Ld vw2 (⟨w.heap.size, 0, none⟩ : Addr) (Value.int .i64) fun (x15 : Int) =>
      Br (decide (x15 ≥ 10)) (Ld vw2 (⟨w.heap.size, 0, none⟩ : Addr) (Value.int .i64) fun (x16 : Int) =>
        Br (decide (x16 ≤ 15)) (Ld vw2.drew ((⟨w.heap.size, 0, none⟩ : Addr).add 1) (Value.int .i64) fun (x17 : Int) =>
          Br (decide (x17 ≥ 1)) (Ld vw2.drew ((⟨w.heap.size, 0, none⟩ : Addr).add 2) (Value.int .i64) fun (x18 : Int) =>
            Br (decide (x18 ≥ 1)) (Ld vw2.drew ((⟨w.heap.size, 0, none⟩ : Addr).add 1) (Value.int .i64) fun (x19 : Int) =>
              Br (decide (x19 ≤ 8192)) (Ld vw2.drew ((⟨w.heap.size, 0, none⟩ : Addr).add 2) (Value.int .i64) fun (x20 : Int) =>
                Ld vw2.drew ((⟨w.heap.size, 0, none⟩ : Addr).add 1) (Value.int .i64) fun (x21 : Int) =>
                x21 ≠ 0 ∧ R (decide (x20 ≤ (IntKind.i64.wrap (Int.tdiv 8192 x21)))) vw2.drew) (R false vw2.drew)) (R false vw2.drew)) (R false vw2.drew)) (R false vw2.drew)) (R false vw2.drew)))
def C95 (p1 : Int × Int × Int) (w : World) (R : Bool → World → Prop) : Prop :=
  Calls Try.prog 95 #[.agg #[.int .i64 (p1.1), .int .i64 (p1.2.1), .int .i64 (p1.2.2)]] w fun e w' => ∃ r0 : Bool, e = .returned (.bool r0) ∧ R r0 w'
def pl95 : Plan := (.seq (.reg .seq) (.seq (.reg .seq) (.seq (.reg .still) .leaf)))
theorem C95.mono {p1 : Int × Int × Int} {w : World} {R R' : Bool → World → Prop} (h : C95 p1 w R) (hr : ∀ r0 w', R r0 w' → R' r0 w') : C95 p1 w R' :=
  Calls.mono h fun _ _ ⟨r0, he, hR⟩ => ⟨r0, he, hr _ _ hR⟩
set_option maxRecDepth 100000 in
theorem T95 (p1 : Int × Int × Int) (w : World) (R : Bool → World → Prop) (h : S95 p1 w R) : C95 p1 w R := by
  have e : fnT Try.prog FF pl95 Try.f95 [.agg #[.int .i64 (p1.1), .int .i64 (p1.2.1), .int .i64 (p1.2.2)]] w [(.one .bool)] (fun s w => R s w) = S95 p1 w R := by kernel_rfl
  exact (fn_calls okF okM Try.func95 (by kernel_rfl) (by kernel_rfl) (e.mpr h)).mono fun _ _ ⟨s, he, hR⟩ => ⟨s, he, hR⟩

/-- foliant/predict.Row -/
def S52 (p1 : Int × Int × Int) (w : World) (R : Int → World → Prop) : Prop :=
  Nw w (.cells #[.int .i64 (p1.1), .int .i64 (p1.2.1), .int .i64 (p1.2.2)] 50) fun vw2 =>
  Ld vw2 (⟨w.heap.size, 0, none⟩ : Addr) (Value.int .i64) fun (x8 : Int) =>
  Ld vw2 ((⟨w.heap.size, 0, none⟩ : Addr).add 1) (Value.int .i64) fun (x9 : Int) =>
  Ld vw2 ((⟨w.heap.size, 0, none⟩ : Addr).add 2) (Value.int .i64) fun (x10 : Int) =>
  C95 (x8, x9, x10) vw2 fun r11 vw12 =>
    Br (!r11) (R 0 vw12) (Ld vw12 ((⟨w.heap.size, 0, none⟩ : Addr).add 1) (Value.int .i64) fun (x13 : Int) =>
      Ld vw12 ((⟨w.heap.size, 0, none⟩ : Addr).add 2) (Value.int .i64) fun (x14 : Int) =>
      R (IntKind.i64.wrap (x13 * x14)) vw12)
def C52 (p1 : Int × Int × Int) (w : World) (R : Int → World → Prop) : Prop :=
  Calls Try.prog 52 #[.agg #[.int .i64 (p1.1), .int .i64 (p1.2.1), .int .i64 (p1.2.2)]] w fun e w' => ∃ r0 : Int, e = .returned (.int .i64 r0) ∧ R r0 w'
def pl52 : Plan := (.seq (.reg .seq) (.seq (.seq (.reg .seq) (.cond (.seq (.reg .seq) .leaf) .leaf)) (.seq (.reg .seq) .leaf)))
theorem C52.mono {p1 : Int × Int × Int} {w : World} {R R' : Int → World → Prop} (h : C52 p1 w R) (hr : ∀ r0 w', R r0 w' → R' r0 w') : C52 p1 w R' :=
  Calls.mono h fun _ _ ⟨r0, he, hR⟩ => ⟨r0, he, hr _ _ hR⟩
set_option maxRecDepth 100000 in
theorem T52 (p1 : Int × Int × Int) (w : World) (R : Int → World → Prop) (h : S52 p1 w R) : C52 p1 w R := by
  have e : fnT Try.prog FF pl52 Try.f52 [.agg #[.int .i64 (p1.1), .int .i64 (p1.2.1), .int .i64 (p1.2.2)]] w [(.one (.int .i64))] (fun s w => R s w) = S52 p1 w R := by kernel_rfl
  exact (fn_calls okF okM Try.func52 (by kernel_rfl) (by kernel_rfl) (e.mpr h)).mono fun _ _ ⟨s, he, hR⟩ => ⟨s, he, hR⟩

/-- foliant/predict.refuse -/
def S88 (p1 : Int × Int × Int) (s2 : ByteArray) (row3 : Int) (w : World) (R : Int → World → Prop) : Prop :=
  Nw w (.cells #[.int .i64 (p1.1), .int .i64 (p1.2.1), .int .i64 (p1.2.2)] 50) fun vw4 =>
  Ld vw4 (⟨w.heap.size, 0, none⟩ : Addr) (Value.int .i64) fun (x5 : Int) =>
  Ld vw4 ((⟨w.heap.size, 0, none⟩ : Addr).add 1) (Value.int .i64) fun (x6 : Int) =>
  Ld vw4 ((⟨w.heap.size, 0, none⟩ : Addr).add 2) (Value.int .i64) fun (x7 : Int) =>
  C95 (x5, x6, x7) vw4 fun r8 vw9 =>
    Br (!r8) (R 1 vw9) (Br (decide ((((s2).size : Nat) : Int) > 1048576)) (R 5 vw9) (Ld vw9 (⟨w.heap.size, 0, none⟩ : Addr) (Value.int .i64) fun (x10 : Int) =>
        Br (x10 != 1) (row3 ≠ 0 ∧ Br ((Int.tmod (((s2).size : Nat) : Int) row3) != 0) (R 16 vw9) (R 0 vw9)) (R 0 vw9)))
def C88 (p1 : Int × Int × Int) (s2 : ByteArray) (row3 : Int) (w : World) (R : Int → World → Prop) : Prop :=
  Calls Try.prog 88 #[.agg #[.int .i64 (p1.1), .int .i64 (p1.2.1), .int .i64 (p1.2.2)], .string s2, .int .i64 row3] w fun e w' => ∃ r0 : Int, e = .returned (.int .i64 r0) ∧ R r0 w'
def pl88 : Plan := (.seq (.reg .seq) (.seq (.block (.seq (.reg .seq) (.cond (.seq (.reg .seq) .leaf) (.seq (.reg .seq) (.cond (.seq (.reg .seq) .leaf) (.seq (.reg .seq) (.cond (.seq (.reg .seq) .leaf) .leaf))))))) (.seq (.reg .seq) .leaf)))
theorem C88.mono {p1 : Int × Int × Int} {s2 : ByteArray} {row3 : Int} {w : World} {R R' : Int → World → Prop} (h : C88 p1 s2 row3 w R) (hr : ∀ r0 w', R r0 w' → R' r0 w') : C88 p1 s2 row3 w R' :=
  Calls.mono h fun _ _ ⟨r0, he, hR⟩ => ⟨r0, he, hr _ _ hR⟩
set_option maxRecDepth 100000 in
theorem T88 (p1 : Int × Int × Int) (s2 : ByteArray) (row3 : Int) (w : World) (R : Int → World → Prop) (h : S88 p1 s2 row3 w R) : C88 p1 s2 row3 w R := by
  have e : fnT Try.prog FF pl88 Try.f88 [.agg #[.int .i64 (p1.1), .int .i64 (p1.2.1), .int .i64 (p1.2.2)], .string s2, .int .i64 row3] w [(.one (.int .i64))] (fun s w => R s w) = S88 p1 s2 row3 w R := by kernel_rfl
  exact (fn_calls okF okM Try.func88 (by kernel_rfl) (by kernel_rfl) (e.mpr h)).mono fun _ _ ⟨s, he, hR⟩ => ⟨s, he, hR⟩

/-- foliant/predict.apart -/
def S96 (a1 : Int) (b2 : Int) (w : World) (R : Int → World → Prop) : Prop :=
  Lt ((if (IntKind.i64.wrap (b2 - a1)) > (IntKind.i64.wrap (a1 - b2)) then (IntKind.i64.wrap (b2 - a1)) else (IntKind.i64.wrap (a1 - b2)))) fun (x3 : Int) =>
  R x3 w
def C96 (a1 : Int) (b2 : Int) (w : World) (R : Int → World → Prop) : Prop :=
  Calls Try.prog 96 #[.int .i64 a1, .int .i64 b2] w fun e w' => ∃ r0 : Int, e = .returned (.int .i64 r0) ∧ R r0 w'
def pl96 : Plan := (.seq (.reg .seq) (.seq (.reg .seq) .leaf))
theorem C96.mono {a1 : Int} {b2 : Int} {w : World} {R R' : Int → World → Prop} (h : C96 a1 b2 w R) (hr : ∀ r0 w', R r0 w' → R' r0 w') : C96 a1 b2 w R' :=
  Calls.mono h fun _ _ ⟨r0, he, hR⟩ => ⟨r0, he, hr _ _ hR⟩
set_option maxRecDepth 100000 in
theorem T96 (a1 : Int) (b2 : Int) (w : World) (R : Int → World → Prop) (h : S96 a1 b2 w R) : C96 a1 b2 w R := by
  have e : fnT Try.prog FF pl96 Try.f96 [.int .i64 a1, .int .i64 b2] w [(.one (.int .i64))] (fun s w => R s w) = S96 a1 b2 w R := by kernel_rfl
  exact (fn_calls okF okM Try.func96 (by kernel_rfl) (by kernel_rfl) (e.mpr h)).mono fun _ _ ⟨s, he, hR⟩ => ⟨s, he, hR⟩

def S56L1 (b2 : Int) (c3 : Int) (x4 : Int) (R : Int → World → Prop) (I7 : (Int × Int) → World → Prop) (s5 : Int × Int) (vw6 : World) : Prop :=
  Br (decide (s5.2 < 2)) (0 ≤ s5.2 ∧ s5.2 < (2 : Nat) ∧ ∃ x8 : Int, (#[.int .u8 b2, .int .u8 c3] : Array Value)[(s5.2).toNat * 1]? = some (.int .u8 x8) ∧ C96 (IntKind.i64.wrap x8) x4 vw6 fun r9 vw10 =>
      C96 (IntKind.i64.wrap s5.1) x4 vw10 fun r11 vw12 =>
        Br (decide (r9 < r11)) (I7 (x8, IntKind.i64.wrap (s5.2 + 1)) vw12) (I7 (s5.1, IntKind.i64.wrap (s5.2 + 1)) vw12)) (R s5.1 vw6)
/-- foliant/predict.Paeth -/
def S56 (a1 : Int) (b2 : Int) (c3 : Int) (w : World) (R : Int → World → Prop) : Prop :=
  Lt (IntKind.i64.wrap ((IntKind.i64.wrap ((IntKind.i64.wrap a1) + (IntKind.i64.wrap b2))) - (IntKind.i64.wrap c3))) fun (x4 : Int) =>
  Lp (σ := Int × Int) (S56L1 b2 c3 x4 R) (a1, 0) w
def C56 (a1 : Int) (b2 : Int) (c3 : Int) (w : World) (R : Int → World → Prop) : Prop :=
  Calls Try.prog 56 #[.int .u8 a1, .int .u8 b2, .int .u8 c3] w fun e w' => ∃ r0 : Int, e = .returned (.int .u8 r0) ∧ R r0 w'
def pl56 : Plan := (.seq (.reg .seq) (.seq (.reg .seq) (.seq (.reg .seq) (.seq (.seq (.reg .seq) (.block (.loop [(8, (.one (.int .u8))), (23, (.one (.int .i64)))] [7, 22] (.seq (.reg .seq) (.seq (.cond .leaf .leaf) (.seq (.block (.seq (.reg .seq) (.seq (.reg .seq) (.cond (.reg .seq) .leaf)))) (.reg .seq))))))) (.seq (.reg .seq) .leaf)))))
theorem C56.mono {a1 : Int} {b2 : Int} {c3 : Int} {w : World} {R R' : Int → World → Prop} (h : C56 a1 b2 c3 w R) (hr : ∀ r0 w', R r0 w' → R' r0 w') : C56 a1 b2 c3 w R' :=
  Calls.mono h fun _ _ ⟨r0, he, hR⟩ => ⟨r0, he, hr _ _ hR⟩
set_option maxRecDepth 100000 in
theorem T56 (a1 : Int) (b2 : Int) (c3 : Int) (w : World) (R : Int → World → Prop) (h : S56 a1 b2 c3 w R) : C56 a1 b2 c3 w R := by
  have e : fnT Try.prog FF pl56 Try.f56 [.int .u8 a1, .int .u8 b2, .int .u8 c3] w [(.one (.int .u8))] (fun s w => R s w) = S56 a1 b2 c3 w R := by kernel_rfl
  exact (fn_calls okF okM Try.func56 (by kernel_rfl) (by kernel_rfl) (e.mpr h)).mono fun _ _ ⟨s, he, hR⟩ => ⟨s, he, hR⟩

/-- foliant/predict.at -/
def S129 (row1 : Slc) (i2 : Int) (w : World) (R : Int → World → Prop) : Prop :=
  Br (decide (i2 < 0)) (R 0 w) (Br (decide (i2 ≥ ((row1.len : Nat) : Int))) (R 0 w) (0 ≤ i2 ∧ i2 < (row1.len : Nat) ∧ Nn row1.p fun a3 =>
      Ld w (a3.add ((i2).toNat * 1)) (Value.int .u8) fun (x4 : Int) =>
      R x4 w))
def C129 (row1 : Slc) (i2 : Int) (w : World) (R : Int → World → Prop) : Prop :=
  Calls Try.prog 129 #[Slc.v row1, .int .i64 i2] w fun e w' => ∃ r0 : Int, e = .returned (.int .u8 r0) ∧ R r0 w'
def pl129 : Plan := (.seq (.reg .seq) (.seq (.seq (.reg .seq) (.cond (.seq (.reg .seq) .leaf) .leaf)) (.seq (.reg .seq) .leaf)))
theorem C129.mono {row1 : Slc} {i2 : Int} {w : World} {R R' : Int → World → Prop} (h : C129 row1 i2 w R) (hr : ∀ r0 w', R r0 w' → R' r0 w') : C129 row1 i2 w R' :=
  Calls.mono h fun _ _ ⟨r0, he, hR⟩ => ⟨r0, he, hr _ _ hR⟩
set_option maxRecDepth 100000 in
theorem T129 (row1 : Slc) (i2 : Int) (w : World) (R : Int → World → Prop) (h : S129 row1 i2 w R) : C129 row1 i2 w R := by
  have e : fnT Try.prog FF pl129 Try.f129 [Slc.v row1, .int .i64 i2] w [(.one (.int .u8))] (fun s w => R s w) = S129 row1 i2 w R := by kernel_rfl
  exact (fn_calls okF okM Try.func129 (by kernel_rfl) (by kernel_rfl) (e.mpr h)).mono fun _ _ ⟨s, he, hR⟩ => ⟨s, he, hR⟩

/-- (foliant/predict.rows).off -/
def S119 (r1 : Slc × Slc × Int) (tag2 : Int) (i3 : Int) (w : World) (R : Int → World → Prop) : Prop :=
  Nw w (.cells #[Slc.v r1.1, Slc.v r1.2.1, .int .i64 (r1.2.2)] 108) fun vw4 =>
  ∃ vS5 : World → Prop, vS5 vw4.drew ∧ LdS vS5 ((⟨w.heap.size, 0, none⟩ : Addr).add 1) Slc.v fun (x6 : Slc) =>
  LdS vS5 ((⟨w.heap.size, 0, none⟩ : Addr).add 2) (Value.int .i64) fun (x7 : Int) =>
  LdS vS5 (⟨w.heap.size, 0, none⟩ : Addr) Slc.v fun (x8 : Slc) =>
  LdS vS5 (⟨w.heap.size, 0, none⟩ : Addr) Slc.v fun (x9 : Slc) =>
  LdS vS5 ((⟨w.heap.size, 0, none⟩ : Addr).add 2) (Value.int .i64) fun (x10 : Int) =>
  C129 x6 (IntKind.i64.wrap (i3 - x7)) vw4.drew fun r11 vw12 =>
    vS5 vw12 ∧ C129 x8 i3 vw12 fun r13 vw14 =>
      vS5 vw14 ∧ C129 x9 (IntKind.i64.wrap (i3 - x10)) vw14 fun r15 vw16 =>
        Br (tag2 == 1) (R r11 vw16) (Br (tag2 == 2) (R r13 vw16) (Br (tag2 == 3) (Lt (IntKind.i64.wrap (Int.tdiv (IntKind.i64.wrap ((IntKind.i64.wrap r11) + (IntKind.i64.wrap r13))) 2)) fun (x17 : Int) =>
              R (IntKind.u8.wrap x17) vw16) (Br (tag2 == 4) (C56 r11 r13 r15 vw16 fun r18 vw19 =>
                  R r18 vw19) (R 0 vw16))))
def C119 (r1 : Slc × Slc × Int) (tag2 : Int) (i3 : Int) (w : World) (R : Int → World → Prop) : Prop :=
  Calls Try.prog 119 #[.agg #[Slc.v r1.1, Slc.v r1.2.1, .int .i64 (r1.2.2)], .int .i64 tag2, .int .i64 i3] w fun e w' => ∃ r0 : Int, e = .returned (.int .u8 r0) ∧ R r0 w'
def pl119 : Plan := (.seq (.reg .seq) (.seq (.reg (.held [17] (.take 0 (.take 1 (.take 2 (.take 3 (.take 4 (.take 5 (.take 7 (.take 8 (.take 9 (.take 11 (.take 12 (.take 13 (.take 14 (.take 15 (.take 16 (.eff 6 none (.eff 10 none (.eff 17 (some []) (.take 18 (.take 19 (.take 20 .done))))))))))))))))))))))) (.seq (.seq (.reg .seq) (.block (.seq (.reg .seq) (.cond (.seq (.reg .seq) .leaf) (.seq (.reg .seq) (.cond (.seq (.reg .seq) .leaf) (.seq (.reg .seq) (.cond (.seq (.reg .seq) .leaf) (.seq (.reg .seq) (.cond (.seq (.reg .seq) .leaf) .leaf)))))))))) (.seq (.reg .seq) .leaf))))
theorem C119.mono {r1 : Slc × Slc × Int} {tag2 : Int} {i3 : Int} {w : World} {R R' : Int → World → Prop} (h : C119 r1 tag2 i3 w R) (hr : ∀ r0 w', R r0 w' → R' r0 w') : C119 r1 tag2 i3 w R' :=
  Calls.mono h fun _ _ ⟨r0, he, hR⟩ => ⟨r0, he, hr _ _ hR⟩
set_option maxRecDepth 100000 in
theorem T119 (r1 : Slc × Slc × Int) (tag2 : Int) (i3 : Int) (w : World) (R : Int → World → Prop) (h : S119 r1 tag2 i3 w R) : C119 r1 tag2 i3 w R := by
  have e : fnT Try.prog FF pl119 Try.f119 [.agg #[Slc.v r1.1, Slc.v r1.2.1, .int .i64 (r1.2.2)], .int .i64 tag2, .int .i64 i3] w [(.one (.int .u8))] (fun s w => R s w) = S119 r1 tag2 i3 w R := by kernel_rfl
  exact (fn_calls okF okM Try.func119 (by kernel_rfl) (by kernel_rfl) (e.mpr h)).mono fun _ _ ⟨s, he, hR⟩ => ⟨s, he, hR⟩

def S89L1 (w : World) (tag2 : Int) (x5 : Slc) (x7 : Slc) (R : Slc → World → Prop) (I10 : Int → World → Prop) (s8 : Int) (vw9 : World) : Prop :=
  Br (decide (s8 < ((x7.len : Nat) : Int))) (0 ≤ s8 ∧ s8 < (x7.len : Nat) ∧ Nn x7.p fun a11 =>
    Ld vw9 (a11.add ((s8).toNat * 1)) (Value.int .u8) fun (x12 : Int) =>
    Ld vw9 (⟨w.heap.size, 0, none⟩ : Addr) Slc.v fun (x13 : Slc) =>
    Ld vw9 ((⟨w.heap.size, 0, none⟩ : Addr).add 1) Slc.v fun (x14 : Slc) =>
    Ld vw9 ((⟨w.heap.size, 0, none⟩ : Addr).add 2) (Value.int .i64) fun (x15 : Int) =>
    C119 (x13, x14, x15) tag2 s8 vw9 fun r16 vw17 =>
      0 ≤ s8 ∧ s8 < (x5.len : Nat) ∧ Nn x5.p fun a18 =>
      St vw17 (a18.add ((s8).toNat * 1)) (.int .u8 (IntKind.u8.wrap (x12 - r16))) fun vw19 =>
      I10 (IntKind.i64.wrap (s8 + 1)) vw19) (R x5 vw9)
/-- (foliant/predict.rows).less -/
def S89 (r1 : Slc × Slc × Int) (tag2 : Int) (w : World) (R : Slc → World → Prop) : Prop :=
  Nw w (.cells #[Slc.v r1.1, Slc.v r1.2.1, .int .i64 (r1.2.2)] 108) fun vw3 =>
  Ld vw3 ((⟨w.heap.size, 0, none⟩ : Addr).add 1) Slc.v fun (x4 : Slc) =>
  Rn Try.prog (Instr.makeSlice 97 (.int .i64 ((x4.len : Nat) : Int)) (.int .i64 ((x4.len : Nat) : Int))) vw3 Slc.v fun (x5 : Slc) vw6 =>
  Ld vw6 ((⟨w.heap.size, 0, none⟩ : Addr).add 1) Slc.v fun (x7 : Slc) =>
  Lp (σ := Int) (S89L1 w tag2 x5 x7 R) 0 vw6
def C89 (r1 : Slc × Slc × Int) (tag2 : Int) (w : World) (R : Slc → World → Prop) : Prop :=
  Calls Try.prog 89 #[.agg #[Slc.v r1.1, Slc.v r1.2.1, .int .i64 (r1.2.2)], .int .i64 tag2] w fun e w' => ∃ r0 : Slc, e = .returned (Slc.v r0) ∧ R r0 w'
def pl89 : Plan := (.seq (.reg .seq) (.seq (.reg .seq) (.seq (.seq (.reg .seq) (.block (.loop [(15, (.one (.int .i64)))] [1, 2, 5, 13, 14] (.seq (.reg .seq) (.seq (.cond .leaf .leaf) (.seq (.block (.seq (.reg .seq) (.reg .seq))) (.reg .seq))))))) (.seq (.reg .seq) .leaf))))
theorem C89.mono {r1 : Slc × Slc × Int} {tag2 : Int} {w : World} {R R' : Slc → World → Prop} (h : C89 r1 tag2 w R) (hr : ∀ r0 w', R r0 w' → R' r0 w') : C89 r1 tag2 w R' :=
  Calls.mono h fun _ _ ⟨r0, he, hR⟩ => ⟨r0, he, hr _ _ hR⟩
set_option maxRecDepth 100000 in
theorem T89 (r1 : Slc × Slc × Int) (tag2 : Int) (w : World) (R : Slc → World → Prop) (h : S89 r1 tag2 w R) : C89 r1 tag2 w R := by
  have e : fnT Try.prog FF pl89 Try.f89 [.agg #[Slc.v r1.1, Slc.v r1.2.1, .int .i64 (r1.2.2)], .int .i64 tag2] w [(.one .slc)] (fun s w => R s w) = S89 r1 tag2 w R := by kernel_rfl
  exact (fn_calls okF okM Try.func89 (by kernel_rfl) (by kernel_rfl) (e.mpr h)).mono fun _ _ ⟨s, he, hR⟩ => ⟨s, he, hR⟩

def S120L1 (row1 : Slc) (R : Int → World → Prop) (I4 : (Int × Int) → World → Prop) (s2 : Int × Int) (vw3 : World) : Prop :=
  Br (decide (s2.2 < ((row1.len : Nat) : Int))) (0 ≤ s2.2 ∧ s2.2 < (row1.len : Nat) ∧ Nn row1.p fun a5 =>
    Ld vw3 (a5.add ((s2.2).toNat * 1)) (Value.int .u8) fun (x6 : Int) =>
    Lt ((if (IntKind.i64.wrap (256 - (IntKind.i64.wrap x6))) < (IntKind.i64.wrap x6) then (IntKind.i64.wrap (256 - (IntKind.i64.wrap x6))) else (IntKind.i64.wrap x6))) fun (x7 : Int) =>
    I4 (IntKind.i64.wrap (s2.1 + x7), IntKind.i64.wrap (s2.2 + 1)) vw3) (R s2.1 vw3)
/-- foliant/predict.weight -/
def S120 (row1 : Slc) (w : World) (R : Int → World → Prop) : Prop :=
  Lp (σ := Int × Int) (S120L1 row1 R) (0, 0) w
def C120 (row1 : Slc) (w : World) (R : Int → World → Prop) : Prop :=
  Calls Try.prog 120 #[Slc.v row1] w fun e w' => ∃ r0 : Int, e = .returned (.int .i64 r0) ∧ R r0 w'
def pl120 : Plan := (.seq (.reg .seq) (.seq (.reg .seq) (.seq (.seq (.reg .seq) (.block (.loop [(3, (.one (.int .i64))), (8, (.one (.int .i64)))] [6, 7] (.seq (.reg .seq) (.seq (.cond .leaf .leaf) (.seq (.block (.seq (.reg .seq) (.reg .seq))) (.reg .seq))))))) (.seq (.reg .seq) .leaf))))
theorem C120.mono {row1 : Slc} {w : World} {R R' : Int → World → Prop} (h : C120 row1 w R) (hr : ∀ r0 w', R r0 w' → R' r0 w') : C120 row1 w R' :=
  Calls.mono h fun _ _ ⟨r0, he, hR⟩ => ⟨r0, he, hr _ _ hR⟩
set_option maxRecDepth 100000 in
theorem T120 (row1 : Slc) (w : World) (R : Int → World → Prop) (h : S120 row1 w R) : C120 row1 w R := by
  have e : fnT Try.prog FF pl120 Try.f120 [Slc.v row1] w [(.one (.int .i64))] (fun s w => R s w) = S120 row1 w R := by kernel_rfl
  exact (fn_calls okF okM Try.func120 (by kernel_rfl) (by kernel_rfl) (e.mpr h)).mono fun _ _ ⟨s, he, hR⟩ => ⟨s, he, hR⟩

def S90L1 (w : World) (R : Int → World → Prop) (I12 : (Int × Int × Int) → World → Prop) (s10 : Int × Int × Int) (vw11 : World) : Prop :=
  Br (decide (s10.2.2 < 5)) (Ld vw11 (⟨w.heap.size, 0, none⟩ : Addr) Slc.v fun (x13 : Slc) =>
    Ld vw11 ((⟨w.heap.size, 0, none⟩ : Addr).add 1) Slc.v fun (x14 : Slc) =>
    Ld vw11 ((⟨w.heap.size, 0, none⟩ : Addr).add 2) (Value.int .i64) fun (x15 : Int) =>
    C89 (x13, x14, x15) s10.2.2 vw11 fun r16 vw17 =>
      C120 r16 vw17 fun r18 vw19 =>
        Br (decide (r18 < s10.2.1)) (I12 (s10.2.2, r18, IntKind.i64.wrap (s10.2.2 + 1)) vw19) (I12 (s10.1, s10.2.1, IntKind.i64.wrap (s10.2.2 + 1)) vw19)) (R s10.1 vw11)
/-- (foliant/predict.rows).best -/
def S90 (r1 : Slc × Slc × Int) (w : World) (R : Int → World → Prop) : Prop :=
  Nw w (.cells #[Slc.v r1.1, Slc.v r1.2.1, .int .i64 (r1.2.2)] 108) fun vw2 =>
  Ld vw2 (⟨w.heap.size, 0, none⟩ : Addr) Slc.v fun (x3 : Slc) =>
  Ld vw2 ((⟨w.heap.size, 0, none⟩ : Addr).add 1) Slc.v fun (x4 : Slc) =>
  Ld vw2 ((⟨w.heap.size, 0, none⟩ : Addr).add 2) (Value.int .i64) fun (x5 : Int) =>
  C89 (x3, x4, x5) 0 vw2 fun r6 vw7 =>
    C120 r6 vw7 fun r8 vw9 =>
      Lp (σ := Int × Int × Int) (S90L1 w R) (0, r8, 1) vw9
def C90 (r1 : Slc × Slc × Int) (w : World) (R : Int → World → Prop) : Prop :=
  Calls Try.prog 90 #[.agg #[Slc.v r1.1, Slc.v r1.2.1, .int .i64 (r1.2.2)]] w fun e w' => ∃ r0 : Int, e = .returned (.int .i64 r0) ∧ R r0 w'
def pl90 : Plan := (.seq (.reg .seq) (.seq (.reg .seq) (.seq (.reg .seq) (.seq (.seq (.reg .seq) (.block (.loop [(3, (.one (.int .i64))), (4, (.one (.int .i64))), (5, (.one (.int .i64)))] [1] (.seq (.seq (.reg .seq) (.cond .leaf .leaf)) (.seq (.block (.seq (.reg .seq) (.seq (.reg .seq) (.cond (.reg .seq) .leaf)))) (.reg .seq)))))) (.seq (.reg .seq) .leaf)))))
theorem C90.mono {r1 : Slc × Slc × Int} {w : World} {R R' : Int → World → Prop} (h : C90 r1 w R) (hr : ∀ r0 w', R r0 w' → R' r0 w') : C90 r1 w R' :=
  Calls.mono h fun _ _ ⟨r0, he, hR⟩ => ⟨r0, he, hr _ _ hR⟩
set_option maxRecDepth 100000 in
theorem T90 (r1 : Slc × Slc × Int) (w : World) (R : Int → World → Prop) (h : S90 r1 w R) : C90 r1 w R := by
  have e : fnT Try.prog FF pl90 Try.f90 [.agg #[Slc.v r1.1, Slc.v r1.2.1, .int .i64 (r1.2.2)]] w [(.one (.int .i64))] (fun s w => R s w) = S90 r1 w R := by kernel_rfl
  exact (fn_calls okF okM Try.func90 (by kernel_rfl) (by kernel_rfl) (e.mpr h)).mono fun _ _ ⟨s, he, hR⟩ => ⟨s, he, hR⟩

def S46J1 (w : World) (r7 : Int) (vw26 : World) (s32 : ByteArray × Slc) (I34 : (ByteArray × Slc) → World → Prop) (s45 : Unit) (vw46 : World) : Prop :=
  Ld vw46 (⟨w.heap.size, 0, none⟩ : Addr) (Value.int .i64) fun (x47 : Int) =>
  Ld vw46 (⟨w.heap.size, 0, none⟩ : Addr) (Value.int .i64) fun (x61 : Int) =>
  Br (x61 == 2) (Ld vw46 (⟨vw26.heap.size, 0, none⟩ : Addr) Slc.v fun (x62 : Slc) =>
    Ld vw46 ((⟨vw26.heap.size, 0, none⟩ : Addr).add 1) Slc.v fun (x63 : Slc) =>
    Ld vw46 ((⟨vw26.heap.size, 0, none⟩ : Addr).add 2) (Value.int .i64) fun (x64 : Int) =>
    C89 (x62, x63, x64) 1 vw46 fun r65 vw66 =>
      Rn Try.prog (Builtin.append_ #[97, 97] 97 #[Slc.v s32.2, Slc.v r65]) vw66 Slc.v fun (x67 : Slc) vw68 =>
      0 ≤ (if 1 > r7 then 1 else r7) ∧ (if 1 > r7 then 1 else r7) ≤ (((s32.1).size : Nat) : Int) ∧ I34 (s32.1.extract (((if 1 > r7 then 1 else r7)).toNat) ((s32.1).size), x67) vw68) (Br (x61 == 15) (Ld vw46 (⟨vw26.heap.size, 0, none⟩ : Addr) Slc.v fun (x69 : Slc) =>
      Ld vw46 ((⟨vw26.heap.size, 0, none⟩ : Addr).add 1) Slc.v fun (x70 : Slc) =>
      Ld vw46 ((⟨vw26.heap.size, 0, none⟩ : Addr).add 2) (Value.int .i64) fun (x71 : Int) =>
      C90 (x69, x70, x71) vw46 fun r72 vw73 =>
        ∃ vS74 : World → Prop, vS74 vw73.drew ∧ LdS vS74 (⟨vw26.heap.size, 0, none⟩ : Addr) Slc.v fun (x75 : Slc) =>
        LdS vS74 ((⟨vw26.heap.size, 0, none⟩ : Addr).add 1) Slc.v fun (x76 : Slc) =>
        LdS vS74 ((⟨vw26.heap.size, 0, none⟩ : Addr).add 2) (Value.int .i64) fun (x77 : Int) =>
        Nw vw73.drew (.cells #[.int .u8 (IntKind.u8.wrap r72)] 5) fun vw78 =>
        vS74 vw78 ∧ Rn Try.prog (Builtin.append_ #[97, 97] 97 #[Slc.v s32.2, Slc.v ((⟨some ⟨vw73.drew.heap.size, 0, none⟩, 1, 1⟩ : Slc))]) vw78 Slc.v fun (x79 : Slc) vw80 =>
        vS74 vw80 ∧ C89 (x75, x76, x77) r72 vw80 fun r81 vw82 =>
          Rn Try.prog (Builtin.append_ #[97, 97] 97 #[Slc.v x79, Slc.v r81]) vw82 Slc.v fun (x83 : Slc) vw84 =>
          0 ≤ (if 1 > r7 then 1 else r7) ∧ (if 1 > r7 then 1 else r7) ≤ (((s32.1).size : Nat) : Int) ∧ I34 (s32.1.extract (((if 1 > r7 then 1 else r7)).toNat) ((s32.1).size), x83) vw84) (∃ vS85 : World → Prop, vS85 vw46.drew ∧ LdS vS85 (⟨vw26.heap.size, 0, none⟩ : Addr) Slc.v fun (x86 : Slc) =>
      LdS vS85 ((⟨vw26.heap.size, 0, none⟩ : Addr).add 1) Slc.v fun (x87 : Slc) =>
      LdS vS85 ((⟨vw26.heap.size, 0, none⟩ : Addr).add 2) (Value.int .i64) fun (x88 : Int) =>
      Nw vw46.drew (.cells #[.int .u8 (IntKind.u8.wrap (IntKind.i64.wrap (x47 - 10)))] 5) fun vw89 =>
      vS85 vw89 ∧ Rn Try.prog (Builtin.append_ #[97, 97] 97 #[Slc.v s32.2, Slc.v ((⟨some ⟨vw46.drew.heap.size, 0, none⟩, 1, 1⟩ : Slc))]) vw89 Slc.v fun (x90 : Slc) vw91 =>
      vS85 vw91 ∧ C89 (x86, x87, x88) (IntKind.i64.wrap (x47 - 10)) vw91 fun r92 vw93 =>
        Rn Try.prog (Builtin.append_ #[97, 97] 97 #[Slc.v x90, Slc.v r92]) vw93 Slc.v fun (x94 : Slc) vw95 =>
        0 ≤ (if 1 > r7 then 1 else r7) ∧ (if 1 > r7 then 1 else r7) ≤ (((s32.1).size : Nat) : Int) ∧ I34 (s32.1.extract (((if 1 > r7 then 1 else r7)).toNat) ((s32.1).size), x94) vw95))
def S46L1 (w : World) (r7 : Int) (vw26 : World) (R : ByteArray → Int → World → Prop) (I34 : (ByteArray × Slc) → World → Prop) (s32 : ByteArray × Slc) (vw33 : World) : Prop :=
  Br (decide ((((s32.1).size : Nat) : Int) > 0)) (Join (S46J1 w r7 vw26 s32 I34) fun (vJ96 : Unit → World → Prop) =>
      ∃ vS97 : World → Prop, vS97 vw33.drew ∧ LdS vS97 ((⟨vw26.heap.size, 0, none⟩ : Addr).add 1) Slc.v fun (x98 : Slc) =>
      0 ≤ (if 1 > r7 then 1 else r7) ∧ (if 1 > r7 then 1 else r7) ≤ (((s32.1).size : Nat) : Int) ∧ (Rn Try.prog (convert 9 97 (.string (s32.1.extract 0 (((if 1 > r7 then 1 else r7)).toNat)))) vw33.drew Slc.v fun (x99 : Slc) vw100 =>
        vS97 vw100 ∧ St vw100 (⟨vw26.heap.size, 0, none⟩ : Addr) (Slc.v x98) fun vw101 =>
        St vw101 ((⟨vw26.heap.size, 0, none⟩ : Addr).add 1) (Slc.v x99) fun vw102 =>
        vJ96 () vw102) ∧
      (St vw33.drew (⟨vw26.heap.size, 0, none⟩ : Addr) (Slc.v x98) fun vw103 =>
        Rn Try.prog (convert 9 97 (.string (s32.1.extract 0 (((if 1 > r7 then 1 else r7)).toNat)))) vw103 Slc.v fun (x104 : Slc) vw105 =>
        St vw105 ((⟨vw26.heap.size, 0, none⟩ : Addr).add 1) (Slc.v x104) fun vw106 =>
        vJ96 () vw106)) (Rn Try.prog (convert 97 9 (Slc.v s32.2)) vw33 Value.string fun (x107 : ByteArray) vw108 =>
    R x107 0 vw108)
def S46J2 (w : World) (s2 : ByteArray) (r7 : Int) (R : ByteArray → Int → World → Prop) (s22 : Unit) (vw23 : World) : Prop :=
  (if 1 > r7 then 1 else r7) ≠ 0 ∧ Lt (IntKind.i64.wrap ((((s2).size : Nat) : Int) + (IntKind.i64.wrap (Int.tdiv (((s2).size : Nat) : Int) (if 1 > r7 then 1 else r7))))) fun (x24 : Int) =>
  Rn Try.prog (Instr.makeSlice 97 (.int .i64 0) (.int .i64 x24)) vw23 Slc.v fun (x25 : Slc) vw26 =>
  Ld vw26 ((⟨w.heap.size, 0, none⟩ : Addr).add 1) (Value.int .i64) fun (x27 : Int) =>
  Nw vw26 (.cells #[Slc.v ((⟨none, 0, 0⟩ : Slc)), Slc.v ((⟨none, 0, 0⟩ : Slc)), .int .i64 0] 108) fun vw28 =>
  St vw28 (⟨vw26.heap.size, 0, none⟩ : Addr) (Slc.v ((⟨none, 0, 0⟩ : Slc))) fun vw29 =>
  St vw29 ((⟨vw26.heap.size, 0, none⟩ : Addr).add 1) (Slc.v ((⟨none, 0, 0⟩ : Slc))) fun vw30 =>
  St vw30 ((⟨vw26.heap.size, 0, none⟩ : Addr).add 2) (.int .i64 x27) fun vw31 =>
  Lp (σ := ByteArray × Slc) (S46L1 w r7 vw26 R) (s2, x25) vw31
/-- foliant/predict.Encode -/
def S46 (p1 : Int × Int × Int) (s2 : ByteArray) (w : World) (R : ByteArray → Int → World → Prop) : Prop :=
  Nw w (.cells #[.int .i64 (p1.1), .int .i64 (p1.2.1), .int .i64 (p1.2.2)] 50) fun vw3 =>
  Ld vw3 (⟨w.heap.size, 0, none⟩ : Addr) (Value.int .i64) fun (x4 : Int) =>
  Ld vw3 ((⟨w.heap.size, 0, none⟩ : Addr).add 1) (Value.int .i64) fun (x5 : Int) =>
  Ld vw3 ((⟨w.heap.size, 0, none⟩ : Addr).add 2) (Value.int .i64) fun (x6 : Int) =>
  C52 (x4, x5, x6) vw3 fun r7 vw8 =>
    Ld vw8 (⟨w.heap.size, 0, none⟩ : Addr) (Value.int .i64) fun (x14 : Int) =>
    Ld vw8 ((⟨w.heap.size, 0, none⟩ : Addr).add 1) (Value.int .i64) fun (x15 : Int) =>
    Ld vw8 ((⟨w.heap.size, 0, none⟩ : Addr).add 2) (Value.int .i64) fun (x16 : Int) =>
    C88 (x14, x15, x16) s2 (if 1 > r7 then 1 else r7) vw8 fun r17 vw18 =>
      Br (r17 != 0) (R (⟨#[]⟩ : ByteArray) r17 vw18) (Join (S46J2 w s2 r7 R) fun (vJ109 : Unit → World → Prop) =>
          Ld vw18 (⟨w.heap.size, 0, none⟩ : Addr) (Value.int .i64) fun (x110 : Int) =>
          Br (x110 == 1) (R s2 0 vw18) (Ld vw18 (⟨w.heap.size, 0, none⟩ : Addr) (Value.int .i64) fun (x111 : Int) =>
            Br (decide (x111 ≥ 10)) ((if 1 > r7 then 1 else r7) ≠ 0 ∧ Lt (IntKind.i64.wrap ((((s2).size : Nat) : Int) + (IntKind.i64.wrap (Int.tdiv (((s2).size : Nat) : Int) (if 1 > r7 then 1 else r7))))) fun (x112 : Int) =>
              Br (decide (x112 > 1048576)) (R (⟨#[]⟩ : ByteArray) 5 vw18) (vJ109 () vw18)) (vJ109 () vw18)))
def C46 (p1 : Int × Int × Int) (s2 : ByteArray) (w : World) (R : ByteArray → Int → World → Prop) : Prop :=
  Calls Try.prog 46 #[.agg #[.int .i64 (p1.1), .int .i64 (p1.2.1), .int .i64 (p1.2.2)], .string s2] w fun e w' => ∃ r0 : ByteArray, ∃ r1 : Int, e = .returned (.tuple #[.string r0, .int .i64 r1]) ∧ R r0 r1 w'
def pl46 : Plan := (.seq (.reg .seq) (.seq (.reg .seq) (.seq (.seq (.reg .seq) (.seq (.reg .seq) (.cond (.seq (.reg .seq) .leaf) .leaf))) (.join [] [1, 2, 6] (.block (.seq (.reg .seq) (.cond (.seq (.reg .seq) .leaf) (.seq (.reg .seq) (.cond (.seq (.reg .seq) .leaf) .leaf))))) (.seq (.reg .seq) (.seq (.reg .seq) (.seq (.block (.loop [(1, (.one .str)), (8, (.one .slc))] [2, 6, 9] (.seq (.seq (.reg .seq) (.cond .leaf .leaf)) (.seq (.block (.join [] [1, 2, 6, 8, 9] (.reg (.held [7] (.take 0 (.take 1 (.take 2 (.take 3 (.take 4 (.take 6 (.effs 5 none (.eff 7 (some [9]) (.take 8 (.eff 9 (some []) .done))) (.eff 7 (some [5]) (.eff 5 (some [9]) (.take 8 (.eff 9 (some []) .done))))))))))))) (.seq (.reg .seq) (.seq (.seq (.reg .seq) (.block (.seq (.reg .seq) (.cond (.seq (.reg .seq) .leaf) (.seq (.reg .seq) (.cond (.reg .seq) .leaf)))))) (.reg (.held [7] (.take 0 (.take 1 (.take 2 (.take 5 (.take 6 (.eff 3 none (.eff 4 none (.eff 7 (some [8]) (.eff 8 (some []) (.take 9 .done)))))))))))))))) (.reg .seq))))) (.seq (.reg .seq) .leaf))))))))
theorem C46.mono {p1 : Int × Int × Int} {s2 : ByteArray} {w : World} {R R' : ByteArray → Int → World → Prop} (h : C46 p1 s2 w R) (hr : ∀ r0 r1 w', R r0 r1 w' → R' r0 r1 w') : C46 p1 s2 w R' :=
  Calls.mono h fun _ _ ⟨r0, r1, he, hR⟩ => ⟨r0, r1, he, hr _ _ _ hR⟩
set_option maxRecDepth 100000 in
theorem T46 (p1 : Int × Int × Int) (s2 : ByteArray) (w : World) (R : ByteArray → Int → World → Prop) (h : S46 p1 s2 w R) : C46 p1 s2 w R := by
  have e : fnT Try.prog FF pl46 Try.f46 [.agg #[.int .i64 (p1.1), .int .i64 (p1.2.1), .int .i64 (p1.2.2)], .string s2] w [(.one .str), (.one (.int .i64))] (fun s w => R s.1 s.2 w) = S46 p1 s2 w R := by kernel_rfl
  exact (fn_calls okF okM Try.func46 (by kernel_rfl) (by kernel_rfl) (e.mpr h)).mono fun _ _ ⟨s, he, hR⟩ => ⟨s.1, s.2, he, hR⟩

def S93L1 (w : World) (tag2 : Int) (x4 : Slc) (R : World → Prop) (I7 : Int → World → Prop) (s5 : Int) (vw6 : World) : Prop :=
  Br (decide (s5 < ((x4.len : Nat) : Int))) (∃ vS8 : World → Prop, vS8 vw6.drew ∧ LdS vS8 ((⟨w.heap.size, 0, none⟩ : Addr).add 1) Slc.v fun (x9 : Slc) =>
    0 ≤ s5 ∧ s5 < (x9.len : Nat) ∧ Nn x9.p fun a10 =>
    LdS vS8 (a10.add ((s5).toNat * 1)) (Value.int .u8) fun (x11 : Int) =>
    LdS vS8 (⟨w.heap.size, 0, none⟩ : Addr) Slc.v fun (x12 : Slc) =>
    LdS vS8 ((⟨w.heap.size, 0, none⟩ : Addr).add 1) Slc.v fun (x13 : Slc) =>
    LdS vS8 ((⟨w.heap.size, 0, none⟩ : Addr).add 2) (Value.int .i64) fun (x14 : Int) =>
    C119 (x12, x13, x14) tag2 s5 vw6.drew fun r15 vw16 =>
      vS8 vw16 ∧ 0 ≤ s5 ∧ s5 < (x9.len : Nat) ∧ Nn x9.p fun a17 =>
      St vw16 (a17.add ((s5).toNat * 1)) (.int .u8 (IntKind.u8.wrap (x11 + r15))) fun vw18 =>
      I7 (IntKind.i64.wrap (s5 + 1)) vw18) (R vw6)
/-- (foliant/predict.rows).more -/
def S93 (r1 : Slc × Slc × Int) (tag2 : Int) (w : World) (R : World → Prop) : Prop :=
  Nw w (.cells #[Slc.v r1.1, Slc.v r1.2.1, .int .i64 (r1.2.2)] 108) fun vw3 =>
  Ld vw3 ((⟨w.heap.size, 0, none⟩ : Addr).add 1) Slc.v fun (x4 : Slc) =>
  Lp (σ := Int) (S93L1 w tag2 x4 R) 0 vw3
def C93 (r1 : Slc × Slc × Int) (tag2 : Int) (w : World) (R : World → Prop) : Prop :=
  Calls Try.prog 93 #[.agg #[Slc.v r1.1, Slc.v r1.2.1, .int .i64 (r1.2.2)], .int .i64 tag2] w fun e w' => e = .returned (.tuple #[]) ∧ R w'
def pl93 : Plan := (.seq (.reg .seq) (.seq (.reg .seq) (.block (.loop [(8, (.one (.int .i64)))] [1, 2, 7] (.seq (.reg .seq) (.seq (.cond .leaf .leaf) (.seq (.block (.seq (.reg .seq) (.reg (.held [11] (.take 0 (.take 1 (.take 2 (.take 3 (.take 4 (.take 5 (.take 6 (.take 7 (.eff 8 none (.take 9 (.take 10 (.eff 11 (some []) .done)))))))))))))))) (.reg .seq))))))))
theorem C93.mono {r1 : Slc × Slc × Int} {tag2 : Int} {w : World} {R R' : World → Prop} (h : C93 r1 tag2 w R) (hr : ∀ w', R w' → R' w') : C93 r1 tag2 w R' :=
  Calls.mono h fun _ _ ⟨he, hR⟩ => ⟨he, hr _ hR⟩
set_option maxRecDepth 100000 in
theorem T93 (r1 : Slc × Slc × Int) (tag2 : Int) (w : World) (R : World → Prop) (h : S93 r1 tag2 w R) : C93 r1 tag2 w R := by
  have e : fnT Try.prog FF pl93 Try.f93 [.agg #[Slc.v r1.1, Slc.v r1.2.1, .int .i64 (r1.2.2)], .int .i64 tag2] w [] (fun _ w => R w) = S93 r1 tag2 w R := by kernel_rfl
  exact (fn_calls okF okM Try.func93 (by kernel_rfl) (by kernel_rfl) (e.mpr h)).mono fun _ _ ⟨_, he, hR⟩ => ⟨he, hR⟩

def S48J1 (r7 : Int) (s10 : Int) (vw21 : World) (s29 : ByteArray × Slc) (I31 : (ByteArray × Slc) → World → Prop) (R : ByteArray → Int → World → Prop) (s32 : Int) (vw33 : World) : Prop :=
  Br (decide (s32 ≥ 5)) (R (⟨#[]⟩ : ByteArray) 3 vw33) (∃ vS44 : World → Prop, vS44 vw33.drew ∧ LdS vS44 ((⟨vw21.heap.size, 0, none⟩ : Addr).add 1) Slc.v fun (x45 : Slc) =>
    0 ≤ (IntKind.i64.wrap ((if 1 > r7 then 1 else r7) + s10)) ∧ (IntKind.i64.wrap ((if 1 > r7 then 1 else r7) + s10)) ≤ (((s29.1).size : Nat) : Int) ∧ 0 ≤ s10 ∧ s10 ≤ (((IntKind.i64.wrap ((if 1 > r7 then 1 else r7) + s10)).toNat : Nat) : Int) ∧ (Rn Try.prog (convert 9 97 (.string (s29.1.extract ((s10).toNat) ((IntKind.i64.wrap ((if 1 > r7 then 1 else r7) + s10)).toNat)))) vw33.drew Slc.v fun (x46 : Slc) vw47 =>
      vS44 vw47 ∧ St vw47 (⟨vw21.heap.size, 0, none⟩ : Addr) (Slc.v x45) fun vw48 =>
      St vw48 ((⟨vw21.heap.size, 0, none⟩ : Addr).add 1) (Slc.v x46) fun vw49 =>
      Ld vw49 (⟨vw21.heap.size, 0, none⟩ : Addr) Slc.v fun (x50 : Slc) =>
      Ld vw49 ((⟨vw21.heap.size, 0, none⟩ : Addr).add 1) Slc.v fun (x51 : Slc) =>
      Ld vw49 ((⟨vw21.heap.size, 0, none⟩ : Addr).add 2) (Value.int .i64) fun (x52 : Int) =>
      C93 (x50, x51, x52) s32 vw49 fun vw53 =>
        Ld vw53 ((⟨vw21.heap.size, 0, none⟩ : Addr).add 1) Slc.v fun (x54 : Slc) =>
        Rn Try.prog (Builtin.append_ #[97, 97] 97 #[Slc.v s29.2, Slc.v x54]) vw53 Slc.v fun (x55 : Slc) vw56 =>
        0 ≤ (IntKind.i64.wrap ((if 1 > r7 then 1 else r7) + s10)) ∧ (IntKind.i64.wrap ((if 1 > r7 then 1 else r7) + s10)) ≤ (((s29.1).size : Nat) : Int) ∧ I31 (s29.1.extract ((IntKind.i64.wrap ((if 1 > r7 then 1 else r7) + s10)).toNat) ((s29.1).size), x55) vw56) ∧
    (St vw33.drew (⟨vw21.heap.size, 0, none⟩ : Addr) (Slc.v x45) fun vw57 =>
      Rn Try.prog (convert 9 97 (.string (s29.1.extract ((s10).toNat) ((IntKind.i64.wrap ((if 1 > r7 then 1 else r7) + s10)).toNat)))) vw57 Slc.v fun (x58 : Slc) vw59 =>
      St vw59 ((⟨vw21.heap.size, 0, none⟩ : Addr).add 1) (Slc.v x58) fun vw60 =>
      Ld vw60 (⟨vw21.heap.size, 0, none⟩ : Addr) Slc.v fun (x61 : Slc) =>
      Ld vw60 ((⟨vw21.heap.size, 0, none⟩ : Addr).add 1) Slc.v fun (x62 : Slc) =>
      Ld vw60 ((⟨vw21.heap.size, 0, none⟩ : Addr).add 2) (Value.int .i64) fun (x63 : Int) =>
      C93 (x61, x62, x63) s32 vw60 fun vw64 =>
        Ld vw64 ((⟨vw21.heap.size, 0, none⟩ : Addr).add 1) Slc.v fun (x65 : Slc) =>
        Rn Try.prog (Builtin.append_ #[97, 97] 97 #[Slc.v s29.2, Slc.v x65]) vw64 Slc.v fun (x66 : Slc) vw67 =>
        0 ≤ (IntKind.i64.wrap ((if 1 > r7 then 1 else r7) + s10)) ∧ (IntKind.i64.wrap ((if 1 > r7 then 1 else r7) + s10)) ≤ (((s29.1).size : Nat) : Int) ∧ I31 (s29.1.extract ((IntKind.i64.wrap ((if 1 > r7 then 1 else r7) + s10)).toNat) ((s29.1).size), x66) vw67))
def S48L1 (r7 : Int) (s10 : Int) (vw21 : World) (R : ByteArray → Int → World → Prop) (I31 : (ByteArray × Slc) → World → Prop) (s29 : ByteArray × Slc) (vw30 : World) : Prop :=
  Br (decide ((((s29.1).size : Nat) : Int) > 0)) (Join (S48J1 r7 s10 vw21 s29 I31 R) fun (vJ68 : Int → World → Prop) =>
      Br (s10 == 1) (0 ≤ (0 : Int) ∧ (0 : Int) < ((s29.1).size : Nat) ∧ vJ68 (IntKind.i64.wrap (bAt s29.1 0)) vw30) (vJ68 1 vw30)) (Rn Try.prog (convert 97 9 (Slc.v s29.2)) vw30 Value.string fun (x69 : ByteArray) vw70 =>
    R x69 0 vw70)
def S48J2 (w : World) (s2 : ByteArray) (r7 : Int) (R : ByteArray → Int → World → Prop) (s10 : Int) (vw11 : World) : Prop :=
  Ld vw11 (⟨w.heap.size, 0, none⟩ : Addr) (Value.int .i64) fun (x17 : Int) =>
  Ld vw11 ((⟨w.heap.size, 0, none⟩ : Addr).add 1) (Value.int .i64) fun (x18 : Int) =>
  Ld vw11 ((⟨w.heap.size, 0, none⟩ : Addr).add 2) (Value.int .i64) fun (x19 : Int) =>
  C88 (x17, x18, x19) s2 (IntKind.i64.wrap ((if 1 > r7 then 1 else r7) + s10)) vw11 fun r20 vw21 =>
    Br (r20 != 0) (R (⟨#[]⟩ : ByteArray) r20 vw21) (Ld vw21 (⟨w.heap.size, 0, none⟩ : Addr) (Value.int .i64) fun (x23 : Int) =>
      Br (x23 == 1) (R s2 0 vw21) (Ld vw21 ((⟨w.heap.size, 0, none⟩ : Addr).add 1) (Value.int .i64) fun (x24 : Int) =>
        Nw vw21 (.cells #[Slc.v ((⟨none, 0, 0⟩ : Slc)), Slc.v ((⟨none, 0, 0⟩ : Slc)), .int .i64 0] 108) fun vw25 =>
        St vw25 (⟨vw21.heap.size, 0, none⟩ : Addr) (Slc.v ((⟨none, 0, 0⟩ : Slc))) fun vw26 =>
        St vw26 ((⟨vw21.heap.size, 0, none⟩ : Addr).add 1) (Slc.v ((⟨none, 0, 0⟩ : Slc))) fun vw27 =>
        St vw27 ((⟨vw21.heap.size, 0, none⟩ : Addr).add 2) (.int .i64 x24) fun vw28 =>
        Lp (σ := ByteArray × Slc) (S48L1 r7 s10 vw21 R) (s2, (⟨none, 0, 0⟩ : Slc)) vw28))
/-- foliant/predict.Decode -/
def S48 (p1 : Int × Int × Int) (s2 : ByteArray) (w : World) (R : ByteArray → Int → World → Prop) : Prop :=
  Nw w (.cells #[.int .i64 (p1.1), .int .i64 (p1.2.1), .int .i64 (p1.2.2)] 50) fun vw3 =>
  Ld vw3 (⟨w.heap.size, 0, none⟩ : Addr) (Value.int .i64) fun (x4 : Int) =>
  Ld vw3 ((⟨w.heap.size, 0, none⟩ : Addr).add 1) (Value.int .i64) fun (x5 : Int) =>
  Ld vw3 ((⟨w.heap.size, 0, none⟩ : Addr).add 2) (Value.int .i64) fun (x6 : Int) =>
  C52 (x4, x5, x6) vw3 fun r7 vw8 =>
    Join (S48J2 w s2 r7 R) fun (vJ71 : Int → World → Prop) =>
      Ld vw8 (⟨w.heap.size, 0, none⟩ : Addr) (Value.int .i64) fun (x72 : Int) =>
      Br (decide (x72 ≥ 10)) (vJ71 1 vw8) (vJ71 0 vw8)
def C48 (p1 : Int × Int × Int) (s2 : ByteArray) (w : World) (R : ByteArray → Int → World → Prop) : Prop :=
  Calls Try.prog 48 #[.agg #[.int .i64 (p1.1), .int .i64 (p1.2.1), .int .i64 (p1.2.2)], .string s2] w fun e w' => ∃ r0 : ByteArray, ∃ r1 : Int, e = .returned (.tuple #[.string r0, .int .i64 r1]) ∧ R r0 r1 w'
def pl48 : Plan := (.seq (.reg .seq) (.seq (.reg .seq) (.join [(7, (.one (.int .i64)))] [1, 2, 6] (.seq (.reg .seq) (.cond (.reg .seq) .leaf)) (.seq (.seq (.reg .seq) (.seq (.reg .seq) (.cond (.seq (.reg .seq) .leaf) .leaf))) (.seq (.seq (.reg .seq) (.cond (.seq (.reg .seq) .leaf) .leaf)) (.seq (.reg .seq) (.seq (.reg .seq) (.seq (.block (.loop [(1, (.one .str)), (9, (.one .slc))] [6, 7, 10] (.seq (.seq (.reg .seq) (.cond .leaf .leaf)) (.seq (.block (.seq (.reg .seq) (.join [(11, (.one (.int .i64)))] [1, 6, 7, 9, 10] (.seq (.reg .seq) (.cond (.reg .seq) .leaf)) (.seq (.seq (.reg .seq) (.cond (.seq (.reg .seq) .leaf) .leaf)) (.seq (.reg (.held [10] (.take 0 (.take 1 (.take 2 (.take 3 (.take 4 (.take 5 (.take 6 (.take 7 (.take 9 (.effs 8 none (.eff 10 (some [12]) (.take 11 (.eff 12 (some []) .done))) (.eff 10 (some [8]) (.eff 8 (some [12]) (.take 11 (.eff 12 (some []) .done)))))))))))))))) (.seq (.reg .seq) (.reg .seq))))))) (.reg .seq))))) (.seq (.reg .seq) .leaf)))))))))
theorem C48.mono {p1 : Int × Int × Int} {s2 : ByteArray} {w : World} {R R' : ByteArray → Int → World → Prop} (h : C48 p1 s2 w R) (hr : ∀ r0 r1 w', R r0 r1 w' → R' r0 r1 w') : C48 p1 s2 w R' :=
  Calls.mono h fun _ _ ⟨r0, r1, he, hR⟩ => ⟨r0, r1, he, hr _ _ _ hR⟩
set_option maxRecDepth 100000 in
theorem T48 (p1 : Int × Int × Int) (s2 : ByteArray) (w : World) (R : ByteArray → Int → World → Prop) (h : S48 p1 s2 w R) : C48 p1 s2 w R := by
  have e : fnT Try.prog FF pl48 Try.f48 [.agg #[.int .i64 (p1.1), .int .i64 (p1.2.1), .int .i64 (p1.2.2)], .string s2] w [(.one .str), (.one (.int .i64))] (fun s w => R s.1 s.2 w) = S48 p1 s2 w R := by kernel_rfl
  exact (fn_calls okF okM Try.func48 (by kernel_rfl) (by kernel_rfl) (e.mpr h)).mono fun _ _ ⟨s, he, hR⟩ => ⟨s.1, s.2, he, hR⟩

/-- foliant/predict.Check -/
def S50 (p1 : Int × Int × Int) (w : World) (R : Int → World → Prop) : Prop :=
  Nw w (.cells #[.int .i64 (p1.1), .int .i64 (p1.2.1), .int .i64 (p1.2.2)] 50) fun vw2 =>
  Ld vw2 (⟨w.heap.size, 0, none⟩ : Addr) (Value.int .i64) fun (x3 : Int) =>
  Ld vw2 ((⟨w.heap.size, 0, none⟩ : Addr).add 1) (Value.int .i64) fun (x4 : Int) =>
  Ld vw2 ((⟨w.heap.size, 0, none⟩ : Addr).add 2) (Value.int .i64) fun (x5 : Int) =>
  C95 (x3, x4, x5) vw2 fun r6 vw7 =>
    Br (!r6) (R 1 vw7) (R 0 vw7)
def C50 (p1 : Int × Int × Int) (w : World) (R : Int → World → Prop) : Prop :=
  Calls Try.prog 50 #[.agg #[.int .i64 (p1.1), .int .i64 (p1.2.1), .int .i64 (p1.2.2)]] w fun e w' => ∃ r0 : Int, e = .returned (.int .i64 r0) ∧ R r0 w'
def pl50 : Plan := (.seq (.reg .seq) (.seq (.seq (.reg .seq) (.cond (.seq (.reg .seq) .leaf) .leaf)) (.seq (.reg .seq) .leaf)))
theorem C50.mono {p1 : Int × Int × Int} {w : World} {R R' : Int → World → Prop} (h : C50 p1 w R) (hr : ∀ r0 w', R r0 w' → R' r0 w') : C50 p1 w R' :=
  Calls.mono h fun _ _ ⟨r0, he, hR⟩ => ⟨r0, he, hr _ _ hR⟩
set_option maxRecDepth 100000 in
theorem T50 (p1 : Int × Int × Int) (w : World) (R : Int → World → Prop) (h : S50 p1 w R) : C50 p1 w R := by
  have e : fnT Try.prog FF pl50 Try.f50 [.agg #[.int .i64 (p1.1), .int .i64 (p1.2.1), .int .i64 (p1.2.2)]] w [(.one (.int .i64))] (fun s w => R s w) = S50 p1 w R := by kernel_rfl
  exact (fn_calls okF okM Try.func50 (by kernel_rfl) (by kernel_rfl) (e.mpr h)).mono fun _ _ ⟨s, he, hR⟩ => ⟨s, he, hR⟩

/-- foliant/predict.Best -/
def S54 (prev1 : ByteArray) (row2 : ByteArray) (colors3 : Int) (w : World) (R : Int → World → Prop) : Prop :=
  Rn Try.prog (convert 9 97 (.string prev1)) w Slc.v fun (x4 : Slc) vw5 =>
  Rn Try.prog (convert 9 97 (.string row2)) vw5 Slc.v fun (x6 : Slc) vw7 =>
  C90 (x4, x6, (if 1 > colors3 then 1 else colors3)) vw7 fun r8 vw9 =>
    R r8 vw9
def C54 (prev1 : ByteArray) (row2 : ByteArray) (colors3 : Int) (w : World) (R : Int → World → Prop) : Prop :=
  Calls Try.prog 54 #[.string prev1, .string row2, .int .i64 colors3] w fun e w' => ∃ r0 : Int, e = .returned (.int .i64 r0) ∧ R r0 w'
def pl54 : Plan := (.seq (.reg .seq) (.seq (.reg .seq) .leaf))
theorem C54.mono {prev1 : ByteArray} {row2 : ByteArray} {colors3 : Int} {w : World} {R R' : Int → World → Prop} (h : C54 prev1 row2 colors3 w R) (hr : ∀ r0 w', R r0 w' → R' r0 w') : C54 prev1 row2 colors3 w R' :=
  Calls.mono h fun _ _ ⟨r0, he, hR⟩ => ⟨r0, he, hr _ _ hR⟩
set_option maxRecDepth 100000 in
theorem T54 (prev1 : ByteArray) (row2 : ByteArray) (colors3 : Int) (w : World) (R : Int → World → Prop) (h : S54 prev1 row2 colors3 w R) : C54 prev1 row2 colors3 w R := by
  have e : fnT Try.prog FF pl54 Try.f54 [.string prev1, .string row2, .int .i64 colors3] w [(.one (.int .i64))] (fun s w => R s w) = S54 prev1 row2 colors3 w R := by kernel_rfl
  exact (fn_calls okF okM Try.func54 (by kernel_rfl) (by kernel_rfl) (e.mpr h)).mono fun _ _ ⟨s, he, hR⟩ => ⟨s, he, hR⟩

end Go.Proofs.Ytahdpfjikmechaa
