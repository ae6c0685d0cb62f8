/- The formulas of 44 functions of the program, written by program (gen.py); the kernel checks each. No condition. -/
import Derived.Test.YtahdpfjikmechaaFn
namespace Go.Proofs.Ytahdpfjikmechaa
open Sh
set_option linter.unusedVariables false

/-- foliant/bit.From -/
def S16 (s1 : ByteArray) (w : World) (R : Option Addr → World → Prop) : Prop :=
  Nw w (.cells #[.int .i64 0, .int .i64 0, .string s1, .int .i64 0] 95) fun vw2 =>
  R (some (⟨w.heap.size, 0, none⟩ : Addr)) vw2
def C16 (s1 : ByteArray) (w : World) (R : Option Addr → World → Prop) : Prop :=
  Calls Try.prog 16 #[.string s1] w fun e w' => ∃ r0 : Option Addr, e = .returned (.pointer r0) ∧ R r0 w'
def pl16 : Plan := (.seq (.reg .seq) (.seq (.reg .seq) .leaf))
theorem C16.mono {s1 : ByteArray} {w : World} {R R' : Option Addr → World → Prop} (h : C16 s1 w R) (hr : ∀ r0 w', R r0 w' → R' r0 w') : C16 s1 w R' :=
  Calls.mono h fun _ _ ⟨r0, he, hR⟩ => ⟨r0, he, hr _ _ hR⟩
set_option maxRecDepth 100000 in
theorem T16 (s1 : ByteArray) (w : World) (R : Option Addr → World → Prop) (h : S16 s1 w R) : C16 s1 w R := by
  have e : fnT Try.prog FF pl16 Try.f16 [.string s1] w [(.one .ptr)] (fun s w => R s w) = S16 s1 w R := by kernel_rfl
  exact (fn_calls okF okM Try.func16 (by kernel_rfl) (by kernel_rfl) (e.mpr h)).mono fun _ _ ⟨s, he, hR⟩ => ⟨s, he, hR⟩

/-- (*foliant/bit.Reader).Left -/
def S42 (r1 : Option Addr) (w : World) (R : Int → World → Prop) : Prop :=
  Br r1.isNone (R 0 w) (Nn r1 fun a2 =>
    Ld w.drew (a2.add 2) Value.string fun (x3 : ByteArray) =>
    Nn r1 fun a4 =>
    Ld w.drew (a4.add 3) (Value.int .i64) fun (x5 : Int) =>
    Nn r1 fun a6 =>
    Ld w.drew (a6.add 1) (Value.int .i64) fun (x7 : Int) =>
    Lt (IntKind.i64.wrap ((IntKind.i64.wrap (8 * (IntKind.i64.wrap ((((x3).size : Nat) : Int) - x5)))) - x7)) fun (x8 : Int) =>
    R x8 w.drew)
def C42 (r1 : Option Addr) (w : World) (R : Int → World → Prop) : Prop :=
  Calls Try.prog 42 #[.pointer r1] w fun e w' => ∃ r0 : Int, e = .returned (.int .i64 r0) ∧ R r0 w'
def pl42 : Plan := (.seq (.reg .seq) (.seq (.seq (.reg .seq) (.cond (.seq (.reg .seq) .leaf) .leaf)) (.seq (.reg .still) .leaf)))
theorem C42.mono {r1 : Option Addr} {w : World} {R R' : Int → World → Prop} (h : C42 r1 w R) (hr : ∀ r0 w', R r0 w' → R' r0 w') : C42 r1 w R' :=
  Calls.mono h fun _ _ ⟨r0, he, hR⟩ => ⟨r0, he, hr _ _ hR⟩
set_option maxRecDepth 100000 in
theorem T42 (r1 : Option Addr) (w : World) (R : Int → World → Prop) (h : S42 r1 w R) : C42 r1 w R := by
  have e : fnT Try.prog FF pl42 Try.f42 [.pointer r1] w [(.one (.int .i64))] (fun s w => R s w) = S42 r1 w R := by kernel_rfl
  exact (fn_calls okF okM Try.func42 (by kernel_rfl) (by kernel_rfl) (e.mpr h)).mono fun _ _ ⟨s, he, hR⟩ => ⟨s, he, hR⟩

/-- (*foliant/bit.side).other -/
def S116 (x1 : Option Addr) (way2 : Int) (w : World) (R : Bool → World → Prop) : Prop :=
  Nn x1 fun a3 =>
  Ld w a3 (Value.int .i64) fun (x4 : Int) =>
  Br (x4 != 0) (Nn x1 fun a5 =>
    Ld w a5 (Value.int .i64) fun (x6 : Int) =>
    R (x6 != way2) w) (R false w)
def C116 (x1 : Option Addr) (way2 : Int) (w : World) (R : Bool → World → Prop) : Prop :=
  Calls Try.prog 116 #[.pointer x1, .int .i64 way2] w fun e w' => ∃ r0 : Bool, e = .returned (.bool r0) ∧ R r0 w'
def pl116 : Plan := (.seq (.reg .seq) (.seq (.reg .seq) .leaf))
theorem C116.mono {x1 : Option Addr} {way2 : Int} {w : World} {R R' : Bool → World → Prop} (h : C116 x1 way2 w R) (hr : ∀ r0 w', R r0 w' → R' r0 w') : C116 x1 way2 w R' :=
  Calls.mono h fun _ _ ⟨r0, he, hR⟩ => ⟨r0, he, hr _ _ hR⟩
set_option maxRecDepth 100000 in
theorem T116 (x1 : Option Addr) (way2 : Int) (w : World) (R : Bool → World → Prop) (h : S116 x1 way2 w R) : C116 x1 way2 w R := by
  have e : fnT Try.prog FF pl116 Try.f116 [.pointer x1, .int .i64 way2] w [(.one .bool)] (fun s w => R s w) = S116 x1 way2 w R := by kernel_rfl
  exact (fn_calls okF okM Try.func116 (by kernel_rfl) (by kernel_rfl) (e.mpr h)).mono fun _ _ ⟨s, he, hR⟩ => ⟨s, he, hR⟩

/-- (*foliant/bit.side).place -/
def S128 (x1 : Option Addr) (way2 : Int) (w : World) (R : Int → World → Prop) : Prop :=
  Br (way2 == 1) (Nn x1 fun a5 =>
    Ld w (a5.add 1) (Value.int .i64) fun (x6 : Int) =>
    R x6 w) (Nn x1 fun a7 =>
    Ld w (a7.add 1) (Value.int .i64) fun (x8 : Int) =>
    R (IntKind.i64.wrap (7 - x8)) w)
def C128 (x1 : Option Addr) (way2 : Int) (w : World) (R : Int → World → Prop) : Prop :=
  Calls Try.prog 128 #[.pointer x1, .int .i64 way2] w fun e w' => ∃ r0 : Int, e = .returned (.int .i64 r0) ∧ R r0 w'
def pl128 : Plan := (.seq (.reg .seq) (.seq (.seq (.reg .seq) (.cond (.seq (.reg .seq) .leaf) .leaf)) (.seq (.reg .seq) .leaf)))
theorem C128.mono {x1 : Option Addr} {way2 : Int} {w : World} {R R' : Int → World → Prop} (h : C128 x1 way2 w R) (hr : ∀ r0 w', R r0 w' → R' r0 w') : C128 x1 way2 w R' :=
  Calls.mono h fun _ _ ⟨r0, he, hR⟩ => ⟨r0, he, hr _ _ hR⟩
set_option maxRecDepth 100000 in
theorem T128 (x1 : Option Addr) (way2 : Int) (w : World) (R : Int → World → Prop) (h : S128 x1 way2 w R) : C128 x1 way2 w R := by
  have e : fnT Try.prog FF pl128 Try.f128 [.pointer x1, .int .i64 way2] w [(.one (.int .i64))] (fun s w => R s w) = S128 x1 way2 w R := by kernel_rfl
  exact (fn_calls okF okM Try.func128 (by kernel_rfl) (by kernel_rfl) (e.mpr h)).mono fun _ _ ⟨s, he, hR⟩ => ⟨s, he, hR⟩

/-- (*foliant/bit.Reader).one -/
def S117 (r1 : Option Addr) (way2 : Int) (w : World) (R : Int → World → Prop) : Prop :=
  ∃ vS3 : World → Prop, vS3 w.drew ∧ Nn r1 fun a4 =>
  LdS vS3 (a4.add 2) Value.string fun (x5 : ByteArray) =>
  Nn r1 fun a6 =>
  LdS vS3 (a6.add 3) (Value.int .i64) fun (x7 : Int) =>
  0 ≤ x7 ∧ x7 < ((x5).size : Nat) ∧ Nn r1 fun a8 =>
  C128 (some a8) way2 w.drew fun r9 vw10 =>
    vS3 vw10 ∧ 0 ≤ r9 ∧ Nn r1 fun a11 =>
    Ld vw10 (a11.add 1) (Value.int .i64) fun (x12 : Int) =>
    Nn r1 fun a13 =>
    St vw10 (a13.add 1) (.int .i64 (IntKind.i64.wrap (x12 + 1))) fun vw14 =>
    Nn r1 fun a15 =>
    Ld vw14 (a15.add 1) (Value.int .i64) fun (x16 : Int) =>
    Br (x16 == 8) (Nn r1 fun a17 =>
      St vw14 (a17.add 1) (.int .i64 0) fun vw18 =>
      Nn r1 fun a19 =>
      Ld vw18 (a19.add 3) (Value.int .i64) fun (x20 : Int) =>
      Nn r1 fun a21 =>
      St vw18 (a21.add 3) (.int .i64 (IntKind.i64.wrap (x20 + 1))) fun vw22 =>
      R (iand .i64 (Int.fdiv (IntKind.i64.wrap (bAt x5 x7)) (2 ^ (min (r9).toNat 64))) 1) vw22) (R (iand .i64 (Int.fdiv (IntKind.i64.wrap (bAt x5 x7)) (2 ^ (min (r9).toNat 64))) 1) vw14)
def C117 (r1 : Option Addr) (way2 : Int) (w : World) (R : Int → World → Prop) : Prop :=
  Calls Try.prog 117 #[.pointer r1, .int .i64 way2] w fun e w' => ∃ r0 : Int, e = .returned (.int .i64 r0) ∧ R r0 w'
def pl117 : Plan := (.seq (.reg .seq) (.seq (.reg (.held [] (.take 0 (.take 1 (.take 2 (.take 3 (.take 4 (.take 5 (.take 6 (.take 7 (.take 8 (.take 9 (.take 10 (.take 11 (.take 12 (.take 13 (.eff 14 none (.take 15 (.take 16 (.take 17 .done)))))))))))))))))))) (.seq (.seq (.reg .seq) (.seq (.reg .seq) (.cond (.seq (.reg .seq) (.reg .seq)) .leaf))) (.seq (.reg .seq) .leaf))))
theorem C117.mono {r1 : Option Addr} {way2 : Int} {w : World} {R R' : Int → World → Prop} (h : C117 r1 way2 w R) (hr : ∀ r0 w', R r0 w' → R' r0 w') : C117 r1 way2 w R' :=
  Calls.mono h fun _ _ ⟨r0, he, hR⟩ => ⟨r0, he, hr _ _ hR⟩
set_option maxRecDepth 100000 in
theorem T117 (r1 : Option Addr) (way2 : Int) (w : World) (R : Int → World → Prop) (h : S117 r1 way2 w R) : C117 r1 way2 w R := by
  have e : fnT Try.prog FF pl117 Try.f117 [.pointer r1, .int .i64 way2] w [(.one (.int .i64))] (fun s w => R s w) = S117 r1 way2 w R := by kernel_rfl
  exact (fn_calls okF okM Try.func117 (by kernel_rfl) (by kernel_rfl) (e.mpr h)).mono fun _ _ ⟨s, he, hR⟩ => ⟨s, he, hR⟩

def S83L1 (r1 : Option Addr) (n2 : Int) (way3 : Int) (R : Int → Int → World → Prop) (I21 : (Int × Int) → World → Prop) (s19 : Int × Int) (vw20 : World) : Prop :=
  Br (decide (s19.2 < n2)) (C117 r1 way3 vw20 fun r22 vw23 =>
      Br (way3 == 1) (0 ≤ s19.2 ∧ I21 (ior .i64 s19.1 (IntKind.i64.wrap (r22 * 2 ^ (min (s19.2).toNat 64))), IntKind.i64.wrap (s19.2 + 1)) vw23) (I21 (ior .i64 (IntKind.i64.wrap (s19.1 * 2 ^ 1)) r22, IntKind.i64.wrap (s19.2 + 1)) vw23)) (Br (decide (n2 > 0)) (Nn r1 fun a24 =>
      St vw20 a24 (.int .i64 way3) fun vw25 =>
      R s19.1 0 vw25) (R s19.1 0 vw20))
/-- (*foliant/bit.Reader).take -/
def S83 (r1 : Option Addr) (n2 : Int) (way3 : Int) (w : World) (R : Int → Int → World → Prop) : Prop :=
  Br r1.isNone (R 0 1 w) (Br (decide (n2 < 0)) (R 0 1 w) (Br (decide (n2 > 24)) (R 0 1 w) (Nn r1 fun a9 =>
        C116 (some a9) way3 w fun r10 vw11 =>
          Br r10 (R 0 1 vw11) (C42 r1 vw11 fun r12 vw13 =>
              Br (decide (n2 > r12)) (R 0 4 vw13) (Lp (σ := Int × Int) (S83L1 r1 n2 way3 R) (0, 0) vw13)))))
def C83 (r1 : Option Addr) (n2 : Int) (way3 : Int) (w : World) (R : Int → Int → World → Prop) : Prop :=
  Calls Try.prog 83 #[.pointer r1, .int .i64 n2, .int .i64 way3] w fun e w' => ∃ r0 : Int, ∃ r1 : Int, e = .returned (.tuple #[.int .i64 r0, .int .i64 r1]) ∧ R r0 r1 w'
def pl83 : Plan := (.seq (.reg .seq) (.seq (.block (.seq (.reg .seq) (.cond (.seq (.reg .seq) .leaf) (.seq (.reg .seq) (.cond (.seq (.reg .seq) .leaf) .leaf))))) (.seq (.reg .seq) (.seq (.seq (.reg .seq) (.block (.loop [(8, (.one (.int .i64))), (35, (.one (.int .i64)))] [0, 1, 2, 34] (.seq (.reg .seq) (.seq (.cond .leaf .leaf) (.seq (.block (.seq (.reg .seq) (.seq (.reg .seq) (.seq (.reg .seq) (.cond (.reg .seq) (.reg .seq)))))) (.reg .seq))))))) (.seq (.seq (.reg .seq) (.cond (.reg .seq) .leaf)) (.seq (.reg .seq) .leaf))))))
theorem C83.mono {r1 : Option Addr} {n2 : Int} {way3 : Int} {w : World} {R R' : Int → Int → World → Prop} (h : C83 r1 n2 way3 w R) (hr : ∀ r0 r1 w', R r0 r1 w' → R' r0 r1 w') : C83 r1 n2 way3 w R' :=
  Calls.mono h fun _ _ ⟨r0, r1, he, hR⟩ => ⟨r0, r1, he, hr _ _ _ hR⟩
set_option maxRecDepth 100000 in
theorem T83 (r1 : Option Addr) (n2 : Int) (way3 : Int) (w : World) (R : Int → Int → World → Prop) (h : S83 r1 n2 way3 w R) : C83 r1 n2 way3 w R := by
  have e : fnT Try.prog FF pl83 Try.f83 [.pointer r1, .int .i64 n2, .int .i64 way3] w [(.one (.int .i64)), (.one (.int .i64))] (fun s w => R s.1 s.2 w) = S83 r1 n2 way3 w R := by kernel_rfl
  exact (fn_calls okF okM Try.func83 (by kernel_rfl) (by kernel_rfl) (e.mpr h)).mono fun _ _ ⟨s, he, hR⟩ => ⟨s.1, s.2, he, hR⟩

/-- (*foliant/bit.Reader).Low -/
def S17 (r1 : Option Addr) (n2 : Int) (w : World) (R : Int → Int → World → Prop) : Prop :=
  C83 r1 n2 1 w fun r3 r4 vw5 =>
    R r3 r4 vw5
def C17 (r1 : Option Addr) (n2 : Int) (w : World) (R : Int → Int → World → Prop) : Prop :=
  Calls Try.prog 17 #[.pointer r1, .int .i64 n2] w fun e w' => ∃ r0 : Int, ∃ r1 : Int, e = .returned (.tuple #[.int .i64 r0, .int .i64 r1]) ∧ R r0 r1 w'
def pl17 : Plan := (.seq (.reg .seq) (.seq (.reg .seq) .leaf))
theorem C17.mono {r1 : Option Addr} {n2 : Int} {w : World} {R R' : Int → Int → World → Prop} (h : C17 r1 n2 w R) (hr : ∀ r0 r1 w', R r0 r1 w' → R' r0 r1 w') : C17 r1 n2 w R' :=
  Calls.mono h fun _ _ ⟨r0, r1, he, hR⟩ => ⟨r0, r1, he, hr _ _ _ hR⟩
set_option maxRecDepth 100000 in
theorem T17 (r1 : Option Addr) (n2 : Int) (w : World) (R : Int → Int → World → Prop) (h : S17 r1 n2 w R) : C17 r1 n2 w R := by
  have e : fnT Try.prog FF pl17 Try.f17 [.pointer r1, .int .i64 n2] w [(.one (.int .i64)), (.one (.int .i64))] (fun s w => R s.1 s.2 w) = S17 r1 n2 w R := by kernel_rfl
  exact (fn_calls okF okM Try.func17 (by kernel_rfl) (by kernel_rfl) (e.mpr h)).mono fun _ _ ⟨s, he, hR⟩ => ⟨s.1, s.2, he, hR⟩

/-- (*foliant/bit.Reader).High -/
def S18 (r1 : Option Addr) (n2 : Int) (w : World) (R : Int → Int → World → Prop) : Prop :=
  C83 r1 n2 2 w fun r3 r4 vw5 =>
    R r3 r4 vw5
def C18 (r1 : Option Addr) (n2 : Int) (w : World) (R : Int → Int → World → Prop) : Prop :=
  Calls Try.prog 18 #[.pointer r1, .int .i64 n2] w fun e w' => ∃ r0 : Int, ∃ r1 : Int, e = .returned (.tuple #[.int .i64 r0, .int .i64 r1]) ∧ R r0 r1 w'
def pl18 : Plan := (.seq (.reg .seq) (.seq (.reg .seq) .leaf))
theorem C18.mono {r1 : Option Addr} {n2 : Int} {w : World} {R R' : Int → Int → World → Prop} (h : C18 r1 n2 w R) (hr : ∀ r0 r1 w', R r0 r1 w' → R' r0 r1 w') : C18 r1 n2 w R' :=
  Calls.mono h fun _ _ ⟨r0, r1, he, hR⟩ => ⟨r0, r1, he, hr _ _ _ hR⟩
set_option maxRecDepth 100000 in
theorem T18 (r1 : Option Addr) (n2 : Int) (w : World) (R : Int → Int → World → Prop) (h : S18 r1 n2 w R) : C18 r1 n2 w R := by
  have e : fnT Try.prog FF pl18 Try.f18 [.pointer r1, .int .i64 n2] w [(.one (.int .i64)), (.one (.int .i64))] (fun s w => R s.1 s.2 w) = S18 r1 n2 w R := by kernel_rfl
  exact (fn_calls okF okM Try.func18 (by kernel_rfl) (by kernel_rfl) (e.mpr h)).mono fun _ _ ⟨s, he, hR⟩ => ⟨s.1, s.2, he, hR⟩

/-- foliant/bit.New -/
def S19 (w : World) (R : Option Addr → World → Prop) : Prop :=
  Nw w (.cells #[.int .i64 0, .int .i64 0, Slc.v ((⟨none, 0, 0⟩ : Slc))] 99) fun vw1 =>
  R (some (⟨w.heap.size, 0, none⟩ : Addr)) vw1
def C19 (w : World) (R : Option Addr → World → Prop) : Prop :=
  Calls Try.prog 19 #[] w fun e w' => ∃ r0 : Option Addr, e = .returned (.pointer r0) ∧ R r0 w'
def pl19 : Plan := (.seq (.reg .seq) (.seq (.reg .seq) .leaf))
theorem C19.mono {w : World} {R R' : Option Addr → World → Prop} (h : C19 w R) (hr : ∀ r0 w', R r0 w' → R' r0 w') : C19 w R' :=
  Calls.mono h fun _ _ ⟨r0, he, hR⟩ => ⟨r0, he, hr _ _ hR⟩
set_option maxRecDepth 100000 in
theorem T19 (w : World) (R : Option Addr → World → Prop) (h : S19 w R) : C19 w R := by
  have e : fnT Try.prog FF pl19 Try.f19 [] w [(.one .ptr)] (fun s w => R s w) = S19 w R := by kernel_rfl
  exact (fn_calls okF okM Try.func19 (by kernel_rfl) (by kernel_rfl) (e.mpr h)).mono fun _ _ ⟨s, he, hR⟩ => ⟨s, he, hR⟩

/-- (*foliant/bit.Writer).one -/
def S118 (vw1 : Option Addr) (b2 : Int) (way3 : Int) (w : World) (R : World → Prop) : Prop :=
  Nn vw1 fun a13 =>
  Ld w (a13.add 1) (Value.int .i64) fun (x14 : Int) =>
  Br (x14 == 0) (Nn vw1 fun a15 =>
    Ld w (a15.add 2) Slc.v fun (x16 : Slc) =>
    Nw w (.cells #[.int .u8 0] 5) fun vw17 =>
    Rn Try.prog (Builtin.append_ #[97, 97] 97 #[Slc.v x16, Slc.v ((⟨some ⟨w.heap.size, 0, none⟩, 1, 1⟩ : Slc))]) vw17 Slc.v fun (x18 : Slc) vw19 =>
    Nn vw1 fun a20 =>
    St vw19 (a20.add 2) (Slc.v x18) fun vw21 =>
    ∃ vS22 : World → Prop, vS22 vw21.drew ∧ Nn vw1 fun a23 =>
    LdS vS22 (a23.add 2) Slc.v fun (x24 : Slc) =>
    Nn vw1 fun a25 =>
    LdS vS22 (a25.add 2) Slc.v fun (x26 : Slc) =>
    0 ≤ (IntKind.i64.wrap (((x26.len : Nat) : Int) - 1)) ∧ (IntKind.i64.wrap (((x26.len : Nat) : Int) - 1)) < (x24.len : Nat) ∧ Nn x24.p fun a27 =>
    LdS vS22 (a27.add ((IntKind.i64.wrap (((x26.len : Nat) : Int) - 1)).toNat * 1)) (Value.int .u8) fun (x28 : Int) =>
    Nn vw1 fun a29 =>
    C128 (some a29) way3 vw21.drew fun r30 vw31 =>
      vS22 vw31 ∧ 0 ≤ r30 ∧ 0 ≤ (IntKind.i64.wrap (((x26.len : Nat) : Int) - 1)) ∧ (IntKind.i64.wrap (((x26.len : Nat) : Int) - 1)) < (x24.len : Nat) ∧ Nn x24.p fun a32 =>
      St vw31 (a32.add ((IntKind.i64.wrap (((x26.len : Nat) : Int) - 1)).toNat * 1)) (.int .u8 (ior .u8 x28 (IntKind.u8.wrap (IntKind.i64.wrap (b2 * 2 ^ (min (r30).toNat 64)))))) fun vw33 =>
      Nn vw1 fun a34 =>
      Ld vw33 (a34.add 1) (Value.int .i64) fun (x35 : Int) =>
      Nn vw1 fun a36 =>
      St vw33 (a36.add 1) (.int .i64 (Int.tmod (IntKind.i64.wrap (x35 + 1)) 8)) fun vw37 =>
      R vw37) (∃ vS38 : World → Prop, vS38 w.drew ∧ Nn vw1 fun a39 =>
    LdS vS38 (a39.add 2) Slc.v fun (x40 : Slc) =>
    Nn vw1 fun a41 =>
    LdS vS38 (a41.add 2) Slc.v fun (x42 : Slc) =>
    0 ≤ (IntKind.i64.wrap (((x42.len : Nat) : Int) - 1)) ∧ (IntKind.i64.wrap (((x42.len : Nat) : Int) - 1)) < (x40.len : Nat) ∧ Nn x40.p fun a43 =>
    LdS vS38 (a43.add ((IntKind.i64.wrap (((x42.len : Nat) : Int) - 1)).toNat * 1)) (Value.int .u8) fun (x44 : Int) =>
    Nn vw1 fun a45 =>
    C128 (some a45) way3 w.drew fun r46 vw47 =>
      vS38 vw47 ∧ 0 ≤ r46 ∧ 0 ≤ (IntKind.i64.wrap (((x42.len : Nat) : Int) - 1)) ∧ (IntKind.i64.wrap (((x42.len : Nat) : Int) - 1)) < (x40.len : Nat) ∧ Nn x40.p fun a48 =>
      St vw47 (a48.add ((IntKind.i64.wrap (((x42.len : Nat) : Int) - 1)).toNat * 1)) (.int .u8 (ior .u8 x44 (IntKind.u8.wrap (IntKind.i64.wrap (b2 * 2 ^ (min (r46).toNat 64)))))) fun vw49 =>
      Nn vw1 fun a50 =>
      Ld vw49 (a50.add 1) (Value.int .i64) fun (x51 : Int) =>
      Nn vw1 fun a52 =>
      St vw49 (a52.add 1) (.int .i64 (Int.tmod (IntKind.i64.wrap (x51 + 1)) 8)) fun vw53 =>
      R vw53)
def C118 (vw1 : Option Addr) (b2 : Int) (way3 : Int) (w : World) (R : World → Prop) : Prop :=
  Calls Try.prog 118 #[.pointer vw1, .int .i64 b2, .int .i64 way3] w fun e w' => e = .returned (.tuple #[]) ∧ R w'
def pl118 : Plan := (.seq (.seq (.reg .seq) (.cond (.reg .seq) .leaf)) (.seq (.reg (.held [22] (.take 0 (.take 1 (.take 2 (.take 3 (.take 4 (.take 5 (.take 6 (.take 7 (.take 8 (.take 9 (.take 10 (.take 11 (.take 12 (.take 13 (.take 14 (.take 15 (.take 16 (.eff 17 none (.take 18 (.take 19 (.take 20 (.take 21 (.eff 22 (some []) .done))))))))))))))))))))))))) (.reg .seq)))
theorem C118.mono {vw1 : Option Addr} {b2 : Int} {way3 : Int} {w : World} {R R' : World → Prop} (h : C118 vw1 b2 way3 w R) (hr : ∀ w', R w' → R' w') : C118 vw1 b2 way3 w R' :=
  Calls.mono h fun _ _ ⟨he, hR⟩ => ⟨he, hr _ hR⟩
set_option maxRecDepth 100000 in
theorem T118 (vw1 : Option Addr) (b2 : Int) (way3 : Int) (w : World) (R : World → Prop) (h : S118 vw1 b2 way3 w R) : C118 vw1 b2 way3 w R := by
  have e : fnT Try.prog FF pl118 Try.f118 [.pointer vw1, .int .i64 b2, .int .i64 way3] w [] (fun _ w => R w) = S118 vw1 b2 way3 w R := by kernel_rfl
  exact (fn_calls okF okM Try.func118 (by kernel_rfl) (by kernel_rfl) (e.mpr h)).mono fun _ _ ⟨_, he, hR⟩ => ⟨he, hR⟩

def S84L1 (vw1 : Option Addr) (v2 : Int) (n3 : Int) (way4 : Int) (R : Int → World → Prop) (I19 : Int → World → Prop) (s17 : Int) (vw18 : World) : Prop :=
  Br (decide (s17 < n3)) (Br (way4 == 2) (0 ≤ (IntKind.i64.wrap ((IntKind.i64.wrap (n3 - 1)) - s17)) ∧ Lt (iand .i64 (Int.fdiv v2 (2 ^ (min (IntKind.i64.wrap ((IntKind.i64.wrap (n3 - 1)) - s17)).toNat 64))) 1) fun (x20 : Int) =>
      C118 vw1 x20 way4 vw18 fun vw21 =>
        I19 (IntKind.i64.wrap (s17 + 1)) vw21) (0 ≤ s17 ∧ C118 vw1 (iand .i64 (Int.fdiv v2 (2 ^ (min (s17).toNat 64))) 1) way4 vw18 fun vw22 =>
        I19 (IntKind.i64.wrap (s17 + 1)) vw22)) (Br (decide (n3 > 0)) (Nn vw1 fun a23 =>
      St vw18 a23 (.int .i64 way4) fun vw24 =>
      R 0 vw24) (R 0 vw18))
/-- (*foliant/bit.Writer).put -/
def S84 (vw1 : Option Addr) (v2 : Int) (n3 : Int) (way4 : Int) (w : World) (R : Int → World → Prop) : Prop :=
  Br vw1.isNone (R 1 w) (Br (decide (n3 < 0)) (R 1 w) (Br (decide (n3 > 24)) (R 1 w) (Br (decide (v2 < 0)) (R 1 w) (0 ≤ n3 ∧ Br (decide (v2 ≥ (IntKind.i64.wrap (1 * 2 ^ (min (n3).toNat 64))))) (R 1 w) (Nn vw1 fun a8 =>
            C116 (some a8) way4 w fun r9 vw10 =>
              Br r9 (R 1 vw10) (Lp (σ := Int) (S84L1 vw1 v2 n3 way4 R) 0 vw10))))))
def C84 (vw1 : Option Addr) (v2 : Int) (n3 : Int) (way4 : Int) (w : World) (R : Int → World → Prop) : Prop :=
  Calls Try.prog 84 #[.pointer vw1, .int .i64 v2, .int .i64 n3, .int .i64 way4] w fun e w' => ∃ r0 : Int, e = .returned (.int .i64 r0) ∧ R r0 w'
def pl84 : Plan := (.seq (.reg .seq) (.seq (.seq (.reg .seq) (.cond (.seq (.reg .seq) .leaf) .leaf)) (.seq (.seq (.reg .seq) (.block (.loop [(38, (.one (.int .i64)))] [0, 1, 2, 3, 37] (.seq (.reg .seq) (.seq (.cond .leaf .leaf) (.seq (.block (.seq (.reg .seq) (.seq (.seq (.reg .seq) (.cond (.reg .seq) .leaf)) (.reg .seq)))) (.reg .seq))))))) (.seq (.seq (.reg .seq) (.cond (.reg .seq) .leaf)) (.seq (.reg .seq) .leaf)))))
theorem C84.mono {vw1 : Option Addr} {v2 : Int} {n3 : Int} {way4 : Int} {w : World} {R R' : Int → World → Prop} (h : C84 vw1 v2 n3 way4 w R) (hr : ∀ r0 w', R r0 w' → R' r0 w') : C84 vw1 v2 n3 way4 w R' :=
  Calls.mono h fun _ _ ⟨r0, he, hR⟩ => ⟨r0, he, hr _ _ hR⟩
set_option maxRecDepth 100000 in
theorem T84 (vw1 : Option Addr) (v2 : Int) (n3 : Int) (way4 : Int) (w : World) (R : Int → World → Prop) (h : S84 vw1 v2 n3 way4 w R) : C84 vw1 v2 n3 way4 w R := by
  have e : fnT Try.prog FF pl84 Try.f84 [.pointer vw1, .int .i64 v2, .int .i64 n3, .int .i64 way4] w [(.one (.int .i64))] (fun s w => R s w) = S84 vw1 v2 n3 way4 w R := by kernel_rfl
  exact (fn_calls okF okM Try.func84 (by kernel_rfl) (by kernel_rfl) (e.mpr h)).mono fun _ _ ⟨s, he, hR⟩ => ⟨s, he, hR⟩

/-- (*foliant/bit.Writer).Low -/
def S21 (vw1 : Option Addr) (v2 : Int) (n3 : Int) (w : World) (R : Int → World → Prop) : Prop :=
  C84 vw1 v2 n3 1 w fun r4 vw5 =>
    R r4 vw5
def C21 (vw1 : Option Addr) (v2 : Int) (n3 : Int) (w : World) (R : Int → World → Prop) : Prop :=
  Calls Try.prog 21 #[.pointer vw1, .int .i64 v2, .int .i64 n3] w fun e w' => ∃ r0 : Int, e = .returned (.int .i64 r0) ∧ R r0 w'
def pl21 : Plan := (.seq (.reg .seq) (.seq (.reg .seq) .leaf))
theorem C21.mono {vw1 : Option Addr} {v2 : Int} {n3 : Int} {w : World} {R R' : Int → World → Prop} (h : C21 vw1 v2 n3 w R) (hr : ∀ r0 w', R r0 w' → R' r0 w') : C21 vw1 v2 n3 w R' :=
  Calls.mono h fun _ _ ⟨r0, he, hR⟩ => ⟨r0, he, hr _ _ hR⟩
set_option maxRecDepth 100000 in
theorem T21 (vw1 : Option Addr) (v2 : Int) (n3 : Int) (w : World) (R : Int → World → Prop) (h : S21 vw1 v2 n3 w R) : C21 vw1 v2 n3 w R := by
  have e : fnT Try.prog FF pl21 Try.f21 [.pointer vw1, .int .i64 v2, .int .i64 n3] w [(.one (.int .i64))] (fun s w => R s w) = S21 vw1 v2 n3 w R := by kernel_rfl
  exact (fn_calls okF okM Try.func21 (by kernel_rfl) (by kernel_rfl) (e.mpr h)).mono fun _ _ ⟨s, he, hR⟩ => ⟨s, he, hR⟩

/-- (*foliant/bit.Writer).Align -/
def S25 (vw1 : Option Addr) (w : World) (R : World → Prop) : Prop :=
  Br (!(vw1.isNone)) (Nn vw1 fun a2 =>
    St w a2 (.int .i64 0) fun vw3 =>
    St vw3 (a2.add 1) (.int .i64 0) fun vw4 =>
    R vw4) (R w)
def C25 (vw1 : Option Addr) (w : World) (R : World → Prop) : Prop :=
  Calls Try.prog 25 #[.pointer vw1] w fun e w' => e = .returned (.tuple #[]) ∧ R w'
def pl25 : Plan := (.seq (.reg .seq) (.cond (.reg .seq) .leaf))
theorem C25.mono {vw1 : Option Addr} {w : World} {R R' : World → Prop} (h : C25 vw1 w R) (hr : ∀ w', R w' → R' w') : C25 vw1 w R' :=
  Calls.mono h fun _ _ ⟨he, hR⟩ => ⟨he, hr _ hR⟩
set_option maxRecDepth 100000 in
theorem T25 (vw1 : Option Addr) (w : World) (R : World → Prop) (h : S25 vw1 w R) : C25 vw1 w R := by
  have e : fnT Try.prog FF pl25 Try.f25 [.pointer vw1] w [] (fun _ w => R w) = S25 vw1 w R := by kernel_rfl
  exact (fn_calls okF okM Try.func25 (by kernel_rfl) (by kernel_rfl) (e.mpr h)).mono fun _ _ ⟨_, he, hR⟩ => ⟨he, hR⟩

/-- (*foliant/bit.Writer).Raw -/
def S27 (vw1 : Option Addr) (s2 : ByteArray) (w : World) (R : World → Prop) : Prop :=
  Br vw1.isNone (R w) (Nn vw1 fun a6 =>
    Ld w (a6.add 1) (Value.int .i64) fun (x7 : Int) =>
    Br (decide (x7 > 0)) (C25 vw1 w fun vw8 =>
        Nn vw1 fun a9 =>
        Ld vw8 (a9.add 2) Slc.v fun (x10 : Slc) =>
        Rn Try.prog (Builtin.append_ #[97, 9] 97 #[Slc.v x10, .string s2]) vw8 Slc.v fun (x11 : Slc) vw12 =>
        Nn vw1 fun a13 =>
        St vw12 (a13.add 2) (Slc.v x11) fun vw14 =>
        R vw14) (Nn vw1 fun a15 =>
      Ld w (a15.add 2) Slc.v fun (x16 : Slc) =>
      Rn Try.prog (Builtin.append_ #[97, 9] 97 #[Slc.v x16, .string s2]) w Slc.v fun (x17 : Slc) vw18 =>
      Nn vw1 fun a19 =>
      St vw18 (a19.add 2) (Slc.v x17) fun vw20 =>
      R vw20))
def C27 (vw1 : Option Addr) (s2 : ByteArray) (w : World) (R : World → Prop) : Prop :=
  Calls Try.prog 27 #[.pointer vw1, .string s2] w fun e w' => e = .returned (.tuple #[]) ∧ R w'
def pl27 : Plan := (.seq (.seq (.reg .seq) (.cond .leaf .leaf)) (.seq (.seq (.reg .seq) (.cond (.reg .seq) .leaf)) (.reg .seq)))
theorem C27.mono {vw1 : Option Addr} {s2 : ByteArray} {w : World} {R R' : World → Prop} (h : C27 vw1 s2 w R) (hr : ∀ w', R w' → R' w') : C27 vw1 s2 w R' :=
  Calls.mono h fun _ _ ⟨he, hR⟩ => ⟨he, hr _ hR⟩
set_option maxRecDepth 100000 in
theorem T27 (vw1 : Option Addr) (s2 : ByteArray) (w : World) (R : World → Prop) (h : S27 vw1 s2 w R) : C27 vw1 s2 w R := by
  have e : fnT Try.prog FF pl27 Try.f27 [.pointer vw1, .string s2] w [] (fun _ w => R w) = S27 vw1 s2 w R := by kernel_rfl
  exact (fn_calls okF okM Try.func27 (by kernel_rfl) (by kernel_rfl) (e.mpr h)).mono fun _ _ ⟨_, he, hR⟩ => ⟨he, hR⟩

/-- (*foliant/bit.Writer).Len -/
def S29 (vw1 : Option Addr) (w : World) (R : Int → World → Prop) : Prop :=
  Br vw1.isNone (R 0 w) (Nn vw1 fun a2 =>
    Ld w (a2.add 2) Slc.v fun (x3 : Slc) =>
    R ((x3.len : Nat) : Int) w)
def C29 (vw1 : Option Addr) (w : World) (R : Int → World → Prop) : Prop :=
  Calls Try.prog 29 #[.pointer vw1] w fun e w' => ∃ r0 : Int, e = .returned (.int .i64 r0) ∧ R r0 w'
def pl29 : Plan := (.seq (.reg .seq) (.seq (.seq (.reg .seq) (.cond (.seq (.reg .seq) .leaf) .leaf)) (.seq (.reg .seq) .leaf)))
theorem C29.mono {vw1 : Option Addr} {w : World} {R R' : Int → World → Prop} (h : C29 vw1 w R) (hr : ∀ r0 w', R r0 w' → R' r0 w') : C29 vw1 w R' :=
  Calls.mono h fun _ _ ⟨r0, he, hR⟩ => ⟨r0, he, hr _ _ hR⟩
set_option maxRecDepth 100000 in
theorem T29 (vw1 : Option Addr) (w : World) (R : Int → World → Prop) (h : S29 vw1 w R) : C29 vw1 w R := by
  have e : fnT Try.prog FF pl29 Try.f29 [.pointer vw1] w [(.one (.int .i64))] (fun s w => R s w) = S29 vw1 w R := by kernel_rfl
  exact (fn_calls okF okM Try.func29 (by kernel_rfl) (by kernel_rfl) (e.mpr h)).mono fun _ _ ⟨s, he, hR⟩ => ⟨s, he, hR⟩

/-- slices.Clone[[]byte,byte] -/
def S86 (s1 : Slc) (w : World) (R : Slc → World → Prop) : Prop :=
  Br s1.p.isNone (R (⟨none, 0, 0⟩ : Slc) w) (Nw w (.cells #[] 5) fun vw2 =>
    Rn Try.prog (Builtin.append_ #[97, 97] 97 #[Slc.v ((⟨some ⟨w.heap.size, 0, none⟩, 0, 0⟩ : Slc)), Slc.v s1]) vw2 Slc.v fun (x3 : Slc) vw4 =>
    R x3 vw4)
def C86 (s1 : Slc) (w : World) (R : Slc → World → Prop) : Prop :=
  Calls Try.prog 86 #[Slc.v s1] w fun e w' => ∃ r0 : Slc, e = .returned (Slc.v r0) ∧ R r0 w'
def pl86 : Plan := (.seq (.reg .seq) (.seq (.seq (.reg .seq) (.cond (.seq (.reg .seq) .leaf) .leaf)) (.seq (.reg .seq) .leaf)))
theorem C86.mono {s1 : Slc} {w : World} {R R' : Slc → World → Prop} (h : C86 s1 w R) (hr : ∀ r0 w', R r0 w' → R' r0 w') : C86 s1 w R' :=
  Calls.mono h fun _ _ ⟨r0, he, hR⟩ => ⟨r0, he, hr _ _ hR⟩
set_option maxRecDepth 100000 in
theorem T86 (s1 : Slc) (w : World) (R : Slc → World → Prop) (h : S86 s1 w R) : C86 s1 w R := by
  have e : fnT Try.prog FF pl86 Try.f86 [Slc.v s1] w [(.one .slc)] (fun s w => R s w) = S86 s1 w R := by kernel_rfl
  exact (fn_calls okF okM Try.func86 (by kernel_rfl) (by kernel_rfl) (e.mpr h)).mono fun _ _ ⟨s, he, hR⟩ => ⟨s, he, hR⟩

/-- (*foliant/bit.Writer).Text -/
def S31 (vw1 : Option Addr) (w : World) (R : ByteArray → World → Prop) : Prop :=
  Br vw1.isNone (R (⟨#[]⟩ : ByteArray) w) (Nn vw1 fun a2 =>
    Ld w (a2.add 2) Slc.v fun (x3 : Slc) =>
    C86 x3 w fun r4 vw5 =>
      Rn Try.prog (convert 97 9 (Slc.v r4)) vw5 Value.string fun (x6 : ByteArray) vw7 =>
      R x6 vw7)
def C31 (vw1 : Option Addr) (w : World) (R : ByteArray → World → Prop) : Prop :=
  Calls Try.prog 31 #[.pointer vw1] w fun e w' => ∃ r0 : ByteArray, e = .returned (.string r0) ∧ R r0 w'
def pl31 : Plan := (.seq (.reg .seq) (.seq (.seq (.reg .seq) (.cond (.seq (.reg .seq) .leaf) .leaf)) (.seq (.reg .seq) .leaf)))
theorem C31.mono {vw1 : Option Addr} {w : World} {R R' : ByteArray → World → Prop} (h : C31 vw1 w R) (hr : ∀ r0 w', R r0 w' → R' r0 w') : C31 vw1 w R' :=
  Calls.mono h fun _ _ ⟨r0, he, hR⟩ => ⟨r0, he, hr _ _ hR⟩
set_option maxRecDepth 100000 in
theorem T31 (vw1 : Option Addr) (w : World) (R : ByteArray → World → Prop) (h : S31 vw1 w R) : C31 vw1 w R := by
  have e : fnT Try.prog FF pl31 Try.f31 [.pointer vw1] w [(.one .str)] (fun s w => R s w) = S31 vw1 w R := by kernel_rfl
  exact (fn_calls okF okM Try.func31 (by kernel_rfl) (by kernel_rfl) (e.mpr h)).mono fun _ _ ⟨s, he, hR⟩ => ⟨s, he, hR⟩

/-- (*foliant/bit.Reader).At -/
def S40 (r1 : Option Addr) (w : World) (R : Int → World → Prop) : Prop :=
  Br r1.isNone (R 0 w) (Nn r1 fun a6 =>
    Ld w (a6.add 1) (Value.int .i64) fun (x7 : Int) =>
    Br (decide (x7 > 0)) (Nn r1 fun a8 =>
      Ld w (a8.add 3) (Value.int .i64) fun (x9 : Int) =>
      R (IntKind.i64.wrap (x9 + 1)) w) (Nn r1 fun a10 =>
      Ld w (a10.add 3) (Value.int .i64) fun (x11 : Int) =>
      R x11 w))
def C40 (r1 : Option Addr) (w : World) (R : Int → World → Prop) : Prop :=
  Calls Try.prog 40 #[.pointer r1] w fun e w' => ∃ r0 : Int, e = .returned (.int .i64 r0) ∧ R r0 w'
def pl40 : Plan := (.seq (.reg .seq) (.seq (.seq (.reg .seq) (.cond (.seq (.reg .seq) .leaf) .leaf)) (.seq (.seq (.reg .seq) (.cond (.seq (.reg .seq) .leaf) .leaf)) (.seq (.reg .seq) .leaf))))
theorem C40.mono {r1 : Option Addr} {w : World} {R R' : Int → World → Prop} (h : C40 r1 w R) (hr : ∀ r0 w', R r0 w' → R' r0 w') : C40 r1 w R' :=
  Calls.mono h fun _ _ ⟨r0, he, hR⟩ => ⟨r0, he, hr _ _ hR⟩
set_option maxRecDepth 100000 in
theorem T40 (r1 : Option Addr) (w : World) (R : Int → World → Prop) (h : S40 r1 w R) : C40 r1 w R := by
  have e : fnT Try.prog FF pl40 Try.f40 [.pointer r1] w [(.one (.int .i64))] (fun s w => R s w) = S40 r1 w R := by kernel_rfl
  exact (fn_calls okF okM Try.func40 (by kernel_rfl) (by kernel_rfl) (e.mpr h)).mono fun _ _ ⟨s, he, hR⟩ => ⟨s, he, hR⟩

/-- foliant/foliantlaw09.lives -/
def S15 (w : World) (R : Bool → World → Prop) : Prop :=
  C16 (⟨#[202]⟩ : ByteArray) w fun r1 vw2 =>
    C16 (⟨#[202]⟩ : ByteArray) vw2 fun r3 vw4 =>
      Br r1.isNone (R false vw4) (Br r3.isNone (R false vw4) (C17 r1 4 vw4 fun r5 r6 vw7 =>
            C17 r1 4 vw7 fun r8 r9 vw10 =>
              C18 r3 4 vw10 fun r11 r12 vw13 =>
                C17 r3 1 vw13 fun r14 r15 vw16 =>
                  C18 r3 4 vw16 fun r17 r18 vw19 =>
                    C18 r3 1 vw19 fun r20 r21 vw22 =>
                      C19 vw22 fun r23 vw24 =>
                        Br r23.isNone (R false vw24) (Br (r5 != 10) (R false vw24) (Br (r6 != 0) (R false vw24) (Br (r8 != 12) (R false vw24) (Br (r9 != 0) (R false vw24) (Br (r11 != 12) (R false vw24) (Br (r12 != 0) (R false vw24) (Br (r15 != 1) (R false vw24) (Br (r17 != 10) (R false vw24) (Br (r18 != 0) (R false vw24) (Br (r21 != 4) (R false vw24) (C21 r23 1 1 vw24 fun r25 vw26 =>
                                                C21 r23 2 2 vw26 fun r27 vw28 =>
                                                  C21 r23 2 1 vw28 fun r29 vw30 =>
                                                    C31 r23 vw30 fun r31 vw32 =>
                                                      C27 r23 (⟨#[65]⟩ : ByteArray) vw32 fun vw33 =>
                                                        Br (r25 == 0) (Br (r27 == 0) (Br (r29 == 1) (Br (r31.toList == (⟨#[5]⟩ : ByteArray).toList) (C31 r23 vw33 fun r34 vw35 =>
                                                                  Br (r34.toList == (⟨#[5, 65]⟩ : ByteArray).toList) (C29 r23 vw35 fun r36 vw37 =>
                                                                      Br (r36 == 2) (C40 r1 vw37 fun r38 vw39 =>
                                                                          Br (r38 == 1) (C42 r1 vw39 fun r40 vw41 =>
                                                                              R (r40 == 0) vw41) (R false vw39)) (R false vw37)) (R false vw35)) (R false vw33)) (R false vw33)) (R false vw33)) (R false vw33))))))))))))))
def C15 (w : World) (R : Bool → World → Prop) : Prop :=
  Calls Try.prog 15 #[] w fun e w' => ∃ r0 : Bool, e = .returned (.bool r0) ∧ R r0 w'
def pl15 : Plan := (.seq (.reg .seq) (.seq (.reg .seq) (.seq (.seq (.reg .seq) (.cond (.seq (.reg .seq) .leaf) .leaf)) (.seq (.reg .seq) (.seq (.reg .seq) (.seq (.reg .seq) (.seq (.reg .seq) (.seq (.reg .seq) (.seq (.reg .seq) (.seq (.reg .seq) (.seq (.seq (.reg .seq) (.cond (.seq (.reg .seq) .leaf) .leaf)) (.seq (.reg .seq) (.seq (.reg .seq) (.seq (.reg .seq) (.seq (.reg .seq) .leaf)))))))))))))))
theorem C15.mono {w : World} {R R' : Bool → World → Prop} (h : C15 w R) (hr : ∀ r0 w', R r0 w' → R' r0 w') : C15 w R' :=
  Calls.mono h fun _ _ ⟨r0, he, hR⟩ => ⟨r0, he, hr _ _ hR⟩
set_option maxRecDepth 100000 in
theorem T15 (w : World) (R : Bool → World → Prop) (h : S15 w R) : C15 w R := by
  have e : fnT Try.prog FF pl15 Try.f15 [] w [(.one .bool)] (fun s w => R s w) = S15 w R := by kernel_rfl
  exact (fn_calls okF okM Try.func15 (by kernel_rfl) (by kernel_rfl) (e.mpr h)).mono fun _ _ ⟨s, he, hR⟩ => ⟨s, he, hR⟩

/-- foliant/foliantlaw09.BitJoins -/
def S3 (s1 : ByteArray) (ahead2 : Int) (n3 : Int) (m4 : Int) (w : World) (R : Bool → World → Prop) : Prop :=
  Br (decide ((((s1).size : Nat) : Int) > 300)) (C15 w fun r7 vw8 =>
      R r7 vw8) (C16 s1 w fun r9 vw10 =>
      C16 s1 vw10 fun r11 vw12 =>
        C16 s1 vw12 fun r13 vw14 =>
          C16 s1 vw14 fun r15 vw16 =>
            Br r9.isNone (Br (!(r9.isNone)) (Br (!(r11.isNone)) (Br (!(r13.isNone)) (Br (!(r15.isNone)) (C15 vw16 fun r29 vw30 =>
                        R r29 vw30) (R false vw16)) (R false vw16)) (R false vw16)) (R false vw16)) (Br r11.isNone (Br (!(r9.isNone)) (Br (!(r11.isNone)) (Br (!(r13.isNone)) (Br (!(r15.isNone)) (C15 vw16 fun r31 vw32 =>
                          R r31 vw32) (R false vw16)) (R false vw16)) (R false vw16)) (R false vw16)) (Br r13.isNone (Br (!(r9.isNone)) (Br (!(r11.isNone)) (Br (!(r13.isNone)) (Br (!(r15.isNone)) (C15 vw16 fun r33 vw34 =>
                            R r33 vw34) (R false vw16)) (R false vw16)) (R false vw16)) (R false vw16)) (Br r15.isNone (Br (!(r9.isNone)) (Br (!(r11.isNone)) (Br (!(r13.isNone)) (Br (!(r15.isNone)) (C15 vw16 fun r35 vw36 =>
                              R r35 vw36) (R false vw16)) (R false vw16)) (R false vw16)) (R false vw16)) (Lt (IntKind.i64.wrap ((IntKind.i64.wrap (Int.tmod ahead2 8)) + (IntKind.i64.wrap (Int.tmod n3 13)))) fun (x37 : Int) =>
                    Lt (decide ((IntKind.i64.wrap (8 * (((s1).size : Nat) : Int))) < (IntKind.i64.wrap (x37 + (IntKind.i64.wrap (Int.tmod m4 13)))))) fun (x38 : Bool) =>
                    Br x38 (Br (!(r9.isNone)) (Br (!(r11.isNone)) (Br (!(r13.isNone)) (Br (!(r15.isNone)) (C15 vw16 fun r39 vw40 =>
                                R r39 vw40) (R false vw16)) (R false vw16)) (R false vw16)) (R false vw16)) (C17 r9 (IntKind.i64.wrap (Int.tmod ahead2 8)) vw16 fun r41 r42 vw43 =>
                        C17 r13 (IntKind.i64.wrap (Int.tmod ahead2 8)) vw43 fun r44 r45 vw46 =>
                          C18 r11 (IntKind.i64.wrap (Int.tmod ahead2 8)) vw46 fun r47 r48 vw49 =>
                            C18 r15 (IntKind.i64.wrap (Int.tmod ahead2 8)) vw49 fun r50 r51 vw52 =>
                              C17 r9 (IntKind.i64.wrap (Int.tmod n3 13)) vw52 fun r53 r54 vw55 =>
                                C17 r9 (IntKind.i64.wrap (Int.tmod m4 13)) vw55 fun r56 r57 vw58 =>
                                  Lt (IntKind.i64.wrap ((IntKind.i64.wrap (Int.tmod n3 13)) + (IntKind.i64.wrap (Int.tmod m4 13)))) fun (x59 : Int) =>
                                  C17 r13 x59 vw58 fun r60 r61 vw62 =>
                                    C18 r11 (IntKind.i64.wrap (Int.tmod n3 13)) vw62 fun r63 r64 vw65 =>
                                      C18 r11 (IntKind.i64.wrap (Int.tmod m4 13)) vw65 fun r66 r67 vw68 =>
                                        Lt (IntKind.i64.wrap ((IntKind.i64.wrap (Int.tmod n3 13)) + (IntKind.i64.wrap (Int.tmod m4 13)))) fun (x69 : Int) =>
                                        C18 r15 x69 vw68 fun r70 r71 vw72 =>
                                          Br (r61 == 0) (Br (r71 == 0) (0 ≤ (IntKind.i64.wrap (Int.tmod n3 13)) ∧ Lt (IntKind.i64.wrap ((IntKind.i64.wrap (r56 * 2 ^ (min (IntKind.i64.wrap (Int.tmod n3 13)).toNat 64))) + r53)) fun (x73 : Int) =>
                                              Br (r60 == x73) (0 ≤ (IntKind.i64.wrap (Int.tmod m4 13)) ∧ Lt (IntKind.i64.wrap ((IntKind.i64.wrap (r63 * 2 ^ (min (IntKind.i64.wrap (Int.tmod m4 13)).toNat 64))) + r66)) fun (x74 : Int) =>
                                                Br (r70 == x74) (C15 vw72 fun r75 vw76 =>
                                                    R r75 vw76) (R false vw72)) (R false vw72)) (R false vw72)) (R false vw72)))))))
def C3 (s1 : ByteArray) (ahead2 : Int) (n3 : Int) (m4 : Int) (w : World) (R : Bool → World → Prop) : Prop :=
  Calls Try.prog 3 #[.string s1, .int .u8 ahead2, .int .u8 n3, .int .u8 m4] w fun e w' => ∃ r0 : Bool, e = .returned (.bool r0) ∧ R r0 w'
def pl3 : Plan := (.seq (.reg .seq) (.seq (.seq (.reg .seq) (.cond (.seq (.reg .seq) .leaf) .leaf)) (.seq (.reg .seq) (.seq (.reg .seq) (.seq (.seq (.reg .seq) (.cond (.seq (.reg .seq) .leaf) .leaf)) (.seq (.reg .seq) (.seq (.reg .seq) (.seq (.reg .seq) (.seq (.reg .seq) (.seq (.reg .seq) (.seq (.reg .seq) (.seq (.reg .seq) (.seq (.reg .seq) (.seq (.reg .seq) (.seq (.reg .seq) (.seq (.reg .seq) .leaf))))))))))))))))
theorem C3.mono {s1 : ByteArray} {ahead2 : Int} {n3 : Int} {m4 : Int} {w : World} {R R' : Bool → World → Prop} (h : C3 s1 ahead2 n3 m4 w R) (hr : ∀ r0 w', R r0 w' → R' r0 w') : C3 s1 ahead2 n3 m4 w R' :=
  Calls.mono h fun _ _ ⟨r0, he, hR⟩ => ⟨r0, he, hr _ _ hR⟩
set_option maxRecDepth 100000 in
theorem T3 (s1 : ByteArray) (ahead2 : Int) (n3 : Int) (m4 : Int) (w : World) (R : Bool → World → Prop) (h : S3 s1 ahead2 n3 m4 w R) : C3 s1 ahead2 n3 m4 w R := by
  have e : fnT Try.prog FF pl3 Try.f3 [.string s1, .int .u8 ahead2, .int .u8 n3, .int .u8 m4] w [(.one .bool)] (fun s w => R s w) = S3 s1 ahead2 n3 m4 w R := by kernel_rfl
  exact (fn_calls okF okM Try.func3 (by kernel_rfl) (by kernel_rfl) (e.mpr h)).mono fun _ _ ⟨s, he, hR⟩ => ⟨s, he, hR⟩

/-- foliant/foliantref09.New -/
def S20 (w : World) (R : Option Addr → World → Prop) : Prop :=
  Nw w (.cells #[Slc.v ((⟨none, 0, 0⟩ : Slc)), .int .i64 0, .int .i64 0] 101) fun vw1 =>
  R (some (⟨w.heap.size, 0, none⟩ : Addr)) vw1
def C20 (w : World) (R : Option Addr → World → Prop) : Prop :=
  Calls Try.prog 20 #[] w fun e w' => ∃ r0 : Option Addr, e = .returned (.pointer r0) ∧ R r0 w'
def pl20 : Plan := (.seq (.reg .seq) (.seq (.reg .seq) .leaf))
theorem C20.mono {w : World} {R R' : Option Addr → World → Prop} (h : C20 w R) (hr : ∀ r0 w', R r0 w' → R' r0 w') : C20 w R' :=
  Calls.mono h fun _ _ ⟨r0, he, hR⟩ => ⟨r0, he, hr _ _ hR⟩
set_option maxRecDepth 100000 in
theorem T20 (w : World) (R : Option Addr → World → Prop) (h : S20 w R) : C20 w R := by
  have e : fnT Try.prog FF pl20 Try.f20 [] w [(.one .ptr)] (fun s w => R s w) = S20 w R := by kernel_rfl
  exact (fn_calls okF okM Try.func20 (by kernel_rfl) (by kernel_rfl) (e.mpr h)).mono fun _ _ ⟨s, he, hR⟩ => ⟨s, he, hR⟩

def S85J1 (vw1 : Option Addr) (v2 : Int) (n3 : Int) (way4 : Int) (s11 : Int) (I13 : Int → World → Prop) (s23 : Unit) (vw24 : World) : Prop :=
  Nn vw1 fun a25 =>
  Ld vw24 a25 Slc.v fun (x26 : Slc) =>
  Br (way4 == 1) (Nn vw1 fun a50 =>
    Ld vw24.drew a50 Slc.v fun (x51 : Slc) =>
    Nn vw1 fun a52 =>
    Ld vw24.drew a52 Slc.v fun (x53 : Slc) =>
    0 ≤ (IntKind.i64.wrap (((x26.len : Nat) : Int) - 1)) ∧ (IntKind.i64.wrap (((x26.len : Nat) : Int) - 1)) < (x53.len : Nat) ∧ Nn x53.p fun a54 =>
    Ld vw24.drew (a54.add ((IntKind.i64.wrap (((x26.len : Nat) : Int) - 1)).toNat * 1)) (Value.int .u8) fun (x55 : Int) =>
    0 ≤ s11 ∧ Nn vw1 fun a56 =>
    Ld vw24.drew (a56.add 1) (Value.int .i64) fun (x57 : Int) =>
    0 ≤ x57 ∧ Lt (IntKind.i64.wrap ((Int.tmod (Int.fdiv v2 (2 ^ (min (s11).toNat 64))) 2) * 2 ^ (min (x57).toNat 64))) fun (x58 : Int) =>
    0 ≤ (IntKind.i64.wrap (((x26.len : Nat) : Int) - 1)) ∧ (IntKind.i64.wrap (((x26.len : Nat) : Int) - 1)) < (x51.len : Nat) ∧ Nn x51.p fun a59 =>
    St vw24.drew (a59.add ((IntKind.i64.wrap (((x26.len : Nat) : Int) - 1)).toNat * 1)) (.int .u8 (IntKind.u8.wrap (x55 + (IntKind.u8.wrap x58)))) fun vw60 =>
    Nn vw1 fun a61 =>
    Ld vw60 (a61.add 1) (Value.int .i64) fun (x62 : Int) =>
    Nn vw1 fun a63 =>
    St vw60 (a63.add 1) (.int .i64 (Int.tmod (IntKind.i64.wrap (x62 + 1)) 8)) fun vw64 =>
    Nn vw1 fun a65 =>
    St vw64 (a65.add 2) (.int .i64 way4) fun vw66 =>
    I13 (IntKind.i64.wrap (s11 + 1)) vw66) (Nn vw1 fun a67 =>
    Ld vw24.drew a67 Slc.v fun (x68 : Slc) =>
    Nn vw1 fun a69 =>
    Ld vw24.drew a69 Slc.v fun (x70 : Slc) =>
    0 ≤ (IntKind.i64.wrap (((x26.len : Nat) : Int) - 1)) ∧ (IntKind.i64.wrap (((x26.len : Nat) : Int) - 1)) < (x70.len : Nat) ∧ Nn x70.p fun a71 =>
    Ld vw24.drew (a71.add ((IntKind.i64.wrap (((x26.len : Nat) : Int) - 1)).toNat * 1)) (Value.int .u8) fun (x72 : Int) =>
    0 ≤ (IntKind.i64.wrap ((IntKind.i64.wrap (n3 - 1)) - s11)) ∧ Lt (Int.tmod (Int.fdiv v2 (2 ^ (min (IntKind.i64.wrap ((IntKind.i64.wrap (n3 - 1)) - s11)).toNat 64))) 2) fun (x73 : Int) =>
    Nn vw1 fun a74 =>
    Ld vw24.drew (a74.add 1) (Value.int .i64) fun (x75 : Int) =>
    0 ≤ (IntKind.i64.wrap (7 - x75)) ∧ Lt (IntKind.u8.wrap (x72 + (IntKind.u8.wrap (IntKind.i64.wrap (x73 * 2 ^ (min (IntKind.i64.wrap (7 - x75)).toNat 64)))))) fun (x76 : Int) =>
    0 ≤ (IntKind.i64.wrap (((x26.len : Nat) : Int) - 1)) ∧ (IntKind.i64.wrap (((x26.len : Nat) : Int) - 1)) < (x68.len : Nat) ∧ Nn x68.p fun a77 =>
    St vw24.drew (a77.add ((IntKind.i64.wrap (((x26.len : Nat) : Int) - 1)).toNat * 1)) (.int .u8 x76) fun vw78 =>
    Nn vw1 fun a79 =>
    Ld vw78 (a79.add 1) (Value.int .i64) fun (x80 : Int) =>
    Nn vw1 fun a81 =>
    St vw78 (a81.add 1) (.int .i64 (Int.tmod (IntKind.i64.wrap (x80 + 1)) 8)) fun vw82 =>
    Nn vw1 fun a83 =>
    St vw82 (a83.add 2) (.int .i64 way4) fun vw84 =>
    I13 (IntKind.i64.wrap (s11 + 1)) vw84)
def S85L1 (vw1 : Option Addr) (v2 : Int) (n3 : Int) (way4 : Int) (R : Int → World → Prop) (I13 : Int → World → Prop) (s11 : Int) (vw12 : World) : Prop :=
  Br (decide (s11 < n3)) (Join (S85J1 vw1 v2 n3 way4 s11 I13) fun (vJ85 : Unit → World → Prop) =>
      Nn vw1 fun a86 =>
      Ld vw12 (a86.add 1) (Value.int .i64) fun (x87 : Int) =>
      Br (x87 == 0) (Nn vw1 fun a88 =>
        Ld vw12 a88 Slc.v fun (x89 : Slc) =>
        Nw vw12 (.cells #[.int .u8 0] 5) fun vw90 =>
        Rn Try.prog (Builtin.append_ #[97, 97] 97 #[Slc.v x89, Slc.v ((⟨some ⟨vw12.heap.size, 0, none⟩, 1, 1⟩ : Slc))]) vw90 Slc.v fun (x91 : Slc) vw92 =>
        Nn vw1 fun a93 =>
        St vw92 a93 (Slc.v x91) fun vw94 =>
        vJ85 () vw94) (vJ85 () vw12)) (R 0 vw12)
def S85J2 (vw1 : Option Addr) (v2 : Int) (n3 : Int) (way4 : Int) (R : Int → World → Prop) (s9 : Unit) (vw10 : World) : Prop :=
  Lp (σ := Int) (S85L1 vw1 v2 n3 way4 R) 0 vw10
/-- (*foliant/foliantref09.Writer).put -/
def S85 (vw1 : Option Addr) (v2 : Int) (n3 : Int) (way4 : Int) (w : World) (R : Int → World → Prop) : Prop :=
  Join (S85J2 vw1 v2 n3 way4 R) fun (vJ95 : Unit → World → Prop) =>
    Br vw1.isNone (R 1 w) (Br (decide (n3 < 0)) (R 1 w) (Br (decide (n3 > 24)) (R 1 w) (Br (decide (v2 < 0)) (R 1 w) (0 ≤ n3 ∧ Br (decide (v2 ≥ (IntKind.i64.wrap (1 * 2 ^ (min (n3).toNat 64))))) (R 1 w) (Nn vw1 fun a96 =>
              Ld w (a96.add 2) (Value.int .i64) fun (x97 : Int) =>
              Br (x97 != 0) (Nn vw1 fun a98 =>
                Ld w (a98.add 2) (Value.int .i64) fun (x99 : Int) =>
                Br (x99 != way4) (R 1 w) (vJ95 () w)) (vJ95 () w))))))
def C85 (vw1 : Option Addr) (v2 : Int) (n3 : Int) (way4 : Int) (w : World) (R : Int → World → Prop) : Prop :=
  Calls Try.prog 85 #[.pointer vw1, .int .i64 v2, .int .i64 n3, .int .i64 way4] w fun e w' => ∃ r0 : Int, e = .returned (.int .i64 r0) ∧ R r0 w'
def pl85 : Plan := (.seq (.reg .seq) (.join [] [0, 1, 2, 3] (.seq (.reg .seq) (.cond (.seq (.reg .seq) .leaf) .leaf)) (.seq (.seq (.reg .seq) (.block (.loop [(9, (.one (.int .i64)))] [0, 1, 2, 3] (.seq (.seq (.reg .seq) (.cond .leaf .leaf)) (.seq (.block (.join [] [0, 1, 2, 3, 9] (.seq (.reg .seq) (.cond (.reg .seq) .leaf)) (.seq (.reg .seq) (.seq (.seq (.reg .seq) (.cond (.reg (.tail 24)) (.reg (.tail 28)))) (.seq (.reg .seq) (.reg .seq)))))) (.reg .seq)))))) (.seq (.reg .seq) .leaf))))
theorem C85.mono {vw1 : Option Addr} {v2 : Int} {n3 : Int} {way4 : Int} {w : World} {R R' : Int → World → Prop} (h : C85 vw1 v2 n3 way4 w R) (hr : ∀ r0 w', R r0 w' → R' r0 w') : C85 vw1 v2 n3 way4 w R' :=
  Calls.mono h fun _ _ ⟨r0, he, hR⟩ => ⟨r0, he, hr _ _ hR⟩
set_option maxRecDepth 100000 in
theorem T85 (vw1 : Option Addr) (v2 : Int) (n3 : Int) (way4 : Int) (w : World) (R : Int → World → Prop) (h : S85 vw1 v2 n3 way4 w R) : C85 vw1 v2 n3 way4 w R := by
  have e : fnT Try.prog FF pl85 Try.f85 [.pointer vw1, .int .i64 v2, .int .i64 n3, .int .i64 way4] w [(.one (.int .i64))] (fun s w => R s w) = S85 vw1 v2 n3 way4 w R := by kernel_rfl
  exact (fn_calls okF okM Try.func85 (by kernel_rfl) (by kernel_rfl) (e.mpr h)).mono fun _ _ ⟨s, he, hR⟩ => ⟨s, he, hR⟩

/-- (*foliant/foliantref09.Writer).Low -/
def S22 (vw1 : Option Addr) (v2 : Int) (n3 : Int) (w : World) (R : Int → World → Prop) : Prop :=
  C85 vw1 v2 n3 1 w fun r4 vw5 =>
    R r4 vw5
def C22 (vw1 : Option Addr) (v2 : Int) (n3 : Int) (w : World) (R : Int → World → Prop) : Prop :=
  Calls Try.prog 22 #[.pointer vw1, .int .i64 v2, .int .i64 n3] w fun e w' => ∃ r0 : Int, e = .returned (.int .i64 r0) ∧ R r0 w'
def pl22 : Plan := (.seq (.reg .seq) (.seq (.reg .seq) .leaf))
theorem C22.mono {vw1 : Option Addr} {v2 : Int} {n3 : Int} {w : World} {R R' : Int → World → Prop} (h : C22 vw1 v2 n3 w R) (hr : ∀ r0 w', R r0 w' → R' r0 w') : C22 vw1 v2 n3 w R' :=
  Calls.mono h fun _ _ ⟨r0, he, hR⟩ => ⟨r0, he, hr _ _ hR⟩
set_option maxRecDepth 100000 in
theorem T22 (vw1 : Option Addr) (v2 : Int) (n3 : Int) (w : World) (R : Int → World → Prop) (h : S22 vw1 v2 n3 w R) : C22 vw1 v2 n3 w R := by
  have e : fnT Try.prog FF pl22 Try.f22 [.pointer vw1, .int .i64 v2, .int .i64 n3] w [(.one (.int .i64))] (fun s w => R s w) = S22 vw1 v2 n3 w R := by kernel_rfl
  exact (fn_calls okF okM Try.func22 (by kernel_rfl) (by kernel_rfl) (e.mpr h)).mono fun _ _ ⟨s, he, hR⟩ => ⟨s, he, hR⟩

/-- (*foliant/bit.Writer).High -/
def S23 (vw1 : Option Addr) (v2 : Int) (n3 : Int) (w : World) (R : Int → World → Prop) : Prop :=
  C84 vw1 v2 n3 2 w fun r4 vw5 =>
    R r4 vw5
def C23 (vw1 : Option Addr) (v2 : Int) (n3 : Int) (w : World) (R : Int → World → Prop) : Prop :=
  Calls Try.prog 23 #[.pointer vw1, .int .i64 v2, .int .i64 n3] w fun e w' => ∃ r0 : Int, e = .returned (.int .i64 r0) ∧ R r0 w'
def pl23 : Plan := (.seq (.reg .seq) (.seq (.reg .seq) .leaf))
theorem C23.mono {vw1 : Option Addr} {v2 : Int} {n3 : Int} {w : World} {R R' : Int → World → Prop} (h : C23 vw1 v2 n3 w R) (hr : ∀ r0 w', R r0 w' → R' r0 w') : C23 vw1 v2 n3 w R' :=
  Calls.mono h fun _ _ ⟨r0, he, hR⟩ => ⟨r0, he, hr _ _ hR⟩
set_option maxRecDepth 100000 in
theorem T23 (vw1 : Option Addr) (v2 : Int) (n3 : Int) (w : World) (R : Int → World → Prop) (h : S23 vw1 v2 n3 w R) : C23 vw1 v2 n3 w R := by
  have e : fnT Try.prog FF pl23 Try.f23 [.pointer vw1, .int .i64 v2, .int .i64 n3] w [(.one (.int .i64))] (fun s w => R s w) = S23 vw1 v2 n3 w R := by kernel_rfl
  exact (fn_calls okF okM Try.func23 (by kernel_rfl) (by kernel_rfl) (e.mpr h)).mono fun _ _ ⟨s, he, hR⟩ => ⟨s, he, hR⟩

/-- (*foliant/foliantref09.Writer).High -/
def S24 (vw1 : Option Addr) (v2 : Int) (n3 : Int) (w : World) (R : Int → World → Prop) : Prop :=
  C85 vw1 v2 n3 2 w fun r4 vw5 =>
    R r4 vw5
def C24 (vw1 : Option Addr) (v2 : Int) (n3 : Int) (w : World) (R : Int → World → Prop) : Prop :=
  Calls Try.prog 24 #[.pointer vw1, .int .i64 v2, .int .i64 n3] w fun e w' => ∃ r0 : Int, e = .returned (.int .i64 r0) ∧ R r0 w'
def pl24 : Plan := (.seq (.reg .seq) (.seq (.reg .seq) .leaf))
theorem C24.mono {vw1 : Option Addr} {v2 : Int} {n3 : Int} {w : World} {R R' : Int → World → Prop} (h : C24 vw1 v2 n3 w R) (hr : ∀ r0 w', R r0 w' → R' r0 w') : C24 vw1 v2 n3 w R' :=
  Calls.mono h fun _ _ ⟨r0, he, hR⟩ => ⟨r0, he, hr _ _ hR⟩
set_option maxRecDepth 100000 in
theorem T24 (vw1 : Option Addr) (v2 : Int) (n3 : Int) (w : World) (R : Int → World → Prop) (h : S24 vw1 v2 n3 w R) : C24 vw1 v2 n3 w R := by
  have e : fnT Try.prog FF pl24 Try.f24 [.pointer vw1, .int .i64 v2, .int .i64 n3] w [(.one (.int .i64))] (fun s w => R s w) = S24 vw1 v2 n3 w R := by kernel_rfl
  exact (fn_calls okF okM Try.func24 (by kernel_rfl) (by kernel_rfl) (e.mpr h)).mono fun _ _ ⟨s, he, hR⟩ => ⟨s, he, hR⟩

/-- (*foliant/foliantref09.Writer).Align -/
def S26 (vw1 : Option Addr) (w : World) (R : World → Prop) : Prop :=
  Br (!(vw1.isNone)) (Nn vw1 fun a2 =>
    St w (a2.add 1) (.int .i64 0) fun vw3 =>
    Nn vw1 fun a4 =>
    St vw3 (a4.add 2) (.int .i64 0) fun vw5 =>
    R vw5) (R w)
def C26 (vw1 : Option Addr) (w : World) (R : World → Prop) : Prop :=
  Calls Try.prog 26 #[.pointer vw1] w fun e w' => e = .returned (.tuple #[]) ∧ R w'
def pl26 : Plan := (.seq (.reg .seq) (.cond (.seq (.reg .seq) (.reg .seq)) .leaf))
theorem C26.mono {vw1 : Option Addr} {w : World} {R R' : World → Prop} (h : C26 vw1 w R) (hr : ∀ w', R w' → R' w') : C26 vw1 w R' :=
  Calls.mono h fun _ _ ⟨he, hR⟩ => ⟨he, hr _ hR⟩
set_option maxRecDepth 100000 in
theorem T26 (vw1 : Option Addr) (w : World) (R : World → Prop) (h : S26 vw1 w R) : C26 vw1 w R := by
  have e : fnT Try.prog FF pl26 Try.f26 [.pointer vw1] w [] (fun _ w => R w) = S26 vw1 w R := by kernel_rfl
  exact (fn_calls okF okM Try.func26 (by kernel_rfl) (by kernel_rfl) (e.mpr h)).mono fun _ _ ⟨_, he, hR⟩ => ⟨he, hR⟩

/-- (*foliant/foliantref09.Writer).Raw -/
def S28 (vw1 : Option Addr) (s2 : ByteArray) (w : World) (R : World → Prop) : Prop :=
  Br vw1.isNone (R w) (Nn vw1 fun a6 =>
    Ld w (a6.add 1) (Value.int .i64) fun (x7 : Int) =>
    Br (decide (x7 > 0)) (C26 vw1 w fun vw8 =>
        Nn vw1 fun a9 =>
        Ld vw8 a9 Slc.v fun (x10 : Slc) =>
        Rn Try.prog (Builtin.append_ #[97, 9] 97 #[Slc.v x10, .string s2]) vw8 Slc.v fun (x11 : Slc) vw12 =>
        Nn vw1 fun a13 =>
        St vw12 a13 (Slc.v x11) fun vw14 =>
        R vw14) (Nn vw1 fun a15 =>
      Ld w a15 Slc.v fun (x16 : Slc) =>
      Rn Try.prog (Builtin.append_ #[97, 9] 97 #[Slc.v x16, .string s2]) w Slc.v fun (x17 : Slc) vw18 =>
      Nn vw1 fun a19 =>
      St vw18 a19 (Slc.v x17) fun vw20 =>
      R vw20))
def C28 (vw1 : Option Addr) (s2 : ByteArray) (w : World) (R : World → Prop) : Prop :=
  Calls Try.prog 28 #[.pointer vw1, .string s2] w fun e w' => e = .returned (.tuple #[]) ∧ R w'
def pl28 : Plan := (.seq (.seq (.reg .seq) (.cond .leaf .leaf)) (.seq (.seq (.reg .seq) (.cond (.reg .seq) .leaf)) (.reg .seq)))
theorem C28.mono {vw1 : Option Addr} {s2 : ByteArray} {w : World} {R R' : World → Prop} (h : C28 vw1 s2 w R) (hr : ∀ w', R w' → R' w') : C28 vw1 s2 w R' :=
  Calls.mono h fun _ _ ⟨he, hR⟩ => ⟨he, hr _ hR⟩
set_option maxRecDepth 100000 in
theorem T28 (vw1 : Option Addr) (s2 : ByteArray) (w : World) (R : World → Prop) (h : S28 vw1 s2 w R) : C28 vw1 s2 w R := by
  have e : fnT Try.prog FF pl28 Try.f28 [.pointer vw1, .string s2] w [] (fun _ w => R w) = S28 vw1 s2 w R := by kernel_rfl
  exact (fn_calls okF okM Try.func28 (by kernel_rfl) (by kernel_rfl) (e.mpr h)).mono fun _ _ ⟨_, he, hR⟩ => ⟨he, hR⟩

/-- (*foliant/foliantref09.Writer).Len -/
def S30 (vw1 : Option Addr) (w : World) (R : Int → World → Prop) : Prop :=
  Br vw1.isNone (R 0 w) (Nn vw1 fun a2 =>
    Ld w a2 Slc.v fun (x3 : Slc) =>
    R ((x3.len : Nat) : Int) w)
def C30 (vw1 : Option Addr) (w : World) (R : Int → World → Prop) : Prop :=
  Calls Try.prog 30 #[.pointer vw1] w fun e w' => ∃ r0 : Int, e = .returned (.int .i64 r0) ∧ R r0 w'
def pl30 : Plan := (.seq (.reg .seq) (.seq (.seq (.reg .seq) (.cond (.seq (.reg .seq) .leaf) .leaf)) (.seq (.reg .seq) .leaf)))
theorem C30.mono {vw1 : Option Addr} {w : World} {R R' : Int → World → Prop} (h : C30 vw1 w R) (hr : ∀ r0 w', R r0 w' → R' r0 w') : C30 vw1 w R' :=
  Calls.mono h fun _ _ ⟨r0, he, hR⟩ => ⟨r0, he, hr _ _ hR⟩
set_option maxRecDepth 100000 in
theorem T30 (vw1 : Option Addr) (w : World) (R : Int → World → Prop) (h : S30 vw1 w R) : C30 vw1 w R := by
  have e : fnT Try.prog FF pl30 Try.f30 [.pointer vw1] w [(.one (.int .i64))] (fun s w => R s w) = S30 vw1 w R := by kernel_rfl
  exact (fn_calls okF okM Try.func30 (by kernel_rfl) (by kernel_rfl) (e.mpr h)).mono fun _ _ ⟨s, he, hR⟩ => ⟨s, he, hR⟩

/-- (*foliant/foliantref09.Writer).Text -/
def S32 (vw1 : Option Addr) (w : World) (R : ByteArray → World → Prop) : Prop :=
  Br vw1.isNone (R (⟨#[]⟩ : ByteArray) w) (Nn vw1 fun a2 =>
    Ld w a2 Slc.v fun (x3 : Slc) =>
    Rn Try.prog (convert 97 9 (Slc.v x3)) w Value.string fun (x4 : ByteArray) vw5 =>
    R x4 vw5)
def C32 (vw1 : Option Addr) (w : World) (R : ByteArray → World → Prop) : Prop :=
  Calls Try.prog 32 #[.pointer vw1] w fun e w' => ∃ r0 : ByteArray, e = .returned (.string r0) ∧ R r0 w'
def pl32 : Plan := (.seq (.reg .seq) (.seq (.seq (.reg .seq) (.cond (.seq (.reg .seq) .leaf) .leaf)) (.seq (.reg .seq) .leaf)))
theorem C32.mono {vw1 : Option Addr} {w : World} {R R' : ByteArray → World → Prop} (h : C32 vw1 w R) (hr : ∀ r0 w', R r0 w' → R' r0 w') : C32 vw1 w R' :=
  Calls.mono h fun _ _ ⟨r0, he, hR⟩ => ⟨r0, he, hr _ _ hR⟩
set_option maxRecDepth 100000 in
theorem T32 (vw1 : Option Addr) (w : World) (R : ByteArray → World → Prop) (h : S32 vw1 w R) : C32 vw1 w R := by
  have e : fnT Try.prog FF pl32 Try.f32 [.pointer vw1] w [(.one .str)] (fun s w => R s w) = S32 vw1 w R := by kernel_rfl
  exact (fn_calls okF okM Try.func32 (by kernel_rfl) (by kernel_rfl) (e.mpr h)).mono fun _ _ ⟨s, he, hR⟩ => ⟨s, he, hR⟩

def S4J1 (r6 : Option Addr) (r8 : Option Addr) (s10 : Int) (I12 : Int → World → Prop) (R : Bool → World → Prop) (s57 : Unit) (vw58 : World) : Prop :=
  C29 r6 vw58 fun r59 vw60 =>
    C30 r8 vw60 fun r61 vw62 =>
      Br (r59 != r61) (R false vw62) (C31 r6 vw62 fun r63 vw64 =>
          C32 r8 vw64 fun r65 vw66 =>
            Br (!(r63.toList == r65.toList)) (R false vw66) (I12 (IntKind.i64.wrap (s10 + 1)) vw66))
def S4L1 (l1 : Slc) (r6 : Option Addr) (r8 : Option Addr) (R : Bool → World → Prop) (I12 : Int → World → Prop) (s10 : Int) (vw11 : World) : Prop :=
  Br (decide (s10 < ((l1.len : Nat) : Int))) (0 ≤ s10 ∧ s10 < (l1.len : Nat) ∧ Nn l1.p fun a17 =>
    Ld vw11 ((a17.add ((s10).toNat * 4)).add 3) Value.string fun (x18 : ByteArray) =>
    Br (decide ((((x18).size : Nat) : Int) > 300)) (C15 vw11 fun r19 vw20 =>
        R r19 vw20) (Join (S4J1 r6 r8 s10 I12 R) fun (vJ67 : Unit → World → Prop) =>
        0 ≤ s10 ∧ s10 < (l1.len : Nat) ∧ Nn l1.p fun a68 =>
        Ld vw11 (a68.add ((s10).toNat * 4)) (Value.int .i64) fun (x69 : Int) =>
        Br (x69 == 0) (∃ vS70 : World → Prop, vS70 vw11.drew ∧ 0 ≤ s10 ∧ s10 < (l1.len : Nat) ∧ Nn l1.p fun a71 =>
          LdS vS70 ((a71.add ((s10).toNat * 4)).add 2) (Value.int .i64) fun (x72 : Int) =>
          0 ≤ s10 ∧ s10 < (l1.len : Nat) ∧ Nn l1.p fun a73 =>
          LdS vS70 ((a73.add ((s10).toNat * 4)).add 1) (Value.int .i64) fun (x74 : Int) =>
          0 ≤ s10 ∧ s10 < (l1.len : Nat) ∧ Nn l1.p fun a75 =>
          LdS vS70 ((a75.add ((s10).toNat * 4)).add 2) (Value.int .i64) fun (x76 : Int) =>
          0 ≤ s10 ∧ s10 < (l1.len : Nat) ∧ Nn l1.p fun a77 =>
          LdS vS70 ((a77.add ((s10).toNat * 4)).add 1) (Value.int .i64) fun (x78 : Int) =>
          C21 r6 x72 x74 vw11.drew fun r79 vw80 =>
            vS70 vw80 ∧ C22 r8 x76 x78 vw80 fun r81 vw82 =>
              Br (r79 != r81) (R false vw82) (vJ67 () vw82)) (Br (x69 == 1) (∃ vS83 : World → Prop, vS83 vw11.drew ∧ 0 ≤ s10 ∧ s10 < (l1.len : Nat) ∧ Nn l1.p fun a84 =>
            LdS vS83 ((a84.add ((s10).toNat * 4)).add 2) (Value.int .i64) fun (x85 : Int) =>
            0 ≤ s10 ∧ s10 < (l1.len : Nat) ∧ Nn l1.p fun a86 =>
            LdS vS83 ((a86.add ((s10).toNat * 4)).add 1) (Value.int .i64) fun (x87 : Int) =>
            0 ≤ s10 ∧ s10 < (l1.len : Nat) ∧ Nn l1.p fun a88 =>
            LdS vS83 ((a88.add ((s10).toNat * 4)).add 2) (Value.int .i64) fun (x89 : Int) =>
            0 ≤ s10 ∧ s10 < (l1.len : Nat) ∧ Nn l1.p fun a90 =>
            LdS vS83 ((a90.add ((s10).toNat * 4)).add 1) (Value.int .i64) fun (x91 : Int) =>
            C23 r6 x85 x87 vw11.drew fun r92 vw93 =>
              vS83 vw93 ∧ C24 r8 x89 x91 vw93 fun r94 vw95 =>
                Br (r92 != r94) (R false vw95) (vJ67 () vw95)) (Br (x69 == 2) (C25 r6 vw11 fun vw96 =>
                C26 r8 vw96 fun vw97 =>
                  vJ67 () vw97) (Br (x69 == 3) (0 ≤ s10 ∧ s10 < (l1.len : Nat) ∧ Nn l1.p fun a98 =>
                Ld vw11 ((a98.add ((s10).toNat * 4)).add 3) Value.string fun (x99 : ByteArray) =>
                C27 r6 x99 vw11 fun vw100 =>
                  0 ≤ s10 ∧ s10 < (l1.len : Nat) ∧ Nn l1.p fun a101 =>
                  Ld vw100 ((a101.add ((s10).toNat * 4)).add 3) Value.string fun (x102 : ByteArray) =>
                  C28 r8 x102 vw100 fun vw103 =>
                    vJ67 () vw103) (vJ67 () vw11)))))) (C15 vw11 fun r104 vw105 =>
      R r104 vw105)
/-- foliant/foliantlaw09.BitWrites -/
def S4 (l1 : Slc) (w : World) (R : Bool → World → Prop) : Prop :=
  Br (decide (((l1.len : Nat) : Int) > 60)) (C15 w fun r4 vw5 =>
      R r4 vw5) (C19 w fun r6 vw7 =>
      C20 vw7 fun r8 vw9 =>
        Br r6.isNone (R false vw9) (Lp (σ := Int) (S4L1 l1 r6 r8 R) 0 vw9))
def C4 (l1 : Slc) (w : World) (R : Bool → World → Prop) : Prop :=
  Calls Try.prog 4 #[Slc.v l1] w fun e w' => ∃ r0 : Bool, e = .returned (.bool r0) ∧ R r0 w'
def pl4 : Plan := (.seq (.reg .seq) (.seq (.seq (.reg .seq) (.cond (.seq (.reg .seq) .leaf) .leaf)) (.seq (.reg .seq) (.seq (.seq (.reg .seq) (.cond (.seq (.reg .seq) .leaf) .leaf)) (.seq (.seq (.reg .seq) (.block (.loop [(5, (.one (.int .i64)))] [0, 3, 4] (.seq (.seq (.reg .seq) (.cond .leaf .leaf)) (.seq (.block (.seq (.seq (.reg .seq) (.cond (.seq (.reg .seq) .leaf) .leaf)) (.join [] [0, 3, 4, 5] (.seq (.reg .seq) (.block (.seq (.reg .seq) (.cond (.seq (.reg (.held [23] (.take 0 (.take 1 (.take 2 (.take 3 (.take 4 (.take 5 (.take 6 (.take 7 (.take 8 (.take 9 (.take 10 (.take 12 (.take 13 (.take 14 (.take 15 (.take 16 (.take 17 (.take 18 (.take 19 (.take 20 (.take 21 (.take 22 (.eff 11 none (.eff 23 (some []) (.take 24 .done))))))))))))))))))))))))))) (.cond (.seq (.reg .seq) .leaf) .leaf)) (.seq (.reg .seq) (.cond (.seq (.reg (.held [23] (.take 0 (.take 1 (.take 2 (.take 3 (.take 4 (.take 5 (.take 6 (.take 7 (.take 8 (.take 9 (.take 10 (.take 12 (.take 13 (.take 14 (.take 15 (.take 16 (.take 17 (.take 18 (.take 19 (.take 20 (.take 21 (.take 22 (.eff 11 none (.eff 23 (some []) (.take 24 .done))))))))))))))))))))))))))) (.cond (.seq (.reg .seq) .leaf) .leaf)) (.seq (.reg .seq) (.cond (.seq (.reg .seq) (.reg .seq)) (.seq (.reg .seq) (.cond (.seq (.reg .seq) (.reg .seq)) .leaf)))))))))) (.seq (.reg .seq) (.cond (.seq (.reg .seq) .leaf) .leaf))))) (.reg .seq)))))) (.seq (.reg .seq) .leaf))))))
theorem C4.mono {l1 : Slc} {w : World} {R R' : Bool → World → Prop} (h : C4 l1 w R) (hr : ∀ r0 w', R r0 w' → R' r0 w') : C4 l1 w R' :=
  Calls.mono h fun _ _ ⟨r0, he, hR⟩ => ⟨r0, he, hr _ _ hR⟩
set_option maxRecDepth 100000 in
theorem T4 (l1 : Slc) (w : World) (R : Bool → World → Prop) (h : S4 l1 w R) : C4 l1 w R := by
  have e : fnT Try.prog FF pl4 Try.f4 [Slc.v l1] w [(.one .bool)] (fun s w => R s w) = S4 l1 w R := by kernel_rfl
  exact (fn_calls okF okM Try.func4 (by kernel_rfl) (by kernel_rfl) (e.mpr h)).mono fun _ _ ⟨s, he, hR⟩ => ⟨s, he, hR⟩

/-- foliant/foliantref09.From -/
def S33 (s1 : ByteArray) (w : World) (R : Option Addr → World → Prop) : Prop :=
  Nw w (.cells #[.string s1, .int .i64 0, .int .i64 0] 105) fun vw2 =>
  R (some (⟨w.heap.size, 0, none⟩ : Addr)) vw2
def C33 (s1 : ByteArray) (w : World) (R : Option Addr → World → Prop) : Prop :=
  Calls Try.prog 33 #[.string s1] w fun e w' => ∃ r0 : Option Addr, e = .returned (.pointer r0) ∧ R r0 w'
def pl33 : Plan := (.seq (.reg .seq) (.seq (.reg .seq) .leaf))
theorem C33.mono {s1 : ByteArray} {w : World} {R R' : Option Addr → World → Prop} (h : C33 s1 w R) (hr : ∀ r0 w', R r0 w' → R' r0 w') : C33 s1 w R' :=
  Calls.mono h fun _ _ ⟨r0, he, hR⟩ => ⟨r0, he, hr _ _ hR⟩
set_option maxRecDepth 100000 in
theorem T33 (s1 : ByteArray) (w : World) (R : Option Addr → World → Prop) (h : S33 s1 w R) : C33 s1 w R := by
  have e : fnT Try.prog FF pl33 Try.f33 [.string s1] w [(.one .ptr)] (fun s w => R s w) = S33 s1 w R := by kernel_rfl
  exact (fn_calls okF okM Try.func33 (by kernel_rfl) (by kernel_rfl) (e.mpr h)).mono fun _ _ ⟨s, he, hR⟩ => ⟨s, he, hR⟩

/-- (*foliant/foliantref09.Reader).Left -/
def S43 (r1 : Option Addr) (w : World) (R : Int → World → Prop) : Prop :=
  Br r1.isNone (R 0 w) (Nn r1 fun a2 =>
    Ld w.drew a2 Value.string fun (x3 : ByteArray) =>
    Nn r1 fun a4 =>
    Ld w.drew (a4.add 1) (Value.int .i64) fun (x5 : Int) =>
    R (IntKind.i64.wrap ((IntKind.i64.wrap (8 * (((x3).size : Nat) : Int))) - x5)) w.drew)
def C43 (r1 : Option Addr) (w : World) (R : Int → World → Prop) : Prop :=
  Calls Try.prog 43 #[.pointer r1] w fun e w' => ∃ r0 : Int, e = .returned (.int .i64 r0) ∧ R r0 w'
def pl43 : Plan := (.seq (.reg .seq) (.seq (.seq (.reg .seq) (.cond (.seq (.reg .seq) .leaf) .leaf)) (.seq (.reg .still) .leaf)))
theorem C43.mono {r1 : Option Addr} {w : World} {R R' : Int → World → Prop} (h : C43 r1 w R) (hr : ∀ r0 w', R r0 w' → R' r0 w') : C43 r1 w R' :=
  Calls.mono h fun _ _ ⟨r0, he, hR⟩ => ⟨r0, he, hr _ _ hR⟩
set_option maxRecDepth 100000 in
theorem T43 (r1 : Option Addr) (w : World) (R : Int → World → Prop) (h : S43 r1 w R) : C43 r1 w R := by
  have e : fnT Try.prog FF pl43 Try.f43 [.pointer r1] w [(.one (.int .i64))] (fun s w => R s w) = S43 r1 w R := by kernel_rfl
  exact (fn_calls okF okM Try.func43 (by kernel_rfl) (by kernel_rfl) (e.mpr h)).mono fun _ _ ⟨s, he, hR⟩ => ⟨s, he, hR⟩

def S87L1 (r1 : Option Addr) (n2 : Int) (way3 : Int) (R : Int → Int → World → Prop) (I16 : (Int × Int) → World → Prop) (s14 : Int × Int) (vw15 : World) : Prop :=
  Br (decide (s14.2 < n2)) (Nn r1 fun a17 =>
    Ld vw15.drew a17 Value.string fun (x18 : ByteArray) =>
    Nn r1 fun a19 =>
    Ld vw15.drew (a19.add 1) (Value.int .i64) fun (x20 : Int) =>
    0 ≤ (IntKind.i64.wrap (Int.tdiv x20 8)) ∧ (IntKind.i64.wrap (Int.tdiv x20 8)) < ((x18).size : Nat) ∧ Nn r1 fun a21 =>
    Ld vw15.drew (a21.add 1) (Value.int .i64) fun (x22 : Int) =>
    Br (way3 == 1) (0 ≤ (Int.tmod x22 8) ∧ Lt (Int.fdiv (IntKind.i64.wrap (bAt x18 (IntKind.i64.wrap (Int.tdiv x20 8)))) (2 ^ (min (Int.tmod x22 8).toNat 64))) fun (x26 : Int) =>
      0 ≤ s14.2 ∧ Lt (IntKind.i64.wrap (s14.1 + (IntKind.i64.wrap ((Int.tmod x26 2) * 2 ^ (min (s14.2).toNat 64))))) fun (x27 : Int) =>
      Nn r1 fun a28 =>
      Ld vw15.drew (a28.add 1) (Value.int .i64) fun (x29 : Int) =>
      Nn r1 fun a30 =>
      St vw15.drew (a30.add 1) (.int .i64 (IntKind.i64.wrap (x29 + 1))) fun vw31 =>
      Nn r1 fun a32 =>
      St vw31 (a32.add 2) (.int .i64 way3) fun vw33 =>
      I16 (x27, IntKind.i64.wrap (s14.2 + 1)) vw33) (0 ≤ (IntKind.i64.wrap (7 - (Int.tmod x22 8))) ∧ Lt (Int.fdiv (IntKind.i64.wrap (bAt x18 (IntKind.i64.wrap (Int.tdiv x20 8)))) (2 ^ (min (IntKind.i64.wrap (7 - (Int.tmod x22 8))).toNat 64))) fun (x34 : Int) =>
      Nn r1 fun a35 =>
      Ld vw15.drew (a35.add 1) (Value.int .i64) fun (x36 : Int) =>
      Nn r1 fun a37 =>
      St vw15.drew (a37.add 1) (.int .i64 (IntKind.i64.wrap (x36 + 1))) fun vw38 =>
      Nn r1 fun a39 =>
      St vw38 (a39.add 2) (.int .i64 way3) fun vw40 =>
      I16 (IntKind.i64.wrap ((IntKind.i64.wrap (2 * s14.1)) + (Int.tmod x34 2)), IntKind.i64.wrap (s14.2 + 1)) vw40)) (R s14.1 0 vw15)
def S87J1 (r1 : Option Addr) (n2 : Int) (way3 : Int) (R : Int → Int → World → Prop) (s8 : Unit) (vw9 : World) : Prop :=
  C43 r1 vw9 fun r12 vw13 =>
    Br (decide (n2 > r12)) (R 0 4 vw13) (Lp (σ := Int × Int) (S87L1 r1 n2 way3 R) (0, 0) vw13)
/-- (*foliant/foliantref09.Reader).take -/
def S87 (r1 : Option Addr) (n2 : Int) (way3 : Int) (w : World) (R : Int → Int → World → Prop) : Prop :=
  Join (S87J1 r1 n2 way3 R) fun (vJ41 : Unit → World → Prop) =>
    Br r1.isNone (R 0 1 w) (Br (decide (n2 < 0)) (R 0 1 w) (Br (decide (n2 > 24)) (R 0 1 w) (Nn r1 fun a42 =>
          Ld w (a42.add 2) (Value.int .i64) fun (x43 : Int) =>
          Br (x43 != 0) (Nn r1 fun a44 =>
            Ld w (a44.add 2) (Value.int .i64) fun (x45 : Int) =>
            Br (x45 != way3) (R 0 1 w) (vJ41 () w)) (vJ41 () w))))
def C87 (r1 : Option Addr) (n2 : Int) (way3 : Int) (w : World) (R : Int → Int → World → Prop) : Prop :=
  Calls Try.prog 87 #[.pointer r1, .int .i64 n2, .int .i64 way3] w fun e w' => ∃ r0 : Int, ∃ r1 : Int, e = .returned (.tuple #[.int .i64 r0, .int .i64 r1]) ∧ R r0 r1 w'
def pl87 : Plan := (.seq (.reg .seq) (.join [] [0, 1, 2] (.seq (.reg .seq) (.cond (.seq (.reg .seq) .leaf) .leaf)) (.seq (.seq (.reg .seq) (.cond (.seq (.reg .seq) .leaf) .leaf)) (.seq (.reg .seq) (.seq (.seq (.reg .seq) (.block (.loop [(8, (.one (.int .i64))), (9, (.one (.int .i64)))] [0, 1, 2] (.seq (.seq (.reg .seq) (.cond .leaf .leaf)) (.seq (.block (.seq (.reg .still) (.seq (.seq (.reg .seq) (.cond (.reg .seq) (.reg .seq))) (.seq (.reg .seq) (.reg .seq))))) (.reg .seq)))))) (.seq (.reg .seq) .leaf))))))
theorem C87.mono {r1 : Option Addr} {n2 : Int} {way3 : Int} {w : World} {R R' : Int → Int → World → Prop} (h : C87 r1 n2 way3 w R) (hr : ∀ r0 r1 w', R r0 r1 w' → R' r0 r1 w') : C87 r1 n2 way3 w R' :=
  Calls.mono h fun _ _ ⟨r0, r1, he, hR⟩ => ⟨r0, r1, he, hr _ _ _ hR⟩
set_option maxRecDepth 100000 in
theorem T87 (r1 : Option Addr) (n2 : Int) (way3 : Int) (w : World) (R : Int → Int → World → Prop) (h : S87 r1 n2 way3 w R) : C87 r1 n2 way3 w R := by
  have e : fnT Try.prog FF pl87 Try.f87 [.pointer r1, .int .i64 n2, .int .i64 way3] w [(.one (.int .i64)), (.one (.int .i64))] (fun s w => R s.1 s.2 w) = S87 r1 n2 way3 w R := by kernel_rfl
  exact (fn_calls okF okM Try.func87 (by kernel_rfl) (by kernel_rfl) (e.mpr h)).mono fun _ _ ⟨s, he, hR⟩ => ⟨s.1, s.2, he, hR⟩

/-- (*foliant/foliantref09.Reader).Low -/
def S34 (r1 : Option Addr) (n2 : Int) (w : World) (R : Int → Int → World → Prop) : Prop :=
  C87 r1 n2 1 w fun r3 r4 vw5 =>
    R r3 r4 vw5
def C34 (r1 : Option Addr) (n2 : Int) (w : World) (R : Int → Int → World → Prop) : Prop :=
  Calls Try.prog 34 #[.pointer r1, .int .i64 n2] w fun e w' => ∃ r0 : Int, ∃ r1 : Int, e = .returned (.tuple #[.int .i64 r0, .int .i64 r1]) ∧ R r0 r1 w'
def pl34 : Plan := (.seq (.reg .seq) (.seq (.reg .seq) .leaf))
theorem C34.mono {r1 : Option Addr} {n2 : Int} {w : World} {R R' : Int → Int → World → Prop} (h : C34 r1 n2 w R) (hr : ∀ r0 r1 w', R r0 r1 w' → R' r0 r1 w') : C34 r1 n2 w R' :=
  Calls.mono h fun _ _ ⟨r0, r1, he, hR⟩ => ⟨r0, r1, he, hr _ _ _ hR⟩
set_option maxRecDepth 100000 in
theorem T34 (r1 : Option Addr) (n2 : Int) (w : World) (R : Int → Int → World → Prop) (h : S34 r1 n2 w R) : C34 r1 n2 w R := by
  have e : fnT Try.prog FF pl34 Try.f34 [.pointer r1, .int .i64 n2] w [(.one (.int .i64)), (.one (.int .i64))] (fun s w => R s.1 s.2 w) = S34 r1 n2 w R := by kernel_rfl
  exact (fn_calls okF okM Try.func34 (by kernel_rfl) (by kernel_rfl) (e.mpr h)).mono fun _ _ ⟨s, he, hR⟩ => ⟨s.1, s.2, he, hR⟩

/-- (*foliant/foliantref09.Reader).High -/
def S35 (r1 : Option Addr) (n2 : Int) (w : World) (R : Int → Int → World → Prop) : Prop :=
  C87 r1 n2 2 w fun r3 r4 vw5 =>
    R r3 r4 vw5
def C35 (r1 : Option Addr) (n2 : Int) (w : World) (R : Int → Int → World → Prop) : Prop :=
  Calls Try.prog 35 #[.pointer r1, .int .i64 n2] w fun e w' => ∃ r0 : Int, ∃ r1 : Int, e = .returned (.tuple #[.int .i64 r0, .int .i64 r1]) ∧ R r0 r1 w'
def pl35 : Plan := (.seq (.reg .seq) (.seq (.reg .seq) .leaf))
theorem C35.mono {r1 : Option Addr} {n2 : Int} {w : World} {R R' : Int → Int → World → Prop} (h : C35 r1 n2 w R) (hr : ∀ r0 r1 w', R r0 r1 w' → R' r0 r1 w') : C35 r1 n2 w R' :=
  Calls.mono h fun _ _ ⟨r0, r1, he, hR⟩ => ⟨r0, r1, he, hr _ _ _ hR⟩
set_option maxRecDepth 100000 in
theorem T35 (r1 : Option Addr) (n2 : Int) (w : World) (R : Int → Int → World → Prop) (h : S35 r1 n2 w R) : C35 r1 n2 w R := by
  have e : fnT Try.prog FF pl35 Try.f35 [.pointer r1, .int .i64 n2] w [(.one (.int .i64)), (.one (.int .i64))] (fun s w => R s.1 s.2 w) = S35 r1 n2 w R := by kernel_rfl
  exact (fn_calls okF okM Try.func35 (by kernel_rfl) (by kernel_rfl) (e.mpr h)).mono fun _ _ ⟨s, he, hR⟩ => ⟨s.1, s.2, he, hR⟩

/-- (*foliant/bit.Reader).Align -/
def S36 (r1 : Option Addr) (w : World) (R : World → Prop) : Prop :=
  Br r1.isNone (R w) (Nn r1 fun a2 =>
    Ld w (a2.add 1) (Value.int .i64) fun (x3 : Int) =>
    Br (decide (x3 > 0)) (Nn r1 fun a4 =>
      Ld w (a4.add 3) (Value.int .i64) fun (x5 : Int) =>
      Nn r1 fun a6 =>
      St w (a6.add 3) (.int .i64 (IntKind.i64.wrap (x5 + 1))) fun vw7 =>
      Nn r1 fun a8 =>
      St vw7 a8 (.int .i64 0) fun vw9 =>
      St vw9 (a8.add 1) (.int .i64 0) fun vw10 =>
      R vw10) (Nn r1 fun a11 =>
      St w a11 (.int .i64 0) fun vw12 =>
      St vw12 (a11.add 1) (.int .i64 0) fun vw13 =>
      R vw13))
def C36 (r1 : Option Addr) (w : World) (R : World → Prop) : Prop :=
  Calls Try.prog 36 #[.pointer r1] w fun e w' => e = .returned (.tuple #[]) ∧ R w'
def pl36 : Plan := (.seq (.seq (.reg .seq) (.cond .leaf .leaf)) (.seq (.seq (.reg .seq) (.cond (.reg .seq) .leaf)) (.reg .seq)))
theorem C36.mono {r1 : Option Addr} {w : World} {R R' : World → Prop} (h : C36 r1 w R) (hr : ∀ w', R w' → R' w') : C36 r1 w R' :=
  Calls.mono h fun _ _ ⟨he, hR⟩ => ⟨he, hr _ hR⟩
set_option maxRecDepth 100000 in
theorem T36 (r1 : Option Addr) (w : World) (R : World → Prop) (h : S36 r1 w R) : C36 r1 w R := by
  have e : fnT Try.prog FF pl36 Try.f36 [.pointer r1] w [] (fun _ w => R w) = S36 r1 w R := by kernel_rfl
  exact (fn_calls okF okM Try.func36 (by kernel_rfl) (by kernel_rfl) (e.mpr h)).mono fun _ _ ⟨_, he, hR⟩ => ⟨he, hR⟩

/-- (*foliant/foliantref09.Reader).Align -/
def S37 (r1 : Option Addr) (w : World) (R : World → Prop) : Prop :=
  Br (!(r1.isNone)) (Nn r1 fun a2 =>
    Ld w (a2.add 1) (Value.int .i64) fun (x3 : Int) =>
    Nn r1 fun a4 =>
    St w (a4.add 1) (.int .i64 (IntKind.i64.wrap ((IntKind.i64.wrap (Int.tdiv (IntKind.i64.wrap (x3 + 7)) 8)) * 8))) fun vw5 =>
    Nn r1 fun a6 =>
    St vw5 (a6.add 2) (.int .i64 0) fun vw7 =>
    R vw7) (R w)
def C37 (r1 : Option Addr) (w : World) (R : World → Prop) : Prop :=
  Calls Try.prog 37 #[.pointer r1] w fun e w' => e = .returned (.tuple #[]) ∧ R w'
def pl37 : Plan := (.seq (.reg .seq) (.cond (.seq (.reg .seq) (.reg .seq)) .leaf))
theorem C37.mono {r1 : Option Addr} {w : World} {R R' : World → Prop} (h : C37 r1 w R) (hr : ∀ w', R w' → R' w') : C37 r1 w R' :=
  Calls.mono h fun _ _ ⟨he, hR⟩ => ⟨he, hr _ hR⟩
set_option maxRecDepth 100000 in
theorem T37 (r1 : Option Addr) (w : World) (R : World → Prop) (h : S37 r1 w R) : C37 r1 w R := by
  have e : fnT Try.prog FF pl37 Try.f37 [.pointer r1] w [] (fun _ w => R w) = S37 r1 w R := by kernel_rfl
  exact (fn_calls okF okM Try.func37 (by kernel_rfl) (by kernel_rfl) (e.mpr h)).mono fun _ _ ⟨_, he, hR⟩ => ⟨he, hR⟩

/-- (*foliant/bit.Reader).Raw -/
def S38 (r1 : Option Addr) (n2 : Int) (w : World) (R : ByteArray → Int → World → Prop) : Prop :=
  Br r1.isNone (R (⟨#[]⟩ : ByteArray) 1 w) (Br (decide (n2 < 0)) (R (⟨#[]⟩ : ByteArray) 1 w) (Nn r1 fun a9 =>
      Ld w (a9.add 1) (Value.int .i64) fun (x10 : Int) =>
      Br (decide (x10 > 0)) (R (⟨#[]⟩ : ByteArray) 1 w) (Nn r1 fun a11 =>
        Ld w.drew (a11.add 2) Value.string fun (x12 : ByteArray) =>
        Nn r1 fun a13 =>
        Ld w.drew (a13.add 3) (Value.int .i64) fun (x14 : Int) =>
        Br (decide (n2 > (IntKind.i64.wrap ((((x12).size : Nat) : Int) - x14)))) (R (⟨#[]⟩ : ByteArray) 4 w.drew) (Nn r1 fun a15 =>
          Ld w.drew (a15.add 3) (Value.int .i64) fun (x16 : Int) =>
          Nn r1 fun a17 =>
          St w.drew (a17.add 3) (.int .i64 (IntKind.i64.wrap (x16 + n2))) fun vw18 =>
          Nn r1 fun a19 =>
          Ld vw18.drew (a19.add 2) Value.string fun (x20 : ByteArray) =>
          Nn r1 fun a21 =>
          Ld vw18.drew (a21.add 3) (Value.int .i64) fun (x22 : Int) =>
          Nn r1 fun a23 =>
          Ld vw18.drew (a23.add 3) (Value.int .i64) fun (x24 : Int) =>
          0 ≤ x24 ∧ x24 ≤ (((x20).size : Nat) : Int) ∧ 0 ≤ (IntKind.i64.wrap (x22 - n2)) ∧ (IntKind.i64.wrap (x22 - n2)) ≤ (((x24).toNat : Nat) : Int) ∧ R (x20.extract ((IntKind.i64.wrap (x22 - n2)).toNat) ((x24).toNat)) 0 vw18.drew))))
def C38 (r1 : Option Addr) (n2 : Int) (w : World) (R : ByteArray → Int → World → Prop) : Prop :=
  Calls Try.prog 38 #[.pointer r1, .int .i64 n2] w fun e w' => ∃ r0 : ByteArray, ∃ r1 : Int, e = .returned (.tuple #[.string r0, .int .i64 r1]) ∧ R r0 r1 w'
def pl38 : Plan := (.seq (.reg .seq) (.seq (.block (.seq (.reg .seq) (.cond (.seq (.reg .seq) .leaf) (.seq (.reg .still) (.cond (.seq (.reg .seq) .leaf) .leaf))))) (.seq (.reg .seq) (.seq (.reg .still) .leaf))))
theorem C38.mono {r1 : Option Addr} {n2 : Int} {w : World} {R R' : ByteArray → Int → World → Prop} (h : C38 r1 n2 w R) (hr : ∀ r0 r1 w', R r0 r1 w' → R' r0 r1 w') : C38 r1 n2 w R' :=
  Calls.mono h fun _ _ ⟨r0, r1, he, hR⟩ => ⟨r0, r1, he, hr _ _ _ hR⟩
set_option maxRecDepth 100000 in
theorem T38 (r1 : Option Addr) (n2 : Int) (w : World) (R : ByteArray → Int → World → Prop) (h : S38 r1 n2 w R) : C38 r1 n2 w R := by
  have e : fnT Try.prog FF pl38 Try.f38 [.pointer r1, .int .i64 n2] w [(.one .str), (.one (.int .i64))] (fun s w => R s.1 s.2 w) = S38 r1 n2 w R := by kernel_rfl
  exact (fn_calls okF okM Try.func38 (by kernel_rfl) (by kernel_rfl) (e.mpr h)).mono fun _ _ ⟨s, he, hR⟩ => ⟨s.1, s.2, he, hR⟩

/-- (*foliant/foliantref09.Reader).Raw -/
def S39 (r1 : Option Addr) (n2 : Int) (w : World) (R : ByteArray → Int → World → Prop) : Prop :=
  Br r1.isNone (R (⟨#[]⟩ : ByteArray) 1 w) (Br (decide (n2 < 0)) (R (⟨#[]⟩ : ByteArray) 1 w) (Nn r1 fun a5 =>
      Ld w (a5.add 1) (Value.int .i64) fun (x6 : Int) =>
      Br ((Int.tmod x6 8) != 0) (R (⟨#[]⟩ : ByteArray) 1 w) (Nn r1 fun a12 =>
        Ld w.drew a12 Value.string fun (x13 : ByteArray) =>
        Nn r1 fun a14 =>
        Ld w.drew (a14.add 1) (Value.int .i64) fun (x15 : Int) =>
        Lt (decide (n2 > (IntKind.i64.wrap ((((x13).size : Nat) : Int) - (IntKind.i64.wrap (Int.tdiv x15 8)))))) fun (x16 : Bool) =>
        Br x16 (R (⟨#[]⟩ : ByteArray) 4 w.drew) (Nn r1 fun a17 =>
          Ld w.drew (a17.add 1) (Value.int .i64) fun (x18 : Int) =>
          Nn r1 fun a19 =>
          St w.drew (a19.add 1) (.int .i64 (IntKind.i64.wrap (x18 + (IntKind.i64.wrap (8 * n2))))) fun vw20 =>
          Nn r1 fun a21 =>
          Ld vw20.drew a21 Value.string fun (x22 : ByteArray) =>
          Nn r1 fun a23 =>
          Ld vw20.drew (a23.add 1) (Value.int .i64) fun (x24 : Int) =>
          Nn r1 fun a25 =>
          Ld vw20.drew (a25.add 1) (Value.int .i64) fun (x26 : Int) =>
          0 ≤ (IntKind.i64.wrap (Int.tdiv x26 8)) ∧ (IntKind.i64.wrap (Int.tdiv x26 8)) ≤ (((x22).size : Nat) : Int) ∧ 0 ≤ (IntKind.i64.wrap ((IntKind.i64.wrap (Int.tdiv x24 8)) - n2)) ∧ (IntKind.i64.wrap ((IntKind.i64.wrap (Int.tdiv x24 8)) - n2)) ≤ (((IntKind.i64.wrap (Int.tdiv x26 8)).toNat : Nat) : Int) ∧ Lt (x22.extract ((IntKind.i64.wrap ((IntKind.i64.wrap (Int.tdiv x24 8)) - n2)).toNat) ((IntKind.i64.wrap (Int.tdiv x26 8)).toNat)) fun (x27 : ByteArray) =>
          R x27 0 vw20.drew))))
def C39 (r1 : Option Addr) (n2 : Int) (w : World) (R : ByteArray → Int → World → Prop) : Prop :=
  Calls Try.prog 39 #[.pointer r1, .int .i64 n2] w fun e w' => ∃ r0 : ByteArray, ∃ r1 : Int, e = .returned (.tuple #[.string r0, .int .i64 r1]) ∧ R r0 r1 w'
def pl39 : Plan := (.seq (.reg .seq) (.seq (.seq (.reg .seq) (.cond (.seq (.reg .seq) .leaf) .leaf)) (.seq (.seq (.reg .still) (.cond (.seq (.reg .seq) .leaf) .leaf)) (.seq (.reg .seq) (.seq (.reg .still) .leaf)))))
theorem C39.mono {r1 : Option Addr} {n2 : Int} {w : World} {R R' : ByteArray → Int → World → Prop} (h : C39 r1 n2 w R) (hr : ∀ r0 r1 w', R r0 r1 w' → R' r0 r1 w') : C39 r1 n2 w R' :=
  Calls.mono h fun _ _ ⟨r0, r1, he, hR⟩ => ⟨r0, r1, he, hr _ _ _ hR⟩
set_option maxRecDepth 100000 in
theorem T39 (r1 : Option Addr) (n2 : Int) (w : World) (R : ByteArray → Int → World → Prop) (h : S39 r1 n2 w R) : C39 r1 n2 w R := by
  have e : fnT Try.prog FF pl39 Try.f39 [.pointer r1, .int .i64 n2] w [(.one .str), (.one (.int .i64))] (fun s w => R s.1 s.2 w) = S39 r1 n2 w R := by kernel_rfl
  exact (fn_calls okF okM Try.func39 (by kernel_rfl) (by kernel_rfl) (e.mpr h)).mono fun _ _ ⟨s, he, hR⟩ => ⟨s.1, s.2, he, hR⟩

/-- (*foliant/foliantref09.Reader).At -/
def S41 (r1 : Option Addr) (w : World) (R : Int → World → Prop) : Prop :=
  Br r1.isNone (R 0 w) (Nn r1 fun a2 =>
    Ld w (a2.add 1) (Value.int .i64) fun (x3 : Int) =>
    R (IntKind.i64.wrap (Int.tdiv (IntKind.i64.wrap (x3 + 7)) 8)) w)
def C41 (r1 : Option Addr) (w : World) (R : Int → World → Prop) : Prop :=
  Calls Try.prog 41 #[.pointer r1] w fun e w' => ∃ r0 : Int, e = .returned (.int .i64 r0) ∧ R r0 w'
def pl41 : Plan := (.seq (.reg .seq) (.seq (.seq (.reg .seq) (.cond (.seq (.reg .seq) .leaf) .leaf)) (.seq (.reg .seq) .leaf)))
theorem C41.mono {r1 : Option Addr} {w : World} {R R' : Int → World → Prop} (h : C41 r1 w R) (hr : ∀ r0 w', R r0 w' → R' r0 w') : C41 r1 w R' :=
  Calls.mono h fun _ _ ⟨r0, he, hR⟩ => ⟨r0, he, hr _ _ hR⟩
set_option maxRecDepth 100000 in
theorem T41 (r1 : Option Addr) (w : World) (R : Int → World → Prop) (h : S41 r1 w R) : C41 r1 w R := by
  have e : fnT Try.prog FF pl41 Try.f41 [.pointer r1] w [(.one (.int .i64))] (fun s w => R s w) = S41 r1 w R := by kernel_rfl
  exact (fn_calls okF okM Try.func41 (by kernel_rfl) (by kernel_rfl) (e.mpr h)).mono fun _ _ ⟨s, he, hR⟩ => ⟨s, he, hR⟩

def S5J1 (r11 : Option Addr) (r13 : Option Addr) (s15 : Int) (I17 : Int → World → Prop) (R : Bool → World → Prop) (s42 : Unit) (vw43 : World) : Prop :=
  C40 r11 vw43 fun r44 vw45 =>
    C41 r13 vw45 fun r46 vw47 =>
      Br (r44 != r46) (R false vw47) (C42 r11 vw47 fun r48 vw49 =>
          C43 r13 vw49 fun r50 vw51 =>
            Br (r48 != r50) (R false vw51) (I17 (IntKind.i64.wrap (s15 + 1)) vw51))
def S5L1 (l2 : Slc) (r11 : Option Addr) (r13 : Option Addr) (R : Bool → World → Prop) (I17 : Int → World → Prop) (s15 : Int) (vw16 : World) : Prop :=
  Br (decide (s15 < ((l2.len : Nat) : Int))) (0 ≤ s15 ∧ s15 < (l2.len : Nat) ∧ Nn l2.p fun a18 =>
    Ld vw16 ((a18.add ((s15).toNat * 4)).add 1) (Value.int .i64) fun (x19 : Int) =>
    Join (S5J1 r11 r13 s15 I17 R) fun (vJ52 : Unit → World → Prop) =>
      0 ≤ s15 ∧ s15 < (l2.len : Nat) ∧ Nn l2.p fun a53 =>
      Ld vw16 (a53.add ((s15).toNat * 4)) (Value.int .i64) fun (x54 : Int) =>
      Br (x54 == 0) (C17 r11 x19 vw16 fun r55 r56 vw57 =>
          C34 r13 x19 vw57 fun r58 r59 vw60 =>
            Br (r55 != r58) (R false vw60) (Br (r56 != r59) (R false vw60) (vJ52 () vw60))) (Br (x54 == 1) (C18 r11 x19 vw16 fun r61 r62 vw63 =>
            C35 r13 x19 vw63 fun r64 r65 vw66 =>
              Br (r61 != r64) (R false vw66) (Br (r62 != r65) (R false vw66) (vJ52 () vw66))) (Br (x54 == 2) (C36 r11 vw16 fun vw67 =>
              C37 r13 vw67 fun vw68 =>
                vJ52 () vw68) (Br (x54 == 3) (C38 r11 x19 vw16 fun r69 r70 vw71 =>
                C39 r13 x19 vw71 fun r72 r73 vw74 =>
                  Br (!(r69.toList == r72.toList)) (R false vw74) (Br (r70 != r73) (R false vw74) (vJ52 () vw74))) (vJ52 () vw16))))) (C15 vw16 fun r75 vw76 =>
      R r75 vw76)
/-- foliant/foliantlaw09.BitReads -/
def S5 (s1 : ByteArray) (l2 : Slc) (w : World) (R : Bool → World → Prop) : Prop :=
  Br (decide ((((s1).size : Nat) : Int) > 300)) (C15 w fun r7 vw8 =>
      R r7 vw8) (Br (decide (((l2.len : Nat) : Int) > 60)) (C15 w fun r9 vw10 =>
        R r9 vw10) (C16 s1 w fun r11 vw12 =>
        C33 s1 vw12 fun r13 vw14 =>
          Br r11.isNone (R false vw14) (Lp (σ := Int) (S5L1 l2 r11 r13 R) 0 vw14)))
def C5 (s1 : ByteArray) (l2 : Slc) (w : World) (R : Bool → World → Prop) : Prop :=
  Calls Try.prog 5 #[.string s1, Slc.v l2] w fun e w' => ∃ r0 : Bool, e = .returned (.bool r0) ∧ R r0 w'
def pl5 : Plan := (.seq (.reg .seq) (.seq (.seq (.reg .seq) (.cond (.seq (.reg .seq) .leaf) .leaf)) (.seq (.reg .seq) (.seq (.seq (.reg .seq) (.cond (.seq (.reg .seq) .leaf) .leaf)) (.seq (.seq (.reg .seq) (.block (.loop [(7, (.one (.int .i64)))] [1, 5, 6] (.seq (.seq (.reg .seq) (.cond .leaf .leaf)) (.seq (.block (.seq (.reg .seq) (.join [] [1, 5, 6, 7] (.seq (.reg .seq) (.block (.seq (.reg .seq) (.cond (.seq (.reg .seq) (.seq (.reg .seq) (.seq (.reg .seq) (.cond (.seq (.reg .seq) .leaf) .leaf)))) (.seq (.reg .seq) (.cond (.seq (.reg .seq) (.seq (.reg .seq) (.seq (.reg .seq) (.cond (.seq (.reg .seq) .leaf) .leaf)))) (.seq (.reg .seq) (.cond (.seq (.reg .seq) (.reg .seq)) (.seq (.reg .seq) (.cond (.seq (.reg .seq) (.seq (.reg .seq) (.seq (.reg .seq) (.cond (.seq (.reg .seq) .leaf) .leaf)))) .leaf)))))))))) (.seq (.reg .seq) (.cond (.seq (.reg .seq) .leaf) .leaf))))) (.reg .seq)))))) (.seq (.reg .seq) .leaf))))))
theorem C5.mono {s1 : ByteArray} {l2 : Slc} {w : World} {R R' : Bool → World → Prop} (h : C5 s1 l2 w R) (hr : ∀ r0 w', R r0 w' → R' r0 w') : C5 s1 l2 w R' :=
  Calls.mono h fun _ _ ⟨r0, he, hR⟩ => ⟨r0, he, hr _ _ hR⟩
set_option maxRecDepth 100000 in
theorem T5 (s1 : ByteArray) (l2 : Slc) (w : World) (R : Bool → World → Prop) (h : S5 s1 l2 w R) : C5 s1 l2 w R := by
  have e : fnT Try.prog FF pl5 Try.f5 [.string s1, Slc.v l2] w [(.one .bool)] (fun s w => R s w) = S5 s1 l2 w R := by kernel_rfl
  exact (fn_calls okF okM Try.func5 (by kernel_rfl) (by kernel_rfl) (e.mpr h)).mono fun _ _ ⟨s, he, hR⟩ => ⟨s, he, hR⟩

/-- foliant/foliantlaw09.num -/
def S44 (a1 : Int × Int × Int × ByteArray) (w : World) (R : Int → Int → World → Prop) : Prop :=
  Nw w (.cells #[.int .i64 (a1.1), .int .i64 (a1.2.1), .int .i64 (a1.2.2.1), .string a1.2.2.2] 35) fun vw2 =>
  Ld vw2 ((⟨w.heap.size, 0, none⟩ : Addr).add 1) (Value.int .i64) fun (x3 : Int) =>
  Br (decide ((Int.tmod x3 25) < 0)) (Ld vw2.drew ((⟨w.heap.size, 0, none⟩ : Addr).add 2) (Value.int .i64) fun (x4 : Int) =>
    0 ≤ (IntKind.i64.wrap (0 - (Int.tmod x3 25))) ∧ (IntKind.i64.wrap (1 * 2 ^ (min (IntKind.i64.wrap (0 - (Int.tmod x3 25))).toNat 64))) ≠ 0 ∧ Lt (Int.tmod x4 (IntKind.i64.wrap (1 * 2 ^ (min (IntKind.i64.wrap (0 - (Int.tmod x3 25))).toNat 64)))) fun (x5 : Int) =>
    Br (decide (x5 < 0)) (R (IntKind.i64.wrap (0 - (Int.tmod x3 25))) (IntKind.i64.wrap (0 - x5)) vw2.drew) (R (IntKind.i64.wrap (0 - (Int.tmod x3 25))) x5 vw2.drew)) (Ld vw2.drew ((⟨w.heap.size, 0, none⟩ : Addr).add 2) (Value.int .i64) fun (x6 : Int) =>
    0 ≤ (Int.tmod x3 25) ∧ (IntKind.i64.wrap (1 * 2 ^ (min (Int.tmod x3 25).toNat 64))) ≠ 0 ∧ Br (decide ((Int.tmod x6 (IntKind.i64.wrap (1 * 2 ^ (min (Int.tmod x3 25).toNat 64)))) < 0)) (Lt (IntKind.i64.wrap (0 - (Int.tmod x6 (IntKind.i64.wrap (1 * 2 ^ (min (Int.tmod x3 25).toNat 64)))))) fun (x7 : Int) =>
      R (Int.tmod x3 25) x7 vw2.drew) (R (Int.tmod x3 25) (Int.tmod x6 (IntKind.i64.wrap (1 * 2 ^ (min (Int.tmod x3 25).toNat 64)))) vw2.drew))
def C44 (a1 : Int × Int × Int × ByteArray) (w : World) (R : Int → Int → World → Prop) : Prop :=
  Calls Try.prog 44 #[.agg #[.int .i64 (a1.1), .int .i64 (a1.2.1), .int .i64 (a1.2.2.1), .string a1.2.2.2]] w fun e w' => ∃ r0 : Int, ∃ r1 : Int, e = .returned (.tuple #[.int .i64 r0, .int .i64 r1]) ∧ R r0 r1 w'
def pl44 : Plan := (.seq (.reg .seq) (.seq (.reg .seq) (.seq (.seq (.reg .seq) (.cond (.reg .seq) .leaf)) (.seq (.reg .still) (.seq (.seq (.reg .seq) (.cond (.reg .seq) .leaf)) (.seq (.reg .seq) .leaf))))))
theorem C44.mono {a1 : Int × Int × Int × ByteArray} {w : World} {R R' : Int → Int → World → Prop} (h : C44 a1 w R) (hr : ∀ r0 r1 w', R r0 r1 w' → R' r0 r1 w') : C44 a1 w R' :=
  Calls.mono h fun _ _ ⟨r0, r1, he, hR⟩ => ⟨r0, r1, he, hr _ _ _ hR⟩
set_option maxRecDepth 100000 in
theorem T44 (a1 : Int × Int × Int × ByteArray) (w : World) (R : Int → Int → World → Prop) (h : S44 a1 w R) : C44 a1 w R := by
  have e : fnT Try.prog FF pl44 Try.f44 [.agg #[.int .i64 (a1.1), .int .i64 (a1.2.1), .int .i64 (a1.2.2.1), .string a1.2.2.2]] w [(.one (.int .i64)), (.one (.int .i64))] (fun s w => R s.1 s.2 w) = S44 a1 w R := by kernel_rfl
  exact (fn_calls okF okM Try.func44 (by kernel_rfl) (by kernel_rfl) (e.mpr h)).mono fun _ _ ⟨s, he, hR⟩ => ⟨s.1, s.2, he, hR⟩

def S6J1 (l1 : Slc) (r6 : Option Addr) (s96 : Int) (I98 : Int → World → Prop) (s113 : Unit) (vw114 : World) : Prop :=
  0 ≤ s96 ∧ s96 < (l1.len : Nat) ∧ Nn l1.p fun a115 =>
  Ld vw114 (a115.add ((s96).toNat * 4)) (Value.int .i64) fun (x116 : Int) =>
  Br (x116 == 3) (0 ≤ s96 ∧ s96 < (l1.len : Nat) ∧ Nn l1.p fun a117 =>
    Ld vw114 ((a117.add ((s96).toNat * 4)).add 3) Value.string fun (x118 : ByteArray) =>
    C27 r6 x118 vw114 fun vw119 =>
      I98 (IntKind.i64.wrap (s96 + 1)) vw119) (I98 (IntKind.i64.wrap (s96 + 1)) vw114)
def S6J2 (l1 : Slc) (r6 : Option Addr) (s96 : Int) (I98 : Int → World → Prop) (R : Bool → World → Prop) (s103 : Unit) (vw104 : World) : Prop :=
  0 ≤ s96 ∧ s96 < (l1.len : Nat) ∧ Nn l1.p fun a105 =>
  Ld vw104 (a105.add ((s96).toNat * 4)) (Value.int .i64) fun (x106 : Int) =>
  Ld vw104 ((a105.add ((s96).toNat * 4)).add 1) (Value.int .i64) fun (x107 : Int) =>
  Ld vw104 ((a105.add ((s96).toNat * 4)).add 2) (Value.int .i64) fun (x108 : Int) =>
  Ld vw104 ((a105.add ((s96).toNat * 4)).add 3) Value.string fun (x109 : ByteArray) =>
  C44 (x106, x107, x108, x109) vw104 fun r110 r111 vw112 =>
    Join (S6J1 l1 r6 s96 I98) fun (vJ120 : Unit → World → Prop) =>
      0 ≤ s96 ∧ s96 < (l1.len : Nat) ∧ Nn l1.p fun a121 =>
      Ld vw112 (a121.add ((s96).toNat * 4)) (Value.int .i64) fun (x122 : Int) =>
      Br (x122 == 0) (C21 r6 r111 r110 vw112 fun r123 vw124 =>
          Br (r123 != 0) (R false vw124) (0 ≤ s96 ∧ s96 < (l1.len : Nat) ∧ Nn l1.p fun a125 =>
            Ld vw124 (a125.add ((s96).toNat * 4)) (Value.int .i64) fun (x126 : Int) =>
            Br (x126 == 1) (C23 r6 r111 r110 vw124 fun r127 vw128 =>
                Br (r127 != 0) (R false vw128) (vJ120 () vw128)) (vJ120 () vw124))) (0 ≤ s96 ∧ s96 < (l1.len : Nat) ∧ Nn l1.p fun a129 =>
        Ld vw112 (a129.add ((s96).toNat * 4)) (Value.int .i64) fun (x130 : Int) =>
        Br (x130 == 1) (C23 r6 r111 r110 vw112 fun r131 vw132 =>
            Br (r131 != 0) (R false vw132) (vJ120 () vw132)) (vJ120 () vw112))
def S6J3 (l1 : Slc) (s236 : Int) (I238 : Int → World → Prop) (r247 : Int) (R : Bool → World → Prop) (s251 : Int × Int × ByteArray) (vw252 : World) : Prop :=
  Br (s251.1 != r247) (R false vw252) (Br (s251.2.1 != 0) (R false vw252) (0 ≤ s236 ∧ s236 < (l1.len : Nat) ∧ Nn l1.p fun a253 =>
      Ld vw252 ((a253.add ((s236).toNat * 4)).add 3) Value.string fun (x254 : ByteArray) =>
      Br (!(s251.2.2.toList == x254.toList)) (R false vw252) (I238 (IntKind.i64.wrap (s236 + 1)) vw252)))
def S6J4 (l1 : Slc) (r153 : Option Addr) (s236 : Int) (I238 : Int → World → Prop) (R : Bool → World → Prop) (s239 : Unit) (vw240 : World) : Prop :=
  0 ≤ s236 ∧ s236 < (l1.len : Nat) ∧ Nn l1.p fun a241 =>
  Ld vw240 (a241.add ((s236).toNat * 4)) (Value.int .i64) fun (x242 : Int) =>
  Ld vw240 ((a241.add ((s236).toNat * 4)).add 1) (Value.int .i64) fun (x243 : Int) =>
  Ld vw240 ((a241.add ((s236).toNat * 4)).add 2) (Value.int .i64) fun (x244 : Int) =>
  Ld vw240 ((a241.add ((s236).toNat * 4)).add 3) Value.string fun (x245 : ByteArray) =>
  C44 (x242, x243, x244, x245) vw240 fun r246 r247 vw248 =>
    0 ≤ s236 ∧ s236 < (l1.len : Nat) ∧ Nn l1.p fun a249 =>
    Ld vw248 ((a249.add ((s236).toNat * 4)).add 3) Value.string fun (x250 : ByteArray) =>
    Join (S6J3 l1 s236 I238 r247 R) fun (vJ255 : (Int × Int × ByteArray) → World → Prop) =>
      0 ≤ s236 ∧ s236 < (l1.len : Nat) ∧ Nn l1.p fun a256 =>
      Ld vw248 (a256.add ((s236).toNat * 4)) (Value.int .i64) fun (x257 : Int) =>
      Br (x257 == 0) (C17 r153 r246 vw248 fun r258 r259 vw260 =>
          vJ255 (r258, r259, x250) vw260) (Br (x257 == 1) (C18 r153 r246 vw248 fun r261 r262 vw263 =>
            vJ255 (r261, r262, x250) vw263) (Br (x257 == 3) (0 ≤ s236 ∧ s236 < (l1.len : Nat) ∧ Nn l1.p fun a264 =>
            Ld vw248 ((a264.add ((s236).toNat * 4)).add 3) Value.string fun (x265 : ByteArray) =>
            C38 r153 (((x265).size : Nat) : Int) vw248 fun r266 r267 vw268 =>
              vJ255 (r247, r267, r266) vw268) (vJ255 (r247, 0, x250) vw248)))
def S6L1 (l1 : Slc) (r6 : Option Addr) (r153 : Option Addr) (R : Bool → World → Prop) (I238 : Int → World → Prop) (s236 : Int) (vw237 : World) : Prop :=
  Br (decide (s236 < ((l1.len : Nat) : Int))) (Join (S6J4 l1 r153 s236 I238 R) fun (vJ269 : Unit → World → Prop) =>
      Br (decide (s236 > 0)) (0 ≤ s236 ∧ s236 < (l1.len : Nat) ∧ Nn l1.p fun a270 =>
        Ld vw237.drew (a270.add ((s236).toNat * 4)) (Value.int .i64) fun (x271 : Int) =>
        0 ≤ (IntKind.i64.wrap (s236 - 1)) ∧ (IntKind.i64.wrap (s236 - 1)) < (l1.len : Nat) ∧ Nn l1.p fun a272 =>
        Ld vw237.drew (a272.add ((IntKind.i64.wrap (s236 - 1)).toNat * 4)) (Value.int .i64) fun (x273 : Int) =>
        Br (x271 != x273) (C36 r153 vw237.drew fun vw274 =>
            vJ269 () vw274) (0 ≤ s236 ∧ s236 < (l1.len : Nat) ∧ Nn l1.p fun a275 =>
          Ld vw237.drew (a275.add ((s236).toNat * 4)) (Value.int .i64) fun (x276 : Int) =>
          Br (decide (x276 > 1)) (C36 r153 vw237.drew fun vw277 =>
              vJ269 () vw277) (0 ≤ s236 ∧ s236 < (l1.len : Nat) ∧ Nn l1.p fun a278 =>
            Ld vw237.drew (a278.add ((s236).toNat * 4)) (Value.int .i64) fun (x279 : Int) =>
            Br (decide (x279 < 0)) (C36 r153 vw237.drew fun vw280 =>
                vJ269 () vw280) (vJ269 () vw237.drew)))) (0 ≤ s236 ∧ s236 < (l1.len : Nat) ∧ Nn l1.p fun a281 =>
        Ld vw237.drew (a281.add ((s236).toNat * 4)) (Value.int .i64) fun (x282 : Int) =>
        Br (decide (x282 > 1)) (C36 r153 vw237.drew fun vw283 =>
            vJ269 () vw283) (0 ≤ s236 ∧ s236 < (l1.len : Nat) ∧ Nn l1.p fun a284 =>
          Ld vw237.drew (a284.add ((s236).toNat * 4)) (Value.int .i64) fun (x285 : Int) =>
          Br (decide (x285 < 0)) (C36 r153 vw237.drew fun vw286 =>
              vJ269 () vw286) (vJ269 () vw237.drew)))) (C40 r153 vw237 fun r287 vw288 =>
      C29 r6 vw288 fun r289 vw290 =>
        Br (r287 == r289) (C42 r153 vw290 fun r291 vw292 =>
            Br (decide (r291 < 8)) (C15 vw292 fun r293 vw294 =>
                R r293 vw294) (R false vw292)) (R false vw290))
def S6L2 (l1 : Slc) (r6 : Option Addr) (R : Bool → World → Prop) (I98 : Int → World → Prop) (s96 : Int) (vw97 : World) : Prop :=
  Br (decide (s96 < ((l1.len : Nat) : Int))) (0 ≤ s96 ∧ s96 < (l1.len : Nat) ∧ Nn l1.p fun a99 =>
    Ld vw97 ((a99.add ((s96).toNat * 4)).add 3) Value.string fun (x100 : ByteArray) =>
    Br (decide ((((x100).size : Nat) : Int) > 300)) (C15 vw97 fun r101 vw102 =>
        R r101 vw102) (Join (S6J2 l1 r6 s96 I98 R) fun (vJ133 : Unit → World → Prop) =>
        Br (decide (s96 > 0)) (0 ≤ s96 ∧ s96 < (l1.len : Nat) ∧ Nn l1.p fun a134 =>
          Ld vw97.drew (a134.add ((s96).toNat * 4)) (Value.int .i64) fun (x135 : Int) =>
          0 ≤ (IntKind.i64.wrap (s96 - 1)) ∧ (IntKind.i64.wrap (s96 - 1)) < (l1.len : Nat) ∧ Nn l1.p fun a136 =>
          Ld vw97.drew (a136.add ((IntKind.i64.wrap (s96 - 1)).toNat * 4)) (Value.int .i64) fun (x137 : Int) =>
          Br (x135 != x137) (C25 r6 vw97.drew fun vw138 =>
              vJ133 () vw138) (0 ≤ s96 ∧ s96 < (l1.len : Nat) ∧ Nn l1.p fun a139 =>
            Ld vw97.drew (a139.add ((s96).toNat * 4)) (Value.int .i64) fun (x140 : Int) =>
            Br (decide (x140 > 1)) (C25 r6 vw97.drew fun vw141 =>
                vJ133 () vw141) (0 ≤ s96 ∧ s96 < (l1.len : Nat) ∧ Nn l1.p fun a142 =>
              Ld vw97.drew (a142.add ((s96).toNat * 4)) (Value.int .i64) fun (x143 : Int) =>
              Br (decide (x143 < 0)) (C25 r6 vw97.drew fun vw144 =>
                  vJ133 () vw144) (vJ133 () vw97.drew)))) (0 ≤ s96 ∧ s96 < (l1.len : Nat) ∧ Nn l1.p fun a145 =>
          Ld vw97.drew (a145.add ((s96).toNat * 4)) (Value.int .i64) fun (x146 : Int) =>
          Br (decide (x146 > 1)) (C25 r6 vw97.drew fun vw147 =>
              vJ133 () vw147) (0 ≤ s96 ∧ s96 < (l1.len : Nat) ∧ Nn l1.p fun a148 =>
            Ld vw97.drew (a148.add ((s96).toNat * 4)) (Value.int .i64) fun (x149 : Int) =>
            Br (decide (x149 < 0)) (C25 r6 vw97.drew fun vw150 =>
                vJ133 () vw150) (vJ133 () vw97.drew))))) (C31 r6 vw97 fun r151 vw152 =>
      C16 r151 vw152 fun r153 vw154 =>
        Br r153.isNone (R false vw154) (Lp (σ := Int) (S6L1 l1 r6 r153 R) 0 vw154))
/-- foliant/foliantlaw09.BitBack -/
def S6 (l1 : Slc) (w : World) (R : Bool → World → Prop) : Prop :=
  Br (decide (((l1.len : Nat) : Int) > 60)) (C15 w fun r4 vw5 =>
      R r4 vw5) (C19 w fun r6 vw7 =>
      Br r6.isNone (R false vw7) (Lp (σ := Int) (S6L2 l1 r6 R) 0 vw7))
def C6 (l1 : Slc) (w : World) (R : Bool → World → Prop) : Prop :=
  Calls Try.prog 6 #[Slc.v l1] w fun e w' => ∃ r0 : Bool, e = .returned (.bool r0) ∧ R r0 w'
def pl6 : Plan := (.seq (.reg .seq) (.seq (.seq (.reg .seq) (.cond (.seq (.reg .seq) .leaf) .leaf)) (.seq (.reg .seq) (.seq (.seq (.reg .seq) (.cond (.seq (.reg .seq) .leaf) .leaf)) (.seq (.seq (.reg .seq) (.block (.loop [(4, (.one (.int .i64)))] [0, 3] (.seq (.seq (.reg .seq) (.cond .leaf .leaf)) (.seq (.block (.seq (.seq (.reg .seq) (.cond (.seq (.reg .seq) .leaf) .leaf)) (.join [] [0, 3, 4] (.seq (.reg .still) (.cond (.reg .seq) .leaf)) (.seq (.reg .seq) (.join [] [0, 3, 4] (.seq (.reg .seq) (.cond (.seq (.reg .seq) .leaf) .leaf)) (.seq (.reg .seq) (.cond (.reg .seq) .leaf))))))) (.reg .seq)))))) (.seq (.reg .seq) (.seq (.seq (.reg .seq) (.cond (.seq (.reg .seq) .leaf) .leaf)) (.seq (.seq (.reg .seq) (.block (.loop [(8, (.one (.int .i64)))] [0, 3, 7] (.seq (.seq (.reg .seq) (.cond .leaf .leaf)) (.seq (.block (.join [] [0, 3, 7, 8] (.seq (.reg .still) (.cond (.reg .seq) .leaf)) (.seq (.reg .seq) (.seq (.reg .seq) (.seq (.reg .seq) (.join [(11, (.one (.int .i64))), (12, (.one (.int .i64))), (13, (.one .str))] [0, 3, 7, 8, 10] (.seq (.reg .seq) (.block (.seq (.reg .seq) (.cond (.reg .seq) (.seq (.reg .seq) (.cond (.reg .seq) (.seq (.reg .seq) (.cond (.reg .seq) .leaf)))))))) (.seq (.reg .seq) (.cond (.seq (.reg .seq) .leaf) .leaf)))))))) (.reg .seq)))))) (.seq (.reg .seq) .leaf)))))))))
theorem C6.mono {l1 : Slc} {w : World} {R R' : Bool → World → Prop} (h : C6 l1 w R) (hr : ∀ r0 w', R r0 w' → R' r0 w') : C6 l1 w R' :=
  Calls.mono h fun _ _ ⟨r0, he, hR⟩ => ⟨r0, he, hr _ _ hR⟩
set_option maxRecDepth 100000 in
theorem T6 (l1 : Slc) (w : World) (R : Bool → World → Prop) (h : S6 l1 w R) : C6 l1 w R := by
  have e : fnT Try.prog FF pl6 Try.f6 [Slc.v l1] w [(.one .bool)] (fun s w => R s w) = S6 l1 w R := by kernel_rfl
  exact (fn_calls okF okM Try.func6 (by kernel_rfl) (by kernel_rfl) (e.mpr h)).mono fun _ _ ⟨s, he, hR⟩ => ⟨s, he, hR⟩

/-- foliant/foliantlaw09.BitNone -/
def S7 (n1 : Int) (s2 : ByteArray) (w : World) (R : Bool → World → Prop) : Prop :=
  Br (decide ((((s2).size : Nat) : Int) > 300)) (C15 w fun r5 vw6 =>
      R r5 vw6) (C36 none w fun vw7 =>
      C25 none vw7 fun vw8 =>
        C27 none s2 vw8 fun vw9 =>
          C17 none n1 vw9 fun r10 r11 vw12 =>
            C18 none n1 vw12 fun r13 r14 vw15 =>
              C38 none n1 vw15 fun r16 r17 vw18 =>
                Br (r10 == 0) (Br (r11 == 1) (Br (r13 == 0) (Br (r14 == 1) (Br (r16.toList == (⟨#[]⟩ : ByteArray).toList) (Br (r17 == 1) (C40 none vw18 fun r19 vw20 =>
                              Br (r19 == 0) (C42 none vw20 fun r21 vw22 =>
                                  Br (r21 == 0) (C21 none n1 n1 vw22 fun r23 vw24 =>
                                      Br (r23 == 1) (C23 none 0 0 vw24 fun r25 vw26 =>
                                          Br (r25 == 1) (C29 none vw26 fun r27 vw28 =>
                                              Br (r27 == 0) (C31 none vw28 fun r29 vw30 =>
                                                  Br (r29.toList == (⟨#[]⟩ : ByteArray).toList) (C15 vw30 fun r31 vw32 =>
                                                      R r31 vw32) (R false vw30)) (R false vw28)) (R false vw26)) (R false vw24)) (R false vw22)) (R false vw20)) (R false vw18)) (R false vw18)) (R false vw18)) (R false vw18)) (R false vw18)) (R false vw18))
def C7 (n1 : Int) (s2 : ByteArray) (w : World) (R : Bool → World → Prop) : Prop :=
  Calls Try.prog 7 #[.int .i64 n1, .string s2] w fun e w' => ∃ r0 : Bool, e = .returned (.bool r0) ∧ R r0 w'
def pl7 : Plan := (.seq (.reg .seq) (.seq (.seq (.reg .seq) (.cond (.seq (.reg .seq) .leaf) .leaf)) (.seq (.reg .seq) (.seq (.reg .seq) (.seq (.reg .seq) (.seq (.reg .seq) (.seq (.reg .seq) (.seq (.reg .seq) (.seq (.reg .seq) (.seq (.reg .seq) (.seq (.reg .seq) .leaf)))))))))))
theorem C7.mono {n1 : Int} {s2 : ByteArray} {w : World} {R R' : Bool → World → Prop} (h : C7 n1 s2 w R) (hr : ∀ r0 w', R r0 w' → R' r0 w') : C7 n1 s2 w R' :=
  Calls.mono h fun _ _ ⟨r0, he, hR⟩ => ⟨r0, he, hr _ _ hR⟩
set_option maxRecDepth 100000 in
theorem T7 (n1 : Int) (s2 : ByteArray) (w : World) (R : Bool → World → Prop) (h : S7 n1 s2 w R) : C7 n1 s2 w R := by
  have e : fnT Try.prog FF pl7 Try.f7 [.int .i64 n1, .string s2] w [(.one .bool)] (fun s w => R s w) = S7 n1 s2 w R := by kernel_rfl
  exact (fn_calls okF okM Try.func7 (by kernel_rfl) (by kernel_rfl) (e.mpr h)).mono fun _ _ ⟨s, he, hR⟩ => ⟨s, he, hR⟩

end Go.Proofs.Ytahdpfjikmechaa
