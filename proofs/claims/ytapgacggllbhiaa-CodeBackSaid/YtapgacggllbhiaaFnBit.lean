/- The formulas of 14 functions of the program, written by program (gen.py); the kernel checks each. No condition. -/
import Derived.Test.YtapgacggllbhiaaFn
namespace Go.Proofs.Ytapgacggllbhiaa
open Sh
set_option linter.unusedVariables false
set_option maxRecDepth 100000

def C20 (s1 : ByteArray) (w : World) (R : Option Addr → World → Prop) : Prop :=
  Calls Try.prog 20 #[.string s1] w fun e w' => ∃ r0 : Option Addr, e = .returned (.pointer r0) ∧ R r0 w'
theorem C20.mono {s1 : ByteArray} {w : World} {R R' : Option Addr → World → Prop} (h : C20 s1 w R) (hr : ∀ r0 w', R r0 w' → R' r0 w') : C20 s1 w R' :=
  Calls.mono h fun _ _ ⟨r0, he, hR⟩ => ⟨r0, he, hr _ _ hR⟩
def C23 (r1 : Option Addr) (w : World) (R : Int → World → Prop) : Prop :=
  Calls Try.prog 23 #[.pointer r1] w fun e w' => ∃ r0 : Int, e = .returned (.int .i64 r0) ∧ R r0 w'
theorem C23.mono {r1 : Option Addr} {w : World} {R R' : Int → World → Prop} (h : C23 r1 w R) (hr : ∀ r0 w', R r0 w' → R' r0 w') : C23 r1 w R' :=
  Calls.mono h fun _ _ ⟨r0, he, hR⟩ => ⟨r0, he, hr _ _ hR⟩
def C24 (w : World) (R : Option Addr → World → Prop) : Prop :=
  Calls Try.prog 24 #[] w fun e w' => ∃ r0 : Option Addr, e = .returned (.pointer r0) ∧ R r0 w'
theorem C24.mono {w : World} {R R' : Option Addr → World → Prop} (h : C24 w R) (hr : ∀ r0 w', R r0 w' → R' r0 w') : C24 w R' :=
  Calls.mono h fun _ _ ⟨r0, he, hR⟩ => ⟨r0, he, hr _ _ hR⟩
def C42 (s1 : Slc) (w : World) (R : Slc → World → Prop) : Prop :=
  Calls Try.prog 42 #[Slc.v s1] w fun e w' => ∃ r0 : Slc, e = .returned (Slc.v r0) ∧ R r0 w'
theorem C42.mono {s1 : Slc} {w : World} {R R' : Slc → World → Prop} (h : C42 s1 w R) (hr : ∀ r0 w', R r0 w' → R' r0 w') : C42 s1 w R' :=
  Calls.mono h fun _ _ ⟨r0, he, hR⟩ => ⟨r0, he, hr _ _ hR⟩
def C26 (vw1 : Option Addr) (w : World) (R : ByteArray → World → Prop) : Prop :=
  Calls Try.prog 26 #[.pointer vw1] w fun e w' => ∃ r0 : ByteArray, e = .returned (.string r0) ∧ R r0 w'
theorem C26.mono {vw1 : Option Addr} {w : World} {R R' : ByteArray → World → Prop} (h : C26 vw1 w R) (hr : ∀ r0 w', R r0 w' → R' r0 w') : C26 vw1 w R' :=
  Calls.mono h fun _ _ ⟨r0, he, hR⟩ => ⟨r0, he, hr _ _ hR⟩
def C27 (vw1 : Option Addr) (w : World) (R : Int → World → Prop) : Prop :=
  Calls Try.prog 27 #[.pointer vw1] w fun e w' => ∃ r0 : Int, e = .returned (.int .i64 r0) ∧ R r0 w'
theorem C27.mono {vw1 : Option Addr} {w : World} {R R' : Int → World → Prop} (h : C27 vw1 w R) (hr : ∀ r0 w', R r0 w' → R' r0 w') : C27 vw1 w R' :=
  Calls.mono h fun _ _ ⟨r0, he, hR⟩ => ⟨r0, he, hr _ _ hR⟩
def C51 (x1 : Option Addr) (way2 : Int) (w : World) (R : Bool → World → Prop) : Prop :=
  Calls Try.prog 51 #[.pointer x1, .int .i64 way2] w fun e w' => ∃ r0 : Bool, e = .returned (.bool r0) ∧ R r0 w'
theorem C51.mono {x1 : Option Addr} {way2 : Int} {w : World} {R R' : Bool → World → Prop} (h : C51 x1 way2 w R) (hr : ∀ r0 w', R r0 w' → R' r0 w') : C51 x1 way2 w R' :=
  Calls.mono h fun _ _ ⟨r0, he, hR⟩ => ⟨r0, he, hr _ _ hR⟩
def C57 (x1 : Option Addr) (way2 : Int) (w : World) (R : Int → World → Prop) : Prop :=
  Calls Try.prog 57 #[.pointer x1, .int .i64 way2] w fun e w' => ∃ r0 : Int, e = .returned (.int .i64 r0) ∧ R r0 w'
theorem C57.mono {x1 : Option Addr} {way2 : Int} {w : World} {R R' : Int → World → Prop} (h : C57 x1 way2 w R) (hr : ∀ r0 w', R r0 w' → R' r0 w') : C57 x1 way2 w R' :=
  Calls.mono h fun _ _ ⟨r0, he, hR⟩ => ⟨r0, he, hr _ _ hR⟩
def C52 (r1 : Option Addr) (way2 : Int) (w : World) (R : Int → World → Prop) : Prop :=
  Calls Try.prog 52 #[.pointer r1, .int .i64 way2] w fun e w' => ∃ r0 : Int, e = .returned (.int .i64 r0) ∧ R r0 w'
theorem C52.mono {r1 : Option Addr} {way2 : Int} {w : World} {R R' : Int → World → Prop} (h : C52 r1 way2 w R) (hr : ∀ r0 w', R r0 w' → R' r0 w') : C52 r1 way2 w R' :=
  Calls.mono h fun _ _ ⟨r0, he, hR⟩ => ⟨r0, he, hr _ _ hR⟩
def C45 (r1 : Option Addr) (n2 : Int) (way3 : Int) (w : World) (R : Int → Int → World → Prop) : Prop :=
  Calls Try.prog 45 #[.pointer r1, .int .i64 n2, .int .i64 way3] w fun e w' => ∃ r0 : Int, ∃ r1 : Int, e = .returned (.tuple #[.int .i64 r0, .int .i64 r1]) ∧ R r0 r1 w'
theorem C45.mono {r1 : Option Addr} {n2 : Int} {way3 : Int} {w : World} {R R' : Int → Int → World → Prop} (h : C45 r1 n2 way3 w R) (hr : ∀ r0 r1 w', R r0 r1 w' → R' r0 r1 w') : C45 r1 n2 way3 w R' :=
  Calls.mono h fun _ _ ⟨r0, r1, he, hR⟩ => ⟨r0, r1, he, hr _ _ _ hR⟩
def C38 (r1 : Option Addr) (n2 : Int) (w : World) (R : Int → Int → World → Prop) : Prop :=
  Calls Try.prog 38 #[.pointer r1, .int .i64 n2] w fun e w' => ∃ r0 : Int, ∃ r1 : Int, e = .returned (.tuple #[.int .i64 r0, .int .i64 r1]) ∧ R r0 r1 w'
theorem C38.mono {r1 : Option Addr} {n2 : Int} {w : World} {R R' : Int → Int → World → Prop} (h : C38 r1 n2 w R) (hr : ∀ r0 r1 w', R r0 r1 w' → R' r0 r1 w') : C38 r1 n2 w R' :=
  Calls.mono h fun _ _ ⟨r0, r1, he, hR⟩ => ⟨r0, r1, he, hr _ _ _ hR⟩
def C53 (vw1 : Option Addr) (b2 : Int) (way3 : Int) (w : World) (R : World → Prop) : Prop :=
  Calls Try.prog 53 #[.pointer vw1, .int .i64 b2, .int .i64 way3] w fun e w' => e = .returned (.tuple #[]) ∧ R w'
theorem C53.mono {vw1 : Option Addr} {b2 : Int} {way3 : Int} {w : World} {R R' : World → Prop} (h : C53 vw1 b2 way3 w R) (hr : ∀ w', R w' → R' w') : C53 vw1 b2 way3 w R' :=
  Calls.mono h fun _ _ ⟨he, hR⟩ => ⟨he, hr _ hR⟩
def C46 (vw1 : Option Addr) (v2 : Int) (n3 : Int) (way4 : Int) (w : World) (R : Int → World → Prop) : Prop :=
  Calls Try.prog 46 #[.pointer vw1, .int .i64 v2, .int .i64 n3, .int .i64 way4] w fun e w' => ∃ r0 : Int, e = .returned (.int .i64 r0) ∧ R r0 w'
theorem C46.mono {vw1 : Option Addr} {v2 : Int} {n3 : Int} {way4 : Int} {w : World} {R R' : Int → World → Prop} (h : C46 vw1 v2 n3 way4 w R) (hr : ∀ r0 w', R r0 w' → R' r0 w') : C46 vw1 v2 n3 way4 w R' :=
  Calls.mono h fun _ _ ⟨r0, he, hR⟩ => ⟨r0, he, hr _ _ hR⟩
def C41 (vw1 : Option Addr) (v2 : Int) (n3 : Int) (w : World) (R : Int → World → Prop) : Prop :=
  Calls Try.prog 41 #[.pointer vw1, .int .i64 v2, .int .i64 n3] w fun e w' => ∃ r0 : Int, e = .returned (.int .i64 r0) ∧ R r0 w'
theorem C41.mono {vw1 : Option Addr} {v2 : Int} {n3 : Int} {w : World} {R R' : Int → World → Prop} (h : C41 vw1 v2 n3 w R) (hr : ∀ r0 w', R r0 w' → R' r0 w') : C41 vw1 v2 n3 w R' :=
  Calls.mono h fun _ _ ⟨r0, he, hR⟩ => ⟨r0, he, hr _ _ hR⟩

/-- foliant/bit.From -/
def S20 (s1 : ByteArray) (w : World) (R : Option Addr → World → Prop) : Prop :=
  Nw w (.cells #[.int .i64 0, .int .i64 0, .string s1, .int .i64 0] 71) fun vw2 =>
  R (some (⟨w.heap.size, 0, none⟩ : Addr)) vw2
def pl20 : Plan := (.seq (.reg .seq) (.seq (.reg .seq) .leaf))
set_option maxRecDepth 100000 in
theorem T20 (s1 : ByteArray) (w : World) (R : Option Addr → World → Prop) (h : S20 s1 w R) : C20 s1 w R := by
  have e : fnT Try.prog ⟨FF, MAY, (fun _ _ => False)⟩ pl20 Try.f20 [.string s1] w [(.one .ptr)] (fun s w => R s w) = S20 s1 w R := by kernel_rfl
  exact (fn_calls okF okM Try.func20 (by kernel_rfl) (by kernel_rfl) (e.mpr h)).mono fun _ _ ⟨s, he, hR⟩ => ⟨s, he, hR⟩

/-- (*foliant/bit.Reader).Left -/
def S23 (r1 : Option Addr) (w : World) (R : Int → World → Prop) : Prop :=
  Br r1.isNone (R 0 w) (Nn r1 fun a2 =>
    Ld w.drew (a2.add 2) Value.string fun (x3 : ByteArray) =>
    Nn r1 fun a4 =>
    Ld w.drew (a4.add 3) (Value.int .i64) fun (x5 : Int) =>
    Nn r1 fun a6 =>
    Ld w.drew (a6.add 1) (Value.int .i64) fun (x7 : Int) =>
    Lt (IntKind.i64.wrap ((IntKind.i64.wrap (8 * (IntKind.i64.wrap ((((x3).size : Nat) : Int) - x5)))) - x7)) fun (x8 : Int) =>
    R x8 w.drew)
def pl23 : Plan := (.seq (.reg .seq) (.seq (.seq (.reg .seq) (.cond (.seq (.reg .seq) .leaf) .leaf)) (.seq (.reg .still) .leaf)))
set_option maxRecDepth 100000 in
theorem T23 (r1 : Option Addr) (w : World) (R : Int → World → Prop) (h : S23 r1 w R) : C23 r1 w R := by
  have e : fnT Try.prog ⟨FF, MAY, (fun _ _ => False)⟩ pl23 Try.f23 [.pointer r1] w [(.one (.int .i64))] (fun s w => R s w) = S23 r1 w R := by kernel_rfl
  exact (fn_calls okF okM Try.func23 (by kernel_rfl) (by kernel_rfl) (e.mpr h)).mono fun _ _ ⟨s, he, hR⟩ => ⟨s, he, hR⟩

/-- foliant/bit.New -/
def S24 (w : World) (R : Option Addr → World → Prop) : Prop :=
  Nw w (.cells #[.int .i64 0, .int .i64 0, Slc.v ((⟨none, 0, 0⟩ : Slc))] 78) fun vw1 =>
  R (some (⟨w.heap.size, 0, none⟩ : Addr)) vw1
def pl24 : Plan := (.seq (.reg .seq) (.seq (.reg .seq) .leaf))
set_option maxRecDepth 100000 in
theorem T24 (w : World) (R : Option Addr → World → Prop) (h : S24 w R) : C24 w R := by
  have e : fnT Try.prog ⟨FF, MAY, (fun _ _ => False)⟩ pl24 Try.f24 [] w [(.one .ptr)] (fun s w => R s w) = S24 w R := by kernel_rfl
  exact (fn_calls okF okM Try.func24 (by kernel_rfl) (by kernel_rfl) (e.mpr h)).mono fun _ _ ⟨s, he, hR⟩ => ⟨s, he, hR⟩

/-- slices.Clone[[]byte,byte] -/
def S42 (s1 : Slc) (w : World) (R : Slc → World → Prop) : Prop :=
  Br s1.p.isNone (R (⟨none, 0, 0⟩ : Slc) w) (Nw w (.cells #[] 5) fun vw2 =>
    Rn Try.prog (Builtin.append_ #[76, 76] 76 #[Slc.v ((⟨some ⟨w.heap.size, 0, none⟩, 0, 0⟩ : Slc)), Slc.v s1]) vw2 Slc.v fun (x3 : Slc) vw4 =>
    R x3 vw4)
def pl42 : Plan := (.seq (.reg .seq) (.seq (.seq (.reg .seq) (.cond (.seq (.reg .seq) .leaf) .leaf)) (.seq (.reg .seq) .leaf)))
set_option maxRecDepth 100000 in
theorem T42 (s1 : Slc) (w : World) (R : Slc → World → Prop) (h : S42 s1 w R) : C42 s1 w R := by
  have e : fnT Try.prog ⟨FF, MAY, (fun _ _ => False)⟩ pl42 Try.f42 [Slc.v s1] w [(.one .slc)] (fun s w => R s w) = S42 s1 w R := by kernel_rfl
  exact (fn_calls okF okM Try.func42 (by kernel_rfl) (by kernel_rfl) (e.mpr h)).mono fun _ _ ⟨s, he, hR⟩ => ⟨s, he, hR⟩

/-- (*foliant/bit.Writer).Text -/
def S26 (vw1 : Option Addr) (w : World) (R : ByteArray → World → Prop) : Prop :=
  Br vw1.isNone (R (⟨#[]⟩ : ByteArray) w) (Nn vw1 fun a2 =>
    Ld w (a2.add 2) Slc.v fun (x3 : Slc) =>
    C42 x3 w fun r4 vw5 =>
      Rn Try.prog (convert 76 9 (Slc.v r4)) vw5 Value.string fun (x6 : ByteArray) vw7 =>
      R x6 vw7)
def pl26 : Plan := (.seq (.reg .seq) (.seq (.seq (.reg .seq) (.cond (.seq (.reg .seq) .leaf) .leaf)) (.seq (.reg .seq) .leaf)))
set_option maxRecDepth 100000 in
theorem T26 (vw1 : Option Addr) (w : World) (R : ByteArray → World → Prop) (h : S26 vw1 w R) : C26 vw1 w R := by
  have e : fnT Try.prog ⟨FF, MAY, (fun _ _ => False)⟩ pl26 Try.f26 [.pointer vw1] w [(.one .str)] (fun s w => R s w) = S26 vw1 w R := by kernel_rfl
  exact (fn_calls okF okM Try.func26 (by kernel_rfl) (by kernel_rfl) (e.mpr h)).mono fun _ _ ⟨s, he, hR⟩ => ⟨s, he, hR⟩

/-- (*foliant/bit.Writer).Len -/
def S27 (vw1 : Option Addr) (w : World) (R : Int → World → Prop) : Prop :=
  Br vw1.isNone (R 0 w) (Nn vw1 fun a2 =>
    Ld w (a2.add 2) Slc.v fun (x3 : Slc) =>
    R ((x3.len : Nat) : Int) w)
def pl27 : Plan := (.seq (.reg .seq) (.seq (.seq (.reg .seq) (.cond (.seq (.reg .seq) .leaf) .leaf)) (.seq (.reg .seq) .leaf)))
set_option maxRecDepth 100000 in
theorem T27 (vw1 : Option Addr) (w : World) (R : Int → World → Prop) (h : S27 vw1 w R) : C27 vw1 w R := by
  have e : fnT Try.prog ⟨FF, MAY, (fun _ _ => False)⟩ pl27 Try.f27 [.pointer vw1] w [(.one (.int .i64))] (fun s w => R s w) = S27 vw1 w R := by kernel_rfl
  exact (fn_calls okF okM Try.func27 (by kernel_rfl) (by kernel_rfl) (e.mpr h)).mono fun _ _ ⟨s, he, hR⟩ => ⟨s, he, hR⟩

/-- (*foliant/bit.side).other -/
def S51 (x1 : Option Addr) (way2 : Int) (w : World) (R : Bool → World → Prop) : Prop :=
  Nn x1 fun a3 =>
  Ld w a3 (Value.int .i64) fun (x4 : Int) =>
  Br (x4 != 0) (Nn x1 fun a5 =>
    Ld w a5 (Value.int .i64) fun (x6 : Int) =>
    R (x6 != way2) w) (R false w)
def pl51 : Plan := (.seq (.reg .seq) (.seq (.reg .seq) .leaf))
set_option maxRecDepth 100000 in
theorem T51 (x1 : Option Addr) (way2 : Int) (w : World) (R : Bool → World → Prop) (h : S51 x1 way2 w R) : C51 x1 way2 w R := by
  have e : fnT Try.prog ⟨FF, MAY, (fun _ _ => False)⟩ pl51 Try.f51 [.pointer x1, .int .i64 way2] w [(.one .bool)] (fun s w => R s w) = S51 x1 way2 w R := by kernel_rfl
  exact (fn_calls okF okM Try.func51 (by kernel_rfl) (by kernel_rfl) (e.mpr h)).mono fun _ _ ⟨s, he, hR⟩ => ⟨s, he, hR⟩

/-- (*foliant/bit.side).place -/
def S57 (x1 : Option Addr) (way2 : Int) (w : World) (R : Int → World → Prop) : Prop :=
  Br (way2 == 1) (Nn x1 fun a5 =>
    Ld w (a5.add 1) (Value.int .i64) fun (x6 : Int) =>
    R x6 w) (Nn x1 fun a7 =>
    Ld w (a7.add 1) (Value.int .i64) fun (x8 : Int) =>
    R (IntKind.i64.wrap (7 - x8)) w)
def pl57 : Plan := (.seq (.reg .seq) (.seq (.seq (.reg .seq) (.cond (.seq (.reg .seq) .leaf) .leaf)) (.seq (.reg .seq) .leaf)))
set_option maxRecDepth 100000 in
theorem T57 (x1 : Option Addr) (way2 : Int) (w : World) (R : Int → World → Prop) (h : S57 x1 way2 w R) : C57 x1 way2 w R := by
  have e : fnT Try.prog ⟨FF, MAY, (fun _ _ => False)⟩ pl57 Try.f57 [.pointer x1, .int .i64 way2] w [(.one (.int .i64))] (fun s w => R s w) = S57 x1 way2 w R := by kernel_rfl
  exact (fn_calls okF okM Try.func57 (by kernel_rfl) (by kernel_rfl) (e.mpr h)).mono fun _ _ ⟨s, he, hR⟩ => ⟨s, he, hR⟩

/-- (*foliant/bit.Reader).one -/
def S52 (r1 : Option Addr) (way2 : Int) (w : World) (R : Int → World → Prop) : Prop :=
  ∃ vS3 : World → Prop, vS3 w.drew ∧ Nn r1 fun a4 =>
  LdS vS3 (a4.add 2) Value.string fun (x5 : ByteArray) =>
  Nn r1 fun a6 =>
  LdS vS3 (a6.add 3) (Value.int .i64) fun (x7 : Int) =>
  0 ≤ x7 ∧ x7 < ((x5).size : Nat) ∧ Nn r1 fun a8 =>
  C57 (some a8) way2 w.drew fun r9 vw10 =>
    vS3 vw10 ∧ 0 ≤ r9 ∧ Nn r1 fun a11 =>
    Ld vw10 (a11.add 1) (Value.int .i64) fun (x12 : Int) =>
    Nn r1 fun a13 =>
    St vw10 (a13.add 1) (.int .i64 (IntKind.i64.wrap (x12 + 1))) fun vw14 =>
    Nn r1 fun a15 =>
    Ld vw14 (a15.add 1) (Value.int .i64) fun (x16 : Int) =>
    Br (x16 == 8) (Nn r1 fun a17 =>
      St vw14 (a17.add 1) (.int .i64 0) fun vw18 =>
      Nn r1 fun a19 =>
      Ld vw18 (a19.add 3) (Value.int .i64) fun (x20 : Int) =>
      Nn r1 fun a21 =>
      St vw18 (a21.add 3) (.int .i64 (IntKind.i64.wrap (x20 + 1))) fun vw22 =>
      R (iand .i64 (Int.fdiv (IntKind.i64.wrap (bAt x5 x7)) (2 ^ (min (r9).toNat 64))) 1) vw22) (R (iand .i64 (Int.fdiv (IntKind.i64.wrap (bAt x5 x7)) (2 ^ (min (r9).toNat 64))) 1) vw14)
def pl52 : Plan := (.seq (.reg .seq) (.seq (.reg (.held [] (.take 0 (.take 1 (.take 2 (.take 3 (.take 4 (.take 5 (.take 6 (.take 7 (.take 8 (.take 9 (.take 10 (.take 11 (.take 12 (.take 13 (.eff 14 none (.take 15 (.take 16 (.take 17 .done)))))))))))))))))))) (.seq (.seq (.reg .seq) (.seq (.reg .seq) (.cond (.seq (.reg .seq) (.reg .seq)) .leaf))) (.seq (.reg .seq) .leaf))))
set_option maxRecDepth 100000 in
theorem T52 (r1 : Option Addr) (way2 : Int) (w : World) (R : Int → World → Prop) (h : S52 r1 way2 w R) : C52 r1 way2 w R := by
  have e : fnT Try.prog ⟨FF, MAY, (fun _ _ => False)⟩ pl52 Try.f52 [.pointer r1, .int .i64 way2] w [(.one (.int .i64))] (fun s w => R s w) = S52 r1 way2 w R := by kernel_rfl
  exact (fn_calls okF okM Try.func52 (by kernel_rfl) (by kernel_rfl) (e.mpr h)).mono fun _ _ ⟨s, he, hR⟩ => ⟨s, he, hR⟩

def S45L1 (r1 : Option Addr) (n2 : Int) (way3 : Int) (R : Int → Int → World → Prop) (I21 : (Int × Int) → World → Prop) (s19 : Int × Int) (vw20 : World) : Prop :=
  Br (decide (s19.2 < n2)) (C52 r1 way3 vw20 fun r22 vw23 =>
      Br (way3 == 1) (0 ≤ s19.2 ∧ I21 (ior .i64 s19.1 (IntKind.i64.wrap (r22 * 2 ^ (min (s19.2).toNat 64))), IntKind.i64.wrap (s19.2 + 1)) vw23) (I21 (ior .i64 (IntKind.i64.wrap (s19.1 * 2 ^ 1)) r22, IntKind.i64.wrap (s19.2 + 1)) vw23)) (Br (decide (n2 > 0)) (Nn r1 fun a24 =>
      St vw20 a24 (.int .i64 way3) fun vw25 =>
      R s19.1 0 vw25) (R s19.1 0 vw20))
/-- (*foliant/bit.Reader).take -/
def S45 (r1 : Option Addr) (n2 : Int) (way3 : Int) (w : World) (R : Int → Int → World → Prop) : Prop :=
  Br r1.isNone (R 0 1 w) (Br (decide (n2 < 0)) (R 0 1 w) (Br (decide (n2 > 24)) (R 0 1 w) (Nn r1 fun a9 =>
        C51 (some a9) way3 w fun r10 vw11 =>
          Br r10 (R 0 1 vw11) (C23 r1 vw11 fun r12 vw13 =>
              Br (decide (n2 > r12)) (R 0 4 vw13) (Lp (σ := Int × Int) (S45L1 r1 n2 way3 R) (0, 0) vw13)))))
def pl45 : Plan := (.seq (.reg .seq) (.seq (.block (.seq (.reg .seq) (.cond (.seq (.reg .seq) .leaf) (.seq (.reg .seq) (.cond (.seq (.reg .seq) .leaf) .leaf))))) (.seq (.reg .seq) (.seq (.seq (.reg .seq) (.block (.loop [(8, (.one (.int .i64))), (35, (.one (.int .i64)))] [0, 1, 2, 34] (.seq (.reg .seq) (.seq (.cond .leaf .leaf) (.seq (.block (.seq (.reg .seq) (.seq (.reg .seq) (.seq (.reg .seq) (.cond (.reg .seq) (.reg .seq)))))) (.reg .seq))))))) (.seq (.seq (.reg .seq) (.cond (.reg .seq) .leaf)) (.seq (.reg .seq) .leaf))))))
set_option maxRecDepth 100000 in
theorem T45 (r1 : Option Addr) (n2 : Int) (way3 : Int) (w : World) (R : Int → Int → World → Prop) (h : S45 r1 n2 way3 w R) : C45 r1 n2 way3 w R := by
  have e : fnT Try.prog ⟨FF, MAY, (fun _ _ => False)⟩ pl45 Try.f45 [.pointer r1, .int .i64 n2, .int .i64 way3] w [(.one (.int .i64)), (.one (.int .i64))] (fun s w => R s.1 s.2 w) = S45 r1 n2 way3 w R := by kernel_rfl
  exact (fn_calls okF okM Try.func45 (by kernel_rfl) (by kernel_rfl) (e.mpr h)).mono fun _ _ ⟨s, he, hR⟩ => ⟨s.1, s.2, he, hR⟩

/-- (*foliant/bit.Reader).Low -/
def S38 (r1 : Option Addr) (n2 : Int) (w : World) (R : Int → Int → World → Prop) : Prop :=
  C45 r1 n2 1 w fun r3 r4 vw5 =>
    R r3 r4 vw5
def pl38 : Plan := (.seq (.reg .seq) (.seq (.reg .seq) .leaf))
set_option maxRecDepth 100000 in
theorem T38 (r1 : Option Addr) (n2 : Int) (w : World) (R : Int → Int → World → Prop) (h : S38 r1 n2 w R) : C38 r1 n2 w R := by
  have e : fnT Try.prog ⟨FF, MAY, (fun _ _ => False)⟩ pl38 Try.f38 [.pointer r1, .int .i64 n2] w [(.one (.int .i64)), (.one (.int .i64))] (fun s w => R s.1 s.2 w) = S38 r1 n2 w R := by kernel_rfl
  exact (fn_calls okF okM Try.func38 (by kernel_rfl) (by kernel_rfl) (e.mpr h)).mono fun _ _ ⟨s, he, hR⟩ => ⟨s.1, s.2, he, hR⟩

/-- (*foliant/bit.Writer).one -/
def S53 (vw1 : Option Addr) (b2 : Int) (way3 : Int) (w : World) (R : World → Prop) : Prop :=
  Nn vw1 fun a13 =>
  Ld w (a13.add 1) (Value.int .i64) fun (x14 : Int) =>
  Br (x14 == 0) (Nn vw1 fun a15 =>
    Ld w (a15.add 2) Slc.v fun (x16 : Slc) =>
    Nw w (.cells #[.int .u8 0] 5) fun vw17 =>
    Rn Try.prog (Builtin.append_ #[76, 76] 76 #[Slc.v x16, Slc.v ((⟨some ⟨w.heap.size, 0, none⟩, 1, 1⟩ : Slc))]) vw17 Slc.v fun (x18 : Slc) vw19 =>
    Nn vw1 fun a20 =>
    St vw19 (a20.add 2) (Slc.v x18) fun vw21 =>
    ∃ vS22 : World → Prop, vS22 vw21.drew ∧ Nn vw1 fun a23 =>
    LdS vS22 (a23.add 2) Slc.v fun (x24 : Slc) =>
    Nn vw1 fun a25 =>
    LdS vS22 (a25.add 2) Slc.v fun (x26 : Slc) =>
    0 ≤ (IntKind.i64.wrap (((x26.len : Nat) : Int) - 1)) ∧ (IntKind.i64.wrap (((x26.len : Nat) : Int) - 1)) < (x24.len : Nat) ∧ Nn x24.p fun a27 =>
    LdS vS22 (a27.add ((IntKind.i64.wrap (((x26.len : Nat) : Int) - 1)).toNat * 1)) (Value.int .u8) fun (x28 : Int) =>
    Nn vw1 fun a29 =>
    C57 (some a29) way3 vw21.drew fun r30 vw31 =>
      vS22 vw31 ∧ 0 ≤ r30 ∧ 0 ≤ (IntKind.i64.wrap (((x26.len : Nat) : Int) - 1)) ∧ (IntKind.i64.wrap (((x26.len : Nat) : Int) - 1)) < (x24.len : Nat) ∧ Nn x24.p fun a32 =>
      St vw31 (a32.add ((IntKind.i64.wrap (((x26.len : Nat) : Int) - 1)).toNat * 1)) (.int .u8 (ior .u8 x28 (IntKind.u8.wrap (IntKind.i64.wrap (b2 * 2 ^ (min (r30).toNat 64)))))) fun vw33 =>
      Nn vw1 fun a34 =>
      Ld vw33 (a34.add 1) (Value.int .i64) fun (x35 : Int) =>
      Nn vw1 fun a36 =>
      St vw33 (a36.add 1) (.int .i64 (Int.tmod (IntKind.i64.wrap (x35 + 1)) 8)) fun vw37 =>
      R vw37) (∃ vS38 : World → Prop, vS38 w.drew ∧ Nn vw1 fun a39 =>
    LdS vS38 (a39.add 2) Slc.v fun (x40 : Slc) =>
    Nn vw1 fun a41 =>
    LdS vS38 (a41.add 2) Slc.v fun (x42 : Slc) =>
    0 ≤ (IntKind.i64.wrap (((x42.len : Nat) : Int) - 1)) ∧ (IntKind.i64.wrap (((x42.len : Nat) : Int) - 1)) < (x40.len : Nat) ∧ Nn x40.p fun a43 =>
    LdS vS38 (a43.add ((IntKind.i64.wrap (((x42.len : Nat) : Int) - 1)).toNat * 1)) (Value.int .u8) fun (x44 : Int) =>
    Nn vw1 fun a45 =>
    C57 (some a45) way3 w.drew fun r46 vw47 =>
      vS38 vw47 ∧ 0 ≤ r46 ∧ 0 ≤ (IntKind.i64.wrap (((x42.len : Nat) : Int) - 1)) ∧ (IntKind.i64.wrap (((x42.len : Nat) : Int) - 1)) < (x40.len : Nat) ∧ Nn x40.p fun a48 =>
      St vw47 (a48.add ((IntKind.i64.wrap (((x42.len : Nat) : Int) - 1)).toNat * 1)) (.int .u8 (ior .u8 x44 (IntKind.u8.wrap (IntKind.i64.wrap (b2 * 2 ^ (min (r46).toNat 64)))))) fun vw49 =>
      Nn vw1 fun a50 =>
      Ld vw49 (a50.add 1) (Value.int .i64) fun (x51 : Int) =>
      Nn vw1 fun a52 =>
      St vw49 (a52.add 1) (.int .i64 (Int.tmod (IntKind.i64.wrap (x51 + 1)) 8)) fun vw53 =>
      R vw53)
def pl53 : Plan := (.seq (.seq (.reg .seq) (.cond (.reg .seq) .leaf)) (.seq (.reg (.held [22] (.take 0 (.take 1 (.take 2 (.take 3 (.take 4 (.take 5 (.take 6 (.take 7 (.take 8 (.take 9 (.take 10 (.take 11 (.take 12 (.take 13 (.take 14 (.take 15 (.take 16 (.eff 17 none (.take 18 (.take 19 (.take 20 (.take 21 (.eff 22 (some []) .done))))))))))))))))))))))))) (.reg .seq)))
set_option maxRecDepth 100000 in
theorem T53 (vw1 : Option Addr) (b2 : Int) (way3 : Int) (w : World) (R : World → Prop) (h : S53 vw1 b2 way3 w R) : C53 vw1 b2 way3 w R := by
  have e : fnT Try.prog ⟨FF, MAY, (fun _ _ => False)⟩ pl53 Try.f53 [.pointer vw1, .int .i64 b2, .int .i64 way3] w [] (fun _ w => R w) = S53 vw1 b2 way3 w R := by kernel_rfl
  exact (fn_calls okF okM Try.func53 (by kernel_rfl) (by kernel_rfl) (e.mpr h)).mono fun _ _ ⟨_, he, hR⟩ => ⟨he, hR⟩

def S46L1 (vw1 : Option Addr) (v2 : Int) (n3 : Int) (way4 : Int) (R : Int → World → Prop) (I19 : Int → World → Prop) (s17 : Int) (vw18 : World) : Prop :=
  Br (decide (s17 < n3)) (Br (way4 == 2) (0 ≤ (IntKind.i64.wrap ((IntKind.i64.wrap (n3 - 1)) - s17)) ∧ Lt (iand .i64 (Int.fdiv v2 (2 ^ (min (IntKind.i64.wrap ((IntKind.i64.wrap (n3 - 1)) - s17)).toNat 64))) 1) fun (x20 : Int) =>
      C53 vw1 x20 way4 vw18 fun vw21 =>
        I19 (IntKind.i64.wrap (s17 + 1)) vw21) (0 ≤ s17 ∧ C53 vw1 (iand .i64 (Int.fdiv v2 (2 ^ (min (s17).toNat 64))) 1) way4 vw18 fun vw22 =>
        I19 (IntKind.i64.wrap (s17 + 1)) vw22)) (Br (decide (n3 > 0)) (Nn vw1 fun a23 =>
      St vw18 a23 (.int .i64 way4) fun vw24 =>
      R 0 vw24) (R 0 vw18))
/-- (*foliant/bit.Writer).put -/
def S46 (vw1 : Option Addr) (v2 : Int) (n3 : Int) (way4 : Int) (w : World) (R : Int → World → Prop) : Prop :=
  Br vw1.isNone (R 1 w) (Br (decide (n3 < 0)) (R 1 w) (Br (decide (n3 > 24)) (R 1 w) (Br (decide (v2 < 0)) (R 1 w) (0 ≤ n3 ∧ Br (decide (v2 ≥ (IntKind.i64.wrap (1 * 2 ^ (min (n3).toNat 64))))) (R 1 w) (Nn vw1 fun a8 =>
            C51 (some a8) way4 w fun r9 vw10 =>
              Br r9 (R 1 vw10) (Lp (σ := Int) (S46L1 vw1 v2 n3 way4 R) 0 vw10))))))
def pl46 : Plan := (.seq (.reg .seq) (.seq (.seq (.reg .seq) (.cond (.seq (.reg .seq) .leaf) .leaf)) (.seq (.seq (.reg .seq) (.block (.loop [(38, (.one (.int .i64)))] [0, 1, 2, 3, 37] (.seq (.reg .seq) (.seq (.cond .leaf .leaf) (.seq (.block (.seq (.reg .seq) (.seq (.seq (.reg .seq) (.cond (.reg .seq) .leaf)) (.reg .seq)))) (.reg .seq))))))) (.seq (.seq (.reg .seq) (.cond (.reg .seq) .leaf)) (.seq (.reg .seq) .leaf)))))
set_option maxRecDepth 100000 in
theorem T46 (vw1 : Option Addr) (v2 : Int) (n3 : Int) (way4 : Int) (w : World) (R : Int → World → Prop) (h : S46 vw1 v2 n3 way4 w R) : C46 vw1 v2 n3 way4 w R := by
  have e : fnT Try.prog ⟨FF, MAY, (fun _ _ => False)⟩ pl46 Try.f46 [.pointer vw1, .int .i64 v2, .int .i64 n3, .int .i64 way4] w [(.one (.int .i64))] (fun s w => R s w) = S46 vw1 v2 n3 way4 w R := by kernel_rfl
  exact (fn_calls okF okM Try.func46 (by kernel_rfl) (by kernel_rfl) (e.mpr h)).mono fun _ _ ⟨s, he, hR⟩ => ⟨s, he, hR⟩

/-- (*foliant/bit.Writer).Low -/
def S41 (vw1 : Option Addr) (v2 : Int) (n3 : Int) (w : World) (R : Int → World → Prop) : Prop :=
  C46 vw1 v2 n3 1 w fun r4 vw5 =>
    R r4 vw5
def pl41 : Plan := (.seq (.reg .seq) (.seq (.reg .seq) .leaf))
set_option maxRecDepth 100000 in
theorem T41 (vw1 : Option Addr) (v2 : Int) (n3 : Int) (w : World) (R : Int → World → Prop) (h : S41 vw1 v2 n3 w R) : C41 vw1 v2 n3 w R := by
  have e : fnT Try.prog ⟨FF, MAY, (fun _ _ => False)⟩ pl41 Try.f41 [.pointer vw1, .int .i64 v2, .int .i64 n3] w [(.one (.int .i64))] (fun s w => R s w) = S41 vw1 v2 n3 w R := by kernel_rfl
  exact (fn_calls okF okM Try.func41 (by kernel_rfl) (by kernel_rfl) (e.mpr h)).mono fun _ _ ⟨s, he, hR⟩ => ⟨s, he, hR⟩

end Go.Proofs.Ytapgacggllbhiaa
