/- The formulas of 11 functions of the program, written by program (gen.py); the kernel checks each. No condition. -/
import Derived.Test.YtpkadliieplblaaDoorFn
import Derived.Test.YtpkadliieplblaaDoorFnFix
namespace Go.Proofs.YtpkadliieplblaaDoor
open Sh
set_option linter.unusedVariables false
set_option maxRecDepth 100000

def C22 (s1 : ByteArray) (c2 : Int) (w : World) (R : Int → World → Prop) : Prop :=
  Calls Tryd.prog 22 #[.string s1, .int .u8 c2] w fun e w' => ∃ r0 : Int, e = .returned (.int .i64 r0) ∧ R r0 w'
theorem C22.mono {s1 : ByteArray} {c2 : Int} {w : World} {R R' : Int → World → Prop} (h : C22 s1 c2 w R) (hr : ∀ r0 w', R r0 w' → R' r0 w') : C22 s1 c2 w R' :=
  Calls.mono h fun _ _ ⟨r0, he, hR⟩ => ⟨r0, he, hr _ _ hR⟩
def C42 (c1 : Int) (w : World) (R : Bool → World → Prop) : Prop :=
  Calls Tryd.prog 42 #[.int .u8 c1] w fun e w' => ∃ r0 : Bool, e = .returned (.bool r0) ∧ R r0 w'
theorem C42.mono {c1 : Int} {w : World} {R R' : Bool → World → Prop} (h : C42 c1 w R) (hr : ∀ r0 w', R r0 w' → R' r0 w') : C42 c1 w R' :=
  Calls.mono h fun _ _ ⟨r0, he, hR⟩ => ⟨r0, he, hr _ _ hR⟩
def C53 (c1 : Int) (w : World) (R : Bool → World → Prop) : Prop :=
  Calls Tryd.prog 53 #[.int .u8 c1] w fun e w' => ∃ r0 : Bool, e = .returned (.bool r0) ∧ R r0 w'
theorem C53.mono {c1 : Int} {w : World} {R R' : Bool → World → Prop} (h : C53 c1 w R) (hr : ∀ r0 w', R r0 w' → R' r0 w') : C53 c1 w R' :=
  Calls.mono h fun _ _ ⟨r0, he, hR⟩ => ⟨r0, he, hr _ _ hR⟩
def C36 (s1 : ByteArray) (vat2 : Int) (w : World) (R : Int → World → Prop) : Prop :=
  Calls Tryd.prog 36 #[.string s1, .int .i64 vat2] w fun e w' => ∃ r0 : Int, e = .returned (.int .i64 r0) ∧ R r0 w'
theorem C36.mono {s1 : ByteArray} {vat2 : Int} {w : World} {R R' : Int → World → Prop} (h : C36 s1 vat2 w R) (hr : ∀ r0 w', R r0 w' → R' r0 w') : C36 s1 vat2 w R' :=
  Calls.mono h fun _ _ ⟨r0, he, hR⟩ => ⟨r0, he, hr _ _ hR⟩
def C47 (s1 : ByteArray) (part2 : ByteArray) (vat3 : Int) (w : World) (R : Bool → World → Prop) : Prop :=
  Calls Tryd.prog 47 #[.string s1, .string part2, .int .i64 vat3] w fun e w' => ∃ r0 : Bool, e = .returned (.bool r0) ∧ R r0 w'
theorem C47.mono {s1 : ByteArray} {part2 : ByteArray} {vat3 : Int} {w : World} {R R' : Bool → World → Prop} (h : C47 s1 part2 vat3 w R) (hr : ∀ r0 w', R r0 w' → R' r0 w') : C47 s1 part2 vat3 w R' :=
  Calls.mono h fun _ _ ⟨r0, he, hR⟩ => ⟨r0, he, hr _ _ hR⟩
def C24 (c1 : Int) (w : World) (R : Bool → World → Prop) : Prop :=
  Calls Tryd.prog 24 #[.int .u8 c1] w fun e w' => ∃ r0 : Bool, e = .returned (.bool r0) ∧ R r0 w'
theorem C24.mono {c1 : Int} {w : World} {R R' : Bool → World → Prop} (h : C24 c1 w R) (hr : ∀ r0 w', R r0 w' → R' r0 w') : C24 c1 w R' :=
  Calls.mono h fun _ _ ⟨r0, he, hR⟩ => ⟨r0, he, hr _ _ hR⟩
def C28 (c1 : Int) (w : World) (R : Bool → World → Prop) : Prop :=
  Calls Tryd.prog 28 #[.int .u8 c1] w fun e w' => ∃ r0 : Bool, e = .returned (.bool r0) ∧ R r0 w'
theorem C28.mono {c1 : Int} {w : World} {R R' : Bool → World → Prop} (h : C28 c1 w R) (hr : ∀ r0 w', R r0 w' → R' r0 w') : C28 c1 w R' :=
  Calls.mono h fun _ _ ⟨r0, he, hR⟩ => ⟨r0, he, hr _ _ hR⟩
def C87 (s1 : ByteArray) (vat2 : Int) (w : World) (R : Int → World → Prop) : Prop :=
  Calls Tryd.prog 87 #[.string s1, .int .i64 vat2] w fun e w' => ∃ r0 : Int, e = .returned (.int .i64 r0) ∧ R r0 w'
theorem C87.mono {s1 : ByteArray} {vat2 : Int} {w : World} {R R' : Int → World → Prop} (h : C87 s1 vat2 w R) (hr : ∀ r0 w', R r0 w' → R' r0 w') : C87 s1 vat2 w R' :=
  Calls.mono h fun _ _ ⟨r0, he, hR⟩ => ⟨r0, he, hr _ _ hR⟩
def C69 (c1 : Int) (w : World) (R : Int → World → Prop) : Prop :=
  Calls Tryd.prog 69 #[.int .u8 c1] w fun e w' => ∃ r0 : Int, e = .returned (.int .i64 r0) ∧ R r0 w'
theorem C69.mono {c1 : Int} {w : World} {R R' : Int → World → Prop} (h : C69 c1 w R) (hr : ∀ r0 w', R r0 w' → R' r0 w') : C69 c1 w R' :=
  Calls.mono h fun _ _ ⟨r0, he, hR⟩ => ⟨r0, he, hr _ _ hR⟩
def C71 (s1 : ByteArray) (w : World) (R : ByteArray → Int → World → Prop) : Prop :=
  Calls Tryd.prog 71 #[.string s1] w fun e w' => ∃ r0 : ByteArray, ∃ r1 : Int, e = .returned (.tuple #[.string r0, .int .i64 r1]) ∧ R r0 r1 w'
theorem C71.mono {s1 : ByteArray} {w : World} {R R' : ByteArray → Int → World → Prop} (h : C71 s1 w R) (hr : ∀ r0 r1 w', R r0 r1 w' → R' r0 r1 w') : C71 s1 w R' :=
  Calls.mono h fun _ _ ⟨r0, r1, he, hR⟩ => ⟨r0, r1, he, hr _ _ _ hR⟩
def C26 (s1 : ByteArray) (w : World) (R : ByteArray → World → Prop) : Prop :=
  Calls Tryd.prog 26 #[.string s1] w fun e w' => ∃ r0 : ByteArray, e = .returned (.string r0) ∧ R r0 w'
theorem C26.mono {s1 : ByteArray} {w : World} {R R' : ByteArray → World → Prop} (h : C26 s1 w R) (hr : ∀ r0 w', R r0 w' → R' r0 w') : C26 s1 w R' :=
  Calls.mono h fun _ _ ⟨r0, he, hR⟩ => ⟨r0, he, hr _ _ hR⟩



/-- foliant/octet.White -/
def S42 (c1 : Int) (w : World) (R : Bool → World → Prop) : Prop :=
  C22 (⟨#[0, 9, 10, 12, 13, 32]⟩ : ByteArray) c1 w fun r2 vw3 =>
    R (decide (r2 ≥ 0)) vw3
def pl42 : Plan := (.seq (.reg .seq) (.seq (.reg .seq) .leaf))
set_option maxRecDepth 100000 in
theorem T42 (c1 : Int) (w : World) (R : Bool → World → Prop) (h : S42 c1 w R) : C42 c1 w R := by
  have e : fnT Tryd.prog ⟨FF, MAY, (fun _ _ => False)⟩ pl42 Tryd.f42 [.int .u8 c1] w [(.one .bool)] (fun s w => R s w) = S42 c1 w R := by kernel_rfl
  exact (fn_calls okF okM Tryd.func42 (by kernel_rfl) (by kernel_rfl) (e.mpr h)).mono fun _ _ ⟨s, he, hR⟩ => ⟨s, he, hR⟩

/-- foliant/octet.ends -/
def S53 (c1 : Int) (w : World) (R : Bool → World → Prop) : Prop :=
  Br (c1 == 13) (R true w) (R (c1 == 10) w)
def pl53 : Plan := (.seq (.reg .seq) (.seq (.reg .seq) .leaf))
set_option maxRecDepth 100000 in
theorem T53 (c1 : Int) (w : World) (R : Bool → World → Prop) (h : S53 c1 w R) : C53 c1 w R := by
  have e : fnT Tryd.prog ⟨FF, MAY, (fun _ _ => False)⟩ pl53 Tryd.f53 [.int .u8 c1] w [(.one .bool)] (fun s w => R s w) = S53 c1 w R := by kernel_rfl
  exact (fn_calls okF okM Tryd.func53 (by kernel_rfl) (by kernel_rfl) (e.mpr h)).mono fun _ _ ⟨s, he, hR⟩ => ⟨s, he, hR⟩

def S36L1 (s1 : ByteArray) (R : Int → World → Prop) (I5 : (Int × Bool) → World → Prop) (s3 : Int × Bool) (vw4 : World) : Prop :=
  Br (decide (s3.1 < (((s1).size : Nat) : Int))) (0 ≤ s3.1 ∧ s3.1 < ((s1).size : Nat) ∧ Br s3.2 (C53 (bAt s1 s3.1) vw4 fun r6 vw7 =>
        I5 (IntKind.i64.wrap (s3.1 + 1), !r6) vw7) (Br ((bAt s1 s3.1) == 37) (I5 (IntKind.i64.wrap (s3.1 + 1), true) vw4) (C42 (bAt s1 s3.1) vw4 fun r8 vw9 =>
          Br (!r8) (R s3.1 vw9) (I5 (IntKind.i64.wrap (s3.1 + 1), s3.2) vw9)))) (R (((s1).size : Nat) : Int) vw4)
/-- foliant/octet.Skip -/
def S36 (s1 : ByteArray) (vat2 : Int) (w : World) (R : Int → World → Prop) : Prop :=
  Br (decide (vat2 < 0)) (R vat2 w) (Br (decide (vat2 > (((s1).size : Nat) : Int))) (R vat2 w) (Lp (σ := Int × Bool) (S36L1 s1 R) (vat2, false) w))
def pl36 : Plan := (.seq (.reg .seq) (.seq (.seq (.reg .seq) (.cond (.seq (.reg .seq) .leaf) .leaf)) (.seq (.seq (.reg .seq) (.block (.loop [(1, (.one (.int .i64))), (5, (.one .bool))] [0] (.seq (.seq (.reg .seq) (.cond .leaf .leaf)) (.seq (.block (.seq (.reg .seq) (.block (.seq (.reg .seq) (.cond (.reg .seq) (.seq (.reg .seq) (.cond (.reg .seq) (.seq (.reg .seq) (.cond (.seq (.reg .seq) .leaf) .leaf))))))))) (.reg .seq)))))) (.seq (.reg .seq) .leaf))))
set_option maxRecDepth 100000 in
theorem T36 (s1 : ByteArray) (vat2 : Int) (w : World) (R : Int → World → Prop) (h : S36 s1 vat2 w R) : C36 s1 vat2 w R := by
  have e : fnT Tryd.prog ⟨FF, MAY, (fun _ _ => False)⟩ pl36 Tryd.f36 [.string s1, .int .i64 vat2] w [(.one (.int .i64))] (fun s w => R s w) = S36 s1 vat2 w R := by kernel_rfl
  exact (fn_calls okF okM Tryd.func36 (by kernel_rfl) (by kernel_rfl) (e.mpr h)).mono fun _ _ ⟨s, he, hR⟩ => ⟨s, he, hR⟩

/-- foliant/octet.Begins -/
def S47 (s1 : ByteArray) (part2 : ByteArray) (vat3 : Int) (w : World) (R : Bool → World → Prop) : Prop :=
  Br (decide (vat3 ≥ 0)) (Br (decide (vat3 ≤ (((s1).size : Nat) : Int))) (0 ≤ vat3 ∧ vat3 ≤ (((s1).size : Nat) : Int) ∧ C67 (s1.extract ((vat3).toNat) ((s1).size)) part2 w fun r4 vw5 =>
        R r4 vw5) (R false w)) (R false w)
def pl47 : Plan := (.seq (.reg .seq) (.seq (.reg .seq) .leaf))
set_option maxRecDepth 100000 in
theorem T47 (s1 : ByteArray) (part2 : ByteArray) (vat3 : Int) (w : World) (R : Bool → World → Prop) (h : S47 s1 part2 vat3 w R) : C47 s1 part2 vat3 w R := by
  have e : fnT Tryd.prog ⟨FF, MAY, (fun _ _ => False)⟩ pl47 Tryd.f47 [.string s1, .string part2, .int .i64 vat3] w [(.one .bool)] (fun s w => R s w) = S47 s1 part2 vat3 w R := by kernel_rfl
  exact (fn_calls okF okM Tryd.func47 (by kernel_rfl) (by kernel_rfl) (e.mpr h)).mono fun _ _ ⟨s, he, hR⟩ => ⟨s, he, hR⟩

/-- foliant/octet.Delim -/
def S24 (c1 : Int) (w : World) (R : Bool → World → Prop) : Prop :=
  C22 (⟨#[40, 41, 60, 62, 91, 93, 123, 125, 47, 37]⟩ : ByteArray) c1 w fun r2 vw3 =>
    R (decide (r2 ≥ 0)) vw3
def pl24 : Plan := (.seq (.reg .seq) (.seq (.reg .seq) .leaf))
set_option maxRecDepth 100000 in
theorem T24 (c1 : Int) (w : World) (R : Bool → World → Prop) (h : S24 c1 w R) : C24 c1 w R := by
  have e : fnT Tryd.prog ⟨FF, MAY, (fun _ _ => False)⟩ pl24 Tryd.f24 [.int .u8 c1] w [(.one .bool)] (fun s w => R s w) = S24 c1 w R := by kernel_rfl
  exact (fn_calls okF okM Tryd.func24 (by kernel_rfl) (by kernel_rfl) (e.mpr h)).mono fun _ _ ⟨s, he, hR⟩ => ⟨s, he, hR⟩

/-- foliant/octet.Regular -/
def S28 (c1 : Int) (w : World) (R : Bool → World → Prop) : Prop :=
  C42 c1 w fun r2 vw3 =>
    Br (!r2) (C24 c1 vw3 fun r4 vw5 =>
        R (!r4) vw5) (R false vw3)
def pl28 : Plan := (.seq (.reg .seq) (.seq (.reg .seq) .leaf))
set_option maxRecDepth 100000 in
theorem T28 (c1 : Int) (w : World) (R : Bool → World → Prop) (h : S28 c1 w R) : C28 c1 w R := by
  have e : fnT Tryd.prog ⟨FF, MAY, (fun _ _ => False)⟩ pl28 Tryd.f28 [.int .u8 c1] w [(.one .bool)] (fun s w => R s w) = S28 c1 w R := by kernel_rfl
  exact (fn_calls okF okM Tryd.func28 (by kernel_rfl) (by kernel_rfl) (e.mpr h)).mono fun _ _ ⟨s, he, hR⟩ => ⟨s, he, hR⟩

def S87L1 (s1 : ByteArray) (R : Int → World → Prop) (I5 : Int → World → Prop) (s3 : Int) (vw4 : World) : Prop :=
  Br (decide (s3 < (((s1).size : Nat) : Int))) (0 ≤ s3 ∧ s3 < ((s1).size : Nat) ∧ Br ((bAt s1 s3) == 10) (R (IntKind.i64.wrap (s3 + 1)) vw4) (Br ((bAt s1 s3) == 13) (C47 s1 (⟨#[13, 10]⟩ : ByteArray) s3 vw4 fun r6 vw7 =>
          Br r6 (R (IntKind.i64.wrap (s3 + 2)) vw7) (R (IntKind.i64.wrap (s3 + 1)) vw7)) (I5 (IntKind.i64.wrap (s3 + 1)) vw4))) (R (((s1).size : Nat) : Int) vw4)
/-- foliant/octet.Line -/
def S87 (s1 : ByteArray) (vat2 : Int) (w : World) (R : Int → World → Prop) : Prop :=
  Br (decide (vat2 < 0)) (R vat2 w) (Br (decide (vat2 > (((s1).size : Nat) : Int))) (R vat2 w) (Lp (σ := Int) (S87L1 s1 R) vat2 w))
def pl87 : Plan := (.seq (.reg .seq) (.seq (.seq (.reg .seq) (.cond (.seq (.reg .seq) .leaf) .leaf)) (.seq (.block (.loop [(1, (.one (.int .i64)))] [0] (.seq (.seq (.reg .seq) (.cond .leaf .leaf)) (.seq (.block (.seq (.reg .seq) (.block (.seq (.reg .seq) (.cond (.seq (.reg .seq) .leaf) (.seq (.reg .seq) (.cond (.seq (.seq (.reg .seq) (.cond (.seq (.reg .seq) .leaf) .leaf)) (.seq (.reg .seq) .leaf)) .leaf))))))) (.reg .seq))))) (.seq (.reg .seq) .leaf))))
set_option maxRecDepth 100000 in
theorem T87 (s1 : ByteArray) (vat2 : Int) (w : World) (R : Int → World → Prop) (h : S87 s1 vat2 w R) : C87 s1 vat2 w R := by
  have e : fnT Tryd.prog ⟨FF, MAY, (fun _ _ => False)⟩ pl87 Tryd.f87 [.string s1, .int .i64 vat2] w [(.one (.int .i64))] (fun s w => R s w) = S87 s1 vat2 w R := by kernel_rfl
  exact (fn_calls okF okM Tryd.func87 (by kernel_rfl) (by kernel_rfl) (e.mpr h)).mono fun _ _ ⟨s, he, hR⟩ => ⟨s, he, hR⟩

/-- foliant/octet.Digit -/
def S69 (c1 : Int) (w : World) (R : Int → World → Prop) : Prop :=
  Br (decide (c1 ≥ 48)) (Br (decide (c1 ≤ 57)) (R (IntKind.i64.wrap (IntKind.u8.wrap (c1 - 48))) w) (Br (decide (c1 ≥ 65)) (Br (decide (c1 ≤ 70)) (R (IntKind.i64.wrap ((IntKind.i64.wrap (IntKind.u8.wrap (c1 - 65))) + 10)) w) (Br (decide (c1 ≥ 97)) (Br (decide (c1 ≤ 102)) (R (IntKind.i64.wrap ((IntKind.i64.wrap (IntKind.u8.wrap (c1 - 97))) + 10)) w) (R (-1) w)) (R (-1) w))) (Br (decide (c1 ≥ 97)) (Br (decide (c1 ≤ 102)) (R (IntKind.i64.wrap ((IntKind.i64.wrap (IntKind.u8.wrap (c1 - 97))) + 10)) w) (R (-1) w)) (R (-1) w)))) (Br (decide (c1 ≥ 65)) (Br (decide (c1 ≤ 70)) (R (IntKind.i64.wrap ((IntKind.i64.wrap (IntKind.u8.wrap (c1 - 65))) + 10)) w) (Br (decide (c1 ≥ 97)) (Br (decide (c1 ≤ 102)) (R (IntKind.i64.wrap ((IntKind.i64.wrap (IntKind.u8.wrap (c1 - 97))) + 10)) w) (R (-1) w)) (R (-1) w))) (Br (decide (c1 ≥ 97)) (Br (decide (c1 ≤ 102)) (R (IntKind.i64.wrap ((IntKind.i64.wrap (IntKind.u8.wrap (c1 - 97))) + 10)) w) (R (-1) w)) (R (-1) w)))
def pl69 : Plan := (.seq (.reg .seq) (.seq (.block (.seq (.reg .seq) (.cond (.seq (.reg .seq) .leaf) (.seq (.reg .seq) (.cond (.seq (.reg .seq) .leaf) (.seq (.reg .seq) (.cond (.seq (.reg .seq) .leaf) .leaf))))))) (.seq (.reg .seq) .leaf)))
set_option maxRecDepth 100000 in
theorem T69 (c1 : Int) (w : World) (R : Int → World → Prop) (h : S69 c1 w R) : C69 c1 w R := by
  have e : fnT Tryd.prog ⟨FF, MAY, (fun _ _ => False)⟩ pl69 Tryd.f69 [.int .u8 c1] w [(.one (.int .i64))] (fun s w => R s w) = S69 c1 w R := by kernel_rfl
  exact (fn_calls okF okM Tryd.func69 (by kernel_rfl) (by kernel_rfl) (e.mpr h)).mono fun _ _ ⟨s, he, hR⟩ => ⟨s, he, hR⟩

def S71L1 (s1 : ByteArray) (R : ByteArray → Int → World → Prop) (I6 : (Slc × Int) → World → Prop) (s4 : Slc × Int) (vw5 : World) : Prop :=
  Br (decide (s4.2 < (((s1).size : Nat) : Int))) (0 ≤ s4.2 ∧ s4.2 < ((s1).size : Nat) ∧ 0 ≤ (IntKind.i64.wrap (s4.2 + 1)) ∧ (IntKind.i64.wrap (s4.2 + 1)) < ((s1).size : Nat) ∧ C69 (bAt s1 s4.2) vw5.drew fun r7 vw8 =>
      C69 (bAt s1 (IntKind.i64.wrap (s4.2 + 1))) vw8 fun r9 vw10 =>
        Br (decide (r7 < 0)) (R (⟨#[]⟩ : ByteArray) 3 vw10) (Br (decide (r9 < 0)) (R (⟨#[]⟩ : ByteArray) 3 vw10) (Nw vw10 (.cells #[.int .u8 (IntKind.u8.wrap (ior .i64 (IntKind.i64.wrap (r7 * 2 ^ 4)) r9))] 5) fun vw11 =>
            Rn Tryd.prog (Builtin.append_ #[56, 56] 56 #[Slc.v s4.1, Slc.v ((⟨some ⟨vw10.heap.size, 0, none⟩, 1, 1⟩ : Slc))]) vw11 Slc.v fun (x12 : Slc) vw13 =>
            I6 (x12, IntKind.i64.wrap (s4.2 + 2)) vw13))) (Rn Tryd.prog (convert 56 9 (Slc.v s4.1)) vw5 Value.string fun (x14 : ByteArray) vw15 =>
    R x14 0 vw15)
/-- foliant/octet.Unhex -/
def S71 (s1 : ByteArray) (w : World) (R : ByteArray → Int → World → Prop) : Prop :=
  Br ((Int.tmod (((s1).size : Nat) : Int) 2) != 0) (R (⟨#[]⟩ : ByteArray) 3 w) (Rn Tryd.prog (Instr.makeSlice 56 (.int .i64 0) (.int .i64 (IntKind.i64.wrap (Int.tdiv (((s1).size : Nat) : Int) 2)))) w Slc.v fun (x2 : Slc) vw3 =>
    Lp (σ := Slc × Int) (S71L1 s1 R) (x2, 0) vw3)
def pl71 : Plan := (.seq (.reg .seq) (.seq (.seq (.reg .seq) (.cond (.seq (.reg .seq) .leaf) .leaf)) (.seq (.reg .seq) (.seq (.seq (.reg .seq) (.block (.loop [(4, (.one .slc)), (5, (.one (.int .i64)))] [0] (.seq (.seq (.reg .seq) (.cond .leaf .leaf)) (.seq (.block (.seq (.reg (.held [3] (.take 0 (.take 1 (.take 2 (.take 4 (.take 5 (.take 6 (.take 7 (.eff 3 (some [8]) (.eff 8 (some []) (.take 9 (.take 10 .done))))))))))))) (.seq (.seq (.reg .seq) (.cond (.seq (.reg .seq) .leaf) .leaf)) (.reg .seq)))) (.reg .seq)))))) (.seq (.reg .seq) .leaf)))))
set_option maxRecDepth 100000 in
theorem T71 (s1 : ByteArray) (w : World) (R : ByteArray → Int → World → Prop) (h : S71 s1 w R) : C71 s1 w R := by
  have e : fnT Tryd.prog ⟨FF, MAY, (fun _ _ => False)⟩ pl71 Tryd.f71 [.string s1] w [(.one .str), (.one (.int .i64))] (fun s w => R s.1 s.2 w) = S71 s1 w R := by kernel_rfl
  exact (fn_calls okF okM Tryd.func71 (by kernel_rfl) (by kernel_rfl) (e.mpr h)).mono fun _ _ ⟨s, he, hR⟩ => ⟨s.1, s.2, he, hR⟩

def S26L1 (s1 : ByteArray) (R : ByteArray → World → Prop) (I6 : (Slc × Int) → World → Prop) (s4 : Slc × Int) (vw5 : World) : Prop :=
  Br (decide (s4.2 < (((s1).size : Nat) : Int))) (0 ≤ s4.2 ∧ s4.2 < ((s1).size : Nat) ∧ 0 ≤ (Int.fdiv (bAt s1 s4.2) (2 ^ 4)) ∧ (Int.fdiv (bAt s1 s4.2) (2 ^ 4)) < (((⟨#[48, 49, 50, 51, 52, 53, 54, 55, 56, 57, 65, 66, 67, 68, 69, 70]⟩ : ByteArray)).size : Nat) ∧ 0 ≤ s4.2 ∧ s4.2 < ((s1).size : Nat) ∧ 0 ≤ (iand .u8 (bAt s1 s4.2) 15) ∧ (iand .u8 (bAt s1 s4.2) 15) < (((⟨#[48, 49, 50, 51, 52, 53, 54, 55, 56, 57, 65, 66, 67, 68, 69, 70]⟩ : ByteArray)).size : Nat) ∧ Nw vw5.drew (.cells #[.int .u8 (bAt (⟨#[48, 49, 50, 51, 52, 53, 54, 55, 56, 57, 65, 66, 67, 68, 69, 70]⟩ : ByteArray) (Int.fdiv (bAt s1 s4.2) (2 ^ 4))), .int .u8 (bAt (⟨#[48, 49, 50, 51, 52, 53, 54, 55, 56, 57, 65, 66, 67, 68, 69, 70]⟩ : ByteArray) (iand .u8 (bAt s1 s4.2) 15))] 5) fun vw7 =>
    Rn Tryd.prog (Builtin.append_ #[56, 56] 56 #[Slc.v s4.1, Slc.v ((⟨some ⟨vw5.drew.heap.size, 0, none⟩, 2, 2⟩ : Slc))]) vw7 Slc.v fun (x8 : Slc) vw9 =>
    I6 (x8, IntKind.i64.wrap (s4.2 + 1)) vw9) (Rn Tryd.prog (convert 56 9 (Slc.v s4.1)) vw5 Value.string fun (x10 : ByteArray) vw11 =>
    R x10 vw11)
/-- foliant/octet.Hex -/
def S26 (s1 : ByteArray) (w : World) (R : ByteArray → World → Prop) : Prop :=
  Rn Tryd.prog (Instr.makeSlice 56 (.int .i64 0) (.int .i64 (IntKind.i64.wrap (2 * (((s1).size : Nat) : Int))))) w Slc.v fun (x2 : Slc) vw3 =>
  Lp (σ := Slc × Int) (S26L1 s1 R) (x2, 0) vw3
def pl26 : Plan := (.seq (.reg .seq) (.seq (.reg .seq) (.seq (.seq (.reg .seq) (.block (.loop [(3, (.one .slc)), (11, (.one (.int .i64)))] [0, 10] (.seq (.reg .seq) (.seq (.cond .leaf .leaf) (.seq (.block (.seq (.reg .seq) (.reg (.held [11] (.take 0 (.take 1 (.take 2 (.take 3 (.take 4 (.take 5 (.take 6 (.take 7 (.take 8 (.take 9 (.take 10 (.eff 11 (some [12]) (.eff 12 (some []) (.take 13 .done)))))))))))))))))) (.reg .seq))))))) (.seq (.reg .seq) .leaf))))
set_option maxRecDepth 100000 in
theorem T26 (s1 : ByteArray) (w : World) (R : ByteArray → World → Prop) (h : S26 s1 w R) : C26 s1 w R := by
  have e : fnT Tryd.prog ⟨FF, MAY, (fun _ _ => False)⟩ pl26 Tryd.f26 [.string s1] w [(.one .str)] (fun s w => R s w) = S26 s1 w R := by kernel_rfl
  exact (fn_calls okF okM Tryd.func26 (by kernel_rfl) (by kernel_rfl) (e.mpr h)).mono fun _ _ ⟨s, he, hR⟩ => ⟨s, he, hR⟩

end Go.Proofs.YtpkadliieplblaaDoor
