/- The formulas of 14 functions of the program, written by program (gen.py); the kernel checks each. No condition. -/
import Derived.Test.YtjbeembbnkmpeaaDoorFn
import Derived.Test.YtjbeembbnkmpeaaDoorFnFix
import Derived.Test.YtjbeembbnkmpeaaDoorFnMat
import Derived.Test.YtjbeembbnkmpeaaDoorFnObj
namespace Go.Proofs.YtjbeembbnkmpeaaDoor
open Sh
set_option linter.unusedVariables false
set_option maxRecDepth 100000

def C208 (ranges1 : Slc) (r2 : Int) (w : World) (R : Bool → World → Prop) : Prop :=
  Calls Tryd.prog 208 #[Slc.v ranges1, .int .u16 r2] w fun e w' => ∃ r0 : Bool, e = .returned (.bool r0) ∧ R r0 w'
theorem C208.mono {ranges1 : Slc} {r2 : Int} {w : World} {R R' : Bool → World → Prop} (h : C208 ranges1 r2 w R) (hr : ∀ r0 w', R r0 w' → R' r0 w') : C208 ranges1 r2 w R' :=
  Calls.mono h fun _ _ ⟨r0, he, hR⟩ => ⟨r0, he, hr _ _ hR⟩
def C209 (ranges1 : Slc) (r2 : Int) (w : World) (R : Bool → World → Prop) : Prop :=
  Calls Tryd.prog 209 #[Slc.v ranges1, .int .u32 r2] w fun e w' => ∃ r0 : Bool, e = .returned (.bool r0) ∧ R r0 w'
theorem C209.mono {ranges1 : Slc} {r2 : Int} {w : World} {R R' : Bool → World → Prop} (h : C209 ranges1 r2 w R) (hr : ∀ r0 w', R r0 w' → R' r0 w') : C209 ranges1 r2 w R' :=
  Calls.mono h fun _ _ ⟨r0, he, hR⟩ => ⟨r0, he, hr _ _ hR⟩
def C203 (rangeTab1 : Option Addr) (r2 : Int) (w : World) (R : Bool → World → Prop) : Prop :=
  Calls Tryd.prog 203 #[.pointer rangeTab1, .int .i32 r2] w fun e w' => ∃ r0 : Bool, e = .returned (.bool r0) ∧ R r0 w'
theorem C203.mono {rangeTab1 : Option Addr} {r2 : Int} {w : World} {R R' : Bool → World → Prop} (h : C203 rangeTab1 r2 w R) (hr : ∀ r0 w', R r0 w' → R' r0 w') : C203 rangeTab1 r2 w R' :=
  Calls.mono h fun _ _ ⟨r0, he, hR⟩ => ⟨r0, he, hr _ _ hR⟩
def C187 (r1 : Int) (w : World) (R : Bool → World → Prop) : Prop :=
  Calls Tryd.prog 187 #[.int .i32 r1] w fun e w' => ∃ r0 : Bool, e = .returned (.bool r0) ∧ R r0 w'
theorem C187.mono {r1 : Int} {w : World} {R R' : Bool → World → Prop} (h : C187 r1 w R) (hr : ∀ r0 w', R r0 w' → R' r0 w') : C187 r1 w R' :=
  Calls.mono h fun _ _ ⟨r0, he, hR⟩ => ⟨r0, he, hr _ _ hR⟩
def C186 (s1 : ByteArray) (f2 : Value) (w : World) (R : Slc → World → Prop) : Prop :=
  Calls Tryd.prog 186 #[.string s1, f2] w fun e w' => ∃ r0 : Slc, e = .returned (Slc.v r0) ∧ R r0 w'
theorem C186.mono {s1 : ByteArray} {f2 : Value} {w : World} {R R' : Slc → World → Prop} (h : C186 s1 f2 w R) (hr : ∀ r0 w', R r0 w' → R' r0 w') : C186 s1 f2 w R' :=
  Calls.mono h fun _ _ ⟨r0, he, hR⟩ => ⟨r0, he, hr _ _ hR⟩
def C138 (s1 : ByteArray) (w : World) (R : Slc → World → Prop) : Prop :=
  Calls Tryd.prog 138 #[.string s1] w fun e w' => ∃ r0 : Slc, e = .returned (Slc.v r0) ∧ R r0 w'
theorem C138.mono {s1 : ByteArray} {w : World} {R R' : Slc → World → Prop} (h : C138 s1 w R) (hr : ∀ r0 w', R r0 w' → R' r0 w') : C138 s1 w R' :=
  Calls.mono h fun _ _ ⟨r0, he, hR⟩ => ⟨r0, he, hr _ _ hR⟩
def C190 (s1 : Slc) (v2 : ByteArray) (w : World) (R : Int → World → Prop) : Prop :=
  Calls Tryd.prog 190 #[Slc.v s1, .string v2] w fun e w' => ∃ r0 : Int, e = .returned (.int .i64 r0) ∧ R r0 w'
theorem C190.mono {s1 : Slc} {v2 : ByteArray} {w : World} {R R' : Int → World → Prop} (h : C190 s1 v2 w R) (hr : ∀ r0 w', R r0 w' → R' r0 w') : C190 s1 v2 w R' :=
  Calls.mono h fun _ _ ⟨r0, he, hR⟩ => ⟨r0, he, hr _ _ hR⟩
def C140 (s1 : Slc) (v2 : ByteArray) (w : World) (R : Bool → World → Prop) : Prop :=
  Calls Tryd.prog 140 #[Slc.v s1, .string v2] w fun e w' => ∃ r0 : Bool, e = .returned (.bool r0) ∧ R r0 w'
theorem C140.mono {s1 : Slc} {v2 : ByteArray} {w : World} {R R' : Bool → World → Prop} (h : C140 s1 v2 w R) (hr : ∀ r0 w', R r0 w' → R' r0 w') : C140 s1 v2 w R' :=
  Calls.mono h fun _ _ ⟨r0, he, hR⟩ => ⟨r0, he, hr _ _ hR⟩
def C141 (name1 : ByteArray) (w : World) (R : ByteArray → World → Prop) : Prop :=
  Calls Tryd.prog 141 #[.string name1] w fun e w' => ∃ r0 : ByteArray, e = .returned (.string r0) ∧ R r0 w'
theorem C141.mono {name1 : ByteArray} {w : World} {R R' : ByteArray → World → Prop} (h : C141 name1 w R) (hr : ∀ r0 w', R r0 w' → R' r0 w') : C141 name1 w R' :=
  Calls.mono h fun _ _ ⟨r0, he, hR⟩ => ⟨r0, he, hr _ _ hR⟩
def C142 (letter1 : Int) (kind2 : Int) (w : World) (R : Bool → World → Prop) : Prop :=
  Calls Tryd.prog 142 #[.int .i32 letter1, .int .i64 kind2] w fun e w' => ∃ r0 : Bool, e = .returned (.bool r0) ∧ R r0 w'
theorem C142.mono {letter1 : Int} {kind2 : Int} {w : World} {R R' : Bool → World → Prop} (h : C142 letter1 kind2 w R) (hr : ∀ r0 w', R r0 w' → R' r0 w') : C142 letter1 kind2 w R' :=
  Calls.mono h fun _ _ ⟨r0, he, hR⟩ => ⟨r0, he, hr _ _ hR⟩
def C80 (o1 : ByteArray × Slc × ByteArray) (w : World) (R : Int → World → Prop) : Prop :=
  Calls Tryd.prog 80 #[.agg #[.string o1.1, Slc.v o1.2.1, .string o1.2.2]] w fun e w' => ∃ r0 : Int, e = .returned (.int .i64 r0) ∧ R r0 w'
theorem C80.mono {o1 : ByteArray × Slc × ByteArray} {w : World} {R R' : Int → World → Prop} (h : C80 o1 w R) (hr : ∀ r0 w', R r0 w' → R' r0 w') : C80 o1 w R' :=
  Calls.mono h fun _ _ ⟨r0, he, hR⟩ => ⟨r0, he, hr _ _ hR⟩
def C104 (name1 : ByteArray) (w : World) (R : ByteArray → World → Prop) : Prop :=
  Calls Tryd.prog 104 #[.string name1] w fun e w' => ∃ r0 : ByteArray, e = .returned (.string r0) ∧ R r0 w'
theorem C104.mono {name1 : ByteArray} {w : World} {R R' : ByteArray → World → Prop} (h : C104 name1 w R) (hr : ∀ r0 w', R r0 w' → R' r0 w') : C104 name1 w R' :=
  Calls.mono h fun _ _ ⟨r0, he, hR⟩ => ⟨r0, he, hr _ _ hR⟩
def C105 (o1 : Int × Int × Int × ByteArray × Slc × Slc) (c2 : Int) (w : World) (R : Bool → World → Prop) : Prop :=
  Calls Tryd.prog 105 #[.agg #[.int .i64 (o1.1), .int .i64 (o1.2.1), .int .i64 (o1.2.2.1), .string o1.2.2.2.1, Slc.v o1.2.2.2.2.1, Slc.v o1.2.2.2.2.2], .int .u8 c2] w fun e w' => ∃ r0 : Bool, e = .returned (.bool r0) ∧ R r0 w'
theorem C105.mono {o1 : Int × Int × Int × ByteArray × Slc × Slc} {c2 : Int} {w : World} {R R' : Bool → World → Prop} (h : C105 o1 c2 w R) (hr : ∀ r0 w', R r0 w' → R' r0 w') : C105 o1 c2 w R' :=
  Calls.mono h fun _ _ ⟨r0, he, hR⟩ => ⟨r0, he, hr _ _ hR⟩
def C43 (o1 : ByteArray × Slc × ByteArray) (w : World) (R : Int → World → Prop) : Prop :=
  Calls Tryd.prog 43 #[.agg #[.string o1.1, Slc.v o1.2.1, .string o1.2.2]] w fun e w' => ∃ r0 : Int, e = .returned (.int .i64 r0) ∧ R r0 w'
theorem C43.mono {o1 : ByteArray × Slc × ByteArray} {w : World} {R R' : Int → World → Prop} (h : C43 o1 w R) (hr : ∀ r0 w', R r0 w' → R' r0 w') : C43 o1 w R' :=
  Calls.mono h fun _ _ ⟨r0, he, hR⟩ => ⟨r0, he, hr _ _ hR⟩

def S208L1 (ranges1 : Slc) (r2 : Int) (R : Bool → World → Prop) (I35 : Int → World → Prop) (s33 : Int) (vw34 : World) : Prop :=
  Br (decide (s33 < ((ranges1.len : Nat) : Int))) (0 ≤ s33 ∧ s33 < (ranges1.len : Nat) ∧ Nn ranges1.p fun a36 =>
    Nn (some (a36.add ((s33).toNat * 3))) fun a37 =>
    Ld vw34 a37 (Value.int .u16) fun (x38 : Int) =>
    Br (decide (r2 < x38)) (R false vw34) (Nn (some (a36.add ((s33).toNat * 3))) fun a39 =>
      Ld vw34 (a39.add 1) (Value.int .u16) fun (x40 : Int) =>
      Br (decide (r2 ≤ x40)) (Nn (some (a36.add ((s33).toNat * 3))) fun a41 =>
        Ld vw34.drew (a41.add 2) (Value.int .u16) fun (x42 : Int) =>
        Br (x42 == 1) (R true vw34.drew) (Nn (some (a36.add ((s33).toNat * 3))) fun a43 =>
          Ld vw34.drew a43 (Value.int .u16) fun (x44 : Int) =>
          Nn (some (a36.add ((s33).toNat * 3))) fun a45 =>
          Ld vw34.drew (a45.add 2) (Value.int .u16) fun (x46 : Int) =>
          x46 ≠ 0 ∧ R ((Int.tmod (IntKind.u16.wrap (r2 - x44)) x46) == 0) vw34.drew)) (I35 (IntKind.i64.wrap (s33 + 1)) vw34))) (R false vw34)
def S208L2 (ranges1 : Slc) (r2 : Int) (R : Bool → World → Prop) (I49 : Int → World → Prop) (s47 : Int) (vw48 : World) : Prop :=
  Br (decide (s47 < ((ranges1.len : Nat) : Int))) (0 ≤ s47 ∧ s47 < (ranges1.len : Nat) ∧ Nn ranges1.p fun a50 =>
    Nn (some (a50.add ((s47).toNat * 3))) fun a51 =>
    Ld vw48 a51 (Value.int .u16) fun (x52 : Int) =>
    Br (decide (r2 < x52)) (R false vw48) (Nn (some (a50.add ((s47).toNat * 3))) fun a53 =>
      Ld vw48 (a53.add 1) (Value.int .u16) fun (x54 : Int) =>
      Br (decide (r2 ≤ x54)) (Nn (some (a50.add ((s47).toNat * 3))) fun a55 =>
        Ld vw48.drew (a55.add 2) (Value.int .u16) fun (x56 : Int) =>
        Br (x56 == 1) (R true vw48.drew) (Nn (some (a50.add ((s47).toNat * 3))) fun a57 =>
          Ld vw48.drew a57 (Value.int .u16) fun (x58 : Int) =>
          Nn (some (a50.add ((s47).toNat * 3))) fun a59 =>
          Ld vw48.drew (a59.add 2) (Value.int .u16) fun (x60 : Int) =>
          x60 ≠ 0 ∧ R ((Int.tmod (IntKind.u16.wrap (r2 - x58)) x60) == 0) vw48.drew)) (I49 (IntKind.i64.wrap (s47 + 1)) vw48))) (R false vw48)
def S208L3 (ranges1 : Slc) (r2 : Int) (R : Bool → World → Prop) (I63 : (Int × Int) → World → Prop) (s61 : Int × Int) (vw62 : World) : Prop :=
  Br (decide (s61.1 < s61.2)) (0 ≤ (IntKind.i64.wrap (Int.fdiv (IntKind.u64.wrap (IntKind.i64.wrap (s61.1 + s61.2))) (2 ^ 1))) ∧ (IntKind.i64.wrap (Int.fdiv (IntKind.u64.wrap (IntKind.i64.wrap (s61.1 + s61.2))) (2 ^ 1))) < (ranges1.len : Nat) ∧ Nn ranges1.p fun a64 =>
    Nn (some (a64.add ((IntKind.i64.wrap (Int.fdiv (IntKind.u64.wrap (IntKind.i64.wrap (s61.1 + s61.2))) (2 ^ 1))).toNat * 3))) fun a75 =>
    Ld vw62 a75 (Value.int .u16) fun (x76 : Int) =>
    Br (decide (x76 ≤ r2)) (Nn (some (a64.add ((IntKind.i64.wrap (Int.fdiv (IntKind.u64.wrap (IntKind.i64.wrap (s61.1 + s61.2))) (2 ^ 1))).toNat * 3))) fun a77 =>
      Ld vw62 (a77.add 1) (Value.int .u16) fun (x78 : Int) =>
      Br (decide (r2 ≤ x78)) (Nn (some (a64.add ((IntKind.i64.wrap (Int.fdiv (IntKind.u64.wrap (IntKind.i64.wrap (s61.1 + s61.2))) (2 ^ 1))).toNat * 3))) fun a79 =>
        Ld vw62.drew (a79.add 2) (Value.int .u16) fun (x80 : Int) =>
        Br (x80 == 1) (R true vw62.drew) (Nn (some (a64.add ((IntKind.i64.wrap (Int.fdiv (IntKind.u64.wrap (IntKind.i64.wrap (s61.1 + s61.2))) (2 ^ 1))).toNat * 3))) fun a81 =>
          Ld vw62.drew a81 (Value.int .u16) fun (x82 : Int) =>
          Nn (some (a64.add ((IntKind.i64.wrap (Int.fdiv (IntKind.u64.wrap (IntKind.i64.wrap (s61.1 + s61.2))) (2 ^ 1))).toNat * 3))) fun a83 =>
          Ld vw62.drew (a83.add 2) (Value.int .u16) fun (x84 : Int) =>
          x84 ≠ 0 ∧ R ((Int.tmod (IntKind.u16.wrap (r2 - x82)) x84) == 0) vw62.drew)) (Nn (some (a64.add ((IntKind.i64.wrap (Int.fdiv (IntKind.u64.wrap (IntKind.i64.wrap (s61.1 + s61.2))) (2 ^ 1))).toNat * 3))) fun a85 =>
        Ld vw62 a85 (Value.int .u16) fun (x86 : Int) =>
        Br (decide (r2 < x86)) (I63 (s61.1, IntKind.i64.wrap (Int.fdiv (IntKind.u64.wrap (IntKind.i64.wrap (s61.1 + s61.2))) (2 ^ 1))) vw62) (Lt (IntKind.i64.wrap ((IntKind.i64.wrap (Int.fdiv (IntKind.u64.wrap (IntKind.i64.wrap (s61.1 + s61.2))) (2 ^ 1))) + 1)) fun (x87 : Int) =>
          I63 (x87, s61.2) vw62))) (Nn (some (a64.add ((IntKind.i64.wrap (Int.fdiv (IntKind.u64.wrap (IntKind.i64.wrap (s61.1 + s61.2))) (2 ^ 1))).toNat * 3))) fun a88 =>
      Ld vw62 a88 (Value.int .u16) fun (x89 : Int) =>
      Br (decide (r2 < x89)) (I63 (s61.1, IntKind.i64.wrap (Int.fdiv (IntKind.u64.wrap (IntKind.i64.wrap (s61.1 + s61.2))) (2 ^ 1))) vw62) (Lt (IntKind.i64.wrap ((IntKind.i64.wrap (Int.fdiv (IntKind.u64.wrap (IntKind.i64.wrap (s61.1 + s61.2))) (2 ^ 1))) + 1)) fun (x90 : Int) =>
        I63 (x90, s61.2) vw62))) (R false vw62)
/-- unicode.is16 -/
def S208 (ranges1 : Slc) (r2 : Int) (w : World) (R : Bool → World → Prop) : Prop :=
  Br (decide (((ranges1.len : Nat) : Int) ≤ 18)) (Lp (σ := Int) (S208L1 ranges1 r2 R) 0 w) (Br (decide (r2 ≤ 255)) (Lp (σ := Int) (S208L2 ranges1 r2 R) 0 w) (Lp (σ := Int × Int) (S208L3 ranges1 r2 R) (0, ((ranges1.len : Nat) : Int)) w))
def pl208 : Plan := (.seq (.reg .seq) (.seq (.seq (.reg .seq) (.cond (.seq (.seq (.reg .seq) (.block (.loop [(20, (.one (.int .i64)))] [0, 1, 19] (.seq (.reg .seq) (.seq (.cond .leaf .leaf) (.seq (.block (.seq (.reg .seq) (.seq (.reg .seq) (.seq (.seq (.reg .seq) (.cond (.seq (.reg .seq) .leaf) .leaf)) (.seq (.reg .seq) (.cond (.seq (.reg .still) .leaf) .leaf)))))) (.reg .seq))))))) (.seq (.reg .seq) .leaf)) .leaf)) (.seq (.reg .seq) (.seq (.reg .seq) (.seq (.block (.loop [(7, (.one (.int .i64))), (8, (.one (.int .i64)))] [0, 1] (.seq (.seq (.reg .seq) (.cond .leaf .leaf)) (.block (.seq (.reg .seq) (.seq (.reg .seq) (.seq (.seq (.reg .seq) (.cond (.seq (.reg .still) .leaf) .leaf)) (.seq (.reg .seq) (.cond (.reg .seq) (.reg .seq)))))))))) (.seq (.reg .seq) .leaf))))))
set_option maxRecDepth 100000 in
theorem T208 (ranges1 : Slc) (r2 : Int) (w : World) (R : Bool → World → Prop) (h : S208 ranges1 r2 w R) : C208 ranges1 r2 w R := by
  have e : fnT Tryd.prog ⟨FF, MAY, (fun _ _ => False)⟩ pl208 Tryd.f208 [Slc.v ranges1, .int .u16 r2] w [(.one .bool)] (fun s w => R s w) = S208 ranges1 r2 w R := by kernel_rfl
  exact (fn_calls okF okM Tryd.func208 (by kernel_rfl) (by kernel_rfl) (e.mpr h)).mono fun _ _ ⟨s, he, hR⟩ => ⟨s, he, hR⟩

def S209L1 (ranges1 : Slc) (r2 : Int) (R : Bool → World → Prop) (I21 : Int → World → Prop) (s19 : Int) (vw20 : World) : Prop :=
  Br (decide (s19 < ((ranges1.len : Nat) : Int))) (0 ≤ s19 ∧ s19 < (ranges1.len : Nat) ∧ Nn ranges1.p fun a22 =>
    Nn (some (a22.add ((s19).toNat * 3))) fun a23 =>
    Ld vw20 a23 (Value.int .u32) fun (x24 : Int) =>
    Br (decide (r2 < x24)) (R false vw20) (Nn (some (a22.add ((s19).toNat * 3))) fun a25 =>
      Ld vw20 (a25.add 1) (Value.int .u32) fun (x26 : Int) =>
      Br (decide (r2 ≤ x26)) (Nn (some (a22.add ((s19).toNat * 3))) fun a27 =>
        Ld vw20.drew (a27.add 2) (Value.int .u32) fun (x28 : Int) =>
        Br (x28 == 1) (R true vw20.drew) (Nn (some (a22.add ((s19).toNat * 3))) fun a29 =>
          Ld vw20.drew a29 (Value.int .u32) fun (x30 : Int) =>
          Nn (some (a22.add ((s19).toNat * 3))) fun a31 =>
          Ld vw20.drew (a31.add 2) (Value.int .u32) fun (x32 : Int) =>
          x32 ≠ 0 ∧ R ((Int.tmod (IntKind.u32.wrap (r2 - x30)) x32) == 0) vw20.drew)) (I21 (IntKind.i64.wrap (s19 + 1)) vw20))) (R false vw20)
def S209L2 (ranges1 : Slc) (r2 : Int) (R : Bool → World → Prop) (I35 : (Int × Int) → World → Prop) (s33 : Int × Int) (vw34 : World) : Prop :=
  Br (decide (s33.1 < s33.2)) (0 ≤ (IntKind.i64.wrap (Int.fdiv (IntKind.u64.wrap (IntKind.i64.wrap (s33.1 + s33.2))) (2 ^ 1))) ∧ (IntKind.i64.wrap (Int.fdiv (IntKind.u64.wrap (IntKind.i64.wrap (s33.1 + s33.2))) (2 ^ 1))) < (ranges1.len : Nat) ∧ Nn ranges1.p fun a36 =>
    Ld vw34 (a36.add ((IntKind.i64.wrap (Int.fdiv (IntKind.u64.wrap (IntKind.i64.wrap (s33.1 + s33.2))) (2 ^ 1))).toNat * 3)) (Value.int .u32) fun (x37 : Int) =>
    Ld vw34 ((a36.add ((IntKind.i64.wrap (Int.fdiv (IntKind.u64.wrap (IntKind.i64.wrap (s33.1 + s33.2))) (2 ^ 1))).toNat * 3)).add 1) (Value.int .u32) fun (x38 : Int) =>
    Ld vw34 ((a36.add ((IntKind.i64.wrap (Int.fdiv (IntKind.u64.wrap (IntKind.i64.wrap (s33.1 + s33.2))) (2 ^ 1))).toNat * 3)).add 2) (Value.int .u32) fun (x39 : Int) =>
    Nw vw34 (.cells #[.int .u32 0, .int .u32 0, .int .u32 0] 289) fun vw40 =>
    St vw40 (⟨vw34.heap.size, 0, none⟩ : Addr) (.int .u32 x37) fun vw41 =>
    St vw41 ((⟨vw34.heap.size, 0, none⟩ : Addr).add 1) (.int .u32 x38) fun vw42 =>
    St vw42 ((⟨vw34.heap.size, 0, none⟩ : Addr).add 2) (.int .u32 x39) fun vw43 =>
    Ld vw43 (⟨vw34.heap.size, 0, none⟩ : Addr) (Value.int .u32) fun (x49 : Int) =>
    Br (decide (x49 ≤ r2)) (Ld vw43 ((⟨vw34.heap.size, 0, none⟩ : Addr).add 1) (Value.int .u32) fun (x50 : Int) =>
      Br (decide (r2 ≤ x50)) (Ld vw43 ((⟨vw34.heap.size, 0, none⟩ : Addr).add 2) (Value.int .u32) fun (x51 : Int) =>
        Br (x51 == 1) (R true vw43) (Ld vw43 (⟨vw34.heap.size, 0, none⟩ : Addr) (Value.int .u32) fun (x52 : Int) =>
          Ld vw43 ((⟨vw34.heap.size, 0, none⟩ : Addr).add 2) (Value.int .u32) fun (x53 : Int) =>
          x53 ≠ 0 ∧ R ((Int.tmod (IntKind.u32.wrap (r2 - x52)) x53) == 0) vw43)) (Ld vw43 (⟨vw34.heap.size, 0, none⟩ : Addr) (Value.int .u32) fun (x54 : Int) =>
        Br (decide (r2 < x54)) (I35 (s33.1, IntKind.i64.wrap (Int.fdiv (IntKind.u64.wrap (IntKind.i64.wrap (s33.1 + s33.2))) (2 ^ 1))) vw43) (Lt (IntKind.i64.wrap ((IntKind.i64.wrap (Int.fdiv (IntKind.u64.wrap (IntKind.i64.wrap (s33.1 + s33.2))) (2 ^ 1))) + 1)) fun (x55 : Int) =>
          I35 (x55, s33.2) vw43))) (Ld vw43 (⟨vw34.heap.size, 0, none⟩ : Addr) (Value.int .u32) fun (x56 : Int) =>
      Br (decide (r2 < x56)) (I35 (s33.1, IntKind.i64.wrap (Int.fdiv (IntKind.u64.wrap (IntKind.i64.wrap (s33.1 + s33.2))) (2 ^ 1))) vw43) (Lt (IntKind.i64.wrap ((IntKind.i64.wrap (Int.fdiv (IntKind.u64.wrap (IntKind.i64.wrap (s33.1 + s33.2))) (2 ^ 1))) + 1)) fun (x57 : Int) =>
        I35 (x57, s33.2) vw43))) (R false vw34)
/-- unicode.is32 -/
def S209 (ranges1 : Slc) (r2 : Int) (w : World) (R : Bool → World → Prop) : Prop :=
  Br (decide (((ranges1.len : Nat) : Int) ≤ 18)) (Lp (σ := Int) (S209L1 ranges1 r2 R) 0 w) (Lp (σ := Int × Int) (S209L2 ranges1 r2 R) (0, ((ranges1.len : Nat) : Int)) w)
def pl209 : Plan := (.seq (.reg .seq) (.seq (.seq (.reg .seq) (.cond (.seq (.seq (.reg .seq) (.block (.loop [(16, (.one (.int .i64)))] [0, 1, 15] (.seq (.reg .seq) (.seq (.cond .leaf .leaf) (.seq (.block (.seq (.reg .seq) (.seq (.reg .seq) (.seq (.seq (.reg .seq) (.cond (.seq (.reg .seq) .leaf) .leaf)) (.seq (.reg .seq) (.cond (.seq (.reg .still) .leaf) .leaf)))))) (.reg .seq))))))) (.seq (.reg .seq) .leaf)) .leaf)) (.seq (.reg .seq) (.seq (.reg .seq) (.seq (.block (.loop [(7, (.one (.int .i64))), (8, (.one (.int .i64)))] [0, 1] (.seq (.seq (.reg .seq) (.cond .leaf .leaf)) (.block (.seq (.reg .seq) (.seq (.reg .seq) (.seq (.seq (.reg .seq) (.cond (.seq (.reg .seq) .leaf) .leaf)) (.seq (.reg .seq) (.cond (.reg .seq) (.reg .seq)))))))))) (.seq (.reg .seq) .leaf))))))
set_option maxRecDepth 100000 in
theorem T209 (ranges1 : Slc) (r2 : Int) (w : World) (R : Bool → World → Prop) (h : S209 ranges1 r2 w R) : C209 ranges1 r2 w R := by
  have e : fnT Tryd.prog ⟨FF, MAY, (fun _ _ => False)⟩ pl209 Tryd.f209 [Slc.v ranges1, .int .u32 r2] w [(.one .bool)] (fun s w => R s w) = S209 ranges1 r2 w R := by kernel_rfl
  exact (fn_calls okF okM Tryd.func209 (by kernel_rfl) (by kernel_rfl) (e.mpr h)).mono fun _ _ ⟨s, he, hR⟩ => ⟨s, he, hR⟩

/-- unicode.isExcludingLatin -/
def S203 (rangeTab1 : Option Addr) (r2 : Int) (w : World) (R : Bool → World → Prop) : Prop :=
  Nn rangeTab1 fun a3 =>
  Ld w a3 Slc.v fun (x4 : Slc) =>
  Nn rangeTab1 fun a11 =>
  Ld w (a11.add 2) (Value.int .i64) fun (x12 : Int) =>
  Br (decide (((x4.len : Nat) : Int) > x12)) (0 ≤ (IntKind.i64.wrap (((x4.len : Nat) : Int) - 1)) ∧ (IntKind.i64.wrap (((x4.len : Nat) : Int) - 1)) < (x4.len : Nat) ∧ Nn x4.p fun a13 =>
    Ld w ((a13.add ((IntKind.i64.wrap (((x4.len : Nat) : Int) - 1)).toNat * 3)).add 1) (Value.int .u16) fun (x14 : Int) =>
    Br (decide ((IntKind.u32.wrap r2) ≤ (IntKind.u32.wrap x14))) (0 ≤ x12 ∧ x12 ≤ ((x4.len : Nat) : Int) ∧ C208 (x4.cut 3 ((x12).toNat) x4.len x4.cap) (IntKind.u16.wrap r2) w fun r15 vw16 =>
        R r15 vw16) (Nn rangeTab1 fun a17 =>
      Ld w (a17.add 1) Slc.v fun (x18 : Slc) =>
      Br (decide (((x18.len : Nat) : Int) > 0)) (0 ≤ (0 : Int) ∧ (0 : Int) < (x18.len : Nat) ∧ Nn x18.p fun a19 =>
        Ld w (a19.add (((0 : Int)).toNat * 3)) (Value.int .u32) fun (x20 : Int) =>
        Br (decide (r2 ≥ (IntKind.i32.wrap x20))) (C209 x18 (IntKind.u32.wrap r2) w fun r21 vw22 =>
            R r21 vw22) (R false w)) (R false w))) (Nn rangeTab1 fun a23 =>
    Ld w (a23.add 1) Slc.v fun (x24 : Slc) =>
    Br (decide (((x24.len : Nat) : Int) > 0)) (0 ≤ (0 : Int) ∧ (0 : Int) < (x24.len : Nat) ∧ Nn x24.p fun a25 =>
      Ld w (a25.add (((0 : Int)).toNat * 3)) (Value.int .u32) fun (x26 : Int) =>
      Br (decide (r2 ≥ (IntKind.i32.wrap x26))) (C209 x24 (IntKind.u32.wrap r2) w fun r27 vw28 =>
          R r27 vw28) (R false w)) (R false w))
def pl203 : Plan := (.seq (.reg .seq) (.seq (.reg .seq) (.seq (.seq (.reg .seq) (.seq (.reg .seq) (.cond (.seq (.reg .seq) .leaf) .leaf))) (.seq (.reg .seq) (.seq (.seq (.reg .seq) (.cond (.seq (.reg .seq) .leaf) .leaf)) (.seq (.reg .seq) .leaf))))))
set_option maxRecDepth 100000 in
theorem T203 (rangeTab1 : Option Addr) (r2 : Int) (w : World) (R : Bool → World → Prop) (h : S203 rangeTab1 r2 w R) : C203 rangeTab1 r2 w R := by
  have e : fnT Tryd.prog ⟨FF, MAY, (fun _ _ => False)⟩ pl203 Tryd.f203 [.pointer rangeTab1, .int .i32 r2] w [(.one .bool)] (fun s w => R s w) = S203 rangeTab1 r2 w R := by kernel_rfl
  exact (fn_calls okF okM Tryd.func203 (by kernel_rfl) (by kernel_rfl) (e.mpr h)).mono fun _ _ ⟨s, he, hR⟩ => ⟨s, he, hR⟩

/-- unicode.IsSpace -/
def S187 (r1 : Int) (w : World) (R : Bool → World → Prop) : Prop :=
  Br (decide ((IntKind.u32.wrap r1) ≤ 255)) (Br (r1 == 9) (Br (r1 == 9) (R true w) (R false w)) (Br (r1 == 10) (Br (r1 == 10) (R true w) (R false w)) (Br (r1 == 11) (Br (r1 == 11) (R true w) (R false w)) (Br (r1 == 12) (Br (r1 == 12) (R true w) (R false w)) (Br (r1 == 13) (Br (r1 == 13) (R true w) (R false w)) (Br (r1 == 32) (Br (r1 == 32) (R true w) (R false w)) (Br (r1 == 133) (Br (r1 == 133) (R true w) (R false w)) (Br (r1 == 160) (R true w) (R false w))))))))) (Ld w (⟨4, 0, none⟩ : Addr) Value.pointer fun (x2 : Option Addr) =>
    C203 x2 r1 w fun r3 vw4 =>
      R r3 vw4)
def pl187 : Plan := (.seq (.reg .seq) (.seq (.seq (.reg .seq) (.cond (.seq (.seq (.reg .seq) (.block (.seq (.seq (.reg .seq) (.cond .leaf (.seq (.reg .seq) (.cond .leaf (.seq (.reg .seq) (.cond .leaf (.seq (.reg .seq) (.cond .leaf (.seq (.reg .seq) (.cond .leaf (.seq (.reg .seq) (.cond .leaf (.seq (.reg .seq) (.cond .leaf (.reg .seq))))))))))))))) (.cond (.seq (.reg .seq) .leaf) .leaf)))) (.seq (.reg .seq) .leaf)) .leaf)) (.seq (.reg .seq) .leaf)))
set_option maxRecDepth 100000 in
theorem T187 (r1 : Int) (w : World) (R : Bool → World → Prop) (h : S187 r1 w R) : C187 r1 w R := by
  have e : fnT Tryd.prog ⟨FF, MAY, (fun _ _ => False)⟩ pl187 Tryd.f187 [.int .i32 r1] w [(.one .bool)] (fun s w => R s w) = S187 r1 w R := by kernel_rfl
  exact (fn_calls okF okM Tryd.func187 (by kernel_rfl) (by kernel_rfl) (e.mpr h)).mono fun _ _ ⟨s, he, hR⟩ => ⟨s, he, hR⟩

def S186_F187L1 (s1 : ByteArray) (s32 : Slc) (x34 : Slc) (R : Slc → World → Prop) (I38 : Int → World → Prop) (s36 : Int) (vw37 : World) : Prop :=
  Br (decide (s36 < ((s32.len : Nat) : Int))) (0 ≤ s36 ∧ s36 < (s32.len : Nat) ∧ Nn s32.p fun a39 =>
    Ld vw37 (a39.add ((s36).toNat * 2)) (Value.int .i64) fun (x40 : Int) =>
    Ld vw37 ((a39.add ((s36).toNat * 2)).add 1) (Value.int .i64) fun (x41 : Int) =>
    Nw vw37 (.cells #[.int .i64 0, .int .i64 0] 274) fun vw42 =>
    St vw42 (⟨vw37.heap.size, 0, none⟩ : Addr) (.int .i64 x40) fun vw43 =>
    St vw43 ((⟨vw37.heap.size, 0, none⟩ : Addr).add 1) (.int .i64 x41) fun vw44 =>
    Ld vw44 (⟨vw37.heap.size, 0, none⟩ : Addr) (Value.int .i64) fun (x45 : Int) =>
    Ld vw44 ((⟨vw37.heap.size, 0, none⟩ : Addr).add 1) (Value.int .i64) fun (x46 : Int) =>
    0 ≤ x46 ∧ x46 ≤ (((s1).size : Nat) : Int) ∧ 0 ≤ x45 ∧ x45 ≤ (((x46).toNat : Nat) : Int) ∧ 0 ≤ s36 ∧ s36 < (x34.len : Nat) ∧ Nn x34.p fun a47 =>
    St vw44 (a47.add ((s36).toNat * 1)) (.string (s1.extract ((x45).toNat) ((x46).toNat))) fun vw48 =>
    I38 (IntKind.i64.wrap (s36 + 1)) vw48) (R x34 vw37)
def S186_F187J1 (s1 : ByteArray) (R : Slc → World → Prop) (s32 : Slc) (vw33 : World) : Prop :=
  Rn Tryd.prog (Instr.makeSlice 31 (.int .i64 ((s32.len : Nat) : Int)) (.int .i64 ((s32.len : Nat) : Int))) vw33 Slc.v fun (x34 : Slc) vw35 =>
  Lp (σ := Int) (S186_F187L1 s1 s32 x34 R) 0 vw35
def S186_F187L2 (s1 : ByteArray) (vw4 : World) (R : Slc → World → Prop) (I20 : (Slc × Int) → World → Prop) (s18 : Slc × Int) (vw19 : World) : Prop :=
  Nx vw19 (⟨vw4.heap.size, 0, none⟩ : Addr) (fun (i21 : Int) (ch22 : Int) (vw23 : World) =>
    C187 ch22 vw23 fun r24 vw25 =>
      Br r24 (Br (decide (s18.2 ≥ 0)) (Nw vw25 (.cells #[.int .i64 (s18.2), .int .i64 i21] 274) fun vw26 =>
          Rn Tryd.prog (Builtin.append_ #[272, 272] 272 #[Slc.v s18.1, Slc.v ((⟨some ⟨vw25.heap.size, 0, none⟩, 1, 1⟩ : Slc))]) vw26 Slc.v fun (x27 : Slc) vw28 =>
          I20 (x27, ixor .i64 (-1) s18.2) vw28) (I20 (s18.1, s18.2) vw25)) (Br (decide (s18.2 < 0)) (I20 (s18.1, i21) vw25) (I20 (s18.1, s18.2) vw25))) (Join (S186_F187J1 s1 R) fun (vJ49 : Slc → World → Prop) =>
      Br (decide (s18.2 ≥ 0)) (Nw vw19 (.cells #[.int .i64 (s18.2), .int .i64 (((s1).size : Nat) : Int)] 274) fun vw50 =>
        Rn Tryd.prog (Builtin.append_ #[272, 272] 272 #[Slc.v s18.1, Slc.v ((⟨some ⟨vw19.heap.size, 0, none⟩, 1, 1⟩ : Slc))]) vw50 Slc.v fun (x51 : Slc) vw52 =>
        vJ49 x51 vw52) (vJ49 s18.1 vw19))
/-- strings.FieldsFunc -/
def S186_F187 (s1 : ByteArray) (w : World) (R : Slc → World → Prop) : Prop :=
  Rn Tryd.prog (Instr.makeSlice 272 (.int .i64 0) (.int .i64 32)) w Slc.v fun (x3 : Slc) vw4 =>
  Nw vw4 (.stringIter s1 0) fun vw17 =>
  Lp (σ := Slc × Int) (S186_F187L2 s1 vw4 R) (x3, (-1)) vw17
def pl186_F187 : Plan := (.seq (.reg .seq) (.seq (.reg .seq) (.seq (.reg .seq) (.seq (.seq (.reg .seq) (.block (.loop [(5, (.one .slc)), (6, (.one (.int .i64)))] [0, 1, 14] (.seq (.reg .seq) (.seq (.cond .leaf .leaf) (.block (.seq (.reg .seq) (.seq (.reg .seq) (.cond (.seq (.reg .seq) (.cond (.seq (.reg .seq) (.reg .seq)) .leaf)) (.seq (.reg .seq) (.cond (.reg .seq) .leaf))))))))))) (.join [(5, (.one .slc))] [0] (.seq (.reg .seq) (.cond (.reg .seq) .leaf)) (.seq (.reg .seq) (.seq (.seq (.reg .seq) (.block (.loop [(49, (.one (.int .i64)))] [0, 9, 47, 48] (.seq (.reg .seq) (.seq (.cond .leaf .leaf) (.seq (.block (.seq (.reg .seq) (.reg .seq))) (.reg .seq))))))) (.seq (.reg .seq) .leaf))))))))
set_option maxRecDepth 100000 in
theorem T186_F187 (s1 : ByteArray) (w : World) (R : Slc → World → Prop) (h : S186_F187 s1 w R) : C186 s1 (.func (.func 187) #[] #[]) w R := by
  have e : fnT Tryd.prog ⟨FF, MAY, (fun _ _ => False)⟩ pl186_F187 Tryd.f186 [.string s1, .func (.func 187) #[] #[]] w [(.one .slc)] (fun s w => R s w) = S186_F187 s1 w R := by kernel_rfl
  exact (fn_calls okF okM Tryd.func186 (by kernel_rfl) (by kernel_rfl) (e.mpr h)).mono fun _ _ ⟨s, he, hR⟩ => ⟨s, he, hR⟩

def S138L1 (s1 : ByteArray) (s33 : Int × Int × Int) (I35 : (Int × Int × Int) → World → Prop) (I41 : Int → World → Prop) (s39 : Int) (vw40 : World) : Prop :=
  Br (decide (s39 < (((s1).size : Nat) : Int))) (0 ≤ s39 ∧ s39 < ((s1).size : Nat) ∧ 0 ≤ (bAt s1 s39) ∧ (bAt s1 s39) < (256 : Nat) ∧ Ld vw40 ((⟨1, 0, none⟩ : Addr).add ((bAt s1 s39).toNat * 1)) (Value.int .u8) fun (x42 : Int) =>
    Br (x42 != 0) (I41 (IntKind.i64.wrap (s39 + 1)) vw40) (I35 (IntKind.i64.wrap (s33.1 + 1), s39, s39) vw40)) (I35 (IntKind.i64.wrap (s33.1 + 1), s39, s39) vw40)
def S138L2 (s1 : ByteArray) (x14 : Slc) (R : Slc → World → Prop) (I35 : (Int × Int × Int) → World → Prop) (s33 : Int × Int × Int) (vw34 : World) : Prop :=
  Br (decide (s33.2.2 < (((s1).size : Nat) : Int))) (0 ≤ s33.2.2 ∧ s33.2.2 < ((s1).size : Nat) ∧ 0 ≤ (bAt s1 s33.2.2) ∧ (bAt s1 s33.2.2) < (256 : Nat) ∧ Ld vw34 ((⟨1, 0, none⟩ : Addr).add ((bAt s1 s33.2.2).toNat * 1)) (Value.int .u8) fun (x36 : Int) =>
    Br (x36 == 0) (I35 (s33.1, s33.2.1, IntKind.i64.wrap (s33.2.2 + 1)) vw34) (0 ≤ s33.2.2 ∧ s33.2.2 ≤ (((s1).size : Nat) : Int) ∧ 0 ≤ s33.2.1 ∧ s33.2.1 ≤ (((s33.2.2).toNat : Nat) : Int) ∧ 0 ≤ s33.1 ∧ s33.1 < (x14.len : Nat) ∧ Nn x14.p fun a37 =>
      St vw34 (a37.add ((s33.1).toNat * 1)) (.string (s1.extract ((s33.2.1).toNat) ((s33.2.2).toNat))) fun vw38 =>
      Lp (σ := Int) (S138L1 s1 s33 I35) (IntKind.i64.wrap (s33.2.2 + 1)) vw38)) (Br (decide (s33.2.1 < (((s1).size : Nat) : Int))) (0 ≤ s33.2.1 ∧ s33.2.1 ≤ (((s1).size : Nat) : Int) ∧ 0 ≤ s33.1 ∧ s33.1 < (x14.len : Nat) ∧ Nn x14.p fun a43 =>
      St vw34 (a43.add ((s33.1).toNat * 1)) (.string (s1.extract ((s33.2.1).toNat) ((s1).size))) fun vw44 =>
      R x14 vw44) (R x14 vw34))
def S138J1 (s1 : ByteArray) (x14 : Slc) (R : Slc → World → Prop) (s20 : Int) (vw21 : World) : Prop :=
  Lp (σ := Int × Int × Int) (S138L2 s1 x14 R) (0, s20, s20) vw21
def S138L3 (s1 : ByteArray) (vJ45 : Int → World → Prop) (I48 : Int → World → Prop) (s46 : Int) (vw47 : World) : Prop :=
  Br (decide (s46 < (((s1).size : Nat) : Int))) (0 ≤ s46 ∧ s46 < ((s1).size : Nat) ∧ 0 ≤ (bAt s1 s46) ∧ (bAt s1 s46) < (256 : Nat) ∧ Ld vw47 ((⟨1, 0, none⟩ : Addr).add ((bAt s1 s46).toNat * 1)) (Value.int .u8) fun (x49 : Int) =>
    Br (x49 != 0) (I48 (IntKind.i64.wrap (s46 + 1)) vw47) (vJ45 s46 vw47)) (vJ45 s46 vw47)
def S138L4 (s1 : ByteArray) (R : Slc → World → Prop) (I8 : (Int × Int × Int × Int) → World → Prop) (s6 : Int × Int × Int × Int) (vw7 : World) : Prop :=
  Br (decide (s6.2.2.2 < (((s1).size : Nat) : Int))) (0 ≤ s6.2.2.2 ∧ s6.2.2.2 < ((s1).size : Nat) ∧ 0 ≤ (bAt s1 s6.2.2.2) ∧ (bAt s1 s6.2.2.2) < (256 : Nat) ∧ Ld vw7 ((⟨1, 0, none⟩ : Addr).add ((bAt s1 s6.2.2.2).toNat * 1)) (Value.int .u8) fun (x9 : Int) =>
    I8 (IntKind.i64.wrap (s6.1 + (iand .i64 s6.2.1 (ixor .i64 (-1) (IntKind.i64.wrap x9)))), IntKind.i64.wrap x9, ior .u8 s6.2.2.1 (bAt s1 s6.2.2.2), IntKind.i64.wrap (s6.2.2.2 + 1)) vw7) (Br (decide (s6.2.2.1 ≥ 128)) (C186 s1 (.func (.func 187) #[] #[]) vw7 fun r12 vw13 =>
        R r12 vw13) (Rn Tryd.prog (Instr.makeSlice 31 (.int .i64 (s6.1)) (.int .i64 (s6.1))) vw7 Slc.v fun (x14 : Slc) vw15 =>
      Join (S138J1 s1 x14 R) fun (vJ45 : Int → World → Prop) =>
        Lp (σ := Int) (S138L3 s1 vJ45) 0 vw15))
/-- strings.Fields -/
def S138 (s1 : ByteArray) (w : World) (R : Slc → World → Prop) : Prop :=
  Lp (σ := Int × Int × Int × Int) (S138L4 s1 R) (0, 1, 0, 0) w
def pl138 : Plan := (.seq (.reg .seq) (.seq (.reg .seq) (.seq (.reg .seq) (.seq (.reg .seq) (.seq (.seq (.reg .seq) (.block (.loop [(3, (.one (.int .i64))), (4, (.one (.int .i64))), (5, (.one (.int .u8))), (6, (.one (.int .i64)))] [0] (.seq (.seq (.reg .seq) (.cond .leaf .leaf)) (.seq (.block (.seq (.reg .seq) (.seq (.reg .seq) (.seq (.reg .seq) (.seq (.reg .seq) (.reg .seq)))))) (.reg .seq)))))) (.seq (.seq (.reg .seq) (.cond (.seq (.reg .seq) .leaf) .leaf)) (.seq (.reg .seq) (.seq (.reg .seq) (.seq (.reg .seq) (.seq (.reg .seq) (.join [(12, (.one (.int .i64)))] [0, 9, 10] (.block (.loop [(12, (.one (.int .i64)))] [0, 9, 10] (.seq (.seq (.reg .seq) (.cond .leaf .leaf)) (.block (.reg .seq))))) (.seq (.reg .seq) (.seq (.block (.loop [(10, (.one (.int .i64))), (11, (.one (.int .i64))), (12, (.one (.int .i64)))] [0, 9] (.seq (.seq (.reg .seq) (.cond .leaf .leaf)) (.block (.seq (.seq (.reg .seq) (.cond (.seq (.reg .seq) .leaf) .leaf)) (.seq (.reg .seq) (.seq (.reg .seq) (.seq (.reg .seq) (.seq (.block (.loop [(12, (.one (.int .i64)))] [0, 9, 10] (.seq (.seq (.reg .seq) (.cond .leaf .leaf)) (.block (.reg .seq))))) (.reg .seq)))))))))) (.seq (.seq (.reg .seq) (.cond (.reg .seq) .leaf)) (.seq (.reg .seq) .leaf)))))))))))))))
set_option maxRecDepth 100000 in
theorem T138 (s1 : ByteArray) (w : World) (R : Slc → World → Prop) (h : S138 s1 w R) : C138 s1 w R := by
  have e : fnT Tryd.prog ⟨FF, MAY, (fun _ _ => False)⟩ pl138 Tryd.f138 [.string s1] w [(.one .slc)] (fun s w => R s w) = S138 s1 w R := by kernel_rfl
  exact (fn_calls okF okM Tryd.func138 (by kernel_rfl) (by kernel_rfl) (e.mpr h)).mono fun _ _ ⟨s, he, hR⟩ => ⟨s, he, hR⟩

def S190L1 (s1 : Slc) (v2 : ByteArray) (R : Int → World → Prop) (I5 : Int → World → Prop) (s3 : Int) (vw4 : World) : Prop :=
  Br (decide (s3 < ((s1.len : Nat) : Int))) (0 ≤ s3 ∧ s3 < (s1.len : Nat) ∧ Nn s1.p fun a6 =>
    Ld vw4 (a6.add ((s3).toNat * 1)) Value.string fun (x7 : ByteArray) =>
    Br (v2.toList == x7.toList) (R s3 vw4) (I5 (IntKind.i64.wrap (s3 + 1)) vw4)) (R (-1) vw4)
/-- slices.Index[[]string,string] -/
def S190 (s1 : Slc) (v2 : ByteArray) (w : World) (R : Int → World → Prop) : Prop :=
  Lp (σ := Int) (S190L1 s1 v2 R) 0 w
def pl190 : Plan := (.seq (.reg .seq) (.seq (.seq (.reg .seq) (.block (.loop [(8, (.one (.int .i64)))] [0, 1, 7] (.seq (.reg .seq) (.seq (.cond .leaf .leaf) (.seq (.block (.seq (.reg .seq) (.seq (.reg .seq) (.cond (.seq (.reg .seq) .leaf) .leaf)))) (.reg .seq))))))) (.seq (.reg .seq) .leaf)))
set_option maxRecDepth 100000 in
theorem T190 (s1 : Slc) (v2 : ByteArray) (w : World) (R : Int → World → Prop) (h : S190 s1 v2 w R) : C190 s1 v2 w R := by
  have e : fnT Tryd.prog ⟨FF, MAY, (fun _ _ => False)⟩ pl190 Tryd.f190 [Slc.v s1, .string v2] w [(.one (.int .i64))] (fun s w => R s w) = S190 s1 v2 w R := by kernel_rfl
  exact (fn_calls okF okM Tryd.func190 (by kernel_rfl) (by kernel_rfl) (e.mpr h)).mono fun _ _ ⟨s, he, hR⟩ => ⟨s, he, hR⟩

/-- slices.Contains[[]string,string] -/
def S140 (s1 : Slc) (v2 : ByteArray) (w : World) (R : Bool → World → Prop) : Prop :=
  C190 s1 v2 w fun r3 vw4 =>
    R (decide (r3 ≥ 0)) vw4
def pl140 : Plan := (.seq (.reg .seq) (.seq (.reg .seq) .leaf))
set_option maxRecDepth 100000 in
theorem T140 (s1 : Slc) (v2 : ByteArray) (w : World) (R : Bool → World → Prop) (h : S140 s1 v2 w R) : C140 s1 v2 w R := by
  have e : fnT Tryd.prog ⟨FF, MAY, (fun _ _ => False)⟩ pl140 Tryd.f140 [Slc.v s1, .string v2] w [(.one .bool)] (fun s w => R s w) = S140 s1 v2 w R := by kernel_rfl
  exact (fn_calls okF okM Tryd.func140 (by kernel_rfl) (by kernel_rfl) (e.mpr h)).mono fun _ _ ⟨s, he, hR⟩ => ⟨s, he, hR⟩

def S141L1 (name1 : ByteArray) (x31 : ByteArray) (x32 : ByteArray) (x33 : ByteArray) (x34 : ByteArray) (x35 : ByteArray) (x36 : ByteArray) (x37 : ByteArray) (x38 : ByteArray) (x39 : ByteArray) (x40 : ByteArray) (x41 : ByteArray) (x42 : ByteArray) (x43 : ByteArray) (x44 : ByteArray) (x45 : ByteArray) (x46 : ByteArray) (x47 : ByteArray) (x48 : ByteArray) (x49 : ByteArray) (x50 : ByteArray) (x51 : ByteArray) (x52 : ByteArray) (x53 : ByteArray) (x54 : ByteArray) (x55 : ByteArray) (x56 : ByteArray) (x57 : ByteArray) (x58 : ByteArray) (R : ByteArray → World → Prop) (I61 : Int → World → Prop) (s59 : Int) (vw60 : World) : Prop :=
  Br (decide (s59 < 14)) (0 ≤ s59 ∧ s59 < (14 : Nat) ∧ ∃ x62 : ByteArray × ByteArray, (#[.string x31, .string x32, .string x33, .string x34, .string x35, .string x36, .string x37, .string x38, .string x39, .string x40, .string x41, .string x42, .string x43, .string x44, .string x45, .string x46, .string x47, .string x48, .string x49, .string x50, .string x51, .string x52, .string x53, .string x54, .string x55, .string x56, .string x57, .string x58] : Array Value).extract ((s59).toNat * 2) ((s59).toNat * 2 + 2) = #[.string x62.1, .string x62.2] ∧ Nw vw60 (.cells #[.string ((⟨#[]⟩ : ByteArray)), .string ((⟨#[]⟩ : ByteArray))] 256) fun vw63 =>
    St vw63 (⟨vw60.heap.size, 0, none⟩ : Addr) (.string x62.1) fun vw64 =>
    St vw64 ((⟨vw60.heap.size, 0, none⟩ : Addr).add 1) (.string x62.2) fun vw65 =>
    Ld vw65 ((⟨vw60.heap.size, 0, none⟩ : Addr).add 1) Value.string fun (x66 : ByteArray) =>
    C138 x66 vw65 fun r67 vw68 =>
      C140 r67 name1 vw68 fun r69 vw70 =>
        Br r69 (Ld vw70 (⟨vw60.heap.size, 0, none⟩ : Addr) Value.string fun (x71 : ByteArray) =>
          R x71 vw70) (I61 (IntKind.i64.wrap (s59 + 1)) vw70)) (R (⟨#[63]⟩ : ByteArray) vw60)
/-- foliant/ops.Takes -/
def S141 (name1 : ByteArray) (w : World) (R : ByteArray → World → Prop) : Prop :=
  Nw w (.cells #[.string ((⟨#[]⟩ : ByteArray)), .string ((⟨#[]⟩ : ByteArray)), .string ((⟨#[]⟩ : ByteArray)), .string ((⟨#[]⟩ : ByteArray)), .string ((⟨#[]⟩ : ByteArray)), .string ((⟨#[]⟩ : ByteArray)), .string ((⟨#[]⟩ : ByteArray)), .string ((⟨#[]⟩ : ByteArray)), .string ((⟨#[]⟩ : ByteArray)), .string ((⟨#[]⟩ : ByteArray)), .string ((⟨#[]⟩ : ByteArray)), .string ((⟨#[]⟩ : ByteArray)), .string ((⟨#[]⟩ : ByteArray)), .string ((⟨#[]⟩ : ByteArray)), .string ((⟨#[]⟩ : ByteArray)), .string ((⟨#[]⟩ : ByteArray)), .string ((⟨#[]⟩ : ByteArray)), .string ((⟨#[]⟩ : ByteArray)), .string ((⟨#[]⟩ : ByteArray)), .string ((⟨#[]⟩ : ByteArray)), .string ((⟨#[]⟩ : ByteArray)), .string ((⟨#[]⟩ : ByteArray)), .string ((⟨#[]⟩ : ByteArray)), .string ((⟨#[]⟩ : ByteArray)), .string ((⟨#[]⟩ : ByteArray)), .string ((⟨#[]⟩ : ByteArray)), .string ((⟨#[]⟩ : ByteArray)), .string ((⟨#[]⟩ : ByteArray))] 257) fun vw2 =>
  St vw2 (⟨w.heap.size, 0, none⟩ : Addr) (.string ((⟨#[]⟩ : ByteArray))) fun vw3 =>
  St vw3 ((⟨w.heap.size, 0, none⟩ : Addr).add 1) (.string ((⟨#[98, 32, 66, 32, 98, 42, 32, 66, 42, 32, 66, 84, 32, 69, 84, 32, 69, 77, 67, 32, 66, 88, 32, 69, 88, 32, 102, 32, 70, 32, 102, 42, 32, 104, 32, 110, 32, 113, 32, 81, 32, 115, 32, 83, 32, 84, 42, 32, 87, 32, 87, 42]⟩ : ByteArray))) fun vw4 =>
  St vw4 ((⟨w.heap.size, 0, none⟩ : Addr).add 2) (.string ((⟨#[110]⟩ : ByteArray))) fun vw5 =>
  St vw5 ((⟨w.heap.size, 0, none⟩ : Addr).add 3) (.string ((⟨#[103, 32, 71, 32, 105, 32, 106, 32, 74, 32, 77, 32, 119, 32, 84, 99, 32, 84, 76, 32, 84, 114, 32, 84, 115, 32, 84, 119, 32, 84, 122]⟩ : ByteArray))) fun vw6 =>
  St vw6 ((⟨w.heap.size, 0, none⟩ : Addr).add 4) (.string ((⟨#[110, 110]⟩ : ByteArray))) fun vw7 =>
  St vw7 ((⟨w.heap.size, 0, none⟩ : Addr).add 5) (.string ((⟨#[100, 48, 32, 108, 32, 109, 32, 84, 100, 32, 84, 68]⟩ : ByteArray))) fun vw8 =>
  St vw8 ((⟨w.heap.size, 0, none⟩ : Addr).add 6) (.string ((⟨#[110, 110, 110]⟩ : ByteArray))) fun vw9 =>
  St vw9 ((⟨w.heap.size, 0, none⟩ : Addr).add 7) (.string ((⟨#[114, 103, 32, 82, 71]⟩ : ByteArray))) fun vw10 =>
  St vw10 ((⟨w.heap.size, 0, none⟩ : Addr).add 8) (.string ((⟨#[110, 110, 110, 110]⟩ : ByteArray))) fun vw11 =>
  St vw11 ((⟨w.heap.size, 0, none⟩ : Addr).add 9) (.string ((⟨#[107, 32, 75, 32, 114, 101, 32, 118, 32, 121]⟩ : ByteArray))) fun vw12 =>
  St vw12 ((⟨w.heap.size, 0, none⟩ : Addr).add 10) (.string ((⟨#[110, 110, 110, 110, 110, 110]⟩ : ByteArray))) fun vw13 =>
  St vw13 ((⟨w.heap.size, 0, none⟩ : Addr).add 11) (.string ((⟨#[99, 32, 99, 109, 32, 100, 49, 32, 84, 109]⟩ : ByteArray))) fun vw14 =>
  St vw14 ((⟨w.heap.size, 0, none⟩ : Addr).add 12) (.string ((⟨#[78]⟩ : ByteArray))) fun vw15 =>
  St vw15 ((⟨w.heap.size, 0, none⟩ : Addr).add 13) (.string ((⟨#[66, 77, 67, 32, 99, 115, 32, 67, 83, 32, 68, 111, 32, 103, 115, 32, 77, 80, 32, 114, 105, 32, 115, 104]⟩ : ByteArray))) fun vw16 =>
  St vw16 ((⟨w.heap.size, 0, none⟩ : Addr).add 14) (.string ((⟨#[78, 110]⟩ : ByteArray))) fun vw17 =>
  St vw17 ((⟨w.heap.size, 0, none⟩ : Addr).add 15) (.string ((⟨#[84, 102]⟩ : ByteArray))) fun vw18 =>
  St vw18 ((⟨w.heap.size, 0, none⟩ : Addr).add 16) (.string ((⟨#[78, 42]⟩ : ByteArray))) fun vw19 =>
  St vw19 ((⟨w.heap.size, 0, none⟩ : Addr).add 17) (.string ((⟨#[66, 68, 67, 32, 68, 80]⟩ : ByteArray))) fun vw20 =>
  St vw20 ((⟨w.heap.size, 0, none⟩ : Addr).add 18) (.string ((⟨#[115]⟩ : ByteArray))) fun vw21 =>
  St vw21 ((⟨w.heap.size, 0, none⟩ : Addr).add 19) (.string ((⟨#[84, 106, 32, 39]⟩ : ByteArray))) fun vw22 =>
  St vw22 ((⟨w.heap.size, 0, none⟩ : Addr).add 20) (.string ((⟨#[110, 110, 115]⟩ : ByteArray))) fun vw23 =>
  St vw23 ((⟨w.heap.size, 0, none⟩ : Addr).add 21) (.string ((⟨#[34]⟩ : ByteArray))) fun vw24 =>
  St vw24 ((⟨w.heap.size, 0, none⟩ : Addr).add 22) (.string ((⟨#[97]⟩ : ByteArray))) fun vw25 =>
  St vw25 ((⟨w.heap.size, 0, none⟩ : Addr).add 23) (.string ((⟨#[84, 74]⟩ : ByteArray))) fun vw26 =>
  St vw26 ((⟨w.heap.size, 0, none⟩ : Addr).add 24) (.string ((⟨#[97, 110]⟩ : ByteArray))) fun vw27 =>
  St vw27 ((⟨w.heap.size, 0, none⟩ : Addr).add 25) (.string ((⟨#[100]⟩ : ByteArray))) fun vw28 =>
  St vw28 ((⟨w.heap.size, 0, none⟩ : Addr).add 26) (.string ((⟨#[100]⟩ : ByteArray))) fun vw29 =>
  St vw29 ((⟨w.heap.size, 0, none⟩ : Addr).add 27) (.string ((⟨#[66, 73]⟩ : ByteArray))) fun vw30 =>
  Ld vw30 (⟨w.heap.size, 0, none⟩ : Addr) Value.string fun (x31 : ByteArray) =>
  Ld vw30 ((⟨w.heap.size, 0, none⟩ : Addr).add 1) Value.string fun (x32 : ByteArray) =>
  Ld vw30 ((⟨w.heap.size, 0, none⟩ : Addr).add 2) Value.string fun (x33 : ByteArray) =>
  Ld vw30 ((⟨w.heap.size, 0, none⟩ : Addr).add 3) Value.string fun (x34 : ByteArray) =>
  Ld vw30 ((⟨w.heap.size, 0, none⟩ : Addr).add 4) Value.string fun (x35 : ByteArray) =>
  Ld vw30 ((⟨w.heap.size, 0, none⟩ : Addr).add 5) Value.string fun (x36 : ByteArray) =>
  Ld vw30 ((⟨w.heap.size, 0, none⟩ : Addr).add 6) Value.string fun (x37 : ByteArray) =>
  Ld vw30 ((⟨w.heap.size, 0, none⟩ : Addr).add 7) Value.string fun (x38 : ByteArray) =>
  Ld vw30 ((⟨w.heap.size, 0, none⟩ : Addr).add 8) Value.string fun (x39 : ByteArray) =>
  Ld vw30 ((⟨w.heap.size, 0, none⟩ : Addr).add 9) Value.string fun (x40 : ByteArray) =>
  Ld vw30 ((⟨w.heap.size, 0, none⟩ : Addr).add 10) Value.string fun (x41 : ByteArray) =>
  Ld vw30 ((⟨w.heap.size, 0, none⟩ : Addr).add 11) Value.string fun (x42 : ByteArray) =>
  Ld vw30 ((⟨w.heap.size, 0, none⟩ : Addr).add 12) Value.string fun (x43 : ByteArray) =>
  Ld vw30 ((⟨w.heap.size, 0, none⟩ : Addr).add 13) Value.string fun (x44 : ByteArray) =>
  Ld vw30 ((⟨w.heap.size, 0, none⟩ : Addr).add 14) Value.string fun (x45 : ByteArray) =>
  Ld vw30 ((⟨w.heap.size, 0, none⟩ : Addr).add 15) Value.string fun (x46 : ByteArray) =>
  Ld vw30 ((⟨w.heap.size, 0, none⟩ : Addr).add 16) Value.string fun (x47 : ByteArray) =>
  Ld vw30 ((⟨w.heap.size, 0, none⟩ : Addr).add 17) Value.string fun (x48 : ByteArray) =>
  Ld vw30 ((⟨w.heap.size, 0, none⟩ : Addr).add 18) Value.string fun (x49 : ByteArray) =>
  Ld vw30 ((⟨w.heap.size, 0, none⟩ : Addr).add 19) Value.string fun (x50 : ByteArray) =>
  Ld vw30 ((⟨w.heap.size, 0, none⟩ : Addr).add 20) Value.string fun (x51 : ByteArray) =>
  Ld vw30 ((⟨w.heap.size, 0, none⟩ : Addr).add 21) Value.string fun (x52 : ByteArray) =>
  Ld vw30 ((⟨w.heap.size, 0, none⟩ : Addr).add 22) Value.string fun (x53 : ByteArray) =>
  Ld vw30 ((⟨w.heap.size, 0, none⟩ : Addr).add 23) Value.string fun (x54 : ByteArray) =>
  Ld vw30 ((⟨w.heap.size, 0, none⟩ : Addr).add 24) Value.string fun (x55 : ByteArray) =>
  Ld vw30 ((⟨w.heap.size, 0, none⟩ : Addr).add 25) Value.string fun (x56 : ByteArray) =>
  Ld vw30 ((⟨w.heap.size, 0, none⟩ : Addr).add 26) Value.string fun (x57 : ByteArray) =>
  Ld vw30 ((⟨w.heap.size, 0, none⟩ : Addr).add 27) Value.string fun (x58 : ByteArray) =>
  Lp (σ := Int) (S141L1 name1 x31 x32 x33 x34 x35 x36 x37 x38 x39 x40 x41 x42 x43 x44 x45 x46 x47 x48 x49 x50 x51 x52 x53 x54 x55 x56 x57 x58 R) 0 vw30
def pl141 : Plan := (.seq (.reg .seq) (.seq (.reg .seq) (.seq (.seq (.reg .seq) (.block (.loop [(22, (.one (.int .i64)))] [0, 21] (.seq (.reg .seq) (.seq (.cond .leaf .leaf) (.seq (.block (.seq (.reg .seq) (.seq (.reg .seq) (.cond (.seq (.reg .seq) .leaf) .leaf)))) (.reg .seq))))))) (.seq (.reg .seq) .leaf))))
set_option maxRecDepth 100000 in
theorem T141 (name1 : ByteArray) (w : World) (R : ByteArray → World → Prop) (h : S141 name1 w R) : C141 name1 w R := by
  have e : fnT Tryd.prog ⟨FF, MAY, (fun _ _ => False)⟩ pl141 Tryd.f141 [.string name1] w [(.one .str)] (fun s w => R s w) = S141 name1 w R := by kernel_rfl
  exact (fn_calls okF okM Tryd.func141 (by kernel_rfl) (by kernel_rfl) (e.mpr h)).mono fun _ _ ⟨s, he, hR⟩ => ⟨s, he, hR⟩

/-- foliant/ops.fits -/
def S142 (letter1 : Int) (kind2 : Int) (w : World) (R : Bool → World → Prop) : Prop :=
  Br (letter1 == 110) (Br (kind2 == 2) (R true w) (R (kind2 == 3) w)) (Br (letter1 == 115) (R (kind2 == 4) w) (Br (letter1 == 78) (R (kind2 == 5) w) (Br (letter1 == 97) (R (kind2 == 6) w) (Br (letter1 == 100) (R (kind2 == 7) w) (R true w)))))
def pl142 : Plan := (.seq (.reg .seq) (.seq (.seq (.reg .seq) (.block (.seq (.reg .seq) (.cond (.seq (.reg .seq) .leaf) (.seq (.reg .seq) (.cond (.seq (.reg .seq) .leaf) (.seq (.reg .seq) (.cond (.seq (.reg .seq) .leaf) (.seq (.reg .seq) (.cond (.seq (.reg .seq) .leaf) (.seq (.reg .seq) (.cond (.seq (.reg .seq) .leaf) .leaf)))))))))))) (.seq (.reg .seq) .leaf)))
set_option maxRecDepth 100000 in
theorem T142 (letter1 : Int) (kind2 : Int) (w : World) (R : Bool → World → Prop) (h : S142 letter1 kind2 w R) : C142 letter1 kind2 w R := by
  have e : fnT Tryd.prog ⟨FF, MAY, (fun _ _ => False)⟩ pl142 Tryd.f142 [.int .i32 letter1, .int .i64 kind2] w [(.one .bool)] (fun s w => R s w) = S142 letter1 kind2 w R := by kernel_rfl
  exact (fn_calls okF okM Tryd.func142 (by kernel_rfl) (by kernel_rfl) (e.mpr h)).mono fun _ _ ⟨s, he, hR⟩ => ⟨s, he, hR⟩

def S80L1 (w : World) (vw5 : World) (R : Int → World → Prop) (I23 : Unit → World → Prop) (s21 : Unit) (vw22 : World) : Prop :=
  Nx vw22 (⟨vw5.heap.size, 0, none⟩ : Addr) (fun (i24 : Int) (ch25 : Int) (vw26 : World) =>
    Ld vw26 ((⟨w.heap.size, 0, none⟩ : Addr).add 1) Slc.v fun (x27 : Slc) =>
    0 ≤ i24 ∧ i24 < (x27.len : Nat) ∧ Nn x27.p fun a28 =>
    Ld vw26 (a28.add ((i24).toNat * 6)) (Value.int .i64) fun (x29 : Int) =>
    C142 ch25 x29 vw26 fun r30 vw31 =>
      Br (!r30) (R 28 vw31) (I23 () vw31)) (Ld vw22 ((⟨w.heap.size, 0, none⟩ : Addr).add 2) Value.string fun (x32 : ByteArray) =>
    Br (!(x32.toList == (⟨#[]⟩ : ByteArray).toList)) (Ld vw22 (⟨w.heap.size, 0, none⟩ : Addr) Value.string fun (x33 : ByteArray) =>
      Br (!(x33.toList == (⟨#[66, 73]⟩ : ByteArray).toList)) (R 3 vw22) (R 0 vw22)) (R 0 vw22))
/-- foliant/ops.Check -/
def S80 (o1 : ByteArray × Slc × ByteArray) (w : World) (R : Int → World → Prop) : Prop :=
  Nw w (.cells #[.string o1.1, Slc.v o1.2.1, .string o1.2.2] 63) fun vw2 =>
  Ld vw2 (⟨w.heap.size, 0, none⟩ : Addr) Value.string fun (x3 : ByteArray) =>
  C141 x3 vw2 fun r4 vw5 =>
    Br (r4.toList == (⟨#[63]⟩ : ByteArray).toList) (R 28 vw5) (Ld vw5 ((⟨w.heap.size, 0, none⟩ : Addr).add 1) Slc.v fun (x7 : Slc) =>
      Br ((((r4).size : Nat) : Int) != ((x7.len : Nat) : Int)) (R 28 vw5) (Nw vw5 (.stringIter r4 0) fun vw20 =>
        Lp (σ := Unit) (S80L1 w vw5 R) () vw20))
def pl80 : Plan := (.seq (.reg .seq) (.seq (.reg .seq) (.seq (.seq (.reg .seq) (.cond (.seq (.reg .seq) .leaf) .leaf)) (.seq (.seq (.reg .seq) (.block (.loop [] [1, 20] (.seq (.reg .seq) (.seq (.cond .leaf .leaf) (.block (.seq (.reg .seq) (.seq (.reg .seq) (.cond (.seq (.reg .seq) .leaf) .leaf))))))))) (.seq (.seq (.reg .seq) (.cond (.seq (.reg .seq) .leaf) .leaf)) (.seq (.reg .seq) .leaf))))))
set_option maxRecDepth 100000 in
theorem T80 (o1 : ByteArray × Slc × ByteArray) (w : World) (R : Int → World → Prop) (h : S80 o1 w R) : C80 (o1.1, o1.2.1, o1.2.2) w R := by
  have e : fnT Tryd.prog ⟨FF, MAY, (fun _ _ => False)⟩ pl80 Tryd.f80 [.agg #[.string o1.1, Slc.v o1.2.1, .string o1.2.2]] w [(.one (.int .i64))] (fun s w => R s w) = S80 o1 w R := by kernel_rfl
  exact (fn_calls okF okM Tryd.func80 (by kernel_rfl) (by kernel_rfl) (e.mpr h)).mono fun _ _ ⟨s, he, hR⟩ => ⟨s, he, hR⟩

def S104J1 (name1 : ByteArray) (R : ByteArray → World → Prop) (s18 : Bool) (vw19 : World) : Prop :=
  Br s18 (R (⟨#[115]⟩ : ByteArray) vw19) (Br (name1.toList == (⟨#[34]⟩ : ByteArray).toList) (R (⟨#[110, 110, 115]⟩ : ByteArray) vw19) (Br (name1.toList == (⟨#[84, 74]⟩ : ByteArray).toList) (R (⟨#[97]⟩ : ByteArray) vw19) (Br (name1.toList == (⟨#[100]⟩ : ByteArray).toList) (R (⟨#[97, 110]⟩ : ByteArray) vw19) (Br (name1.toList == (⟨#[66, 73]⟩ : ByteArray).toList) (R (⟨#[100]⟩ : ByteArray) vw19) (R (⟨#[63]⟩ : ByteArray) vw19)))))
def S104J2 (name1 : ByteArray) (R : ByteArray → World → Prop) (s16 : Bool) (vw17 : World) : Prop :=
  Br s16 (R (⟨#[78, 42]⟩ : ByteArray) vw17) (Join (S104J1 name1 R) fun (vJ20 : Bool → World → Prop) =>
      Br (name1.toList == (⟨#[84, 106]⟩ : ByteArray).toList) (vJ20 (name1.toList == (⟨#[84, 106]⟩ : ByteArray).toList) vw17) (vJ20 (name1.toList == (⟨#[39]⟩ : ByteArray).toList) vw17))
def S104J3 (name1 : ByteArray) (R : ByteArray → World → Prop) (s14 : Bool) (vw15 : World) : Prop :=
  Br s14 (R (⟨#[78]⟩ : ByteArray) vw15) (Br (name1.toList == (⟨#[84, 102]⟩ : ByteArray).toList) (R (⟨#[78, 110]⟩ : ByteArray) vw15) (Join (S104J2 name1 R) fun (vJ21 : Bool → World → Prop) =>
        Br (name1.toList == (⟨#[66, 68, 67]⟩ : ByteArray).toList) (vJ21 (name1.toList == (⟨#[66, 68, 67]⟩ : ByteArray).toList) vw15) (vJ21 (name1.toList == (⟨#[68, 80]⟩ : ByteArray).toList) vw15)))
def S104J4 (name1 : ByteArray) (R : ByteArray → World → Prop) (s12 : Bool) (vw13 : World) : Prop :=
  Br s12 (R (⟨#[110, 110, 110, 110, 110, 110]⟩ : ByteArray) vw13) (Join (S104J3 name1 R) fun (vJ22 : Bool → World → Prop) =>
      Br (name1.toList == (⟨#[66, 77, 67]⟩ : ByteArray).toList) (vJ22 (name1.toList == (⟨#[66, 77, 67]⟩ : ByteArray).toList) vw13) (Br (name1.toList == (⟨#[99, 115]⟩ : ByteArray).toList) (vJ22 (name1.toList == (⟨#[99, 115]⟩ : ByteArray).toList) vw13) (Br (name1.toList == (⟨#[67, 83]⟩ : ByteArray).toList) (vJ22 (name1.toList == (⟨#[67, 83]⟩ : ByteArray).toList) vw13) (Br (name1.toList == (⟨#[68, 111]⟩ : ByteArray).toList) (vJ22 (name1.toList == (⟨#[68, 111]⟩ : ByteArray).toList) vw13) (Br (name1.toList == (⟨#[103, 115]⟩ : ByteArray).toList) (vJ22 (name1.toList == (⟨#[103, 115]⟩ : ByteArray).toList) vw13) (Br (name1.toList == (⟨#[77, 80]⟩ : ByteArray).toList) (vJ22 (name1.toList == (⟨#[77, 80]⟩ : ByteArray).toList) vw13) (Br (name1.toList == (⟨#[114, 105]⟩ : ByteArray).toList) (vJ22 (name1.toList == (⟨#[114, 105]⟩ : ByteArray).toList) vw13) (vJ22 (name1.toList == (⟨#[115, 104]⟩ : ByteArray).toList) vw13))))))))
def S104J5 (name1 : ByteArray) (R : ByteArray → World → Prop) (s10 : Bool) (vw11 : World) : Prop :=
  Br s10 (R (⟨#[110, 110, 110, 110]⟩ : ByteArray) vw11) (Join (S104J4 name1 R) fun (vJ23 : Bool → World → Prop) =>
      Br (name1.toList == (⟨#[99]⟩ : ByteArray).toList) (vJ23 (name1.toList == (⟨#[99]⟩ : ByteArray).toList) vw11) (Br (name1.toList == (⟨#[99, 109]⟩ : ByteArray).toList) (vJ23 (name1.toList == (⟨#[99, 109]⟩ : ByteArray).toList) vw11) (Br (name1.toList == (⟨#[100, 49]⟩ : ByteArray).toList) (vJ23 (name1.toList == (⟨#[100, 49]⟩ : ByteArray).toList) vw11) (vJ23 (name1.toList == (⟨#[84, 109]⟩ : ByteArray).toList) vw11))))
def S104J6 (name1 : ByteArray) (R : ByteArray → World → Prop) (s8 : Bool) (vw9 : World) : Prop :=
  Br s8 (R (⟨#[110, 110, 110]⟩ : ByteArray) vw9) (Join (S104J5 name1 R) fun (vJ24 : Bool → World → Prop) =>
      Br (name1.toList == (⟨#[107]⟩ : ByteArray).toList) (vJ24 (name1.toList == (⟨#[107]⟩ : ByteArray).toList) vw9) (Br (name1.toList == (⟨#[75]⟩ : ByteArray).toList) (vJ24 (name1.toList == (⟨#[75]⟩ : ByteArray).toList) vw9) (Br (name1.toList == (⟨#[114, 101]⟩ : ByteArray).toList) (vJ24 (name1.toList == (⟨#[114, 101]⟩ : ByteArray).toList) vw9) (Br (name1.toList == (⟨#[118]⟩ : ByteArray).toList) (vJ24 (name1.toList == (⟨#[118]⟩ : ByteArray).toList) vw9) (vJ24 (name1.toList == (⟨#[121]⟩ : ByteArray).toList) vw9)))))
def S104J7 (name1 : ByteArray) (R : ByteArray → World → Prop) (s6 : Bool) (vw7 : World) : Prop :=
  Br s6 (R (⟨#[110, 110]⟩ : ByteArray) vw7) (Join (S104J6 name1 R) fun (vJ25 : Bool → World → Prop) =>
      Br (name1.toList == (⟨#[114, 103]⟩ : ByteArray).toList) (vJ25 (name1.toList == (⟨#[114, 103]⟩ : ByteArray).toList) vw7) (vJ25 (name1.toList == (⟨#[82, 71]⟩ : ByteArray).toList) vw7))
def S104J8 (name1 : ByteArray) (R : ByteArray → World → Prop) (s4 : Bool) (vw5 : World) : Prop :=
  Br s4 (R (⟨#[110]⟩ : ByteArray) vw5) (Join (S104J7 name1 R) fun (vJ26 : Bool → World → Prop) =>
      Br (name1.toList == (⟨#[100, 48]⟩ : ByteArray).toList) (vJ26 (name1.toList == (⟨#[100, 48]⟩ : ByteArray).toList) vw5) (Br (name1.toList == (⟨#[108]⟩ : ByteArray).toList) (vJ26 (name1.toList == (⟨#[108]⟩ : ByteArray).toList) vw5) (Br (name1.toList == (⟨#[109]⟩ : ByteArray).toList) (vJ26 (name1.toList == (⟨#[109]⟩ : ByteArray).toList) vw5) (Br (name1.toList == (⟨#[84, 100]⟩ : ByteArray).toList) (vJ26 (name1.toList == (⟨#[84, 100]⟩ : ByteArray).toList) vw5) (vJ26 (name1.toList == (⟨#[84, 68]⟩ : ByteArray).toList) vw5)))))
def S104J9 (name1 : ByteArray) (R : ByteArray → World → Prop) (s2 : Bool) (vw3 : World) : Prop :=
  Br s2 (R (⟨#[]⟩ : ByteArray) vw3) (Join (S104J8 name1 R) fun (vJ27 : Bool → World → Prop) =>
      Br (name1.toList == (⟨#[103]⟩ : ByteArray).toList) (vJ27 (name1.toList == (⟨#[103]⟩ : ByteArray).toList) vw3) (Br (name1.toList == (⟨#[71]⟩ : ByteArray).toList) (vJ27 (name1.toList == (⟨#[71]⟩ : ByteArray).toList) vw3) (Br (name1.toList == (⟨#[105]⟩ : ByteArray).toList) (vJ27 (name1.toList == (⟨#[105]⟩ : ByteArray).toList) vw3) (Br (name1.toList == (⟨#[106]⟩ : ByteArray).toList) (vJ27 (name1.toList == (⟨#[106]⟩ : ByteArray).toList) vw3) (Br (name1.toList == (⟨#[74]⟩ : ByteArray).toList) (vJ27 (name1.toList == (⟨#[74]⟩ : ByteArray).toList) vw3) (Br (name1.toList == (⟨#[77]⟩ : ByteArray).toList) (vJ27 (name1.toList == (⟨#[77]⟩ : ByteArray).toList) vw3) (Br (name1.toList == (⟨#[119]⟩ : ByteArray).toList) (vJ27 (name1.toList == (⟨#[119]⟩ : ByteArray).toList) vw3) (Br (name1.toList == (⟨#[84, 99]⟩ : ByteArray).toList) (vJ27 (name1.toList == (⟨#[84, 99]⟩ : ByteArray).toList) vw3) (Br (name1.toList == (⟨#[84, 76]⟩ : ByteArray).toList) (vJ27 (name1.toList == (⟨#[84, 76]⟩ : ByteArray).toList) vw3) (Br (name1.toList == (⟨#[84, 114]⟩ : ByteArray).toList) (vJ27 (name1.toList == (⟨#[84, 114]⟩ : ByteArray).toList) vw3) (Br (name1.toList == (⟨#[84, 115]⟩ : ByteArray).toList) (vJ27 (name1.toList == (⟨#[84, 115]⟩ : ByteArray).toList) vw3) (Br (name1.toList == (⟨#[84, 119]⟩ : ByteArray).toList) (vJ27 (name1.toList == (⟨#[84, 119]⟩ : ByteArray).toList) vw3) (vJ27 (name1.toList == (⟨#[84, 122]⟩ : ByteArray).toList) vw3)))))))))))))
/-- foliant/foliantref43.Takes -/
def S104 (name1 : ByteArray) (w : World) (R : ByteArray → World → Prop) : Prop :=
  Join (S104J9 name1 R) fun (vJ28 : Bool → World → Prop) =>
    Br (name1.toList == (⟨#[98]⟩ : ByteArray).toList) (vJ28 (name1.toList == (⟨#[98]⟩ : ByteArray).toList) w) (Br (name1.toList == (⟨#[66]⟩ : ByteArray).toList) (vJ28 (name1.toList == (⟨#[66]⟩ : ByteArray).toList) w) (Br (name1.toList == (⟨#[98, 42]⟩ : ByteArray).toList) (vJ28 (name1.toList == (⟨#[98, 42]⟩ : ByteArray).toList) w) (Br (name1.toList == (⟨#[66, 42]⟩ : ByteArray).toList) (vJ28 (name1.toList == (⟨#[66, 42]⟩ : ByteArray).toList) w) (Br (name1.toList == (⟨#[66, 84]⟩ : ByteArray).toList) (vJ28 (name1.toList == (⟨#[66, 84]⟩ : ByteArray).toList) w) (Br (name1.toList == (⟨#[69, 84]⟩ : ByteArray).toList) (vJ28 (name1.toList == (⟨#[69, 84]⟩ : ByteArray).toList) w) (Br (name1.toList == (⟨#[69, 77, 67]⟩ : ByteArray).toList) (vJ28 (name1.toList == (⟨#[69, 77, 67]⟩ : ByteArray).toList) w) (Br (name1.toList == (⟨#[66, 88]⟩ : ByteArray).toList) (vJ28 (name1.toList == (⟨#[66, 88]⟩ : ByteArray).toList) w) (Br (name1.toList == (⟨#[69, 88]⟩ : ByteArray).toList) (vJ28 (name1.toList == (⟨#[69, 88]⟩ : ByteArray).toList) w) (Br (name1.toList == (⟨#[102]⟩ : ByteArray).toList) (vJ28 (name1.toList == (⟨#[102]⟩ : ByteArray).toList) w) (Br (name1.toList == (⟨#[70]⟩ : ByteArray).toList) (vJ28 (name1.toList == (⟨#[70]⟩ : ByteArray).toList) w) (Br (name1.toList == (⟨#[102, 42]⟩ : ByteArray).toList) (vJ28 (name1.toList == (⟨#[102, 42]⟩ : ByteArray).toList) w) (Br (name1.toList == (⟨#[104]⟩ : ByteArray).toList) (vJ28 (name1.toList == (⟨#[104]⟩ : ByteArray).toList) w) (Br (name1.toList == (⟨#[110]⟩ : ByteArray).toList) (vJ28 (name1.toList == (⟨#[110]⟩ : ByteArray).toList) w) (Br (name1.toList == (⟨#[113]⟩ : ByteArray).toList) (vJ28 (name1.toList == (⟨#[113]⟩ : ByteArray).toList) w) (Br (name1.toList == (⟨#[81]⟩ : ByteArray).toList) (vJ28 (name1.toList == (⟨#[81]⟩ : ByteArray).toList) w) (Br (name1.toList == (⟨#[115]⟩ : ByteArray).toList) (vJ28 (name1.toList == (⟨#[115]⟩ : ByteArray).toList) w) (Br (name1.toList == (⟨#[83]⟩ : ByteArray).toList) (vJ28 (name1.toList == (⟨#[83]⟩ : ByteArray).toList) w) (Br (name1.toList == (⟨#[84, 42]⟩ : ByteArray).toList) (vJ28 (name1.toList == (⟨#[84, 42]⟩ : ByteArray).toList) w) (Br (name1.toList == (⟨#[87]⟩ : ByteArray).toList) (vJ28 (name1.toList == (⟨#[87]⟩ : ByteArray).toList) w) (vJ28 (name1.toList == (⟨#[87, 42]⟩ : ByteArray).toList) w))))))))))))))))))))
def pl104 : Plan := (.seq (.reg .seq) (.seq (.seq (.reg .seq) (.block (.join [(4, (.one .bool))] [3] (.seq (.reg .seq) (.cond .leaf (.seq (.reg .seq) (.cond .leaf (.seq (.reg .seq) (.cond .leaf (.seq (.reg .seq) (.cond .leaf (.seq (.reg .seq) (.cond .leaf (.seq (.reg .seq) (.cond .leaf (.seq (.reg .seq) (.cond .leaf (.seq (.reg .seq) (.cond .leaf (.seq (.reg .seq) (.cond .leaf (.seq (.reg .seq) (.cond .leaf (.seq (.reg .seq) (.cond .leaf (.seq (.reg .seq) (.cond .leaf (.seq (.reg .seq) (.cond .leaf (.seq (.reg .seq) (.cond .leaf (.seq (.reg .seq) (.cond .leaf (.seq (.reg .seq) (.cond .leaf (.seq (.reg .seq) (.cond .leaf (.seq (.reg .seq) (.cond .leaf (.seq (.reg .seq) (.cond .leaf (.seq (.reg .seq) (.cond .leaf (.reg .seq))))))))))))))))))))))))))))))))))))))))) (.cond (.seq (.reg .seq) .leaf) (.join [(26, (.one .bool))] [3] (.seq (.reg .seq) (.cond .leaf (.seq (.reg .seq) (.cond .leaf (.seq (.reg .seq) (.cond .leaf (.seq (.reg .seq) (.cond .leaf (.seq (.reg .seq) (.cond .leaf (.seq (.reg .seq) (.cond .leaf (.seq (.reg .seq) (.cond .leaf (.seq (.reg .seq) (.cond .leaf (.seq (.reg .seq) (.cond .leaf (.seq (.reg .seq) (.cond .leaf (.seq (.reg .seq) (.cond .leaf (.seq (.reg .seq) (.cond .leaf (.reg .seq))))))))))))))))))))))))) (.cond (.seq (.reg .seq) .leaf) (.join [(40, (.one .bool))] [3] (.seq (.reg .seq) (.cond .leaf (.seq (.reg .seq) (.cond .leaf (.seq (.reg .seq) (.cond .leaf (.seq (.reg .seq) (.cond .leaf (.reg .seq))))))))) (.cond (.seq (.reg .seq) .leaf) (.join [(46, (.one .bool))] [3] (.seq (.reg .seq) (.cond .leaf (.reg .seq))) (.cond (.seq (.reg .seq) .leaf) (.join [(49, (.one .bool))] [3] (.seq (.reg .seq) (.cond .leaf (.seq (.reg .seq) (.cond .leaf (.seq (.reg .seq) (.cond .leaf (.seq (.reg .seq) (.cond .leaf (.reg .seq))))))))) (.cond (.seq (.reg .seq) .leaf) (.join [(55, (.one .bool))] [3] (.seq (.reg .seq) (.cond .leaf (.seq (.reg .seq) (.cond .leaf (.seq (.reg .seq) (.cond .leaf (.reg .seq))))))) (.cond (.seq (.reg .seq) .leaf) (.join [(60, (.one .bool))] [3] (.seq (.reg .seq) (.cond .leaf (.seq (.reg .seq) (.cond .leaf (.seq (.reg .seq) (.cond .leaf (.seq (.reg .seq) (.cond .leaf (.seq (.reg .seq) (.cond .leaf (.seq (.reg .seq) (.cond .leaf (.seq (.reg .seq) (.cond .leaf (.reg .seq))))))))))))))) (.cond (.seq (.reg .seq) .leaf) (.seq (.reg .seq) (.cond (.seq (.reg .seq) .leaf) (.join [(71, (.one .bool))] [3] (.seq (.reg .seq) (.cond .leaf (.reg .seq))) (.cond (.seq (.reg .seq) .leaf) (.join [(74, (.one .bool))] [3] (.seq (.reg .seq) (.cond .leaf (.reg .seq))) (.cond (.seq (.reg .seq) .leaf) (.seq (.reg .seq) (.cond (.seq (.reg .seq) .leaf) (.seq (.reg .seq) (.cond (.seq (.reg .seq) .leaf) (.seq (.reg .seq) (.cond (.seq (.reg .seq) .leaf) (.seq (.reg .seq) (.cond (.seq (.reg .seq) .leaf) .leaf)))))))))))))))))))))))))))))) (.seq (.reg .seq) .leaf)))
set_option maxRecDepth 100000 in
theorem T104 (name1 : ByteArray) (w : World) (R : ByteArray → World → Prop) (h : S104 name1 w R) : C104 name1 w R := by
  have e : fnT Tryd.prog ⟨FF, MAY, (fun _ _ => False)⟩ pl104 Tryd.f104 [.string name1] w [(.one .str)] (fun s w => R s w) = S104 name1 w R := by kernel_rfl
  exact (fn_calls okF okM Tryd.func104 (by kernel_rfl) (by kernel_rfl) (e.mpr h)).mono fun _ _ ⟨s, he, hR⟩ => ⟨s, he, hR⟩

/-- foliant/foliantref43.fits -/
def S105 (o1 : Int × Int × Int × ByteArray × Slc × Slc) (c2 : Int) (w : World) (R : Bool → World → Prop) : Prop :=
  Nw w (.cells #[.int .i64 (o1.1), .int .i64 (o1.2.1), .int .i64 (o1.2.2.1), .string o1.2.2.2.1, Slc.v o1.2.2.2.2.1, Slc.v o1.2.2.2.2.2] 81) fun vw3 =>
  Br (c2 == 110) (Ld vw3 (⟨w.heap.size, 0, none⟩ : Addr) (Value.int .i64) fun (x4 : Int) =>
    Br (x4 == 2) (R true vw3) (Ld vw3 (⟨w.heap.size, 0, none⟩ : Addr) (Value.int .i64) fun (x5 : Int) =>
      R (x5 == 3) vw3)) (Br (c2 == 115) (Ld vw3 (⟨w.heap.size, 0, none⟩ : Addr) (Value.int .i64) fun (x6 : Int) =>
      R (x6 == 4) vw3) (Br (c2 == 78) (Ld vw3 (⟨w.heap.size, 0, none⟩ : Addr) (Value.int .i64) fun (x7 : Int) =>
        R (x7 == 5) vw3) (Br (c2 == 97) (Ld vw3 (⟨w.heap.size, 0, none⟩ : Addr) (Value.int .i64) fun (x8 : Int) =>
          R (x8 == 6) vw3) (Br (c2 == 100) (Ld vw3 (⟨w.heap.size, 0, none⟩ : Addr) (Value.int .i64) fun (x9 : Int) =>
            R (x9 == 7) vw3) (R true vw3)))))
def pl105 : Plan := (.seq (.reg .seq) (.seq (.seq (.reg .seq) (.block (.seq (.reg .seq) (.cond (.seq (.reg .seq) .leaf) (.seq (.reg .seq) (.cond (.seq (.reg .seq) .leaf) (.seq (.reg .seq) (.cond (.seq (.reg .seq) .leaf) (.seq (.reg .seq) (.cond (.seq (.reg .seq) .leaf) (.seq (.reg .seq) (.cond (.seq (.reg .seq) .leaf) .leaf)))))))))))) (.seq (.reg .seq) .leaf)))
set_option maxRecDepth 100000 in
theorem T105 (o1 : Int × Int × Int × ByteArray × Slc × Slc) (c2 : Int) (w : World) (R : Bool → World → Prop) (h : S105 o1 c2 w R) : C105 (o1.1, o1.2.1, o1.2.2.1, o1.2.2.2.1, o1.2.2.2.2.1, o1.2.2.2.2.2) c2 w R := by
  have e : fnT Tryd.prog ⟨FF, MAY, (fun _ _ => False)⟩ pl105 Tryd.f105 [.agg #[.int .i64 (o1.1), .int .i64 (o1.2.1), .int .i64 (o1.2.2.1), .string o1.2.2.2.1, Slc.v o1.2.2.2.2.1, Slc.v o1.2.2.2.2.2], .int .u8 c2] w [(.one .bool)] (fun s w => R s w) = S105 o1 c2 w R := by kernel_rfl
  exact (fn_calls okF okM Tryd.func105 (by kernel_rfl) (by kernel_rfl) (e.mpr h)).mono fun _ _ ⟨s, he, hR⟩ => ⟨s, he, hR⟩

def S43L1 (w : World) (r4 : ByteArray) (R : Int → World → Prop) (I23 : Int → World → Prop) (s21 : Int) (vw22 : World) : Prop :=
  Br (decide (s21 < (((r4).size : Nat) : Int))) (Ld vw22.drew ((⟨w.heap.size, 0, none⟩ : Addr).add 1) Slc.v fun (x24 : Slc) =>
    0 ≤ s21 ∧ s21 < (x24.len : Nat) ∧ Nn x24.p fun a25 =>
    Ld vw22.drew (a25.add ((s21).toNat * 6)) (Value.int .i64) fun (x26 : Int) =>
    Ld vw22.drew ((a25.add ((s21).toNat * 6)).add 1) (Value.int .i64) fun (x27 : Int) =>
    Ld vw22.drew ((a25.add ((s21).toNat * 6)).add 2) (Value.int .i64) fun (x28 : Int) =>
    Ld vw22.drew ((a25.add ((s21).toNat * 6)).add 3) Value.string fun (x29 : ByteArray) =>
    Ld vw22.drew ((a25.add ((s21).toNat * 6)).add 4) Slc.v fun (x30 : Slc) =>
    Ld vw22.drew ((a25.add ((s21).toNat * 6)).add 5) Slc.v fun (x31 : Slc) =>
    0 ≤ s21 ∧ s21 < ((r4).size : Nat) ∧ C105 (x26, x27, x28, x29, x30, x31) (bAt r4 s21) vw22.drew fun r32 vw33 =>
      Br (!r32) (R 28 vw33) (I23 (IntKind.i64.wrap (s21 + 1)) vw33)) (Ld vw22 ((⟨w.heap.size, 0, none⟩ : Addr).add 2) Value.string fun (x34 : ByteArray) =>
    Br (!(x34.toList == (⟨#[]⟩ : ByteArray).toList)) (Ld vw22 (⟨w.heap.size, 0, none⟩ : Addr) Value.string fun (x35 : ByteArray) =>
      Br (!(x35.toList == (⟨#[66, 73]⟩ : ByteArray).toList)) (R 3 vw22) (R 0 vw22)) (R 0 vw22))
/-- foliant/foliantref43.Check -/
def S43 (o1 : ByteArray × Slc × ByteArray) (w : World) (R : Int → World → Prop) : Prop :=
  Nw w (.cells #[.string o1.1, Slc.v o1.2.1, .string o1.2.2] 63) fun vw2 =>
  Ld vw2 (⟨w.heap.size, 0, none⟩ : Addr) Value.string fun (x3 : ByteArray) =>
  C104 x3 vw2 fun r4 vw5 =>
    Br (r4.toList == (⟨#[63]⟩ : ByteArray).toList) (R 28 vw5) (Ld vw5 ((⟨w.heap.size, 0, none⟩ : Addr).add 1) Slc.v fun (x7 : Slc) =>
      Br ((((r4).size : Nat) : Int) != ((x7.len : Nat) : Int)) (R 28 vw5) (Lp (σ := Int) (S43L1 w r4 R) 0 vw5))
def pl43 : Plan := (.seq (.reg .seq) (.seq (.reg .seq) (.seq (.seq (.reg .seq) (.cond (.seq (.reg .seq) .leaf) .leaf)) (.seq (.seq (.reg .seq) (.block (.loop [(4, (.one (.int .i64)))] [1, 3] (.seq (.seq (.reg .seq) (.cond .leaf .leaf)) (.seq (.block (.seq (.reg (.tail 8)) (.cond (.seq (.reg .seq) .leaf) .leaf))) (.reg .seq)))))) (.seq (.seq (.reg .seq) (.cond (.seq (.reg .seq) .leaf) .leaf)) (.seq (.reg .seq) .leaf))))))
set_option maxRecDepth 100000 in
theorem T43 (o1 : ByteArray × Slc × ByteArray) (w : World) (R : Int → World → Prop) (h : S43 o1 w R) : C43 (o1.1, o1.2.1, o1.2.2) w R := by
  have e : fnT Tryd.prog ⟨FF, MAY, (fun _ _ => False)⟩ pl43 Tryd.f43 [.agg #[.string o1.1, Slc.v o1.2.1, .string o1.2.2]] w [(.one (.int .i64))] (fun s w => R s w) = S43 o1 w R := by kernel_rfl
  exact (fn_calls okF okM Tryd.func43 (by kernel_rfl) (by kernel_rfl) (e.mpr h)).mono fun _ _ ⟨s, he, hR⟩ => ⟨s, he, hR⟩

end Go.Proofs.YtjbeembbnkmpeaaDoor
