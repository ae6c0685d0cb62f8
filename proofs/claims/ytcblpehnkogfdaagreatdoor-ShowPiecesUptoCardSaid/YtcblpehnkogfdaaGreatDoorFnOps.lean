/- The formulas of 9 functions of the program, written by program (gen.py); the kernel checks each. No condition. -/
import Derived.Test.YtcblpehnkogfdaaGreatDoorFn
import Derived.Test.YtcblpehnkogfdaaGreatDoorFnFix
import Derived.Test.YtcblpehnkogfdaaGreatDoorFnMat
import Derived.Test.YtcblpehnkogfdaaGreatDoorFnFont
import Derived.Test.YtcblpehnkogfdaaGreatDoorFnObj
namespace Go.Proofs.YtcblpehnkogfdaaGreatDoor
open Sh
set_option linter.unusedVariables false
set_option maxRecDepth 100000

def C112 (s1 : Slc) (v2 : ByteArray) (w : World) (R : Int → World → Prop) : Prop :=
  Calls Tryz.prog 112 #[Slc.v s1, .string v2] w fun e w' => ∃ r0 : Int, e = .returned (.int .i64 r0) ∧ R r0 w'
theorem C112.mono {s1 : Slc} {v2 : ByteArray} {w : World} {R R' : Int → World → Prop} (h : C112 s1 v2 w R) (hr : ∀ r0 w', R r0 w' → R' r0 w') : C112 s1 v2 w R' :=
  Calls.mono h fun _ _ ⟨r0, he, hR⟩ => ⟨r0, he, hr _ _ hR⟩
def C72 (s1 : Slc) (v2 : ByteArray) (w : World) (R : Bool → World → Prop) : Prop :=
  Calls Tryz.prog 72 #[Slc.v s1, .string v2] w fun e w' => ∃ r0 : Bool, e = .returned (.bool r0) ∧ R r0 w'
theorem C72.mono {s1 : Slc} {v2 : ByteArray} {w : World} {R R' : Bool → World → Prop} (h : C72 s1 v2 w R) (hr : ∀ r0 w', R r0 w' → R' r0 w') : C72 s1 v2 w R' :=
  Calls.mono h fun _ _ ⟨r0, he, hR⟩ => ⟨r0, he, hr _ _ hR⟩
def C73 (name1 : ByteArray) (w : World) (R : ByteArray → World → Prop) : Prop :=
  Calls Tryz.prog 73 #[.string name1] w fun e w' => ∃ r0 : ByteArray, e = .returned (.string r0) ∧ R r0 w'
theorem C73.mono {name1 : ByteArray} {w : World} {R R' : ByteArray → World → Prop} (h : C73 name1 w R) (hr : ∀ r0 w', R r0 w' → R' r0 w') : C73 name1 w R' :=
  Calls.mono h fun _ _ ⟨r0, he, hR⟩ => ⟨r0, he, hr _ _ hR⟩
def C74 (letter1 : Int) (kind2 : Int) (w : World) (R : Bool → World → Prop) : Prop :=
  Calls Tryz.prog 74 #[.int .i32 letter1, .int .i64 kind2] w fun e w' => ∃ r0 : Bool, e = .returned (.bool r0) ∧ R r0 w'
theorem C74.mono {letter1 : Int} {kind2 : Int} {w : World} {R R' : Bool → World → Prop} (h : C74 letter1 kind2 w R) (hr : ∀ r0 w', R r0 w' → R' r0 w') : C74 letter1 kind2 w R' :=
  Calls.mono h fun _ _ ⟨r0, he, hR⟩ => ⟨r0, he, hr _ _ hR⟩
def C42 (o1 : ByteArray × Slc × ByteArray) (w : World) (R : Int → World → Prop) : Prop :=
  Calls Tryz.prog 42 #[.agg #[.string o1.1, Slc.v o1.2.1, .string o1.2.2]] w fun e w' => ∃ r0 : Int, e = .returned (.int .i64 r0) ∧ R r0 w'
theorem C42.mono {o1 : ByteArray × Slc × ByteArray} {w : World} {R R' : Int → World → Prop} (h : C42 o1 w R) (hr : ∀ r0 w', R r0 w' → R' r0 w') : C42 o1 w R' :=
  Calls.mono h fun _ _ ⟨r0, he, hR⟩ => ⟨r0, he, hr _ _ hR⟩
def C76 (o1 : ByteArray × Slc × ByteArray) (w : World) (R : Slc → Int → World → Prop) : Prop :=
  Calls Tryz.prog 76 #[.agg #[.string o1.1, Slc.v o1.2.1, .string o1.2.2]] w fun e w' => ∃ r0 : Slc, ∃ r1 : Int, e = .returned (.tuple #[Slc.v r0, .int .i64 r1]) ∧ R r0 r1 w'
theorem C76.mono {o1 : ByteArray × Slc × ByteArray} {w : World} {R R' : Slc → Int → World → Prop} (h : C76 o1 w R) (hr : ∀ r0 r1 w', R r0 r1 w' → R' r0 r1 w') : C76 o1 w R' :=
  Calls.mono h fun _ _ ⟨r0, r1, he, hR⟩ => ⟨r0, r1, he, hr _ _ _ hR⟩
def C82 (name1 : ByteArray) (w : World) (R : ByteArray → World → Prop) : Prop :=
  Calls Tryz.prog 82 #[.string name1] w fun e w' => ∃ r0 : ByteArray, e = .returned (.string r0) ∧ R r0 w'
theorem C82.mono {name1 : ByteArray} {w : World} {R R' : ByteArray → World → Prop} (h : C82 name1 w R) (hr : ∀ r0 w', R r0 w' → R' r0 w') : C82 name1 w R' :=
  Calls.mono h fun _ _ ⟨r0, he, hR⟩ => ⟨r0, he, hr _ _ hR⟩
def C83 (o1 : Int × Int × Int × ByteArray × Slc × Slc) (c2 : Int) (w : World) (R : Bool → World → Prop) : Prop :=
  Calls Tryz.prog 83 #[.agg #[.int .i64 (o1.1), .int .i64 (o1.2.1), .int .i64 (o1.2.2.1), .string o1.2.2.2.1, Slc.v o1.2.2.2.2.1, Slc.v o1.2.2.2.2.2], .int .u8 c2] w fun e w' => ∃ r0 : Bool, e = .returned (.bool r0) ∧ R r0 w'
theorem C83.mono {o1 : Int × Int × Int × ByteArray × Slc × Slc} {c2 : Int} {w : World} {R R' : Bool → World → Prop} (h : C83 o1 c2 w R) (hr : ∀ r0 w', R r0 w' → R' r0 w') : C83 o1 c2 w R' :=
  Calls.mono h fun _ _ ⟨r0, he, hR⟩ => ⟨r0, he, hr _ _ hR⟩
def C46 (o1 : ByteArray × Slc × ByteArray) (w : World) (R : Int → World → Prop) : Prop :=
  Calls Tryz.prog 46 #[.agg #[.string o1.1, Slc.v o1.2.1, .string o1.2.2]] w fun e w' => ∃ r0 : Int, e = .returned (.int .i64 r0) ∧ R r0 w'
theorem C46.mono {o1 : ByteArray × Slc × ByteArray} {w : World} {R R' : Int → World → Prop} (h : C46 o1 w R) (hr : ∀ r0 w', R r0 w' → R' r0 w') : C46 o1 w R' :=
  Calls.mono h fun _ _ ⟨r0, he, hR⟩ => ⟨r0, he, hr _ _ hR⟩

def S112L1 (s1 : Slc) (v2 : ByteArray) (R : Int → World → Prop) (I5 : Int → World → Prop) (s3 : Int) (vw4 : World) : Prop :=
  Br (decide (s3 < ((s1.len : Nat) : Int))) (0 ≤ s3 ∧ s3 < (s1.len : Nat) ∧ Nn s1.p fun a6 =>
    Ld vw4 (a6.add ((s3).toNat * 1)) Value.string fun (x7 : ByteArray) =>
    Br (v2.toList == x7.toList) (R s3 vw4) (I5 (IntKind.i64.wrap (s3 + 1)) vw4)) (R (-1) vw4)
/-- slices.Index[[]string,string] -/
def S112 (s1 : Slc) (v2 : ByteArray) (w : World) (R : Int → World → Prop) : Prop :=
  Lp (σ := Int) (S112L1 s1 v2 R) 0 w
def pl112 : Plan := (.seq (.reg .seq) (.seq (.seq (.reg .seq) (.block (.loop [(8, (.one (.int .i64)))] [0, 1, 7] (.seq (.reg .seq) (.seq (.cond .leaf .leaf) (.seq (.block (.seq (.reg .seq) (.seq (.reg .seq) (.cond (.seq (.reg .seq) .leaf) .leaf)))) (.reg .seq))))))) (.seq (.reg .seq) .leaf)))
set_option maxRecDepth 100000 in
theorem T112 (s1 : Slc) (v2 : ByteArray) (w : World) (R : Int → World → Prop) (h : S112 s1 v2 w R) : C112 s1 v2 w R := by
  have e : fnT Tryz.prog ⟨FF, MAY, (fun _ _ => False)⟩ pl112 Tryz.f112 [Slc.v s1, .string v2] w [(.one (.int .i64))] (fun s w => R s w) = S112 s1 v2 w R := by kernel_rfl
  exact (fn_calls okF okM Tryz.func112 (by kernel_rfl) (by kernel_rfl) (e.mpr h)).mono fun _ _ ⟨s, he, hR⟩ => ⟨s, he, hR⟩

/-- slices.Contains[[]string,string] -/
def S72 (s1 : Slc) (v2 : ByteArray) (w : World) (R : Bool → World → Prop) : Prop :=
  C112 s1 v2 w fun r3 vw4 =>
    R (decide (r3 ≥ 0)) vw4
def pl72 : Plan := (.seq (.reg .seq) (.seq (.reg .seq) .leaf))
set_option maxRecDepth 100000 in
theorem T72 (s1 : Slc) (v2 : ByteArray) (w : World) (R : Bool → World → Prop) (h : S72 s1 v2 w R) : C72 s1 v2 w R := by
  have e : fnT Tryz.prog ⟨FF, MAY, (fun _ _ => False)⟩ pl72 Tryz.f72 [Slc.v s1, .string v2] w [(.one .bool)] (fun s w => R s w) = S72 s1 v2 w R := by kernel_rfl
  exact (fn_calls okF okM Tryz.func72 (by kernel_rfl) (by kernel_rfl) (e.mpr h)).mono fun _ _ ⟨s, he, hR⟩ => ⟨s, he, hR⟩

def S73L1 (name1 : ByteArray) (x31 : ByteArray) (x32 : ByteArray) (x33 : ByteArray) (x34 : ByteArray) (x35 : ByteArray) (x36 : ByteArray) (x37 : ByteArray) (x38 : ByteArray) (x39 : ByteArray) (x40 : ByteArray) (x41 : ByteArray) (x42 : ByteArray) (x43 : ByteArray) (x44 : ByteArray) (x45 : ByteArray) (x46 : ByteArray) (x47 : ByteArray) (x48 : ByteArray) (x49 : ByteArray) (x50 : ByteArray) (x51 : ByteArray) (x52 : ByteArray) (x53 : ByteArray) (x54 : ByteArray) (x55 : ByteArray) (x56 : ByteArray) (x57 : ByteArray) (x58 : ByteArray) (R : ByteArray → World → Prop) (I61 : Int → World → Prop) (s59 : Int) (vw60 : World) : Prop :=
  Br (decide (s59 < 14)) (0 ≤ s59 ∧ s59 < (14 : Nat) ∧ ∃ x62 : ByteArray × ByteArray, (#[.string x31, .string x32, .string x33, .string x34, .string x35, .string x36, .string x37, .string x38, .string x39, .string x40, .string x41, .string x42, .string x43, .string x44, .string x45, .string x46, .string x47, .string x48, .string x49, .string x50, .string x51, .string x52, .string x53, .string x54, .string x55, .string x56, .string x57, .string x58] : Array Value).extract ((s59).toNat * 2) ((s59).toNat * 2 + 2) = #[.string x62.1, .string x62.2] ∧ Nw vw60 (.cells #[.string ((⟨#[]⟩ : ByteArray)), .string ((⟨#[]⟩ : ByteArray))] 152) fun vw63 =>
    St vw63 (⟨vw60.heap.size, 0, none⟩ : Addr) (.string x62.1) fun vw64 =>
    St vw64 ((⟨vw60.heap.size, 0, none⟩ : Addr).add 1) (.string x62.2) fun vw65 =>
    Ld vw65 ((⟨vw60.heap.size, 0, none⟩ : Addr).add 1) Value.string fun (x66 : ByteArray) =>
    C113 x66 vw65 fun r67 vw68 =>
      C72 r67 name1 vw68 fun r69 vw70 =>
        Br r69 (Ld vw70 (⟨vw60.heap.size, 0, none⟩ : Addr) Value.string fun (x71 : ByteArray) =>
          R x71 vw70) (I61 (IntKind.i64.wrap (s59 + 1)) vw70)) (R (⟨#[63]⟩ : ByteArray) vw60)
/-- foliant/ops.Takes -/
def S73 (name1 : ByteArray) (w : World) (R : ByteArray → World → Prop) : Prop :=
  Nw w (.cells #[.string ((⟨#[]⟩ : ByteArray)), .string ((⟨#[]⟩ : ByteArray)), .string ((⟨#[]⟩ : ByteArray)), .string ((⟨#[]⟩ : ByteArray)), .string ((⟨#[]⟩ : ByteArray)), .string ((⟨#[]⟩ : ByteArray)), .string ((⟨#[]⟩ : ByteArray)), .string ((⟨#[]⟩ : ByteArray)), .string ((⟨#[]⟩ : ByteArray)), .string ((⟨#[]⟩ : ByteArray)), .string ((⟨#[]⟩ : ByteArray)), .string ((⟨#[]⟩ : ByteArray)), .string ((⟨#[]⟩ : ByteArray)), .string ((⟨#[]⟩ : ByteArray)), .string ((⟨#[]⟩ : ByteArray)), .string ((⟨#[]⟩ : ByteArray)), .string ((⟨#[]⟩ : ByteArray)), .string ((⟨#[]⟩ : ByteArray)), .string ((⟨#[]⟩ : ByteArray)), .string ((⟨#[]⟩ : ByteArray)), .string ((⟨#[]⟩ : ByteArray)), .string ((⟨#[]⟩ : ByteArray)), .string ((⟨#[]⟩ : ByteArray)), .string ((⟨#[]⟩ : ByteArray)), .string ((⟨#[]⟩ : ByteArray)), .string ((⟨#[]⟩ : ByteArray)), .string ((⟨#[]⟩ : ByteArray)), .string ((⟨#[]⟩ : ByteArray))] 153) fun vw2 =>
  St vw2 (⟨w.heap.size, 0, none⟩ : Addr) (.string ((⟨#[]⟩ : ByteArray))) fun vw3 =>
  St vw3 ((⟨w.heap.size, 0, none⟩ : Addr).add 1) (.string ((⟨#[98, 32, 66, 32, 98, 42, 32, 66, 42, 32, 66, 84, 32, 69, 84, 32, 69, 77, 67, 32, 66, 88, 32, 69, 88, 32, 102, 32, 70, 32, 102, 42, 32, 104, 32, 110, 32, 113, 32, 81, 32, 115, 32, 83, 32, 84, 42, 32, 87, 32, 87, 42]⟩ : ByteArray))) fun vw4 =>
  St vw4 ((⟨w.heap.size, 0, none⟩ : Addr).add 2) (.string ((⟨#[110]⟩ : ByteArray))) fun vw5 =>
  St vw5 ((⟨w.heap.size, 0, none⟩ : Addr).add 3) (.string ((⟨#[103, 32, 71, 32, 105, 32, 106, 32, 74, 32, 77, 32, 119, 32, 84, 99, 32, 84, 76, 32, 84, 114, 32, 84, 115, 32, 84, 119, 32, 84, 122]⟩ : ByteArray))) fun vw6 =>
  St vw6 ((⟨w.heap.size, 0, none⟩ : Addr).add 4) (.string ((⟨#[110, 110]⟩ : ByteArray))) fun vw7 =>
  St vw7 ((⟨w.heap.size, 0, none⟩ : Addr).add 5) (.string ((⟨#[100, 48, 32, 108, 32, 109, 32, 84, 100, 32, 84, 68]⟩ : ByteArray))) fun vw8 =>
  St vw8 ((⟨w.heap.size, 0, none⟩ : Addr).add 6) (.string ((⟨#[110, 110, 110]⟩ : ByteArray))) fun vw9 =>
  St vw9 ((⟨w.heap.size, 0, none⟩ : Addr).add 7) (.string ((⟨#[114, 103, 32, 82, 71]⟩ : ByteArray))) fun vw10 =>
  St vw10 ((⟨w.heap.size, 0, none⟩ : Addr).add 8) (.string ((⟨#[110, 110, 110, 110]⟩ : ByteArray))) fun vw11 =>
  St vw11 ((⟨w.heap.size, 0, none⟩ : Addr).add 9) (.string ((⟨#[107, 32, 75, 32, 114, 101, 32, 118, 32, 121]⟩ : ByteArray))) fun vw12 =>
  St vw12 ((⟨w.heap.size, 0, none⟩ : Addr).add 10) (.string ((⟨#[110, 110, 110, 110, 110, 110]⟩ : ByteArray))) fun vw13 =>
  St vw13 ((⟨w.heap.size, 0, none⟩ : Addr).add 11) (.string ((⟨#[99, 32, 99, 109, 32, 100, 49, 32, 84, 109]⟩ : ByteArray))) fun vw14 =>
  St vw14 ((⟨w.heap.size, 0, none⟩ : Addr).add 12) (.string ((⟨#[78]⟩ : ByteArray))) fun vw15 =>
  St vw15 ((⟨w.heap.size, 0, none⟩ : Addr).add 13) (.string ((⟨#[66, 77, 67, 32, 99, 115, 32, 67, 83, 32, 68, 111, 32, 103, 115, 32, 77, 80, 32, 114, 105, 32, 115, 104]⟩ : ByteArray))) fun vw16 =>
  St vw16 ((⟨w.heap.size, 0, none⟩ : Addr).add 14) (.string ((⟨#[78, 110]⟩ : ByteArray))) fun vw17 =>
  St vw17 ((⟨w.heap.size, 0, none⟩ : Addr).add 15) (.string ((⟨#[84, 102]⟩ : ByteArray))) fun vw18 =>
  St vw18 ((⟨w.heap.size, 0, none⟩ : Addr).add 16) (.string ((⟨#[78, 42]⟩ : ByteArray))) fun vw19 =>
  St vw19 ((⟨w.heap.size, 0, none⟩ : Addr).add 17) (.string ((⟨#[66, 68, 67, 32, 68, 80]⟩ : ByteArray))) fun vw20 =>
  St vw20 ((⟨w.heap.size, 0, none⟩ : Addr).add 18) (.string ((⟨#[115]⟩ : ByteArray))) fun vw21 =>
  St vw21 ((⟨w.heap.size, 0, none⟩ : Addr).add 19) (.string ((⟨#[84, 106, 32, 39]⟩ : ByteArray))) fun vw22 =>
  St vw22 ((⟨w.heap.size, 0, none⟩ : Addr).add 20) (.string ((⟨#[110, 110, 115]⟩ : ByteArray))) fun vw23 =>
  St vw23 ((⟨w.heap.size, 0, none⟩ : Addr).add 21) (.string ((⟨#[34]⟩ : ByteArray))) fun vw24 =>
  St vw24 ((⟨w.heap.size, 0, none⟩ : Addr).add 22) (.string ((⟨#[97]⟩ : ByteArray))) fun vw25 =>
  St vw25 ((⟨w.heap.size, 0, none⟩ : Addr).add 23) (.string ((⟨#[84, 74]⟩ : ByteArray))) fun vw26 =>
  St vw26 ((⟨w.heap.size, 0, none⟩ : Addr).add 24) (.string ((⟨#[97, 110]⟩ : ByteArray))) fun vw27 =>
  St vw27 ((⟨w.heap.size, 0, none⟩ : Addr).add 25) (.string ((⟨#[100]⟩ : ByteArray))) fun vw28 =>
  St vw28 ((⟨w.heap.size, 0, none⟩ : Addr).add 26) (.string ((⟨#[100]⟩ : ByteArray))) fun vw29 =>
  St vw29 ((⟨w.heap.size, 0, none⟩ : Addr).add 27) (.string ((⟨#[66, 73]⟩ : ByteArray))) fun vw30 =>
  Ld vw30 (⟨w.heap.size, 0, none⟩ : Addr) Value.string fun (x31 : ByteArray) =>
  Ld vw30 ((⟨w.heap.size, 0, none⟩ : Addr).add 1) Value.string fun (x32 : ByteArray) =>
  Ld vw30 ((⟨w.heap.size, 0, none⟩ : Addr).add 2) Value.string fun (x33 : ByteArray) =>
  Ld vw30 ((⟨w.heap.size, 0, none⟩ : Addr).add 3) Value.string fun (x34 : ByteArray) =>
  Ld vw30 ((⟨w.heap.size, 0, none⟩ : Addr).add 4) Value.string fun (x35 : ByteArray) =>
  Ld vw30 ((⟨w.heap.size, 0, none⟩ : Addr).add 5) Value.string fun (x36 : ByteArray) =>
  Ld vw30 ((⟨w.heap.size, 0, none⟩ : Addr).add 6) Value.string fun (x37 : ByteArray) =>
  Ld vw30 ((⟨w.heap.size, 0, none⟩ : Addr).add 7) Value.string fun (x38 : ByteArray) =>
  Ld vw30 ((⟨w.heap.size, 0, none⟩ : Addr).add 8) Value.string fun (x39 : ByteArray) =>
  Ld vw30 ((⟨w.heap.size, 0, none⟩ : Addr).add 9) Value.string fun (x40 : ByteArray) =>
  Ld vw30 ((⟨w.heap.size, 0, none⟩ : Addr).add 10) Value.string fun (x41 : ByteArray) =>
  Ld vw30 ((⟨w.heap.size, 0, none⟩ : Addr).add 11) Value.string fun (x42 : ByteArray) =>
  Ld vw30 ((⟨w.heap.size, 0, none⟩ : Addr).add 12) Value.string fun (x43 : ByteArray) =>
  Ld vw30 ((⟨w.heap.size, 0, none⟩ : Addr).add 13) Value.string fun (x44 : ByteArray) =>
  Ld vw30 ((⟨w.heap.size, 0, none⟩ : Addr).add 14) Value.string fun (x45 : ByteArray) =>
  Ld vw30 ((⟨w.heap.size, 0, none⟩ : Addr).add 15) Value.string fun (x46 : ByteArray) =>
  Ld vw30 ((⟨w.heap.size, 0, none⟩ : Addr).add 16) Value.string fun (x47 : ByteArray) =>
  Ld vw30 ((⟨w.heap.size, 0, none⟩ : Addr).add 17) Value.string fun (x48 : ByteArray) =>
  Ld vw30 ((⟨w.heap.size, 0, none⟩ : Addr).add 18) Value.string fun (x49 : ByteArray) =>
  Ld vw30 ((⟨w.heap.size, 0, none⟩ : Addr).add 19) Value.string fun (x50 : ByteArray) =>
  Ld vw30 ((⟨w.heap.size, 0, none⟩ : Addr).add 20) Value.string fun (x51 : ByteArray) =>
  Ld vw30 ((⟨w.heap.size, 0, none⟩ : Addr).add 21) Value.string fun (x52 : ByteArray) =>
  Ld vw30 ((⟨w.heap.size, 0, none⟩ : Addr).add 22) Value.string fun (x53 : ByteArray) =>
  Ld vw30 ((⟨w.heap.size, 0, none⟩ : Addr).add 23) Value.string fun (x54 : ByteArray) =>
  Ld vw30 ((⟨w.heap.size, 0, none⟩ : Addr).add 24) Value.string fun (x55 : ByteArray) =>
  Ld vw30 ((⟨w.heap.size, 0, none⟩ : Addr).add 25) Value.string fun (x56 : ByteArray) =>
  Ld vw30 ((⟨w.heap.size, 0, none⟩ : Addr).add 26) Value.string fun (x57 : ByteArray) =>
  Ld vw30 ((⟨w.heap.size, 0, none⟩ : Addr).add 27) Value.string fun (x58 : ByteArray) =>
  Lp (σ := Int) (S73L1 name1 x31 x32 x33 x34 x35 x36 x37 x38 x39 x40 x41 x42 x43 x44 x45 x46 x47 x48 x49 x50 x51 x52 x53 x54 x55 x56 x57 x58 R) 0 vw30
def pl73 : Plan := (.seq (.reg .seq) (.seq (.reg .seq) (.seq (.seq (.reg .seq) (.block (.loop [(22, (.one (.int .i64)))] [0, 21] (.seq (.reg .seq) (.seq (.cond .leaf .leaf) (.seq (.block (.seq (.reg .seq) (.seq (.reg .seq) (.cond (.seq (.reg .seq) .leaf) .leaf)))) (.reg .seq))))))) (.seq (.reg .seq) .leaf))))
set_option maxRecDepth 100000 in
theorem T73 (name1 : ByteArray) (w : World) (R : ByteArray → World → Prop) (h : S73 name1 w R) : C73 name1 w R := by
  have e : fnT Tryz.prog ⟨FF, MAY, (fun _ _ => False)⟩ pl73 Tryz.f73 [.string name1] w [(.one .str)] (fun s w => R s w) = S73 name1 w R := by kernel_rfl
  exact (fn_calls okF okM Tryz.func73 (by kernel_rfl) (by kernel_rfl) (e.mpr h)).mono fun _ _ ⟨s, he, hR⟩ => ⟨s, he, hR⟩

/-- foliant/ops.fits -/
def S74 (letter1 : Int) (kind2 : Int) (w : World) (R : Bool → World → Prop) : Prop :=
  Br (letter1 == 110) (Br (kind2 == 2) (R true w) (R (kind2 == 3) w)) (Br (letter1 == 115) (R (kind2 == 4) w) (Br (letter1 == 78) (R (kind2 == 5) w) (Br (letter1 == 97) (R (kind2 == 6) w) (Br (letter1 == 100) (R (kind2 == 7) w) (R true w)))))
def pl74 : Plan := (.seq (.reg .seq) (.seq (.seq (.reg .seq) (.block (.seq (.reg .seq) (.cond (.seq (.reg .seq) .leaf) (.seq (.reg .seq) (.cond (.seq (.reg .seq) .leaf) (.seq (.reg .seq) (.cond (.seq (.reg .seq) .leaf) (.seq (.reg .seq) (.cond (.seq (.reg .seq) .leaf) (.seq (.reg .seq) (.cond (.seq (.reg .seq) .leaf) .leaf)))))))))))) (.seq (.reg .seq) .leaf)))
set_option maxRecDepth 100000 in
theorem T74 (letter1 : Int) (kind2 : Int) (w : World) (R : Bool → World → Prop) (h : S74 letter1 kind2 w R) : C74 letter1 kind2 w R := by
  have e : fnT Tryz.prog ⟨FF, MAY, (fun _ _ => False)⟩ pl74 Tryz.f74 [.int .i32 letter1, .int .i64 kind2] w [(.one .bool)] (fun s w => R s w) = S74 letter1 kind2 w R := by kernel_rfl
  exact (fn_calls okF okM Tryz.func74 (by kernel_rfl) (by kernel_rfl) (e.mpr h)).mono fun _ _ ⟨s, he, hR⟩ => ⟨s, he, hR⟩

def S42L1 (w : World) (vw5 : World) (R : Int → World → Prop) (I23 : Unit → World → Prop) (s21 : Unit) (vw22 : World) : Prop :=
  Nx vw22 (⟨vw5.heap.size, 0, none⟩ : Addr) (fun (i24 : Int) (ch25 : Int) (vw26 : World) =>
    Ld vw26 ((⟨w.heap.size, 0, none⟩ : Addr).add 1) Slc.v fun (x27 : Slc) =>
    0 ≤ i24 ∧ i24 < (x27.len : Nat) ∧ Nn x27.p fun a28 =>
    Ld vw26 (a28.add ((i24).toNat * 6)) (Value.int .i64) fun (x29 : Int) =>
    C74 ch25 x29 vw26 fun r30 vw31 =>
      Br (!r30) (R 28 vw31) (I23 () vw31)) (Ld vw22 ((⟨w.heap.size, 0, none⟩ : Addr).add 2) Value.string fun (x32 : ByteArray) =>
    Br (!(x32.toList == (⟨#[]⟩ : ByteArray).toList)) (Ld vw22 (⟨w.heap.size, 0, none⟩ : Addr) Value.string fun (x33 : ByteArray) =>
      Br (!(x33.toList == (⟨#[66, 73]⟩ : ByteArray).toList)) (R 3 vw22) (R 0 vw22)) (R 0 vw22))
/-- foliant/ops.Check -/
def S42 (o1 : ByteArray × Slc × ByteArray) (w : World) (R : Int → World → Prop) : Prop :=
  Nw w (.cells #[.string o1.1, Slc.v o1.2.1, .string o1.2.2] 48) fun vw2 =>
  Ld vw2 (⟨w.heap.size, 0, none⟩ : Addr) Value.string fun (x3 : ByteArray) =>
  C73 x3 vw2 fun r4 vw5 =>
    Br (r4.toList == (⟨#[63]⟩ : ByteArray).toList) (R 28 vw5) (Ld vw5 ((⟨w.heap.size, 0, none⟩ : Addr).add 1) Slc.v fun (x7 : Slc) =>
      Br ((((r4).size : Nat) : Int) != ((x7.len : Nat) : Int)) (R 28 vw5) (Nw vw5 (.stringIter r4 0) fun vw20 =>
        Lp (σ := Unit) (S42L1 w vw5 R) () vw20))
def pl42 : Plan := (.seq (.reg .seq) (.seq (.reg .seq) (.seq (.seq (.reg .seq) (.cond (.seq (.reg .seq) .leaf) .leaf)) (.seq (.seq (.reg .seq) (.block (.loop [] [1, 20] (.seq (.reg .seq) (.seq (.cond .leaf .leaf) (.block (.seq (.reg .seq) (.seq (.reg .seq) (.cond (.seq (.reg .seq) .leaf) .leaf))))))))) (.seq (.seq (.reg .seq) (.cond (.seq (.reg .seq) .leaf) .leaf)) (.seq (.reg .seq) .leaf))))))
set_option maxRecDepth 100000 in
theorem T42 (o1 : ByteArray × Slc × ByteArray) (w : World) (R : Int → World → Prop) (h : S42 o1 w R) : C42 (o1.1, o1.2.1, o1.2.2) w R := by
  have e : fnT Tryz.prog ⟨FF, MAY, (fun _ _ => False)⟩ pl42 Tryz.f42 [.agg #[.string o1.1, Slc.v o1.2.1, .string o1.2.2]] w [(.one (.int .i64))] (fun s w => R s w) = S42 o1 w R := by kernel_rfl
  exact (fn_calls okF okM Tryz.func42 (by kernel_rfl) (by kernel_rfl) (e.mpr h)).mono fun _ _ ⟨s, he, hR⟩ => ⟨s, he, hR⟩

def S76L1 (x3 : Slc) (R : Slc → Int → World → Prop) (I6 : (Slc × Int) → World → Prop) (s4 : Slc × Int) (vw5 : World) : Prop :=
  Br (decide (s4.2 < ((x3.len : Nat) : Int))) (0 ≤ s4.2 ∧ s4.2 < (x3.len : Nat) ∧ Nn x3.p fun a7 =>
    Ld vw5 (a7.add ((s4.2).toNat * 6)) (Value.int .i64) fun (x8 : Int) =>
    Ld vw5 ((a7.add ((s4.2).toNat * 6)).add 1) (Value.int .i64) fun (x9 : Int) =>
    Ld vw5 ((a7.add ((s4.2).toNat * 6)).add 2) (Value.int .i64) fun (x10 : Int) =>
    Ld vw5 ((a7.add ((s4.2).toNat * 6)).add 3) Value.string fun (x11 : ByteArray) =>
    Ld vw5 ((a7.add ((s4.2).toNat * 6)).add 4) Slc.v fun (x12 : Slc) =>
    Ld vw5 ((a7.add ((s4.2).toNat * 6)).add 5) Slc.v fun (x13 : Slc) =>
    Nw vw5 (.cells #[.int .i64 0, .int .i64 0, .int .i64 0, .string ((⟨#[]⟩ : ByteArray)), Slc.v ((⟨none, 0, 0⟩ : Slc)), Slc.v ((⟨none, 0, 0⟩ : Slc))] 61) fun vw14 =>
    St vw14 (⟨vw5.heap.size, 0, none⟩ : Addr) (.int .i64 x8) fun vw15 =>
    St vw15 ((⟨vw5.heap.size, 0, none⟩ : Addr).add 1) (.int .i64 x9) fun vw16 =>
    St vw16 ((⟨vw5.heap.size, 0, none⟩ : Addr).add 2) (.int .i64 x10) fun vw17 =>
    St vw17 ((⟨vw5.heap.size, 0, none⟩ : Addr).add 3) (.string x11) fun vw18 =>
    St vw18 ((⟨vw5.heap.size, 0, none⟩ : Addr).add 4) (Slc.v x12) fun vw19 =>
    St vw19 ((⟨vw5.heap.size, 0, none⟩ : Addr).add 5) (Slc.v x13) fun vw20 =>
    Ld vw20 (⟨vw5.heap.size, 0, none⟩ : Addr) (Value.int .i64) fun (x23 : Int) =>
    Br (x23 != 2) (Ld vw20 (⟨vw5.heap.size, 0, none⟩ : Addr) (Value.int .i64) fun (x24 : Int) =>
      Br (x24 != 3) (R (⟨none, 0, 0⟩ : Slc) 10 vw20) (Ld vw20 (⟨vw5.heap.size, 0, none⟩ : Addr) (Value.int .i64) fun (x25 : Int) =>
        Ld vw20 ((⟨vw5.heap.size, 0, none⟩ : Addr).add 1) (Value.int .i64) fun (x26 : Int) =>
        Ld vw20 ((⟨vw5.heap.size, 0, none⟩ : Addr).add 2) (Value.int .i64) fun (x27 : Int) =>
        Ld vw20 ((⟨vw5.heap.size, 0, none⟩ : Addr).add 3) Value.string fun (x28 : ByteArray) =>
        Ld vw20 ((⟨vw5.heap.size, 0, none⟩ : Addr).add 4) Slc.v fun (x29 : Slc) =>
        Ld vw20 ((⟨vw5.heap.size, 0, none⟩ : Addr).add 5) Slc.v fun (x30 : Slc) =>
        C114 (x25, x26, x27, x28, x29, x30) vw20 fun r31 r32 vw33 =>
          Br (!r32) (R (⟨none, 0, 0⟩ : Slc) 2 vw33) (Nw vw33 (.cells #[.int .i64 r31] 2) fun vw34 =>
            Rn Tryz.prog (Builtin.append_ #[25, 25] 25 #[Slc.v s4.1, Slc.v ((⟨some ⟨vw33.heap.size, 0, none⟩, 1, 1⟩ : Slc))]) vw34 Slc.v fun (x35 : Slc) vw36 =>
            I6 (x35, IntKind.i64.wrap (s4.2 + 1)) vw36))) (Ld vw20 (⟨vw5.heap.size, 0, none⟩ : Addr) (Value.int .i64) fun (x37 : Int) =>
      Ld vw20 ((⟨vw5.heap.size, 0, none⟩ : Addr).add 1) (Value.int .i64) fun (x38 : Int) =>
      Ld vw20 ((⟨vw5.heap.size, 0, none⟩ : Addr).add 2) (Value.int .i64) fun (x39 : Int) =>
      Ld vw20 ((⟨vw5.heap.size, 0, none⟩ : Addr).add 3) Value.string fun (x40 : ByteArray) =>
      Ld vw20 ((⟨vw5.heap.size, 0, none⟩ : Addr).add 4) Slc.v fun (x41 : Slc) =>
      Ld vw20 ((⟨vw5.heap.size, 0, none⟩ : Addr).add 5) Slc.v fun (x42 : Slc) =>
      C114 (x37, x38, x39, x40, x41, x42) vw20 fun r43 r44 vw45 =>
        Br (!r44) (R (⟨none, 0, 0⟩ : Slc) 2 vw45) (Nw vw45 (.cells #[.int .i64 r43] 2) fun vw46 =>
          Rn Tryz.prog (Builtin.append_ #[25, 25] 25 #[Slc.v s4.1, Slc.v ((⟨some ⟨vw45.heap.size, 0, none⟩, 1, 1⟩ : Slc))]) vw46 Slc.v fun (x47 : Slc) vw48 =>
          I6 (x47, IntKind.i64.wrap (s4.2 + 1)) vw48))) (R s4.1 0 vw5)
/-- foliant/ops.Nums -/
def S76 (o1 : ByteArray × Slc × ByteArray) (w : World) (R : Slc → Int → World → Prop) : Prop :=
  Nw w (.cells #[.string o1.1, Slc.v o1.2.1, .string o1.2.2] 48) fun vw2 =>
  Ld vw2 ((⟨w.heap.size, 0, none⟩ : Addr).add 1) Slc.v fun (x3 : Slc) =>
  Lp (σ := Slc × Int) (S76L1 x3 R) ((⟨none, 0, 0⟩ : Slc), 0) vw2
def pl76 : Plan := (.seq (.reg .seq) (.seq (.reg .seq) (.seq (.seq (.reg .seq) (.block (.loop [(4, (.one .slc)), (12, (.one (.int .i64)))] [10, 11] (.seq (.reg .seq) (.seq (.cond .leaf .leaf) (.seq (.block (.seq (.reg .seq) (.seq (.seq (.reg .seq) (.cond (.seq (.reg .seq) .leaf) .leaf)) (.seq (.reg .seq) (.seq (.seq (.reg .seq) (.cond (.seq (.reg .seq) .leaf) .leaf)) (.reg .seq)))))) (.reg .seq))))))) (.seq (.reg .seq) .leaf))))
set_option maxRecDepth 100000 in
theorem T76 (o1 : ByteArray × Slc × ByteArray) (w : World) (R : Slc → Int → World → Prop) (h : S76 o1 w R) : C76 (o1.1, o1.2.1, o1.2.2) w R := by
  have e : fnT Tryz.prog ⟨FF, MAY, (fun _ _ => False)⟩ pl76 Tryz.f76 [.agg #[.string o1.1, Slc.v o1.2.1, .string o1.2.2]] w [(.one .slc), (.one (.int .i64))] (fun s w => R s.1 s.2 w) = S76 o1 w R := by kernel_rfl
  exact (fn_calls okF okM Tryz.func76 (by kernel_rfl) (by kernel_rfl) (e.mpr h)).mono fun _ _ ⟨s, he, hR⟩ => ⟨s.1, s.2, he, hR⟩

def S82J1 (name1 : ByteArray) (R : ByteArray → World → Prop) (s18 : Bool) (vw19 : World) : Prop :=
  Br s18 (R (⟨#[115]⟩ : ByteArray) vw19) (Br (name1.toList == (⟨#[34]⟩ : ByteArray).toList) (R (⟨#[110, 110, 115]⟩ : ByteArray) vw19) (Br (name1.toList == (⟨#[84, 74]⟩ : ByteArray).toList) (R (⟨#[97]⟩ : ByteArray) vw19) (Br (name1.toList == (⟨#[100]⟩ : ByteArray).toList) (R (⟨#[97, 110]⟩ : ByteArray) vw19) (Br (name1.toList == (⟨#[66, 73]⟩ : ByteArray).toList) (R (⟨#[100]⟩ : ByteArray) vw19) (R (⟨#[63]⟩ : ByteArray) vw19)))))
def S82J2 (name1 : ByteArray) (R : ByteArray → World → Prop) (s16 : Bool) (vw17 : World) : Prop :=
  Br s16 (R (⟨#[78, 42]⟩ : ByteArray) vw17) (Join (S82J1 name1 R) fun (vJ20 : Bool → World → Prop) =>
      Br (name1.toList == (⟨#[84, 106]⟩ : ByteArray).toList) (vJ20 (name1.toList == (⟨#[84, 106]⟩ : ByteArray).toList) vw17) (vJ20 (name1.toList == (⟨#[39]⟩ : ByteArray).toList) vw17))
def S82J3 (name1 : ByteArray) (R : ByteArray → World → Prop) (s14 : Bool) (vw15 : World) : Prop :=
  Br s14 (R (⟨#[78]⟩ : ByteArray) vw15) (Br (name1.toList == (⟨#[84, 102]⟩ : ByteArray).toList) (R (⟨#[78, 110]⟩ : ByteArray) vw15) (Join (S82J2 name1 R) fun (vJ21 : Bool → World → Prop) =>
        Br (name1.toList == (⟨#[66, 68, 67]⟩ : ByteArray).toList) (vJ21 (name1.toList == (⟨#[66, 68, 67]⟩ : ByteArray).toList) vw15) (vJ21 (name1.toList == (⟨#[68, 80]⟩ : ByteArray).toList) vw15)))
def S82J4 (name1 : ByteArray) (R : ByteArray → World → Prop) (s12 : Bool) (vw13 : World) : Prop :=
  Br s12 (R (⟨#[110, 110, 110, 110, 110, 110]⟩ : ByteArray) vw13) (Join (S82J3 name1 R) fun (vJ22 : Bool → World → Prop) =>
      Br (name1.toList == (⟨#[66, 77, 67]⟩ : ByteArray).toList) (vJ22 (name1.toList == (⟨#[66, 77, 67]⟩ : ByteArray).toList) vw13) (Br (name1.toList == (⟨#[99, 115]⟩ : ByteArray).toList) (vJ22 (name1.toList == (⟨#[99, 115]⟩ : ByteArray).toList) vw13) (Br (name1.toList == (⟨#[67, 83]⟩ : ByteArray).toList) (vJ22 (name1.toList == (⟨#[67, 83]⟩ : ByteArray).toList) vw13) (Br (name1.toList == (⟨#[68, 111]⟩ : ByteArray).toList) (vJ22 (name1.toList == (⟨#[68, 111]⟩ : ByteArray).toList) vw13) (Br (name1.toList == (⟨#[103, 115]⟩ : ByteArray).toList) (vJ22 (name1.toList == (⟨#[103, 115]⟩ : ByteArray).toList) vw13) (Br (name1.toList == (⟨#[77, 80]⟩ : ByteArray).toList) (vJ22 (name1.toList == (⟨#[77, 80]⟩ : ByteArray).toList) vw13) (Br (name1.toList == (⟨#[114, 105]⟩ : ByteArray).toList) (vJ22 (name1.toList == (⟨#[114, 105]⟩ : ByteArray).toList) vw13) (vJ22 (name1.toList == (⟨#[115, 104]⟩ : ByteArray).toList) vw13))))))))
def S82J5 (name1 : ByteArray) (R : ByteArray → World → Prop) (s10 : Bool) (vw11 : World) : Prop :=
  Br s10 (R (⟨#[110, 110, 110, 110]⟩ : ByteArray) vw11) (Join (S82J4 name1 R) fun (vJ23 : Bool → World → Prop) =>
      Br (name1.toList == (⟨#[99]⟩ : ByteArray).toList) (vJ23 (name1.toList == (⟨#[99]⟩ : ByteArray).toList) vw11) (Br (name1.toList == (⟨#[99, 109]⟩ : ByteArray).toList) (vJ23 (name1.toList == (⟨#[99, 109]⟩ : ByteArray).toList) vw11) (Br (name1.toList == (⟨#[100, 49]⟩ : ByteArray).toList) (vJ23 (name1.toList == (⟨#[100, 49]⟩ : ByteArray).toList) vw11) (vJ23 (name1.toList == (⟨#[84, 109]⟩ : ByteArray).toList) vw11))))
def S82J6 (name1 : ByteArray) (R : ByteArray → World → Prop) (s8 : Bool) (vw9 : World) : Prop :=
  Br s8 (R (⟨#[110, 110, 110]⟩ : ByteArray) vw9) (Join (S82J5 name1 R) fun (vJ24 : Bool → World → Prop) =>
      Br (name1.toList == (⟨#[107]⟩ : ByteArray).toList) (vJ24 (name1.toList == (⟨#[107]⟩ : ByteArray).toList) vw9) (Br (name1.toList == (⟨#[75]⟩ : ByteArray).toList) (vJ24 (name1.toList == (⟨#[75]⟩ : ByteArray).toList) vw9) (Br (name1.toList == (⟨#[114, 101]⟩ : ByteArray).toList) (vJ24 (name1.toList == (⟨#[114, 101]⟩ : ByteArray).toList) vw9) (Br (name1.toList == (⟨#[118]⟩ : ByteArray).toList) (vJ24 (name1.toList == (⟨#[118]⟩ : ByteArray).toList) vw9) (vJ24 (name1.toList == (⟨#[121]⟩ : ByteArray).toList) vw9)))))
def S82J7 (name1 : ByteArray) (R : ByteArray → World → Prop) (s6 : Bool) (vw7 : World) : Prop :=
  Br s6 (R (⟨#[110, 110]⟩ : ByteArray) vw7) (Join (S82J6 name1 R) fun (vJ25 : Bool → World → Prop) =>
      Br (name1.toList == (⟨#[114, 103]⟩ : ByteArray).toList) (vJ25 (name1.toList == (⟨#[114, 103]⟩ : ByteArray).toList) vw7) (vJ25 (name1.toList == (⟨#[82, 71]⟩ : ByteArray).toList) vw7))
def S82J8 (name1 : ByteArray) (R : ByteArray → World → Prop) (s4 : Bool) (vw5 : World) : Prop :=
  Br s4 (R (⟨#[110]⟩ : ByteArray) vw5) (Join (S82J7 name1 R) fun (vJ26 : Bool → World → Prop) =>
      Br (name1.toList == (⟨#[100, 48]⟩ : ByteArray).toList) (vJ26 (name1.toList == (⟨#[100, 48]⟩ : ByteArray).toList) vw5) (Br (name1.toList == (⟨#[108]⟩ : ByteArray).toList) (vJ26 (name1.toList == (⟨#[108]⟩ : ByteArray).toList) vw5) (Br (name1.toList == (⟨#[109]⟩ : ByteArray).toList) (vJ26 (name1.toList == (⟨#[109]⟩ : ByteArray).toList) vw5) (Br (name1.toList == (⟨#[84, 100]⟩ : ByteArray).toList) (vJ26 (name1.toList == (⟨#[84, 100]⟩ : ByteArray).toList) vw5) (vJ26 (name1.toList == (⟨#[84, 68]⟩ : ByteArray).toList) vw5)))))
def S82J9 (name1 : ByteArray) (R : ByteArray → World → Prop) (s2 : Bool) (vw3 : World) : Prop :=
  Br s2 (R (⟨#[]⟩ : ByteArray) vw3) (Join (S82J8 name1 R) fun (vJ27 : Bool → World → Prop) =>
      Br (name1.toList == (⟨#[103]⟩ : ByteArray).toList) (vJ27 (name1.toList == (⟨#[103]⟩ : ByteArray).toList) vw3) (Br (name1.toList == (⟨#[71]⟩ : ByteArray).toList) (vJ27 (name1.toList == (⟨#[71]⟩ : ByteArray).toList) vw3) (Br (name1.toList == (⟨#[105]⟩ : ByteArray).toList) (vJ27 (name1.toList == (⟨#[105]⟩ : ByteArray).toList) vw3) (Br (name1.toList == (⟨#[106]⟩ : ByteArray).toList) (vJ27 (name1.toList == (⟨#[106]⟩ : ByteArray).toList) vw3) (Br (name1.toList == (⟨#[74]⟩ : ByteArray).toList) (vJ27 (name1.toList == (⟨#[74]⟩ : ByteArray).toList) vw3) (Br (name1.toList == (⟨#[77]⟩ : ByteArray).toList) (vJ27 (name1.toList == (⟨#[77]⟩ : ByteArray).toList) vw3) (Br (name1.toList == (⟨#[119]⟩ : ByteArray).toList) (vJ27 (name1.toList == (⟨#[119]⟩ : ByteArray).toList) vw3) (Br (name1.toList == (⟨#[84, 99]⟩ : ByteArray).toList) (vJ27 (name1.toList == (⟨#[84, 99]⟩ : ByteArray).toList) vw3) (Br (name1.toList == (⟨#[84, 76]⟩ : ByteArray).toList) (vJ27 (name1.toList == (⟨#[84, 76]⟩ : ByteArray).toList) vw3) (Br (name1.toList == (⟨#[84, 114]⟩ : ByteArray).toList) (vJ27 (name1.toList == (⟨#[84, 114]⟩ : ByteArray).toList) vw3) (Br (name1.toList == (⟨#[84, 115]⟩ : ByteArray).toList) (vJ27 (name1.toList == (⟨#[84, 115]⟩ : ByteArray).toList) vw3) (Br (name1.toList == (⟨#[84, 119]⟩ : ByteArray).toList) (vJ27 (name1.toList == (⟨#[84, 119]⟩ : ByteArray).toList) vw3) (vJ27 (name1.toList == (⟨#[84, 122]⟩ : ByteArray).toList) vw3)))))))))))))
/-- foliant/foliantref43.Takes -/
def S82 (name1 : ByteArray) (w : World) (R : ByteArray → World → Prop) : Prop :=
  Join (S82J9 name1 R) fun (vJ28 : Bool → World → Prop) =>
    Br (name1.toList == (⟨#[98]⟩ : ByteArray).toList) (vJ28 (name1.toList == (⟨#[98]⟩ : ByteArray).toList) w) (Br (name1.toList == (⟨#[66]⟩ : ByteArray).toList) (vJ28 (name1.toList == (⟨#[66]⟩ : ByteArray).toList) w) (Br (name1.toList == (⟨#[98, 42]⟩ : ByteArray).toList) (vJ28 (name1.toList == (⟨#[98, 42]⟩ : ByteArray).toList) w) (Br (name1.toList == (⟨#[66, 42]⟩ : ByteArray).toList) (vJ28 (name1.toList == (⟨#[66, 42]⟩ : ByteArray).toList) w) (Br (name1.toList == (⟨#[66, 84]⟩ : ByteArray).toList) (vJ28 (name1.toList == (⟨#[66, 84]⟩ : ByteArray).toList) w) (Br (name1.toList == (⟨#[69, 84]⟩ : ByteArray).toList) (vJ28 (name1.toList == (⟨#[69, 84]⟩ : ByteArray).toList) w) (Br (name1.toList == (⟨#[69, 77, 67]⟩ : ByteArray).toList) (vJ28 (name1.toList == (⟨#[69, 77, 67]⟩ : ByteArray).toList) w) (Br (name1.toList == (⟨#[66, 88]⟩ : ByteArray).toList) (vJ28 (name1.toList == (⟨#[66, 88]⟩ : ByteArray).toList) w) (Br (name1.toList == (⟨#[69, 88]⟩ : ByteArray).toList) (vJ28 (name1.toList == (⟨#[69, 88]⟩ : ByteArray).toList) w) (Br (name1.toList == (⟨#[102]⟩ : ByteArray).toList) (vJ28 (name1.toList == (⟨#[102]⟩ : ByteArray).toList) w) (Br (name1.toList == (⟨#[70]⟩ : ByteArray).toList) (vJ28 (name1.toList == (⟨#[70]⟩ : ByteArray).toList) w) (Br (name1.toList == (⟨#[102, 42]⟩ : ByteArray).toList) (vJ28 (name1.toList == (⟨#[102, 42]⟩ : ByteArray).toList) w) (Br (name1.toList == (⟨#[104]⟩ : ByteArray).toList) (vJ28 (name1.toList == (⟨#[104]⟩ : ByteArray).toList) w) (Br (name1.toList == (⟨#[110]⟩ : ByteArray).toList) (vJ28 (name1.toList == (⟨#[110]⟩ : ByteArray).toList) w) (Br (name1.toList == (⟨#[113]⟩ : ByteArray).toList) (vJ28 (name1.toList == (⟨#[113]⟩ : ByteArray).toList) w) (Br (name1.toList == (⟨#[81]⟩ : ByteArray).toList) (vJ28 (name1.toList == (⟨#[81]⟩ : ByteArray).toList) w) (Br (name1.toList == (⟨#[115]⟩ : ByteArray).toList) (vJ28 (name1.toList == (⟨#[115]⟩ : ByteArray).toList) w) (Br (name1.toList == (⟨#[83]⟩ : ByteArray).toList) (vJ28 (name1.toList == (⟨#[83]⟩ : ByteArray).toList) w) (Br (name1.toList == (⟨#[84, 42]⟩ : ByteArray).toList) (vJ28 (name1.toList == (⟨#[84, 42]⟩ : ByteArray).toList) w) (Br (name1.toList == (⟨#[87]⟩ : ByteArray).toList) (vJ28 (name1.toList == (⟨#[87]⟩ : ByteArray).toList) w) (vJ28 (name1.toList == (⟨#[87, 42]⟩ : ByteArray).toList) w))))))))))))))))))))
def pl82 : Plan := (.seq (.reg .seq) (.seq (.seq (.reg .seq) (.block (.join [(4, (.one .bool))] [3] (.seq (.reg .seq) (.cond .leaf (.seq (.reg .seq) (.cond .leaf (.seq (.reg .seq) (.cond .leaf (.seq (.reg .seq) (.cond .leaf (.seq (.reg .seq) (.cond .leaf (.seq (.reg .seq) (.cond .leaf (.seq (.reg .seq) (.cond .leaf (.seq (.reg .seq) (.cond .leaf (.seq (.reg .seq) (.cond .leaf (.seq (.reg .seq) (.cond .leaf (.seq (.reg .seq) (.cond .leaf (.seq (.reg .seq) (.cond .leaf (.seq (.reg .seq) (.cond .leaf (.seq (.reg .seq) (.cond .leaf (.seq (.reg .seq) (.cond .leaf (.seq (.reg .seq) (.cond .leaf (.seq (.reg .seq) (.cond .leaf (.seq (.reg .seq) (.cond .leaf (.seq (.reg .seq) (.cond .leaf (.seq (.reg .seq) (.cond .leaf (.reg .seq))))))))))))))))))))))))))))))))))))))))) (.cond (.seq (.reg .seq) .leaf) (.join [(26, (.one .bool))] [3] (.seq (.reg .seq) (.cond .leaf (.seq (.reg .seq) (.cond .leaf (.seq (.reg .seq) (.cond .leaf (.seq (.reg .seq) (.cond .leaf (.seq (.reg .seq) (.cond .leaf (.seq (.reg .seq) (.cond .leaf (.seq (.reg .seq) (.cond .leaf (.seq (.reg .seq) (.cond .leaf (.seq (.reg .seq) (.cond .leaf (.seq (.reg .seq) (.cond .leaf (.seq (.reg .seq) (.cond .leaf (.seq (.reg .seq) (.cond .leaf (.reg .seq))))))))))))))))))))))))) (.cond (.seq (.reg .seq) .leaf) (.join [(40, (.one .bool))] [3] (.seq (.reg .seq) (.cond .leaf (.seq (.reg .seq) (.cond .leaf (.seq (.reg .seq) (.cond .leaf (.seq (.reg .seq) (.cond .leaf (.reg .seq))))))))) (.cond (.seq (.reg .seq) .leaf) (.join [(46, (.one .bool))] [3] (.seq (.reg .seq) (.cond .leaf (.reg .seq))) (.cond (.seq (.reg .seq) .leaf) (.join [(49, (.one .bool))] [3] (.seq (.reg .seq) (.cond .leaf (.seq (.reg .seq) (.cond .leaf (.seq (.reg .seq) (.cond .leaf (.seq (.reg .seq) (.cond .leaf (.reg .seq))))))))) (.cond (.seq (.reg .seq) .leaf) (.join [(55, (.one .bool))] [3] (.seq (.reg .seq) (.cond .leaf (.seq (.reg .seq) (.cond .leaf (.seq (.reg .seq) (.cond .leaf (.reg .seq))))))) (.cond (.seq (.reg .seq) .leaf) (.join [(60, (.one .bool))] [3] (.seq (.reg .seq) (.cond .leaf (.seq (.reg .seq) (.cond .leaf (.seq (.reg .seq) (.cond .leaf (.seq (.reg .seq) (.cond .leaf (.seq (.reg .seq) (.cond .leaf (.seq (.reg .seq) (.cond .leaf (.seq (.reg .seq) (.cond .leaf (.reg .seq))))))))))))))) (.cond (.seq (.reg .seq) .leaf) (.seq (.reg .seq) (.cond (.seq (.reg .seq) .leaf) (.join [(71, (.one .bool))] [3] (.seq (.reg .seq) (.cond .leaf (.reg .seq))) (.cond (.seq (.reg .seq) .leaf) (.join [(74, (.one .bool))] [3] (.seq (.reg .seq) (.cond .leaf (.reg .seq))) (.cond (.seq (.reg .seq) .leaf) (.seq (.reg .seq) (.cond (.seq (.reg .seq) .leaf) (.seq (.reg .seq) (.cond (.seq (.reg .seq) .leaf) (.seq (.reg .seq) (.cond (.seq (.reg .seq) .leaf) (.seq (.reg .seq) (.cond (.seq (.reg .seq) .leaf) .leaf)))))))))))))))))))))))))))))) (.seq (.reg .seq) .leaf)))
set_option maxRecDepth 100000 in
theorem T82 (name1 : ByteArray) (w : World) (R : ByteArray → World → Prop) (h : S82 name1 w R) : C82 name1 w R := by
  have e : fnT Tryz.prog ⟨FF, MAY, (fun _ _ => False)⟩ pl82 Tryz.f82 [.string name1] w [(.one .str)] (fun s w => R s w) = S82 name1 w R := by kernel_rfl
  exact (fn_calls okF okM Tryz.func82 (by kernel_rfl) (by kernel_rfl) (e.mpr h)).mono fun _ _ ⟨s, he, hR⟩ => ⟨s, he, hR⟩

/-- foliant/foliantref43.fits -/
def S83 (o1 : Int × Int × Int × ByteArray × Slc × Slc) (c2 : Int) (w : World) (R : Bool → World → Prop) : Prop :=
  Nw w (.cells #[.int .i64 (o1.1), .int .i64 (o1.2.1), .int .i64 (o1.2.2.1), .string o1.2.2.2.1, Slc.v o1.2.2.2.2.1, Slc.v o1.2.2.2.2.2] 61) fun vw3 =>
  Br (c2 == 110) (Ld vw3 (⟨w.heap.size, 0, none⟩ : Addr) (Value.int .i64) fun (x4 : Int) =>
    Br (x4 == 2) (R true vw3) (Ld vw3 (⟨w.heap.size, 0, none⟩ : Addr) (Value.int .i64) fun (x5 : Int) =>
      R (x5 == 3) vw3)) (Br (c2 == 115) (Ld vw3 (⟨w.heap.size, 0, none⟩ : Addr) (Value.int .i64) fun (x6 : Int) =>
      R (x6 == 4) vw3) (Br (c2 == 78) (Ld vw3 (⟨w.heap.size, 0, none⟩ : Addr) (Value.int .i64) fun (x7 : Int) =>
        R (x7 == 5) vw3) (Br (c2 == 97) (Ld vw3 (⟨w.heap.size, 0, none⟩ : Addr) (Value.int .i64) fun (x8 : Int) =>
          R (x8 == 6) vw3) (Br (c2 == 100) (Ld vw3 (⟨w.heap.size, 0, none⟩ : Addr) (Value.int .i64) fun (x9 : Int) =>
            R (x9 == 7) vw3) (R true vw3)))))
def pl83 : Plan := (.seq (.reg .seq) (.seq (.seq (.reg .seq) (.block (.seq (.reg .seq) (.cond (.seq (.reg .seq) .leaf) (.seq (.reg .seq) (.cond (.seq (.reg .seq) .leaf) (.seq (.reg .seq) (.cond (.seq (.reg .seq) .leaf) (.seq (.reg .seq) (.cond (.seq (.reg .seq) .leaf) (.seq (.reg .seq) (.cond (.seq (.reg .seq) .leaf) .leaf)))))))))))) (.seq (.reg .seq) .leaf)))
set_option maxRecDepth 100000 in
theorem T83 (o1 : Int × Int × Int × ByteArray × Slc × Slc) (c2 : Int) (w : World) (R : Bool → World → Prop) (h : S83 o1 c2 w R) : C83 (o1.1, o1.2.1, o1.2.2.1, o1.2.2.2.1, o1.2.2.2.2.1, o1.2.2.2.2.2) c2 w R := by
  have e : fnT Tryz.prog ⟨FF, MAY, (fun _ _ => False)⟩ pl83 Tryz.f83 [.agg #[.int .i64 (o1.1), .int .i64 (o1.2.1), .int .i64 (o1.2.2.1), .string o1.2.2.2.1, Slc.v o1.2.2.2.2.1, Slc.v o1.2.2.2.2.2], .int .u8 c2] w [(.one .bool)] (fun s w => R s w) = S83 o1 c2 w R := by kernel_rfl
  exact (fn_calls okF okM Tryz.func83 (by kernel_rfl) (by kernel_rfl) (e.mpr h)).mono fun _ _ ⟨s, he, hR⟩ => ⟨s, he, hR⟩

def S46L1 (w : World) (r4 : ByteArray) (R : Int → World → Prop) (I23 : Int → World → Prop) (s21 : Int) (vw22 : World) : Prop :=
  Br (decide (s21 < (((r4).size : Nat) : Int))) (Ld vw22.drew ((⟨w.heap.size, 0, none⟩ : Addr).add 1) Slc.v fun (x24 : Slc) =>
    0 ≤ s21 ∧ s21 < (x24.len : Nat) ∧ Nn x24.p fun a25 =>
    Ld vw22.drew (a25.add ((s21).toNat * 6)) (Value.int .i64) fun (x26 : Int) =>
    Ld vw22.drew ((a25.add ((s21).toNat * 6)).add 1) (Value.int .i64) fun (x27 : Int) =>
    Ld vw22.drew ((a25.add ((s21).toNat * 6)).add 2) (Value.int .i64) fun (x28 : Int) =>
    Ld vw22.drew ((a25.add ((s21).toNat * 6)).add 3) Value.string fun (x29 : ByteArray) =>
    Ld vw22.drew ((a25.add ((s21).toNat * 6)).add 4) Slc.v fun (x30 : Slc) =>
    Ld vw22.drew ((a25.add ((s21).toNat * 6)).add 5) Slc.v fun (x31 : Slc) =>
    0 ≤ s21 ∧ s21 < ((r4).size : Nat) ∧ C83 (x26, x27, x28, x29, x30, x31) (bAt r4 s21) vw22.drew fun r32 vw33 =>
      Br (!r32) (R 28 vw33) (I23 (IntKind.i64.wrap (s21 + 1)) vw33)) (Ld vw22 ((⟨w.heap.size, 0, none⟩ : Addr).add 2) Value.string fun (x34 : ByteArray) =>
    Br (!(x34.toList == (⟨#[]⟩ : ByteArray).toList)) (Ld vw22 (⟨w.heap.size, 0, none⟩ : Addr) Value.string fun (x35 : ByteArray) =>
      Br (!(x35.toList == (⟨#[66, 73]⟩ : ByteArray).toList)) (R 3 vw22) (R 0 vw22)) (R 0 vw22))
/-- foliant/foliantref43.Check -/
def S46 (o1 : ByteArray × Slc × ByteArray) (w : World) (R : Int → World → Prop) : Prop :=
  Nw w (.cells #[.string o1.1, Slc.v o1.2.1, .string o1.2.2] 48) fun vw2 =>
  Ld vw2 (⟨w.heap.size, 0, none⟩ : Addr) Value.string fun (x3 : ByteArray) =>
  C82 x3 vw2 fun r4 vw5 =>
    Br (r4.toList == (⟨#[63]⟩ : ByteArray).toList) (R 28 vw5) (Ld vw5 ((⟨w.heap.size, 0, none⟩ : Addr).add 1) Slc.v fun (x7 : Slc) =>
      Br ((((r4).size : Nat) : Int) != ((x7.len : Nat) : Int)) (R 28 vw5) (Lp (σ := Int) (S46L1 w r4 R) 0 vw5))
def pl46 : Plan := (.seq (.reg .seq) (.seq (.reg .seq) (.seq (.seq (.reg .seq) (.cond (.seq (.reg .seq) .leaf) .leaf)) (.seq (.seq (.reg .seq) (.block (.loop [(4, (.one (.int .i64)))] [1, 3] (.seq (.seq (.reg .seq) (.cond .leaf .leaf)) (.seq (.block (.seq (.reg (.tail 8)) (.cond (.seq (.reg .seq) .leaf) .leaf))) (.reg .seq)))))) (.seq (.seq (.reg .seq) (.cond (.seq (.reg .seq) .leaf) .leaf)) (.seq (.reg .seq) .leaf))))))
set_option maxRecDepth 100000 in
theorem T46 (o1 : ByteArray × Slc × ByteArray) (w : World) (R : Int → World → Prop) (h : S46 o1 w R) : C46 (o1.1, o1.2.1, o1.2.2) w R := by
  have e : fnT Tryz.prog ⟨FF, MAY, (fun _ _ => False)⟩ pl46 Tryz.f46 [.agg #[.string o1.1, Slc.v o1.2.1, .string o1.2.2]] w [(.one (.int .i64))] (fun s w => R s w) = S46 o1 w R := by kernel_rfl
  exact (fn_calls okF okM Tryz.func46 (by kernel_rfl) (by kernel_rfl) (e.mpr h)).mono fun _ _ ⟨s, he, hR⟩ => ⟨s, he, hR⟩

end Go.Proofs.YtcblpehnkogfdaaGreatDoor
