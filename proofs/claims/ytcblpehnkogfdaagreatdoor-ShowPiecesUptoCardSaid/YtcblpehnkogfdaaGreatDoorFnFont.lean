/- The formulas of 24 functions of the program, written by program (gen.py); the kernel checks each. No condition. -/
import Derived.Test.YtcblpehnkogfdaaGreatDoorFn
import Derived.Test.YtcblpehnkogfdaaGreatDoorFnFix
import Derived.Test.YtcblpehnkogfdaaGreatDoorFnMat
namespace Go.Proofs.YtcblpehnkogfdaaGreatDoor
open Sh
set_option linter.unusedVariables false
set_option maxRecDepth 100000

def C124 (s1 : ByteArray) (c2 : Int) (w : World) (R : Int → World → Prop) : Prop :=
  Calls Tryz.prog 124 #[.string s1, .int .u8 c2] w fun e w' => ∃ r0 : Int, e = .returned (.int .i64 r0) ∧ R r0 w'
theorem C124.mono {s1 : ByteArray} {c2 : Int} {w : World} {R R' : Int → World → Prop} (h : C124 s1 c2 w R) (hr : ∀ r0 w', R r0 w' → R' r0 w') : C124 s1 c2 w R' :=
  Calls.mono h fun _ _ ⟨r0, he, hR⟩ => ⟨r0, he, hr _ _ hR⟩
def C95 (s1 : ByteArray) (least2 : Int) (w : World) (R : Bool → World → Prop) : Prop :=
  Calls Tryz.prog 95 #[.string s1, .int .i64 least2] w fun e w' => ∃ r0 : Bool, e = .returned (.bool r0) ∧ R r0 w'
theorem C95.mono {s1 : ByteArray} {least2 : Int} {w : World} {R R' : Bool → World → Prop} (h : C95 s1 least2 w R) (hr : ∀ r0 w', R r0 w' → R' r0 w') : C95 s1 least2 w R' :=
  Calls.mono h fun _ _ ⟨r0, he, hR⟩ => ⟨r0, he, hr _ _ hR⟩
def C96 (wide1 : Bool) (w : World) (R : Int → World → Prop) : Prop :=
  Calls Tryz.prog 96 #[.bool wide1] w fun e w' => ∃ r0 : Int, e = .returned (.int .i64 r0) ∧ R r0 w'
theorem C96.mono {wide1 : Bool} {w : World} {R R' : Int → World → Prop} (h : C96 wide1 w R) (hr : ∀ r0 w', R r0 w' → R' r0 w') : C96 wide1 w R' :=
  Calls.mono h fun _ _ ⟨r0, he, hR⟩ => ⟨r0, he, hr _ _ hR⟩
def C97 (n1 : Int) (most2 : Int) (w : World) (R : Bool → World → Prop) : Prop :=
  Calls Tryz.prog 97 #[.int .i64 n1, .int .i64 most2] w fun e w' => ∃ r0 : Bool, e = .returned (.bool r0) ∧ R r0 w'
theorem C97.mono {n1 : Int} {most2 : Int} {w : World} {R R' : Bool → World → Prop} (h : C97 n1 most2 w R) (hr : ∀ r0 w', R r0 w' → R' r0 w') : C97 n1 most2 w R' :=
  Calls.mono h fun _ _ ⟨r0, he, hR⟩ => ⟨r0, he, hr _ _ hR⟩
def C59 (f1 : TyA34) (w : World) (R : Bool → World → Prop) : Prop :=
  Calls Tryz.prog 59 #[.agg (Sig.cells LiA34 f1).toArray] w fun e w' => ∃ r0 : Bool, e = .returned (.bool r0) ∧ R r0 w'
theorem C59.mono {f1 : TyA34} {w : World} {R R' : Bool → World → Prop} (h : C59 f1 w R) (hr : ∀ r0 w', R r0 w' → R' r0 w') : C59 f1 w R' :=
  Calls.mono h fun _ _ ⟨r0, he, hR⟩ => ⟨r0, he, hr _ _ hR⟩
def C98 (s1 : ByteArray) (w : World) (R : Bool → World → Prop) : Prop :=
  Calls Tryz.prog 98 #[.string s1] w fun e w' => ∃ r0 : Bool, e = .returned (.bool r0) ∧ R r0 w'
theorem C98.mono {s1 : ByteArray} {w : World} {R R' : Bool → World → Prop} (h : C98 s1 w R) (hr : ∀ r0 w', R r0 w' → R' r0 w') : C98 s1 w R' :=
  Calls.mono h fun _ _ ⟨r0, he, hR⟩ => ⟨r0, he, hr _ _ hR⟩
def C99 (s1 : ByteArray) (w : World) (R : ByteArray → World → Prop) : Prop :=
  Calls Tryz.prog 99 #[.string s1] w fun e w' => ∃ r0 : ByteArray, e = .returned (.string r0) ∧ R r0 w'
theorem C99.mono {s1 : ByteArray} {w : World} {R R' : ByteArray → World → Prop} (h : C99 s1 w R) (hr : ∀ r0 w', R r0 w' → R' r0 w') : C99 s1 w R' :=
  Calls.mono h fun _ _ ⟨r0, he, hR⟩ => ⟨r0, he, hr _ _ hR⟩
def C60 (l1 : Slc) (wide2 : Bool) (w : World) (R : Int → World → Prop) : Prop :=
  Calls Tryz.prog 60 #[Slc.v l1, .bool wide2] w fun e w' => ∃ r0 : Int, e = .returned (.int .i64 r0) ∧ R r0 w'
theorem C60.mono {l1 : Slc} {wide2 : Bool} {w : World} {R R' : Int → World → Prop} (h : C60 l1 wide2 w R) (hr : ∀ r0 w', R r0 w' → R' r0 w') : C60 l1 wide2 w R' :=
  Calls.mono h fun _ _ ⟨r0, he, hR⟩ => ⟨r0, he, hr _ _ hR⟩
def C33 (f1 : TyA34) (w : World) (R : Int → World → Prop) : Prop :=
  Calls Tryz.prog 33 #[.agg (Sig.cells LiA34 f1).toArray] w fun e w' => ∃ r0 : Int, e = .returned (.int .i64 r0) ∧ R r0 w'
theorem C33.mono {f1 : TyA34} {w : World} {R R' : Int → World → Prop} (h : C33 f1 w R) (hr : ∀ r0 w', R r0 w' → R' r0 w') : C33 f1 w R' :=
  Calls.mono h fun _ _ ⟨r0, he, hR⟩ => ⟨r0, he, hr _ _ hR⟩
def C65 (f1 : TyA34) (code2 : Int) (w : World) (R : Int → World → Prop) : Prop :=
  Calls Tryz.prog 65 #[.agg (Sig.cells LiA34 f1).toArray, .int .i64 code2] w fun e w' => ∃ r0 : Int, e = .returned (.int .i64 r0) ∧ R r0 w'
theorem C65.mono {f1 : TyA34} {code2 : Int} {w : World} {R R' : Int → World → Prop} (h : C65 f1 code2 w R) (hr : ∀ r0 w', R r0 w' → R' r0 w') : C65 f1 code2 w R' :=
  Calls.mono h fun _ _ ⟨r0, he, hR⟩ => ⟨r0, he, hr _ _ hR⟩
def C91 (f1 : TyA34) (s2 : ByteArray) (w : World) (R : Slc → Int → World → Prop) : Prop :=
  Calls Tryz.prog 91 #[.agg (Sig.cells LiA34 f1).toArray, .string s2] w fun e w' => ∃ r0 : Slc, ∃ r1 : Int, e = .returned (.tuple #[Slc.v r0, .int .i64 r1]) ∧ R r0 r1 w'
theorem C91.mono {f1 : TyA34} {s2 : ByteArray} {w : World} {R R' : Slc → Int → World → Prop} (h : C91 f1 s2 w R) (hr : ∀ r0 r1 w', R r0 r1 w' → R' r0 r1 w') : C91 f1 s2 w R' :=
  Calls.mono h fun _ _ ⟨r0, r1, he, hR⟩ => ⟨r0, r1, he, hr _ _ _ hR⟩
def C152 (x1 : Int × ByteArray) (c2 : Addr) (w : World) (R : Bool → World → Prop) : Prop :=
  Calls Tryz.prog 152 #[.agg #[.int .i64 (x1.1), .string x1.2], .pointer (some c2)] w fun e w' => ∃ r0 : Bool, e = .returned (.bool r0) ∧ R r0 w'
theorem C152.mono {x1 : Int × ByteArray} {c2 : Addr} {w : World} {R R' : Bool → World → Prop} (h : C152 x1 c2 w R) (hr : ∀ r0 w', R r0 w' → R' r0 w') : C152 x1 c2 w R' :=
  Calls.mono h fun _ _ ⟨r0, he, hR⟩ => ⟨r0, he, hr _ _ hR⟩
def C151 (s1 : Slc) (f2 : Value) (w : World) (R : Int → World → Prop) : Prop :=
  Calls Tryz.prog 151 #[Slc.v s1, f2] w fun e w' => ∃ r0 : Int, e = .returned (.int .i64 r0) ∧ R r0 w'
theorem C151.mono {s1 : Slc} {f2 : Value} {w : World} {R R' : Int → World → Prop} (h : C151 s1 f2 w R) (hr : ∀ r0 w', R r0 w' → R' r0 w') : C151 s1 f2 w R' :=
  Calls.mono h fun _ _ ⟨r0, he, hR⟩ => ⟨r0, he, hr _ _ hR⟩
def C139 (l1 : Slc) (code2 : Int) (w : World) (R : ByteArray → Bool → World → Prop) : Prop :=
  Calls Tryz.prog 139 #[Slc.v l1, .int .i64 code2] w fun e w' => ∃ r0 : ByteArray, ∃ r1 : Bool, e = .returned (.tuple #[.string r0, .bool r1]) ∧ R r0 r1 w'
theorem C139.mono {l1 : Slc} {code2 : Int} {w : World} {R R' : ByteArray → Bool → World → Prop} (h : C139 l1 code2 w R) (hr : ∀ r0 r1 w', R r0 r1 w' → R' r0 r1 w') : C139 l1 code2 w R' :=
  Calls.mono h fun _ _ ⟨r0, r1, he, hR⟩ => ⟨r0, r1, he, hr _ _ _ hR⟩
def C113 (s1 : ByteArray) (w : World) (R : Slc → World → Prop) : Prop :=
  Calls Tryz.prog 113 #[.string s1] w fun e w' => ∃ r0 : Slc, e = .returned (Slc.v r0) ∧ R r0 w'
theorem C113.mono {s1 : ByteArray} {w : World} {R R' : Slc → World → Prop} (h : C113 s1 w R) (hr : ∀ r0 w', R r0 w' → R' r0 w') : C113 s1 w R' :=
  Calls.mono h fun _ _ ⟨r0, he, hR⟩ => ⟨r0, he, hr _ _ hR⟩
def C153 (vat1 : Int) (names2 : ByteArray) (c3 : Addr) (w : World) (R : World → Prop) : Prop :=
  Calls Tryz.prog 153 #[.int .i64 vat1, .string names2, .pointer (some c3)] w fun e w' => e = .returned (.tuple #[]) ∧ R w'
theorem C153.mono {vat1 : Int} {names2 : ByteArray} {c3 : Addr} {w : World} {R R' : World → Prop} (h : C153 vat1 names2 c3 w R) (hr : ∀ w', R w' → R' w') : C153 vat1 names2 c3 w R' :=
  Calls.mono h fun _ _ ⟨he, hR⟩ => ⟨he, hr _ hR⟩
def C140 (w : World) (R : Slc → World → Prop) : Prop :=
  Calls Tryz.prog 140 #[] w fun e w' => ∃ r0 : Slc, e = .returned (Slc.v r0) ∧ R r0 w'
theorem C140.mono {w : World} {R R' : Slc → World → Prop} (h : C140 w R) (hr : ∀ r0 w', R r0 w' → R' r0 w') : C140 w R' :=
  Calls.mono h fun _ _ ⟨r0, he, hR⟩ => ⟨r0, he, hr _ _ hR⟩
def C162 (s1 : ByteArray) (vprefix2 : ByteArray) (w : World) (R : Bool → World → Prop) : Prop :=
  Calls Tryz.prog 162 #[.string s1, .string vprefix2] w fun e w' => ∃ r0 : Bool, e = .returned (.bool r0) ∧ R r0 w'
theorem C162.mono {s1 : ByteArray} {vprefix2 : ByteArray} {w : World} {R R' : Bool → World → Prop} (h : C162 s1 vprefix2 w R) (hr : ∀ r0 w', R r0 w' → R' r0 w') : C162 s1 vprefix2 w R' :=
  Calls.mono h fun _ _ ⟨r0, he, hR⟩ => ⟨r0, he, hr _ _ hR⟩
def C161 (s1 : ByteArray) (vprefix2 : ByteArray) (w : World) (R : ByteArray → Bool → World → Prop) : Prop :=
  Calls Tryz.prog 161 #[.string s1, .string vprefix2] w fun e w' => ∃ r0 : ByteArray, ∃ r1 : Bool, e = .returned (.tuple #[.string r0, .bool r1]) ∧ R r0 r1 w'
theorem C161.mono {s1 : ByteArray} {vprefix2 : ByteArray} {w : World} {R R' : ByteArray → Bool → World → Prop} (h : C161 s1 vprefix2 w R) (hr : ∀ r0 r1 w', R r0 r1 w' → R' r0 r1 w') : C161 s1 vprefix2 w R' :=
  Calls.mono h fun _ _ ⟨r0, r1, he, hR⟩ => ⟨r0, r1, he, hr _ _ _ hR⟩
def C159 (s1 : ByteArray) (vprefix2 : ByteArray) (w : World) (R : ByteArray → Bool → World → Prop) : Prop :=
  Calls Tryz.prog 159 #[.string s1, .string vprefix2] w fun e w' => ∃ r0 : ByteArray, ∃ r1 : Bool, e = .returned (.tuple #[.string r0, .bool r1]) ∧ R r0 r1 w'
theorem C159.mono {s1 : ByteArray} {vprefix2 : ByteArray} {w : World} {R R' : ByteArray → Bool → World → Prop} (h : C159 s1 vprefix2 w R) (hr : ∀ r0 r1 w', R r0 r1 w' → R' r0 r1 w') : C159 s1 vprefix2 w R' :=
  Calls.mono h fun _ _ ⟨r0, r1, he, hR⟩ => ⟨r0, r1, he, hr _ _ _ hR⟩
def C160 (c1 : Int) (w : World) (R : Int → World → Prop) : Prop :=
  Calls Tryz.prog 160 #[.int .u8 c1] w fun e w' => ∃ r0 : Int, e = .returned (.int .i64 r0) ∧ R r0 w'
theorem C160.mono {c1 : Int} {w : World} {R R' : Int → World → Prop} (h : C160 c1 w R) (hr : ∀ r0 w', R r0 w' → R' r0 w') : C160 c1 w R' :=
  Calls.mono h fun _ _ ⟨r0, he, hR⟩ => ⟨r0, he, hr _ _ hR⟩
def C154 (name1 : ByteArray) (w : World) (R : ByteArray → World → Prop) : Prop :=
  Calls Tryz.prog 154 #[.string name1] w fun e w' => ∃ r0 : ByteArray, e = .returned (.string r0) ∧ R r0 w'
theorem C154.mono {name1 : ByteArray} {w : World} {R R' : ByteArray → World → Prop} (h : C154 name1 w R) (hr : ∀ r0 w', R r0 w' → R' r0 w') : C154 name1 w R' :=
  Calls.mono h fun _ _ ⟨r0, he, hR⟩ => ⟨r0, he, hr _ _ hR⟩
def C141 (name1 : ByteArray) (w : World) (R : ByteArray → World → Prop) : Prop :=
  Calls Tryz.prog 141 #[.string name1] w fun e w' => ∃ r0 : ByteArray, e = .returned (.string r0) ∧ R r0 w'
theorem C141.mono {name1 : ByteArray} {w : World} {R R' : ByteArray → World → Prop} (h : C141 name1 w R) (hr : ∀ r0 w', R r0 w' → R' r0 w') : C141 name1 w R' :=
  Calls.mono h fun _ _ ⟨r0, he, hR⟩ => ⟨r0, he, hr _ _ hR⟩
def C120 (f1 : TyA34) (code2 : Int) (w : World) (R : ByteArray → World → Prop) : Prop :=
  Calls Tryz.prog 120 #[.agg (Sig.cells LiA34 f1).toArray, .int .i64 code2] w fun e w' => ∃ r0 : ByteArray, e = .returned (.string r0) ∧ R r0 w'
theorem C120.mono {f1 : TyA34} {code2 : Int} {w : World} {R R' : ByteArray → World → Prop} (h : C120 f1 code2 w R) (hr : ∀ r0 w', R r0 w' → R' r0 w') : C120 f1 code2 w R' :=
  Calls.mono h fun _ _ ⟨r0, he, hR⟩ => ⟨r0, he, hr _ _ hR⟩



/-- foliant/font.named -/
def S95 (s1 : ByteArray) (least2 : Int) (w : World) (R : Bool → World → Prop) : Prop :=
  Br (decide ((((s1).size : Nat) : Int) ≥ least2)) (Br (decide ((((s1).size : Nat) : Int) ≤ 127)) (C124 s1 0 w fun r3 vw4 =>
        R (decide (r3 < 0)) vw4) (R false w)) (R false w)
def pl95 : Plan := (.seq (.reg .seq) (.seq (.reg .seq) .leaf))
set_option maxRecDepth 100000 in
theorem T95 (s1 : ByteArray) (least2 : Int) (w : World) (R : Bool → World → Prop) (h : S95 s1 least2 w R) : C95 s1 least2 w R := by
  have e : fnT Tryz.prog ⟨FF, MAY, (fun _ _ => False)⟩ pl95 Tryz.f95 [.string s1, .int .i64 least2] w [(.one .bool)] (fun s w => R s w) = S95 s1 least2 w R := by kernel_rfl
  exact (fn_calls okF okM Tryz.func95 (by kernel_rfl) (by kernel_rfl) (e.mpr h)).mono fun _ _ ⟨s, he, hR⟩ => ⟨s, he, hR⟩

/-- foliant/font.codes -/
def S96 (wide1 : Bool) (w : World) (R : Int → World → Prop) : Prop :=
  Br wide1 (R 65536 w) (R 256 w)
def pl96 : Plan := (.seq (.reg .seq) (.seq (.seq (.reg .seq) (.cond (.seq (.reg .seq) .leaf) .leaf)) (.seq (.reg .seq) .leaf)))
set_option maxRecDepth 100000 in
theorem T96 (wide1 : Bool) (w : World) (R : Int → World → Prop) (h : S96 wide1 w R) : C96 wide1 w R := by
  have e : fnT Tryz.prog ⟨FF, MAY, (fun _ _ => False)⟩ pl96 Tryz.f96 [.bool wide1] w [(.one (.int .i64))] (fun s w => R s w) = S96 wide1 w R := by kernel_rfl
  exact (fn_calls okF okM Tryz.func96 (by kernel_rfl) (by kernel_rfl) (e.mpr h)).mono fun _ _ ⟨s, he, hR⟩ => ⟨s, he, hR⟩

/-- foliant/font.bounded[int64] -/
def S97 (n1 : Int) (most2 : Int) (w : World) (R : Bool → World → Prop) : Prop :=
  Br (decide (n1 ≥ 0)) (R (decide (n1 ≤ most2)) w) (R false w)
def pl97 : Plan := (.seq (.reg .seq) (.seq (.reg .seq) .leaf))
set_option maxRecDepth 100000 in
theorem T97 (n1 : Int) (most2 : Int) (w : World) (R : Bool → World → Prop) (h : S97 n1 most2 w R) : C97 n1 most2 w R := by
  have e : fnT Tryz.prog ⟨FF, MAY, (fun _ _ => False)⟩ pl97 Tryz.f97 [.int .i64 n1, .int .i64 most2] w [(.one .bool)] (fun s w => R s w) = S97 n1 most2 w R := by kernel_rfl
  exact (fn_calls okF okM Tryz.func97 (by kernel_rfl) (by kernel_rfl) (e.mpr h)).mono fun _ _ ⟨s, he, hR⟩ => ⟨s, he, hR⟩

def S59L1 (x51 : Slc) (R : Bool → World → Prop) (I54 : Int → World → Prop) (s52 : Int) (vw53 : World) : Prop :=
  Br (decide (s52 < ((x51.len : Nat) : Int))) (0 ≤ s52 ∧ s52 < (x51.len : Nat) ∧ Nn x51.p fun a55 =>
    Ld vw53 (a55.add ((s52).toNat * 1)) Value.string fun (x56 : ByteArray) =>
    C95 x56 0 vw53 fun r57 vw58 =>
      Br (!r57) (R false vw58) (I54 (IntKind.i64.wrap (s52 + 1)) vw58)) (R true vw53)
def S59J1 (w : World) (R : Bool → World → Prop) (s49 : Unit) (vw50 : World) : Prop :=
  Ld vw50 ((⟨w.heap.size, 0, none⟩ : Addr).add 5) Slc.v fun (x51 : Slc) =>
  Lp (σ := Int) (S59L1 x51 R) 0 vw50
def S59L2 (w : World) (x38 : Slc) (R : Bool → World → Prop) (I41 : Int → World → Prop) (s39 : Int) (vw40 : World) : Prop :=
  Br (decide (s39 < ((x38.len : Nat) : Int))) (0 ≤ s39 ∧ s39 < (x38.len : Nat) ∧ Nn x38.p fun a42 =>
    Ld vw40 (a42.add ((s39).toNat * 1)) (Value.int .i64) fun (x43 : Int) =>
    C97 x43 100000 vw40 fun r44 vw45 =>
      Br (!r44) (R false vw45) (I41 (IntKind.i64.wrap (s39 + 1)) vw45)) (Join (S59J1 w R) fun (vJ59 : Unit → World → Prop) =>
      Ld vw40 ((⟨w.heap.size, 0, none⟩ : Addr).add 5) Slc.v fun (x60 : Slc) =>
      Br (((x60.len : Nat) : Int) != 0) (Ld vw40 ((⟨w.heap.size, 0, none⟩ : Addr).add 1) Value.bool fun (x61 : Bool) =>
        Br x61 (R false vw40) (Ld vw40 ((⟨w.heap.size, 0, none⟩ : Addr).add 5) Slc.v fun (x62 : Slc) =>
          Br (((x62.len : Nat) : Int) != 256) (R false vw40) (vJ59 () vw40))) (vJ59 () vw40))
/-- foliant/font.may -/
def S59 (f1 : TyA34) (w : World) (R : Bool → World → Prop) : Prop :=
  Nw w (.cells (Sig.cells LiA34 f1).toArray 35) fun vw2 =>
  Ld vw2 ((⟨w.heap.size, 0, none⟩ : Addr).add 3) Slc.v fun (x3 : Slc) =>
  ∃ vS17 : World → Prop, vS17 vw2.drew ∧ LdS vS17 (⟨w.heap.size, 0, none⟩ : Addr) Value.string fun (x18 : ByteArray) =>
  C95 x18 1 vw2.drew fun r19 vw20 =>
    ∃ vS21 : World → Prop, vS21 vw20 ∧ Br (!r19) (R false vw20) (LdS vS21 ((⟨w.heap.size, 0, none⟩ : Addr).add 2) (Value.int .i64) fun (x22 : Int) =>
      Br (decide (x22 < 0)) (R false vw20) (Br (decide (((x3.len : Nat) : Int) > 4096)) (R false vw20) (LdS vS21 ((⟨w.heap.size, 0, none⟩ : Addr).add 2) (Value.int .i64) fun (x23 : Int) =>
          LdS vS21 ((⟨w.heap.size, 0, none⟩ : Addr).add 1) Value.bool fun (x24 : Bool) =>
          C96 x24 vw20 fun r25 vw26 =>
            vS21 vw26 ∧ Br (decide (x23 > (IntKind.i64.wrap (r25 - ((x3.len : Nat) : Int))))) (R false vw26) (LdS vS21 ((⟨w.heap.size, 0, none⟩ : Addr).add 4) (Value.int .i64) fun (x27 : Int) =>
              C97 x27 100000 vw26 fun r28 vw29 =>
                Br (!r28) (R false vw29) (Ld vw29 ((⟨w.heap.size, 0, none⟩ : Addr).add 3) Slc.v fun (x38 : Slc) =>
                  Lp (σ := Int) (S59L2 w x38 R) 0 vw29)))))
def pl59 : Plan := (.seq (.reg .seq) (.seq (.reg .seq) (.seq (.seq (.reg (.held [2] (.take 0 (.take 1 (.eff 2 (some [26]) (.take 3 (.take 4 (.take 5 (.take 6 (.take 7 (.take 8 (.take 9 (.take 10 (.take 11 (.take 12 (.take 13 (.take 14 (.take 15 (.take 16 (.take 17 (.take 19 (.eff 18 none (.take 20 (.take 21 (.take 22 (.take 23 (.take 24 (.take 25 (.eff 26 (some []) (.take 27 (.take 28 .done))))))))))))))))))))))))))))))) (.cond (.seq (.reg .seq) .leaf) .leaf)) (.seq (.seq (.reg .seq) (.block (.loop [(43, (.one (.int .i64)))] [1, 41, 42] (.seq (.reg .seq) (.seq (.cond .leaf .leaf) (.seq (.block (.seq (.reg .seq) (.seq (.reg .seq) (.cond (.seq (.reg .seq) .leaf) .leaf)))) (.reg .seq))))))) (.join [] [1] (.seq (.reg .seq) (.cond (.seq (.reg .seq) .leaf) .leaf)) (.seq (.seq (.reg .seq) (.block (.loop [(68, (.one (.int .i64)))] [66, 67] (.seq (.reg .seq) (.seq (.cond .leaf .leaf) (.seq (.block (.seq (.reg .seq) (.seq (.reg .seq) (.cond (.seq (.reg .seq) .leaf) .leaf)))) (.reg .seq))))))) (.seq (.reg .seq) .leaf)))))))
set_option maxRecDepth 100000 in
theorem T59 (f1 : TyA34) (w : World) (R : Bool → World → Prop) (h : S59 f1 w R) : C59 f1 w R := by
  have e : fnT Tryz.prog ⟨FF, MAY, (fun _ _ => False)⟩ pl59 Tryz.f59 [.agg (Sig.cells LiA34 f1).toArray] w [(.one .bool)] (fun s w => R s w) = S59 f1 w R := by kernel_rfl
  exact (fn_calls okF okM Tryz.func59 (by kernel_rfl) (by kernel_rfl) (e.mpr h)).mono fun _ _ ⟨s, he, hR⟩ => ⟨s, he, hR⟩



def S99L1 (w : World) (R : ByteArray → World → Prop) (I5 : Slc → World → Prop) (s3 : Slc) (vw4 : World) : Prop :=
  Nx vw4 (⟨w.heap.size, 0, none⟩ : Addr) (fun (i6 : Int) (ch7 : Int) (vw8 : World) =>
    Br (decide (ch7 ≥ 65536)) (Lt (Int.fdiv (IntKind.i32.wrap (55296 + (Int.fdiv (IntKind.i32.wrap (ch7 - 65536)) (2 ^ 10)))) (2 ^ 8)) fun (x14 : Int) =>
      Lt (IntKind.u8.wrap (IntKind.i32.wrap (55296 + (Int.fdiv (IntKind.i32.wrap (ch7 - 65536)) (2 ^ 10))))) fun (x15 : Int) =>
      Nw vw8 (.cells #[.int .u8 (IntKind.u8.wrap x14), .int .u8 x15] 5) fun vw16 =>
      Rn Tryz.prog (Builtin.append_ #[169, 169] 169 #[Slc.v s3, Slc.v ((⟨some ⟨vw8.heap.size, 0, none⟩, 2, 2⟩ : Slc))]) vw16 Slc.v fun (x17 : Slc) vw18 =>
      Lt (Int.fdiv (IntKind.i32.wrap (56320 + (iand .i32 (IntKind.i32.wrap (ch7 - 65536)) 1023))) (2 ^ 8)) fun (x19 : Int) =>
      Lt (IntKind.u8.wrap (IntKind.i32.wrap (56320 + (iand .i32 (IntKind.i32.wrap (ch7 - 65536)) 1023)))) fun (x20 : Int) =>
      Nw vw18 (.cells #[.int .u8 (IntKind.u8.wrap x19), .int .u8 x20] 5) fun vw21 =>
      Rn Tryz.prog (Builtin.append_ #[169, 169] 169 #[Slc.v x17, Slc.v ((⟨some ⟨vw18.heap.size, 0, none⟩, 2, 2⟩ : Slc))]) vw21 Slc.v fun (x22 : Slc) vw23 =>
      I5 x22 vw23) (Nw vw8 (.cells #[.int .u8 (IntKind.u8.wrap (Int.fdiv ch7 (2 ^ 8))), .int .u8 (IntKind.u8.wrap ch7)] 5) fun vw24 =>
      Rn Tryz.prog (Builtin.append_ #[169, 169] 169 #[Slc.v s3, Slc.v ((⟨some ⟨vw8.heap.size, 0, none⟩, 2, 2⟩ : Slc))]) vw24 Slc.v fun (x25 : Slc) vw26 =>
      I5 x25 vw26)) (Rn Tryz.prog (convert 169 9 (Slc.v s3)) vw4 Value.string fun (x27 : ByteArray) vw28 =>
    R x27 vw28)
/-- foliant/cmap.Units -/
def S99 (s1 : ByteArray) (w : World) (R : ByteArray → World → Prop) : Prop :=
  Nw w (.stringIter s1 0) fun vw2 =>
  Lp (σ := Slc) (S99L1 w R) (⟨none, 0, 0⟩ : Slc) vw2
def pl99 : Plan := (.seq (.reg .seq) (.seq (.reg .seq) (.seq (.seq (.reg .seq) (.block (.loop [(3, (.one .slc))] [8] (.seq (.reg .seq) (.seq (.cond .leaf .leaf) (.block (.seq (.reg .seq) (.seq (.seq (.reg .seq) (.cond (.seq (.reg .seq) (.seq (.reg .seq) (.reg .seq))) .leaf)) (.reg .seq))))))))) (.seq (.reg .seq) .leaf))))
set_option maxRecDepth 100000 in
theorem T99 (s1 : ByteArray) (w : World) (R : ByteArray → World → Prop) (h : S99 s1 w R) : C99 s1 w R := by
  have e : fnT Tryz.prog ⟨FF, MAY, (fun _ _ => False)⟩ pl99 Tryz.f99 [.string s1] w [(.one .str)] (fun s w => R s w) = S99 s1 w R := by kernel_rfl
  exact (fn_calls okF okM Tryz.func99 (by kernel_rfl) (by kernel_rfl) (e.mpr h)).mono fun _ _ ⟨s, he, hR⟩ => ⟨s, he, hR⟩

def S60L1 (l1 : Slc) (s3 : Int) (R : Int → World → Prop) (I7 : Int → World → Prop) (s5 : Int) (vw6 : World) : Prop :=
  Br (decide (s5 < ((l1.len : Nat) : Int))) (0 ≤ s5 ∧ s5 < (l1.len : Nat) ∧ Nn l1.p fun a8 =>
    Ld vw6 (a8.add ((s5).toNat * 2)) (Value.int .i64) fun (x9 : Int) =>
    Ld vw6 ((a8.add ((s5).toNat * 2)).add 1) Value.string fun (x10 : ByteArray) =>
    Nw vw6 (.cells #[.int .i64 0, .string ((⟨#[]⟩ : ByteArray))] 145) fun vw11 =>
    St vw11 (⟨vw6.heap.size, 0, none⟩ : Addr) (.int .i64 x9) fun vw12 =>
    St vw12 ((⟨vw6.heap.size, 0, none⟩ : Addr).add 1) (.string x10) fun vw13 =>
    Ld vw13 (⟨vw6.heap.size, 0, none⟩ : Addr) (Value.int .i64) fun (x14 : Int) =>
    Br (decide (x14 < 0)) (R 2 vw13) (Ld vw13 (⟨vw6.heap.size, 0, none⟩ : Addr) (Value.int .i64) fun (x15 : Int) =>
      Br (decide (x15 > s3)) (R 2 vw13) (Ld vw13 ((⟨vw6.heap.size, 0, none⟩ : Addr).add 1) Value.string fun (x16 : ByteArray) =>
        C98 x16 vw13 fun r17 vw18 =>
          Br (!r17) (R 3 vw18) (Ld vw18 ((⟨vw6.heap.size, 0, none⟩ : Addr).add 1) Value.string fun (x19 : ByteArray) =>
            C99 x19 vw18 fun r20 vw21 =>
              Br (decide ((((r20).size : Nat) : Int) > 512)) (R 5 vw21) (Br (decide (s5 > 0)) (Ld vw21.drew (⟨vw6.heap.size, 0, none⟩ : Addr) (Value.int .i64) fun (x22 : Int) =>
                  0 ≤ (IntKind.i64.wrap (s5 - 1)) ∧ (IntKind.i64.wrap (s5 - 1)) < (l1.len : Nat) ∧ Nn l1.p fun a23 =>
                  Ld vw21.drew (a23.add ((IntKind.i64.wrap (s5 - 1)).toNat * 2)) (Value.int .i64) fun (x24 : Int) =>
                  Br (x22 == x24) (R 9 vw21.drew) (Br (decide (s5 > 0)) (Ld vw21.drew.drew (⟨vw6.heap.size, 0, none⟩ : Addr) (Value.int .i64) fun (x25 : Int) =>
                      0 ≤ (IntKind.i64.wrap (s5 - 1)) ∧ (IntKind.i64.wrap (s5 - 1)) < (l1.len : Nat) ∧ Nn l1.p fun a26 =>
                      Ld vw21.drew.drew (a26.add ((IntKind.i64.wrap (s5 - 1)).toNat * 2)) (Value.int .i64) fun (x27 : Int) =>
                      Br (decide (x25 < x27)) (R 1 vw21.drew.drew) (I7 (IntKind.i64.wrap (s5 + 1)) vw21.drew.drew)) (I7 (IntKind.i64.wrap (s5 + 1)) vw21.drew.drew))) (Br (decide (s5 > 0)) (Ld vw21.drew.drew (⟨vw6.heap.size, 0, none⟩ : Addr) (Value.int .i64) fun (x28 : Int) =>
                    0 ≤ (IntKind.i64.wrap (s5 - 1)) ∧ (IntKind.i64.wrap (s5 - 1)) < (l1.len : Nat) ∧ Nn l1.p fun a29 =>
                    Ld vw21.drew.drew (a29.add ((IntKind.i64.wrap (s5 - 1)).toNat * 2)) (Value.int .i64) fun (x30 : Int) =>
                    Br (decide (x28 < x30)) (R 1 vw21.drew.drew) (I7 (IntKind.i64.wrap (s5 + 1)) vw21.drew.drew)) (I7 (IntKind.i64.wrap (s5 + 1)) vw21.drew.drew))))))) (R 0 vw6)
def S60J1 (l1 : Slc) (R : Int → World → Prop) (s3 : Int) (vw4 : World) : Prop :=
  Br (decide (((l1.len : Nat) : Int) > 4096)) (R 6 vw4) (Lp (σ := Int) (S60L1 l1 s3 R) 0 vw4)
/-- foliant/cmap.Check -/
def S60 (l1 : Slc) (wide2 : Bool) (w : World) (R : Int → World → Prop) : Prop :=
  Join (S60J1 l1 R) fun (vJ31 : Int → World → Prop) =>
    Br wide2 (vJ31 65535 w) (vJ31 255 w)
def pl60 : Plan := (.seq (.reg .seq) (.seq (.reg .seq) (.join [(5, (.one (.int .i64)))] [0] (.seq (.reg .seq) (.cond (.reg .seq) .leaf)) (.seq (.seq (.reg .seq) (.cond (.seq (.reg .seq) .leaf) .leaf)) (.seq (.seq (.reg .seq) (.block (.loop [(14, (.one (.int .i64)))] [0, 5, 12, 13] (.seq (.reg .seq) (.seq (.cond .leaf .leaf) (.seq (.block (.seq (.reg .seq) (.block (.seq (.reg .seq) (.cond (.seq (.reg .seq) .leaf) (.seq (.reg .seq) (.cond (.seq (.reg .seq) .leaf) (.seq (.reg .seq) (.cond (.seq (.reg .seq) .leaf) (.seq (.reg .still) (.cond (.seq (.reg .seq) .leaf) (.seq (.reg .still) (.cond (.seq (.reg .seq) .leaf) .leaf))))))))))))) (.reg .seq))))))) (.seq (.reg .seq) .leaf))))))
set_option maxRecDepth 100000 in
theorem T60 (l1 : Slc) (wide2 : Bool) (w : World) (R : Int → World → Prop) (h : S60 l1 wide2 w R) : C60 l1 wide2 w R := by
  have e : fnT Tryz.prog ⟨FF, MAY, (fun _ _ => False)⟩ pl60 Tryz.f60 [Slc.v l1, .bool wide2] w [(.one (.int .i64))] (fun s w => R s w) = S60 l1 wide2 w R := by kernel_rfl
  exact (fn_calls okF okM Tryz.func60 (by kernel_rfl) (by kernel_rfl) (e.mpr h)).mono fun _ _ ⟨s, he, hR⟩ => ⟨s, he, hR⟩

/-- foliant/font.Check -/
def S33 (f1 : TyA34) (w : World) (R : Int → World → Prop) : Prop :=
  Nw w (.cells (Sig.cells LiA34 f1).toArray 35) fun vw2 =>
  LdT vw2 (⟨w.heap.size, 0, none⟩ : Addr) 0 LiA34 fun (x6 : TyA34) =>
  C59 x6 vw2 fun r7 vw8 =>
    Br (!r7) (R 1 vw8) (Ld vw8 ((⟨w.heap.size, 0, none⟩ : Addr).add 6) Slc.v fun (x9 : Slc) =>
      Ld vw8 ((⟨w.heap.size, 0, none⟩ : Addr).add 1) Value.bool fun (x10 : Bool) =>
      C60 x9 x10 vw8 fun r11 vw12 =>
        R r11 vw12)
def pl33 : Plan := (.seq (.reg .seq) (.seq (.seq (.reg .seq) (.cond (.seq (.reg .seq) .leaf) .leaf)) (.seq (.reg .seq) .leaf)))
set_option maxRecDepth 100000 in
theorem T33 (f1 : TyA34) (w : World) (R : Int → World → Prop) (h : S33 f1 w R) : C33 f1 w R := by
  have e : fnT Tryz.prog ⟨FF, MAY, (fun _ _ => False)⟩ pl33 Tryz.f33 [.agg (Sig.cells LiA34 f1).toArray] w [(.one (.int .i64))] (fun s w => R s w) = S33 f1 w R := by kernel_rfl
  exact (fn_calls okF okM Tryz.func33 (by kernel_rfl) (by kernel_rfl) (e.mpr h)).mono fun _ _ ⟨s, he, hR⟩ => ⟨s, he, hR⟩

/-- foliant/font.Width -/
def S65 (f1 : TyA34) (code2 : Int) (w : World) (R : Int → World → Prop) : Prop :=
  Nw w (.cells (Sig.cells LiA34 f1).toArray 35) fun vw3 =>
  Ld vw3 ((⟨w.heap.size, 0, none⟩ : Addr).add 2) (Value.int .i64) fun (x11 : Int) =>
  Br (decide (code2 < x11)) (Ld vw3 ((⟨w.heap.size, 0, none⟩ : Addr).add 4) (Value.int .i64) fun (x12 : Int) =>
    R x12 vw3) (Ld vw3 ((⟨w.heap.size, 0, none⟩ : Addr).add 2) (Value.int .i64) fun (x13 : Int) =>
    Ld vw3 ((⟨w.heap.size, 0, none⟩ : Addr).add 3) Slc.v fun (x14 : Slc) =>
    Br (decide ((IntKind.i64.wrap (code2 - x13)) ≥ ((x14.len : Nat) : Int))) (Ld vw3 ((⟨w.heap.size, 0, none⟩ : Addr).add 4) (Value.int .i64) fun (x15 : Int) =>
      R x15 vw3) (Ld vw3 ((⟨w.heap.size, 0, none⟩ : Addr).add 2) (Value.int .i64) fun (x16 : Int) =>
      Br (decide ((IntKind.i64.wrap (code2 - x16)) < 0)) (Ld vw3 ((⟨w.heap.size, 0, none⟩ : Addr).add 4) (Value.int .i64) fun (x17 : Int) =>
        R x17 vw3) (Ld vw3 ((⟨w.heap.size, 0, none⟩ : Addr).add 3) Slc.v fun (x18 : Slc) =>
        Ld vw3 ((⟨w.heap.size, 0, none⟩ : Addr).add 2) (Value.int .i64) fun (x19 : Int) =>
        0 ≤ (IntKind.i64.wrap (code2 - x19)) ∧ (IntKind.i64.wrap (code2 - x19)) < (x18.len : Nat) ∧ Nn x18.p fun a20 =>
        Ld vw3 (a20.add ((IntKind.i64.wrap (code2 - x19)).toNat * 1)) (Value.int .i64) fun (x21 : Int) =>
        R x21 vw3)))
def pl65 : Plan := (.seq (.reg .seq) (.seq (.seq (.reg .seq) (.cond (.seq (.reg .seq) .leaf) .leaf)) (.seq (.reg .seq) .leaf)))
set_option maxRecDepth 100000 in
theorem T65 (f1 : TyA34) (code2 : Int) (w : World) (R : Int → World → Prop) (h : S65 f1 code2 w R) : C65 f1 code2 w R := by
  have e : fnT Tryz.prog ⟨FF, MAY, (fun _ _ => False)⟩ pl65 Tryz.f65 [.agg (Sig.cells LiA34 f1).toArray, .int .i64 code2] w [(.one (.int .i64))] (fun s w => R s w) = S65 f1 code2 w R := by kernel_rfl
  exact (fn_calls okF okM Tryz.func65 (by kernel_rfl) (by kernel_rfl) (e.mpr h)).mono fun _ _ ⟨s, he, hR⟩ => ⟨s, he, hR⟩

def S91L1 (s2 : ByteArray) (R : Slc → Int → World → Prop) (I14 : (Slc × Int) → World → Prop) (s12 : Slc × Int) (vw13 : World) : Prop :=
  Br (decide (s12.2 < (((s2).size : Nat) : Int))) (0 ≤ s12.2 ∧ s12.2 < ((s2).size : Nat) ∧ Nw vw13 (.cells #[.int .i64 (IntKind.i64.wrap (bAt s2 s12.2))] 3) fun vw15 =>
    Rn Tryz.prog (Builtin.append_ #[132, 132] 132 #[Slc.v s12.1, Slc.v ((⟨some ⟨vw13.heap.size, 0, none⟩, 1, 1⟩ : Slc))]) vw15 Slc.v fun (x16 : Slc) vw17 =>
    I14 (x16, IntKind.i64.wrap (s12.2 + 1)) vw17) (R s12.1 0 vw13)
def S91L2 (s2 : ByteArray) (R : Slc → Int → World → Prop) (I20 : (Slc × Int) → World → Prop) (s18 : Slc × Int) (vw19 : World) : Prop :=
  Br (decide (s18.2 < (((s2).size : Nat) : Int))) (0 ≤ s18.2 ∧ s18.2 < ((s2).size : Nat) ∧ 0 ≤ (IntKind.i64.wrap (s18.2 + 1)) ∧ (IntKind.i64.wrap (s18.2 + 1)) < ((s2).size : Nat) ∧ Nw vw19.drew (.cells #[.int .i64 (ior .i64 (IntKind.i64.wrap ((IntKind.i64.wrap (bAt s2 s18.2)) * 2 ^ 8)) (IntKind.i64.wrap (bAt s2 (IntKind.i64.wrap (s18.2 + 1)))))] 3) fun vw21 =>
    Rn Tryz.prog (Builtin.append_ #[132, 132] 132 #[Slc.v s18.1, Slc.v ((⟨some ⟨vw19.drew.heap.size, 0, none⟩, 1, 1⟩ : Slc))]) vw21 Slc.v fun (x22 : Slc) vw23 =>
    I20 (x22, IntKind.i64.wrap (s18.2 + 2)) vw23) (R s18.1 0 vw19)
/-- foliant/font.Codes -/
def S91 (f1 : TyA34) (s2 : ByteArray) (w : World) (R : Slc → Int → World → Prop) : Prop :=
  Nw w (.cells (Sig.cells LiA34 f1).toArray 35) fun vw3 =>
  Ld vw3 ((⟨w.heap.size, 0, none⟩ : Addr).add 1) Value.bool fun (x11 : Bool) =>
  Br (!x11) (Lp (σ := Slc × Int) (S91L1 s2 R) ((⟨none, 0, 0⟩ : Slc), 0) vw3) (Br ((Int.tmod (((s2).size : Nat) : Int) 2) != 0) (R (⟨none, 0, 0⟩ : Slc) 3 vw3) (Lp (σ := Slc × Int) (S91L2 s2 R) ((⟨none, 0, 0⟩ : Slc), 0) vw3))
def pl91 : Plan := (.seq (.reg .seq) (.seq (.reg .seq) (.seq (.seq (.reg .seq) (.cond (.seq (.seq (.reg .seq) (.block (.loop [(6, (.one .slc)), (14, (.one (.int .i64)))] [1, 13] (.seq (.reg .seq) (.seq (.cond .leaf .leaf) (.seq (.block (.seq (.reg .seq) (.reg .seq))) (.reg .seq))))))) (.seq (.reg .seq) .leaf)) .leaf)) (.seq (.seq (.reg .seq) (.cond (.seq (.reg .seq) .leaf) .leaf)) (.seq (.seq (.reg .seq) (.block (.loop [(6, (.one .slc)), (8, (.one (.int .i64)))] [1] (.seq (.seq (.reg .seq) (.cond .leaf .leaf)) (.seq (.block (.reg (.held [12] (.take 0 (.take 1 (.take 2 (.take 3 (.take 4 (.take 5 (.take 6 (.take 7 (.take 8 (.take 9 (.take 10 (.take 11 (.eff 12 (some [13]) (.eff 13 (some []) (.take 14 .done)))))))))))))))))) (.reg .seq)))))) (.seq (.reg .seq) .leaf))))))
set_option maxRecDepth 100000 in
theorem T91 (f1 : TyA34) (s2 : ByteArray) (w : World) (R : Slc → Int → World → Prop) (h : S91 f1 s2 w R) : C91 f1 s2 w R := by
  have e : fnT Tryz.prog ⟨FF, MAY, (fun _ _ => False)⟩ pl91 Tryz.f91 [.agg (Sig.cells LiA34 f1).toArray, .string s2] w [(.one .slc), (.one (.int .i64))] (fun s w => R s.1 s.2 w) = S91 f1 s2 w R := by kernel_rfl
  exact (fn_calls okF okM Tryz.func91 (by kernel_rfl) (by kernel_rfl) (e.mpr h)).mono fun _ _ ⟨s, he, hR⟩ => ⟨s.1, s.2, he, hR⟩

/-- foliant/cmap.Find$1 -/
def S152 (x1 : Int × ByteArray) (c2 : Addr) (w : World) (R : Bool → World → Prop) : Prop :=
  Nw w (.cells #[.int .i64 (x1.1), .string x1.2] 145) fun vw3 =>
  Ld vw3 (⟨w.heap.size, 0, none⟩ : Addr) (Value.int .i64) fun (x4 : Int) =>
  Ld vw3 c2 (Value.int .i64) fun (x5 : Int) =>
  R (x4 == x5) vw3
def pl152 : Plan := (.seq (.reg .seq) (.seq (.reg .seq) .leaf))
set_option maxRecDepth 100000 in
theorem T152 (x1 : Int × ByteArray) (c2 : Addr) (w : World) (R : Bool → World → Prop) (h : S152 x1 c2 w R) : C152 (x1.1, x1.2) c2 w R := by
  have e : fnT Tryz.prog ⟨FF, MAY, (fun _ _ => False)⟩ pl152 Tryz.f152 [.agg #[.int .i64 (x1.1), .string x1.2], .pointer (some c2)] w [(.one .bool)] (fun s w => R s w) = S152 x1 c2 w R := by kernel_rfl
  exact (fn_calls okF okM Tryz.func152 (by kernel_rfl) (by kernel_rfl) (e.mpr h)).mono fun _ _ ⟨s, he, hR⟩ => ⟨s, he, hR⟩

def S151_F152L1 (s1 : Slc) (c3 : Addr) (R : Int → World → Prop) (I6 : Int → World → Prop) (s4 : Int) (vw5 : World) : Prop :=
  Br (decide (s4 < ((s1.len : Nat) : Int))) (0 ≤ s4 ∧ s4 < (s1.len : Nat) ∧ Nn s1.p fun a7 =>
    Ld vw5 (a7.add ((s4).toNat * 2)) (Value.int .i64) fun (x8 : Int) =>
    Ld vw5 ((a7.add ((s4).toNat * 2)).add 1) Value.string fun (x9 : ByteArray) =>
    C152 (x8, x9) c3 vw5 fun r10 vw11 =>
      Br r10 (R s4 vw11) (I6 (IntKind.i64.wrap (s4 + 1)) vw11)) (R (-1) vw5)
/-- slices.IndexFunc[[]foliant/api.Map,foliant/api.Map] -/
def S151_F152 (s1 : Slc) (c3 : Addr) (w : World) (R : Int → World → Prop) : Prop :=
  Lp (σ := Int) (S151_F152L1 s1 c3 R) 0 w
def pl151_F152 : Plan := (.seq (.reg .seq) (.seq (.seq (.reg .seq) (.block (.loop [(8, (.one (.int .i64)))] [0, 1, 7] (.seq (.reg .seq) (.seq (.cond .leaf .leaf) (.seq (.block (.seq (.reg .seq) (.seq (.reg .seq) (.cond (.seq (.reg .seq) .leaf) .leaf)))) (.reg .seq))))))) (.seq (.reg .seq) .leaf)))
set_option maxRecDepth 100000 in
theorem T151_F152 (s1 : Slc) (c3 : Addr) (w : World) (R : Int → World → Prop) (h : S151_F152 s1 c3 w R) : C151 s1 (.func (.func 152) #[] #[.pointer (some c3)]) w R := by
  have e : fnT Tryz.prog ⟨FF, MAY, (fun _ _ => False)⟩ pl151_F152 Tryz.f151 [Slc.v s1, .func (.func 152) #[] #[.pointer (some c3)]] w [(.one (.int .i64))] (fun s w => R s w) = S151_F152 s1 c3 w R := by kernel_rfl
  exact (fn_calls okF okM Tryz.func151 (by kernel_rfl) (by kernel_rfl) (e.mpr h)).mono fun _ _ ⟨s, he, hR⟩ => ⟨s, he, hR⟩

/-- foliant/cmap.Find -/
def S139 (l1 : Slc) (code2 : Int) (w : World) (R : ByteArray → Bool → World → Prop) : Prop :=
  Nw w (.cells #[.int .i64 code2] 3) fun vw3 =>
  C151 l1 (.func (.func 152) #[] #[.pointer (some (⟨w.heap.size, 0, none⟩ : Addr))]) vw3 fun r4 vw5 =>
    Br (decide (r4 < 0)) (R (⟨#[]⟩ : ByteArray) false vw5) (0 ≤ r4 ∧ r4 < (l1.len : Nat) ∧ Nn l1.p fun a6 =>
      Ld vw5 ((a6.add ((r4).toNat * 2)).add 1) Value.string fun (x7 : ByteArray) =>
      R x7 true vw5)
def pl139 : Plan := (.seq (.reg .seq) (.seq (.reg .seq) (.seq (.seq (.reg .seq) (.cond (.seq (.reg .seq) .leaf) .leaf)) (.seq (.reg .seq) .leaf))))
set_option maxRecDepth 100000 in
theorem T139 (l1 : Slc) (code2 : Int) (w : World) (R : ByteArray → Bool → World → Prop) (h : S139 l1 code2 w R) : C139 l1 code2 w R := by
  have e : fnT Tryz.prog ⟨FF, MAY, (fun _ _ => False)⟩ pl139 Tryz.f139 [Slc.v l1, .int .i64 code2] w [(.one .str), (.one .bool)] (fun s w => R s.1 s.2 w) = S139 l1 code2 w R := by kernel_rfl
  exact (fn_calls okF okM Tryz.func139 (by kernel_rfl) (by kernel_rfl) (e.mpr h)).mono fun _ _ ⟨s, he, hR⟩ => ⟨s.1, s.2, he, hR⟩



def S153L1 (vat1 : Int) (c3 : Addr) (r4 : Slc) (R : World → Prop) (I8 : Int → World → Prop) (s6 : Int) (vw7 : World) : Prop :=
  Br (decide (s6 < ((r4.len : Nat) : Int))) (0 ≤ s6 ∧ s6 < (r4.len : Nat) ∧ Nn r4.p fun a9 =>
    Ld vw7 (a9.add ((s6).toNat * 1)) Value.string fun (x10 : ByteArray) =>
    Ld vw7 c3 Slc.v fun (x11 : Slc) =>
    0 ≤ (IntKind.i64.wrap (vat1 + s6)) ∧ (IntKind.i64.wrap (vat1 + s6)) < (x11.len : Nat) ∧ Nn x11.p fun a12 =>
    St vw7 (a12.add ((IntKind.i64.wrap (vat1 + s6)).toNat * 1)) (.string x10) fun vw13 =>
    I8 (IntKind.i64.wrap (s6 + 1)) vw13) (R vw7)
/-- foliant/font.Usual$1 -/
def S153 (vat1 : Int) (names2 : ByteArray) (c3 : Addr) (w : World) (R : World → Prop) : Prop :=
  C113 names2 w fun r4 vw5 =>
    Lp (σ := Int) (S153L1 vat1 c3 r4 R) 0 vw5
def pl153 : Plan := (.seq (.reg .seq) (.block (.loop [(10, (.one (.int .i64)))] [0, 2, 8, 9] (.seq (.reg .seq) (.seq (.cond .leaf .leaf) (.seq (.block (.seq (.reg .seq) (.reg .seq))) (.reg .seq)))))))
set_option maxRecDepth 100000 in
theorem T153 (vat1 : Int) (names2 : ByteArray) (c3 : Addr) (w : World) (R : World → Prop) (h : S153 vat1 names2 c3 w R) : C153 vat1 names2 c3 w R := by
  have e : fnT Tryz.prog ⟨FF, MAY, (fun _ _ => False)⟩ pl153 Tryz.f153 [.int .i64 vat1, .string names2, .pointer (some c3)] w [] (fun _ w => R w) = S153 vat1 names2 c3 w R := by kernel_rfl
  exact (fn_calls okF okM Tryz.func153 (by kernel_rfl) (by kernel_rfl) (e.mpr h)).mono fun _ _ ⟨_, he, hR⟩ => ⟨he, hR⟩

def S140L1 (vw2 : World) (R : Slc → World → Prop) (I23 : Int → World → Prop) (s21 : Int) (vw22 : World) : Prop :=
  Br (decide (s21 < 26)) (Ld vw22 (⟨vw2.heap.size, 0, none⟩ : Addr) Slc.v fun (x24 : Slc) =>
    Nw vw22 (.cells #[.int .u8 (IntKind.u8.wrap (IntKind.i64.wrap (65 + s21)))] 5) fun vw25 =>
    Rn Tryz.prog (convert 169 9 (Slc.v ((⟨some ⟨vw22.heap.size, 0, none⟩, 1, 1⟩ : Slc)))) vw25 Value.string fun (x26 : ByteArray) vw27 =>
    0 ≤ (IntKind.i64.wrap (65 + s21)) ∧ (IntKind.i64.wrap (65 + s21)) < (x24.len : Nat) ∧ Nn x24.p fun a28 =>
    St vw27 (a28.add ((IntKind.i64.wrap (65 + s21)).toNat * 1)) (.string x26) fun vw29 =>
    Ld vw29 (⟨vw2.heap.size, 0, none⟩ : Addr) Slc.v fun (x30 : Slc) =>
    Nw vw29 (.cells #[.int .u8 (IntKind.u8.wrap (IntKind.i64.wrap (97 + s21)))] 5) fun vw31 =>
    Rn Tryz.prog (convert 169 9 (Slc.v ((⟨some ⟨vw29.heap.size, 0, none⟩, 1, 1⟩ : Slc)))) vw31 Value.string fun (x32 : ByteArray) vw33 =>
    0 ≤ (IntKind.i64.wrap (97 + s21)) ∧ (IntKind.i64.wrap (97 + s21)) < (x30.len : Nat) ∧ Nn x30.p fun a34 =>
    St vw33 (a34.add ((IntKind.i64.wrap (97 + s21)).toNat * 1)) (.string x32) fun vw35 =>
    I23 (IntKind.i64.wrap (s21 + 1)) vw35) (C153 91 (⟨#[98, 114, 97, 99, 107, 101, 116, 108, 101, 102, 116, 32, 98, 97, 99, 107, 115, 108, 97, 115, 104, 32, 98, 114, 97, 99, 107, 101, 116, 114, 105, 103, 104, 116, 32, 97, 115, 99, 105, 105, 99, 105, 114, 99, 117, 109, 32, 117, 110, 100, 101, 114, 115, 99, 111, 114, 101, 32, 103, 114, 97, 118, 101]⟩ : ByteArray) (⟨vw2.heap.size, 0, none⟩ : Addr) vw22 fun vw36 =>
      C153 123 (⟨#[98, 114, 97, 99, 101, 108, 101, 102, 116, 32, 98, 97, 114, 32, 98, 114, 97, 99, 101, 114, 105, 103, 104, 116, 32, 97, 115, 99, 105, 105, 116, 105, 108, 100, 101]⟩ : ByteArray) (⟨vw2.heap.size, 0, none⟩ : Addr) vw36 fun vw37 =>
        Ld vw37 (⟨vw2.heap.size, 0, none⟩ : Addr) Slc.v fun (x38 : Slc) =>
        R x38 vw37)
/-- foliant/font.Usual -/
def S140 (w : World) (R : Slc → World → Prop) : Prop :=
  Rn Tryz.prog (Instr.makeSlice 32 (.int .i64 256) (.int .i64 256)) w Slc.v fun (x1 : Slc) vw2 =>
  Nw vw2 (.cells #[Slc.v ((⟨none, 0, 0⟩ : Slc))] 32) fun vw3 =>
  St vw3 (⟨vw2.heap.size, 0, none⟩ : Addr) (Slc.v x1) fun vw4 =>
  C153 32 (⟨#[115, 112, 97, 99, 101, 32, 101, 120, 99, 108, 97, 109, 32, 113, 117, 111, 116, 101, 100, 98, 108, 32, 110, 117, 109, 98, 101, 114, 115, 105, 103, 110, 32, 100, 111, 108, 108, 97, 114, 32, 112, 101, 114, 99, 101, 110, 116, 32, 97, 109, 112, 101, 114, 115, 97, 110, 100, 32, 113, 117, 111, 116, 101, 115, 105, 110, 103, 108, 101, 32, 112, 97, 114, 101, 110, 108, 101, 102, 116, 32, 112, 97, 114, 101, 110, 114, 105, 103, 104, 116, 32, 97, 115, 116, 101, 114, 105, 115, 107, 32, 112, 108, 117, 115, 32, 99, 111, 109, 109, 97, 32, 104, 121, 112, 104, 101, 110, 32, 112, 101, 114, 105, 111, 100, 32, 115, 108, 97, 115, 104, 32, 122, 101, 114, 111, 32, 111, 110, 101, 32, 116, 119, 111, 32, 116, 104, 114, 101, 101, 32, 102, 111, 117, 114, 32, 102, 105, 118, 101, 32, 115, 105, 120, 32, 115, 101, 118, 101, 110, 32, 101, 105, 103, 104, 116, 32, 110, 105, 110, 101, 32, 99, 111, 108, 111, 110, 32, 115, 101, 109, 105, 99, 111, 108, 111, 110, 32, 108, 101, 115, 115, 32, 101, 113, 117, 97, 108, 32, 103, 114, 101, 97, 116, 101, 114, 32, 113, 117, 101, 115, 116, 105, 111, 110, 32, 97, 116]⟩ : ByteArray) (⟨vw2.heap.size, 0, none⟩ : Addr) vw4 fun vw5 =>
    Lp (σ := Int) (S140L1 vw2 R) 0 vw5
def pl140 : Plan := (.seq (.reg .seq) (.seq (.reg .seq) (.seq (.reg .seq) (.seq (.reg .seq) (.seq (.seq (.reg .seq) (.block (.loop [(8, (.one (.int .i64)))] [1, 2] (.seq (.reg .seq) (.seq (.cond .leaf .leaf) (.seq (.block (.seq (.reg .seq) (.seq (.reg .seq) (.reg .seq)))) (.reg .seq))))))) (.seq (.reg .seq) (.seq (.reg .seq) (.seq (.reg .seq) .leaf))))))))
set_option maxRecDepth 100000 in
theorem T140 (w : World) (R : Slc → World → Prop) (h : S140 w R) : C140 w R := by
  have e : fnT Tryz.prog ⟨FF, MAY, (fun _ _ => False)⟩ pl140 Tryz.f140 [] w [(.one .slc)] (fun s w => R s w) = S140 w R := by kernel_rfl
  exact (fn_calls okF okM Tryz.func140 (by kernel_rfl) (by kernel_rfl) (e.mpr h)).mono fun _ _ ⟨s, he, hR⟩ => ⟨s, he, hR⟩

/-- internal/stringslite.HasPrefix -/
def S162 (s1 : ByteArray) (vprefix2 : ByteArray) (w : World) (R : Bool → World → Prop) : Prop :=
  Br (decide ((((s1).size : Nat) : Int) ≥ (((vprefix2).size : Nat) : Int))) (0 ≤ (((vprefix2).size : Nat) : Int) ∧ (((vprefix2).size : Nat) : Int) ≤ (((s1).size : Nat) : Int) ∧ R ((s1.extract 0 (((((vprefix2).size : Nat) : Int)).toNat)).toList == vprefix2.toList) w) (R false w)
def pl162 : Plan := (.seq (.reg .seq) (.seq (.reg .seq) .leaf))
set_option maxRecDepth 100000 in
theorem T162 (s1 : ByteArray) (vprefix2 : ByteArray) (w : World) (R : Bool → World → Prop) (h : S162 s1 vprefix2 w R) : C162 s1 vprefix2 w R := by
  have e : fnT Tryz.prog ⟨FF, MAY, (fun _ _ => False)⟩ pl162 Tryz.f162 [.string s1, .string vprefix2] w [(.one .bool)] (fun s w => R s w) = S162 s1 vprefix2 w R := by kernel_rfl
  exact (fn_calls okF okM Tryz.func162 (by kernel_rfl) (by kernel_rfl) (e.mpr h)).mono fun _ _ ⟨s, he, hR⟩ => ⟨s, he, hR⟩

/-- internal/stringslite.CutPrefix -/
def S161 (s1 : ByteArray) (vprefix2 : ByteArray) (w : World) (R : ByteArray → Bool → World → Prop) : Prop :=
  C162 s1 vprefix2 w fun r5 vw6 =>
    Br (!r5) (R s1 false vw6) (0 ≤ (((vprefix2).size : Nat) : Int) ∧ (((vprefix2).size : Nat) : Int) ≤ (((s1).size : Nat) : Int) ∧ R (s1.extract (((((vprefix2).size : Nat) : Int)).toNat) ((s1).size)) true vw6)
def pl161 : Plan := (.seq (.reg .seq) (.seq (.seq (.reg .seq) (.cond (.seq (.reg .seq) .leaf) .leaf)) (.seq (.reg .seq) .leaf)))
set_option maxRecDepth 100000 in
theorem T161 (s1 : ByteArray) (vprefix2 : ByteArray) (w : World) (R : ByteArray → Bool → World → Prop) (h : S161 s1 vprefix2 w R) : C161 s1 vprefix2 w R := by
  have e : fnT Tryz.prog ⟨FF, MAY, (fun _ _ => False)⟩ pl161 Tryz.f161 [.string s1, .string vprefix2] w [(.one .str), (.one .bool)] (fun s w => R s.1 s.2 w) = S161 s1 vprefix2 w R := by kernel_rfl
  exact (fn_calls okF okM Tryz.func161 (by kernel_rfl) (by kernel_rfl) (e.mpr h)).mono fun _ _ ⟨s, he, hR⟩ => ⟨s.1, s.2, he, hR⟩

/-- strings.CutPrefix -/
def S159 (s1 : ByteArray) (vprefix2 : ByteArray) (w : World) (R : ByteArray → Bool → World → Prop) : Prop :=
  C161 s1 vprefix2 w fun r3 r4 vw5 =>
    R r3 r4 vw5
def pl159 : Plan := (.seq (.reg .seq) (.seq (.reg .seq) .leaf))
set_option maxRecDepth 100000 in
theorem T159 (s1 : ByteArray) (vprefix2 : ByteArray) (w : World) (R : ByteArray → Bool → World → Prop) (h : S159 s1 vprefix2 w R) : C159 s1 vprefix2 w R := by
  have e : fnT Tryz.prog ⟨FF, MAY, (fun _ _ => False)⟩ pl159 Tryz.f159 [.string s1, .string vprefix2] w [(.one .str), (.one .bool)] (fun s w => R s.1 s.2 w) = S159 s1 vprefix2 w R := by kernel_rfl
  exact (fn_calls okF okM Tryz.func159 (by kernel_rfl) (by kernel_rfl) (e.mpr h)).mono fun _ _ ⟨s, he, hR⟩ => ⟨s.1, s.2, he, hR⟩

/-- foliant/octet.Digit -/
def S160 (c1 : Int) (w : World) (R : Int → World → Prop) : Prop :=
  Br (decide (c1 ≥ 48)) (Br (decide (c1 ≤ 57)) (R (IntKind.i64.wrap (IntKind.u8.wrap (c1 - 48))) w) (Br (decide (c1 ≥ 65)) (Br (decide (c1 ≤ 70)) (R (IntKind.i64.wrap ((IntKind.i64.wrap (IntKind.u8.wrap (c1 - 65))) + 10)) w) (Br (decide (c1 ≥ 97)) (Br (decide (c1 ≤ 102)) (R (IntKind.i64.wrap ((IntKind.i64.wrap (IntKind.u8.wrap (c1 - 97))) + 10)) w) (R (-1) w)) (R (-1) w))) (Br (decide (c1 ≥ 97)) (Br (decide (c1 ≤ 102)) (R (IntKind.i64.wrap ((IntKind.i64.wrap (IntKind.u8.wrap (c1 - 97))) + 10)) w) (R (-1) w)) (R (-1) w)))) (Br (decide (c1 ≥ 65)) (Br (decide (c1 ≤ 70)) (R (IntKind.i64.wrap ((IntKind.i64.wrap (IntKind.u8.wrap (c1 - 65))) + 10)) w) (Br (decide (c1 ≥ 97)) (Br (decide (c1 ≤ 102)) (R (IntKind.i64.wrap ((IntKind.i64.wrap (IntKind.u8.wrap (c1 - 97))) + 10)) w) (R (-1) w)) (R (-1) w))) (Br (decide (c1 ≥ 97)) (Br (decide (c1 ≤ 102)) (R (IntKind.i64.wrap ((IntKind.i64.wrap (IntKind.u8.wrap (c1 - 97))) + 10)) w) (R (-1) w)) (R (-1) w)))
def pl160 : Plan := (.seq (.reg .seq) (.seq (.block (.seq (.reg .seq) (.cond (.seq (.reg .seq) .leaf) (.seq (.reg .seq) (.cond (.seq (.reg .seq) .leaf) (.seq (.reg .seq) (.cond (.seq (.reg .seq) .leaf) .leaf))))))) (.seq (.reg .seq) .leaf)))
set_option maxRecDepth 100000 in
theorem T160 (c1 : Int) (w : World) (R : Int → World → Prop) (h : S160 c1 w R) : C160 c1 w R := by
  have e : fnT Tryz.prog ⟨FF, MAY, (fun _ _ => False)⟩ pl160 Tryz.f160 [.int .u8 c1] w [(.one (.int .i64))] (fun s w => R s w) = S160 c1 w R := by kernel_rfl
  exact (fn_calls okF okM Tryz.func160 (by kernel_rfl) (by kernel_rfl) (e.mpr h)).mono fun _ _ ⟨s, he, hR⟩ => ⟨s, he, hR⟩

def S154L1 (r2 : ByteArray) (R : ByteArray → World → Prop) (I12 : (Int × Int) → World → Prop) (s10 : Int × Int) (vw11 : World) : Prop :=
  Br (decide (s10.2 < 4)) (0 ≤ s10.2 ∧ s10.2 < ((r2).size : Nat) ∧ C160 (bAt r2 s10.2) vw11 fun r13 vw14 =>
      Br (decide (r13 < 0)) (R (⟨#[]⟩ : ByteArray) vw14) (0 ≤ s10.2 ∧ s10.2 < ((r2).size : Nat) ∧ Br (decide ((bAt r2 s10.2) ≥ 97)) (R (⟨#[]⟩ : ByteArray) vw14) (I12 (ior .i64 (IntKind.i64.wrap (s10.1 * 2 ^ 4)) r13, IntKind.i64.wrap (s10.2 + 1)) vw14))) (Br (s10.1 == 0) (R (⟨#[]⟩ : ByteArray) vw11) (Br (decide (s10.1 ≥ 55296)) (Br (decide (s10.1 ≤ 57343)) (R (⟨#[]⟩ : ByteArray) vw11) (Nw vw11 (.cells #[.int .i32 (IntKind.i32.wrap s10.1)] 21) fun vw15 =>
          Rn Tryz.prog (convert 182 9 (Slc.v ((⟨some ⟨vw11.heap.size, 0, none⟩, 1, 1⟩ : Slc)))) vw15 Value.string fun (x16 : ByteArray) vw17 =>
          R x16 vw17)) (Nw vw11 (.cells #[.int .i32 (IntKind.i32.wrap s10.1)] 21) fun vw18 =>
        Rn Tryz.prog (convert 182 9 (Slc.v ((⟨some ⟨vw11.heap.size, 0, none⟩, 1, 1⟩ : Slc)))) vw18 Value.string fun (x19 : ByteArray) vw20 =>
        R x19 vw20)))
/-- foliant/font.uni -/
def S154 (name1 : ByteArray) (w : World) (R : ByteArray → World → Prop) : Prop :=
  C159 name1 (⟨#[117, 110, 105]⟩ : ByteArray) w fun r2 r3 vw4 =>
    Br (!r3) (R (⟨#[]⟩ : ByteArray) vw4) (Br ((((r2).size : Nat) : Int) != 4) (R (⟨#[]⟩ : ByteArray) vw4) (Lp (σ := Int × Int) (S154L1 r2 R) (0, 0) vw4))
def pl154 : Plan := (.seq (.reg .seq) (.seq (.reg .seq) (.seq (.seq (.reg .seq) (.cond (.seq (.reg .seq) .leaf) .leaf)) (.seq (.reg .seq) (.seq (.seq (.reg .seq) (.block (.loop [(5, (.one (.int .i64))), (20, (.one (.int .i64)))] [3] (.seq (.reg .seq) (.seq (.cond .leaf .leaf) (.seq (.block (.seq (.reg .seq) (.seq (.reg .seq) (.seq (.seq (.reg .seq) (.cond (.seq (.reg .seq) .leaf) .leaf)) (.reg .seq))))) (.reg .seq))))))) (.seq (.seq (.reg .seq) (.cond (.seq (.reg .seq) .leaf) .leaf)) (.seq (.reg .seq) .leaf)))))))
set_option maxRecDepth 100000 in
theorem T154 (name1 : ByteArray) (w : World) (R : ByteArray → World → Prop) (h : S154 name1 w R) : C154 name1 w R := by
  have e : fnT Tryz.prog ⟨FF, MAY, (fun _ _ => False)⟩ pl154 Tryz.f154 [.string name1] w [(.one .str)] (fun s w => R s w) = S154 name1 w R := by kernel_rfl
  exact (fn_calls okF okM Tryz.func154 (by kernel_rfl) (by kernel_rfl) (e.mpr h)).mono fun _ _ ⟨s, he, hR⟩ => ⟨s, he, hR⟩

def S141L1 (name1 : ByteArray) (r2 : Slc) (R : ByteArray → World → Prop) (I6 : Int → World → Prop) (s4 : Int) (vw5 : World) : Prop :=
  Br (decide (s4 < ((r2.len : Nat) : Int))) (0 ≤ s4 ∧ s4 < (r2.len : Nat) ∧ Nn r2.p fun a7 =>
    Ld vw5 (a7.add ((s4).toNat * 1)) Value.string fun (x8 : ByteArray) =>
    Br (x8.toList == name1.toList) (Nw vw5 (.cells #[.int .u8 (IntKind.u8.wrap s4)] 5) fun vw9 =>
      Rn Tryz.prog (convert 169 9 (Slc.v ((⟨some ⟨vw5.heap.size, 0, none⟩, 1, 1⟩ : Slc)))) vw9 Value.string fun (x10 : ByteArray) vw11 =>
      R x10 vw11) (I6 (IntKind.i64.wrap (s4 + 1)) vw5)) (C154 name1 vw5 fun r12 vw13 =>
      R r12 vw13)
/-- foliant/font.Sign -/
def S141 (name1 : ByteArray) (w : World) (R : ByteArray → World → Prop) : Prop :=
  Br (name1.toList == (⟨#[]⟩ : ByteArray).toList) (R (⟨#[]⟩ : ByteArray) w) (C140 w fun r2 vw3 =>
      Lp (σ := Int) (S141L1 name1 r2 R) 0 vw3)
def pl141 : Plan := (.seq (.reg .seq) (.seq (.seq (.reg .seq) (.cond (.seq (.reg .seq) .leaf) .leaf)) (.seq (.seq (.reg .seq) (.block (.loop [(9, (.one (.int .i64)))] [0, 7, 8] (.seq (.reg .seq) (.seq (.cond .leaf .leaf) (.seq (.block (.seq (.reg .seq) (.seq (.reg .seq) (.cond (.seq (.reg .seq) .leaf) .leaf)))) (.reg .seq))))))) (.seq (.reg .seq) .leaf))))
set_option maxRecDepth 100000 in
theorem T141 (name1 : ByteArray) (w : World) (R : ByteArray → World → Prop) (h : S141 name1 w R) : C141 name1 w R := by
  have e : fnT Tryz.prog ⟨FF, MAY, (fun _ _ => False)⟩ pl141 Tryz.f141 [.string name1] w [(.one .str)] (fun s w => R s w) = S141 name1 w R := by kernel_rfl
  exact (fn_calls okF okM Tryz.func141 (by kernel_rfl) (by kernel_rfl) (e.mpr h)).mono fun _ _ ⟨s, he, hR⟩ => ⟨s, he, hR⟩

/-- foliant/font.Say -/
def S120 (f1 : TyA34) (code2 : Int) (w : World) (R : ByteArray → World → Prop) : Prop :=
  Nw w (.cells (Sig.cells LiA34 f1).toArray 35) fun vw3 =>
  Ld vw3 ((⟨w.heap.size, 0, none⟩ : Addr).add 6) Slc.v fun (x8 : Slc) =>
  C139 x8 code2 vw3 fun r9 r10 vw11 =>
    Br r10 (R r9 vw11) (Ld vw11 ((⟨w.heap.size, 0, none⟩ : Addr).add 5) Slc.v fun (x12 : Slc) =>
      Br (((x12.len : Nat) : Int) == 0) (C140 vw11 fun r15 vw16 =>
          Ld vw16 ((⟨w.heap.size, 0, none⟩ : Addr).add 1) Value.bool fun (x18 : Bool) =>
          Br x18 (R (⟨#[]⟩ : ByteArray) vw16) (Br (decide (code2 < 0)) (R (⟨#[]⟩ : ByteArray) vw16) (Br (decide (code2 ≥ ((r15.len : Nat) : Int))) (R (⟨#[]⟩ : ByteArray) vw16) (0 ≤ code2 ∧ code2 < (r15.len : Nat) ∧ Nn r15.p fun a19 =>
                Ld vw16 (a19.add ((code2).toNat * 1)) Value.string fun (x20 : ByteArray) =>
                C141 x20 vw16 fun r21 vw22 =>
                  R r21 vw22)))) (Ld vw11 ((⟨w.heap.size, 0, none⟩ : Addr).add 1) Value.bool fun (x23 : Bool) =>
        Br x23 (R (⟨#[]⟩ : ByteArray) vw11) (Br (decide (code2 < 0)) (R (⟨#[]⟩ : ByteArray) vw11) (Br (decide (code2 ≥ ((x12.len : Nat) : Int))) (R (⟨#[]⟩ : ByteArray) vw11) (0 ≤ code2 ∧ code2 < (x12.len : Nat) ∧ Nn x12.p fun a24 =>
              Ld vw11 (a24.add ((code2).toNat * 1)) Value.string fun (x25 : ByteArray) =>
              C141 x25 vw11 fun r26 vw27 =>
                R r26 vw27)))))
def pl120 : Plan := (.seq (.reg .seq) (.seq (.seq (.reg .seq) (.seq (.reg .seq) (.cond (.seq (.reg .seq) .leaf) .leaf))) (.seq (.reg .seq) (.seq (.seq (.reg .seq) (.cond (.reg .seq) .leaf)) (.seq (.seq (.reg .seq) (.cond (.seq (.reg .seq) .leaf) .leaf)) (.seq (.reg .seq) .leaf))))))
set_option maxRecDepth 100000 in
theorem T120 (f1 : TyA34) (code2 : Int) (w : World) (R : ByteArray → World → Prop) (h : S120 f1 code2 w R) : C120 f1 code2 w R := by
  have e : fnT Tryz.prog ⟨FF, MAY, (fun _ _ => False)⟩ pl120 Tryz.f120 [.agg (Sig.cells LiA34 f1).toArray, .int .i64 code2] w [(.one .str)] (fun s w => R s w) = S120 f1 code2 w R := by kernel_rfl
  exact (fn_calls okF okM Tryz.func120 (by kernel_rfl) (by kernel_rfl) (e.mpr h)).mono fun _ _ ⟨s, he, hR⟩ => ⟨s, he, hR⟩

end Go.Proofs.YtcblpehnkogfdaaGreatDoor
