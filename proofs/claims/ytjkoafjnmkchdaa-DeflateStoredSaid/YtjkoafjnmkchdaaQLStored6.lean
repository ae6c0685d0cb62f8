/- The formulas of 16 functions of the program, written by program (gen.py); the kernel checks each. No condition. -/
import Derived.Test.YtjkoafjnmkchdaaQLStored3
import Derived.Test.YtjkoafjnmkchdaaQLStored4
import Derived.Test.YtjkoafjnmkchdaaQLStored5
import Derived.Test.YtjkoafjnmkchdaaQLStored2
import Derived.StringKeys
import Derived.MapKept
namespace Go.Proofs.Ytjkoafjnmkchdaa
open Sh
set_option linter.unusedVariables false
set_option maxRecDepth 100000

def C32 (n1 : Int) (ones2 : Int) (group3 : Int) (w : World) (R : Int → Int → Int → World → Prop) : Prop :=
  Calls Try.prog 32 #[.int .i64 n1, .int .i64 ones2, .int .i64 group3] w fun e w' => ∃ r0 : Int, ∃ r1 : Int, ∃ r2 : Int, e = .returned (.tuple #[.int .i64 r0, .int .i64 r1, .int .i64 r2]) ∧ R r0 r1 r2 w'
theorem C32.mono {n1 : Int} {ones2 : Int} {group3 : Int} {w : World} {R R' : Int → Int → Int → World → Prop} (h : C32 n1 ones2 group3 w R) (hr : ∀ r0 r1 r2 w', R r0 r1 r2 w' → R' r0 r1 r2 w') : C32 n1 ones2 group3 w R' :=
  Calls.mono h fun _ _ ⟨r0, r1, r2, he, hR⟩ => ⟨r0, r1, r2, he, hr _ _ _ _ hR⟩
def C16 (size1 : Int) (w : World) (R : Int → Int → Int → Int → World → Prop) : Prop :=
  Calls Try.prog 16 #[.int .i64 size1] w fun e w' => ∃ r0 : Int, ∃ r1 : Int, ∃ r2 : Int, ∃ r3 : Int, e = .returned (.tuple #[.int .i64 r0, .int .i64 r1, .int .i64 r2, .int .i64 r3]) ∧ R r0 r1 r2 r3 w'
theorem C16.mono {size1 : Int} {w : World} {R R' : Int → Int → Int → Int → World → Prop} (h : C16 size1 w R) (hr : ∀ r0 r1 r2 r3 w', R r0 r1 r2 r3 w' → R' r0 r1 r2 r3 w') : C16 size1 w R' :=
  Calls.mono h fun _ _ ⟨r0, r1, r2, r3, he, hR⟩ => ⟨r0, r1, r2, r3, he, hr _ _ _ _ _ hR⟩
def C18 (far1 : Int) (w : World) (R : Int → Int → Int → Int → World → Prop) : Prop :=
  Calls Try.prog 18 #[.int .i64 far1] w fun e w' => ∃ r0 : Int, ∃ r1 : Int, ∃ r2 : Int, ∃ r3 : Int, e = .returned (.tuple #[.int .i64 r0, .int .i64 r1, .int .i64 r2, .int .i64 r3]) ∧ R r0 r1 r2 r3 w'
theorem C18.mono {far1 : Int} {w : World} {R R' : Int → Int → Int → Int → World → Prop} (h : C18 far1 w R) (hr : ∀ r0 r1 r2 r3 w', R r0 r1 r2 r3 w' → R' r0 r1 r2 r3 w') : C18 far1 w R' :=
  Calls.mono h fun _ _ ⟨r0, r1, r2, r3, he, hR⟩ => ⟨r0, r1, r2, r3, he, hr _ _ _ _ _ hR⟩
def C17 (size1 : Int) (w : World) (R : Int → Int → Int → Int → World → Prop) : Prop :=
  Calls Try.prog 17 #[.int .i64 size1] w fun e w' => ∃ r0 : Int, ∃ r1 : Int, ∃ r2 : Int, ∃ r3 : Int, e = .returned (.tuple #[.int .i64 r0, .int .i64 r1, .int .i64 r2, .int .i64 r3]) ∧ R r0 r1 r2 r3 w'
theorem C17.mono {size1 : Int} {w : World} {R R' : Int → Int → Int → Int → World → Prop} (h : C17 size1 w R) (hr : ∀ r0 r1 r2 r3 w', R r0 r1 r2 r3 w' → R' r0 r1 r2 r3 w') : C17 size1 w R' :=
  Calls.mono h fun _ _ ⟨r0, r1, r2, r3, he, hR⟩ => ⟨r0, r1, r2, r3, he, hr _ _ _ _ _ hR⟩
def C19 (far1 : Int) (w : World) (R : Int → Int → Int → Int → World → Prop) : Prop :=
  Calls Try.prog 19 #[.int .i64 far1] w fun e w' => ∃ r0 : Int, ∃ r1 : Int, ∃ r2 : Int, ∃ r3 : Int, e = .returned (.tuple #[.int .i64 r0, .int .i64 r1, .int .i64 r2, .int .i64 r3]) ∧ R r0 r1 r2 r3 w'
theorem C19.mono {far1 : Int} {w : World} {R R' : Int → Int → Int → Int → World → Prop} (h : C19 far1 w R) (hr : ∀ r0 r1 r2 r3 w', R r0 r1 r2 r3 w' → R' r0 r1 r2 r3 w') : C19 far1 w R' :=
  Calls.mono h fun _ _ ⟨r0, r1, r2, r3, he, hR⟩ => ⟨r0, r1, r2, r3, he, hr _ _ _ _ _ hR⟩
def C31 (p1 : Int × Int × Int) (w : World) (R : Bool → World → Prop) : Prop :=
  Calls Try.prog 31 #[.agg #[.int .u8 (p1.1), .int .i64 (p1.2.1), .int .i64 (p1.2.2)]] w fun e w' => ∃ r0 : Bool, e = .returned (.bool r0) ∧ R r0 w'
theorem C31.mono {p1 : Int × Int × Int} {w : World} {R R' : Bool → World → Prop} (h : C31 p1 w R) (hr : ∀ r0 w', R r0 w' → R' r0 w') : C31 p1 w R' :=
  Calls.mono h fun _ _ ⟨r0, he, hR⟩ => ⟨r0, he, hr _ _ hR⟩
def C13 (l1 : Slc) (w : World) (R : ByteArray → Int → World → Prop) : Prop :=
  Calls Try.prog 13 #[Slc.v l1] w fun e w' => ∃ r0 : ByteArray, ∃ r1 : Int, e = .returned (.tuple #[.string r0, .int .i64 r1]) ∧ R r0 r1 w'
theorem C13.mono {l1 : Slc} {w : World} {R R' : ByteArray → Int → World → Prop} (h : C13 l1 w R) (hr : ∀ r0 r1 w', R r0 r1 w' → R' r0 r1 w') : C13 l1 w R' :=
  Calls.mono h fun _ _ ⟨r0, r1, he, hR⟩ => ⟨r0, r1, he, hr _ _ _ hR⟩
def C14 (l1 : Slc) (w : World) (R : ByteArray → Int → World → Prop) : Prop :=
  Calls Try.prog 14 #[Slc.v l1] w fun e w' => ∃ r0 : ByteArray, ∃ r1 : Int, e = .returned (.tuple #[.string r0, .int .i64 r1]) ∧ R r0 r1 w'
theorem C14.mono {l1 : Slc} {w : World} {R R' : ByteArray → Int → World → Prop} (h : C14 l1 w R) (hr : ∀ r0 r1 w', R r0 r1 w' → R' r0 r1 w') : C14 l1 w R' :=
  Calls.mono h fun _ _ ⟨r0, r1, he, hR⟩ => ⟨r0, r1, he, hr _ _ _ hR⟩
def C57 (s1 : ByteArray) (a2 : Int) (b3 : Int) (most4 : Int) (w : World) (R : Int → World → Prop) : Prop :=
  Calls Try.prog 57 #[.string s1, .int .i64 a2, .int .i64 b3, .int .i64 most4] w fun e w' => ∃ r0 : Int, e = .returned (.int .i64 r0) ∧ R r0 w'
theorem C57.mono {s1 : ByteArray} {a2 : Int} {b3 : Int} {most4 : Int} {w : World} {R R' : Int → World → Prop} (h : C57 s1 a2 b3 most4 w R) (hr : ∀ r0 w', R r0 w' → R' r0 w') : C57 s1 a2 b3 most4 w R' :=
  Calls.mono h fun _ _ ⟨r0, he, hR⟩ => ⟨r0, he, hr _ _ hR⟩
def C28 (t1 : Option Nat) (s2 : ByteArray) (vat3 : Int) (w : World) (R : (Int × Int × Int) → World → Prop) : Prop :=
  Calls Try.prog 28 #[.map t1, .string s2, .int .i64 vat3] w fun e w' => ∃ r0 : Int × Int × Int, e = .returned (.agg #[.int .u8 (r0.1), .int .i64 (r0.2.1), .int .i64 (r0.2.2)]) ∧ R r0 w'
theorem C28.mono {t1 : Option Nat} {s2 : ByteArray} {vat3 : Int} {w : World} {R R' : (Int × Int × Int) → World → Prop} (h : C28 t1 s2 vat3 w R) (hr : ∀ r0 w', R r0 w' → R' r0 w') : C28 t1 s2 vat3 w R' :=
  Calls.mono h fun _ _ ⟨r0, he, hR⟩ => ⟨r0, he, hr _ _ hR⟩
def C29 (t1 : Option Nat) (s2 : ByteArray) (vfrom3 : Int) (to4 : Int) (w : World) (R : World → Prop) : Prop :=
  Calls Try.prog 29 #[.map t1, .string s2, .int .i64 vfrom3, .int .i64 to4] w fun e w' => e = .returned (.tuple #[]) ∧ R w'
theorem C29.mono {t1 : Option Nat} {s2 : ByteArray} {vfrom3 : Int} {to4 : Int} {w : World} {R R' : World → Prop} (h : C29 t1 s2 vfrom3 to4 w R) (hr : ∀ w', R w' → R' w') : C29 t1 s2 vfrom3 to4 w R' :=
  Calls.mono h fun _ _ ⟨he, hR⟩ => ⟨he, hr _ hR⟩
def C11 (s1 : ByteArray) (w : World) (R : Slc → World → Prop) : Prop :=
  Calls Try.prog 11 #[.string s1] w fun e w' => ∃ r0 : Slc, e = .returned (Slc.v r0) ∧ R r0 w'
theorem C11.mono {s1 : ByteArray} {w : World} {R R' : Slc → World → Prop} (h : C11 s1 w R) (hr : ∀ r0 w', R r0 w' → R' r0 w') : C11 s1 w R' :=
  Calls.mono h fun _ _ ⟨r0, he, hR⟩ => ⟨r0, he, hr _ _ hR⟩
def C30 (s1 : ByteArray) (vat2 : Int) (w : World) (R : Int → Int → World → Prop) : Prop :=
  Calls Try.prog 30 #[.string s1, .int .i64 vat2] w fun e w' => ∃ r0 : Int, ∃ r1 : Int, e = .returned (.tuple #[.int .i64 r0, .int .i64 r1]) ∧ R r0 r1 w'
theorem C30.mono {s1 : ByteArray} {vat2 : Int} {w : World} {R R' : Int → Int → World → Prop} (h : C30 s1 vat2 w R) (hr : ∀ r0 r1 w', R r0 r1 w' → R' r0 r1 w') : C30 s1 vat2 w R' :=
  Calls.mono h fun _ _ ⟨r0, r1, he, hR⟩ => ⟨r0, r1, he, hr _ _ _ hR⟩
def C12 (s1 : ByteArray) (w : World) (R : Slc → World → Prop) : Prop :=
  Calls Try.prog 12 #[.string s1] w fun e w' => ∃ r0 : Slc, e = .returned (Slc.v r0) ∧ R r0 w'
theorem C12.mono {s1 : ByteArray} {w : World} {R R' : Slc → World → Prop} (h : C12 s1 w R) (hr : ∀ r0 w', R r0 w' → R' r0 w') : C12 s1 w R' :=
  Calls.mono h fun _ _ ⟨r0, he, hR⟩ => ⟨r0, he, hr _ _ hR⟩
def C22 (s1 : ByteArray) (w : World) (R : ByteArray → World → Prop) : Prop :=
  Calls Try.prog 22 #[.string s1] w fun e w' => ∃ r0 : ByteArray, e = .returned (.string r0) ∧ R r0 w'
theorem C22.mono {s1 : ByteArray} {w : World} {R R' : ByteArray → World → Prop} (h : C22 s1 w R) (hr : ∀ r0 w', R r0 w' → R' r0 w') : C22 s1 w R' :=
  Calls.mono h fun _ _ ⟨r0, he, hR⟩ => ⟨r0, he, hr _ _ hR⟩
def C15 (s1 : ByteArray) (level2 : Int) (w : World) (R : ByteArray → Int → World → Prop) : Prop :=
  Calls Try.prog 15 #[.string s1, .int .i64 level2] w fun e w' => ∃ r0 : ByteArray, ∃ r1 : Int, e = .returned (.tuple #[.string r0, .int .i64 r1]) ∧ R r0 r1 w'
theorem C15.mono {s1 : ByteArray} {level2 : Int} {w : World} {R R' : ByteArray → Int → World → Prop} (h : C15 s1 level2 w R) (hr : ∀ r0 r1 w', R r0 r1 w' → R' r0 r1 w') : C15 s1 level2 w R' :=
  Calls.mono h fun _ _ ⟨r0, r1, he, hR⟩ => ⟨r0, r1, he, hr _ _ _ hR⟩

def S32L1 (group3 : Int) (R : Int → Int → Int → World → Prop) (I9 : (Int × Int × Int) → World → Prop) (s7 : Int × Int × Int) (vw8 : World) : Prop :=
  0 ≤ s7.2.2 ∧ Br (decide (s7.1 ≥ (IntKind.i64.wrap (group3 * 2 ^ (min (s7.2.2).toNat 64))))) (0 ≤ s7.2.2 ∧ I9 (IntKind.i64.wrap (s7.1 - (IntKind.i64.wrap (group3 * 2 ^ (min (s7.2.2).toNat 64)))), IntKind.i64.wrap (s7.2.1 + group3), IntKind.i64.wrap (s7.2.2 + 1)) vw8) (0 ≤ s7.2.2 ∧ 0 ≤ s7.2.2 ∧ Lt (iand .i64 s7.1 (IntKind.i64.wrap ((IntKind.i64.wrap (1 * 2 ^ (min (s7.2.2).toNat 64))) - 1))) fun (x10 : Int) =>
    R (IntKind.i64.wrap (s7.2.1 + (Int.fdiv s7.1 (2 ^ (min (s7.2.2).toNat 64))))) x10 s7.2.2 vw8.drew)
/-- foliant/deflate.said -/
def S32 (n1 : Int) (ones2 : Int) (group3 : Int) (w : World) (R : Int → Int → Int → World → Prop) : Prop :=
  Br (decide (n1 < ones2)) (R n1 0 0 w) (Lp (σ := Int × Int × Int) (S32L1 group3 R) (IntKind.i64.wrap (n1 - ones2), ones2, 1) w)
def pl32 : Plan := (.seq (.reg .seq) (.seq (.seq (.reg .seq) (.cond (.seq (.reg .seq) .leaf) .leaf)) (.seq (.reg .seq) (.seq (.seq (.reg .seq) (.block (.loop [(0, (.one (.int .i64))), (6, (.one (.int .i64))), (8, (.one (.int .i64)))] [2] (.seq (.seq (.reg .seq) (.cond .leaf .leaf)) (.seq (.block (.reg .seq)) (.reg .seq)))))) (.seq (.reg .still) .leaf)))))
set_option maxRecDepth 100000 in
theorem T32 (n1 : Int) (ones2 : Int) (group3 : Int) (w : World) (R : Int → Int → Int → World → Prop) (h : S32 n1 ones2 group3 w R) : C32 n1 ones2 group3 w R := by
  have e : fnT Try.prog ⟨FF, MAY, (fun _ _ => False)⟩ pl32 Try.f32 [.int .i64 n1, .int .i64 ones2, .int .i64 group3] w [(.one (.int .i64)), (.one (.int .i64)), (.one (.int .i64))] (fun s w => R s.1 s.2.1 s.2.2 w) = S32 n1 ones2 group3 w R := by kernel_rfl
  exact (fn_calls okF okM Try.func32 (by kernel_rfl) (by kernel_rfl) (e.mpr h)).mono fun _ _ ⟨s, he, hR⟩ => ⟨s.1, s.2.1, s.2.2, he, hR⟩

/-- foliant/deflate.Sign -/
def S16 (size1 : Int) (w : World) (R : Int → Int → Int → Int → World → Prop) : Prop :=
  Br (decide (size1 < 3)) (R 0 0 0 1 w) (Br (decide (size1 > 258)) (R 0 0 0 1 w) (Br (size1 == 258) (R 285 0 0 0 w) (C32 (IntKind.i64.wrap (size1 - 3)) 8 4 w fun r2 r3 r4 vw5 =>
          R (IntKind.i64.wrap (257 + r2)) r3 r4 0 vw5)))
def pl16 : Plan := (.seq (.reg .seq) (.seq (.block (.seq (.reg .seq) (.cond (.seq (.reg .seq) .leaf) (.seq (.reg .seq) (.cond (.seq (.reg .seq) .leaf) .leaf))))) (.seq (.reg .seq) (.seq (.reg .seq) .leaf))))
set_option maxRecDepth 100000 in
theorem T16 (size1 : Int) (w : World) (R : Int → Int → Int → Int → World → Prop) (h : S16 size1 w R) : C16 size1 w R := by
  have e : fnT Try.prog ⟨FF, MAY, (fun _ _ => False)⟩ pl16 Try.f16 [.int .i64 size1] w [(.one (.int .i64)), (.one (.int .i64)), (.one (.int .i64)), (.one (.int .i64))] (fun s w => R s.1 s.2.1 s.2.2.1 s.2.2.2 w) = S16 size1 w R := by kernel_rfl
  exact (fn_calls okF okM Try.func16 (by kernel_rfl) (by kernel_rfl) (e.mpr h)).mono fun _ _ ⟨s, he, hR⟩ => ⟨s.1, s.2.1, s.2.2.1, s.2.2.2, he, hR⟩

/-- foliant/deflate.Back -/
def S18 (far1 : Int) (w : World) (R : Int → Int → Int → Int → World → Prop) : Prop :=
  Br (decide (far1 < 1)) (R 0 0 0 1 w) (Br (decide (far1 > 32768)) (R 0 0 0 1 w) (C32 (IntKind.i64.wrap (far1 - 1)) 4 2 w fun r2 r3 r4 vw5 =>
        R r2 r3 r4 0 vw5))
def pl18 : Plan := (.seq (.reg .seq) (.seq (.seq (.reg .seq) (.cond (.seq (.reg .seq) .leaf) .leaf)) (.seq (.reg .seq) (.seq (.reg .seq) .leaf))))
set_option maxRecDepth 100000 in
theorem T18 (far1 : Int) (w : World) (R : Int → Int → Int → Int → World → Prop) (h : S18 far1 w R) : C18 far1 w R := by
  have e : fnT Try.prog ⟨FF, MAY, (fun _ _ => False)⟩ pl18 Try.f18 [.int .i64 far1] w [(.one (.int .i64)), (.one (.int .i64)), (.one (.int .i64)), (.one (.int .i64))] (fun s w => R s.1 s.2.1 s.2.2.1 s.2.2.2 w) = S18 far1 w R := by kernel_rfl
  exact (fn_calls okF okM Try.func18 (by kernel_rfl) (by kernel_rfl) (e.mpr h)).mono fun _ _ ⟨s, he, hR⟩ => ⟨s.1, s.2.1, s.2.2.1, s.2.2.2, he, hR⟩

def S17L1 (size1 : Int) (R : Int → Int → Int → Int → World → Prop) (I9 : (Int × Int × Int) → World → Prop) (s7 : Int × Int × Int) (vw8 : World) : Prop :=
  0 ≤ s7.2.1 ∧ Lt (decide (size1 ≥ (IntKind.i64.wrap (s7.2.2 + (IntKind.i64.wrap (1 * 2 ^ (min (s7.2.1).toNat 64))))))) fun (x10 : Bool) =>
  Br x10 (0 ≤ s7.2.1 ∧ Br (decide ((IntKind.i64.wrap (s7.1 + 1)) > 264)) (Br ((Int.tmod (IntKind.i64.wrap (s7.1 + 1)) 4) == 1) (I9 (IntKind.i64.wrap (s7.1 + 1), IntKind.i64.wrap (s7.2.1 + 1), IntKind.i64.wrap (s7.2.2 + (IntKind.i64.wrap (1 * 2 ^ (min (s7.2.1).toNat 64))))) vw8) (I9 (IntKind.i64.wrap (s7.1 + 1), s7.2.1, IntKind.i64.wrap (s7.2.2 + (IntKind.i64.wrap (1 * 2 ^ (min (s7.2.1).toNat 64))))) vw8)) (I9 (IntKind.i64.wrap (s7.1 + 1), s7.2.1, IntKind.i64.wrap (s7.2.2 + (IntKind.i64.wrap (1 * 2 ^ (min (s7.2.1).toNat 64))))) vw8)) (R s7.1 (IntKind.i64.wrap (size1 - s7.2.2)) s7.2.1 0 vw8)
/-- foliant/foliantref12.Sign -/
def S17 (size1 : Int) (w : World) (R : Int → Int → Int → Int → World → Prop) : Prop :=
  Br (decide (size1 < 3)) (R 0 0 0 1 w) (Br (decide (size1 > 258)) (R 0 0 0 1 w) (Br (size1 == 258) (R 285 0 0 0 w) (Lp (σ := Int × Int × Int) (S17L1 size1 R) (257, 0, 3) w)))
def pl17 : Plan := (.seq (.reg .seq) (.seq (.seq (.reg .seq) (.cond (.seq (.reg .seq) .leaf) .leaf)) (.seq (.seq (.reg .seq) (.cond (.seq (.reg .seq) .leaf) .leaf)) (.seq (.reg .seq) (.seq (.block (.loop [(2, (.one (.int .i64))), (4, (.one (.int .i64))), (6, (.one (.int .i64)))] [0] (.seq (.seq (.reg .seq) (.cond .leaf .leaf)) (.block (.seq (.reg .seq) (.seq (.reg .seq) (.seq (.reg .seq) (.cond (.reg .seq) .leaf)))))))) (.seq (.reg .seq) .leaf))))))
set_option maxRecDepth 100000 in
theorem T17 (size1 : Int) (w : World) (R : Int → Int → Int → Int → World → Prop) (h : S17 size1 w R) : C17 size1 w R := by
  have e : fnT Try.prog ⟨FF, MAY, (fun _ _ => False)⟩ pl17 Try.f17 [.int .i64 size1] w [(.one (.int .i64)), (.one (.int .i64)), (.one (.int .i64)), (.one (.int .i64))] (fun s w => R s.1 s.2.1 s.2.2.1 s.2.2.2 w) = S17 size1 w R := by kernel_rfl
  exact (fn_calls okF okM Try.func17 (by kernel_rfl) (by kernel_rfl) (e.mpr h)).mono fun _ _ ⟨s, he, hR⟩ => ⟨s.1, s.2.1, s.2.2.1, s.2.2.2, he, hR⟩

def S19L1 (far1 : Int) (R : Int → Int → Int → Int → World → Prop) (I9 : (Int × Int × Int) → World → Prop) (s7 : Int × Int × Int) (vw8 : World) : Prop :=
  0 ≤ s7.2.1 ∧ Lt (decide (far1 ≥ (IntKind.i64.wrap (s7.2.2 + (IntKind.i64.wrap (1 * 2 ^ (min (s7.2.1).toNat 64))))))) fun (x10 : Bool) =>
  Br x10 (0 ≤ s7.2.1 ∧ Br (decide ((IntKind.i64.wrap (s7.1 + 1)) > 3)) (Br ((Int.tmod (IntKind.i64.wrap (s7.1 + 1)) 2) == 0) (I9 (IntKind.i64.wrap (s7.1 + 1), IntKind.i64.wrap (s7.2.1 + 1), IntKind.i64.wrap (s7.2.2 + (IntKind.i64.wrap (1 * 2 ^ (min (s7.2.1).toNat 64))))) vw8) (I9 (IntKind.i64.wrap (s7.1 + 1), s7.2.1, IntKind.i64.wrap (s7.2.2 + (IntKind.i64.wrap (1 * 2 ^ (min (s7.2.1).toNat 64))))) vw8)) (I9 (IntKind.i64.wrap (s7.1 + 1), s7.2.1, IntKind.i64.wrap (s7.2.2 + (IntKind.i64.wrap (1 * 2 ^ (min (s7.2.1).toNat 64))))) vw8)) (R s7.1 (IntKind.i64.wrap (far1 - s7.2.2)) s7.2.1 0 vw8)
/-- foliant/foliantref12.Back -/
def S19 (far1 : Int) (w : World) (R : Int → Int → Int → Int → World → Prop) : Prop :=
  Br (decide (far1 < 1)) (R 0 0 0 1 w) (Br (decide (far1 > 32768)) (R 0 0 0 1 w) (Lp (σ := Int × Int × Int) (S19L1 far1 R) (0, 0, 1) w))
def pl19 : Plan := (.seq (.reg .seq) (.seq (.seq (.reg .seq) (.cond (.seq (.reg .seq) .leaf) .leaf)) (.seq (.reg .seq) (.seq (.block (.loop [(2, (.one (.int .i64))), (4, (.one (.int .i64))), (6, (.one (.int .i64)))] [0] (.seq (.seq (.reg .seq) (.cond .leaf .leaf)) (.block (.seq (.reg .seq) (.seq (.reg .seq) (.seq (.reg .seq) (.cond (.reg .seq) .leaf)))))))) (.seq (.reg .seq) .leaf)))))
set_option maxRecDepth 100000 in
theorem T19 (far1 : Int) (w : World) (R : Int → Int → Int → Int → World → Prop) (h : S19 far1 w R) : C19 far1 w R := by
  have e : fnT Try.prog ⟨FF, MAY, (fun _ _ => False)⟩ pl19 Try.f19 [.int .i64 far1] w [(.one (.int .i64)), (.one (.int .i64)), (.one (.int .i64)), (.one (.int .i64))] (fun s w => R s.1 s.2.1 s.2.2.1 s.2.2.2 w) = S19 far1 w R := by kernel_rfl
  exact (fn_calls okF okM Try.func19 (by kernel_rfl) (by kernel_rfl) (e.mpr h)).mono fun _ _ ⟨s, he, hR⟩ => ⟨s.1, s.2.1, s.2.2.1, s.2.2.2, he, hR⟩

/-- foliant/deflate.may -/
def S31 (p1 : Int × Int × Int) (w : World) (R : Bool → World → Prop) : Prop :=
  Nw w (.cells #[.int .u8 (p1.1), .int .i64 (p1.2.1), .int .i64 (p1.2.2)] 34) fun vw2 =>
  Ld vw2 ((⟨w.heap.size, 0, none⟩ : Addr).add 1) (Value.int .i64) fun (x5 : Int) =>
  Br (x5 == 0) (Ld vw2 ((⟨w.heap.size, 0, none⟩ : Addr).add 2) (Value.int .i64) fun (x6 : Int) =>
    R (x6 == 0) vw2) (Ld vw2 (⟨w.heap.size, 0, none⟩ : Addr) (Value.int .u8) fun (x7 : Int) =>
    Br (x7 == 0) (Ld vw2 ((⟨w.heap.size, 0, none⟩ : Addr).add 1) (Value.int .i64) fun (x8 : Int) =>
      Br (decide (x8 ≥ 3)) (Ld vw2 ((⟨w.heap.size, 0, none⟩ : Addr).add 1) (Value.int .i64) fun (x9 : Int) =>
        Br (decide (x9 ≤ 258)) (Ld vw2 ((⟨w.heap.size, 0, none⟩ : Addr).add 2) (Value.int .i64) fun (x10 : Int) =>
          Br (decide (x10 ≥ 1)) (Ld vw2 ((⟨w.heap.size, 0, none⟩ : Addr).add 2) (Value.int .i64) fun (x11 : Int) =>
            R (decide (x11 ≤ 32768)) vw2) (R false vw2)) (R false vw2)) (R false vw2)) (R false vw2))
def pl31 : Plan := (.seq (.reg .seq) (.seq (.seq (.reg .seq) (.cond (.seq (.reg .seq) .leaf) .leaf)) (.seq (.reg .seq) .leaf)))
set_option maxRecDepth 100000 in
theorem T31 (p1 : Int × Int × Int) (w : World) (R : Bool → World → Prop) (h : S31 p1 w R) : C31 (p1.1, p1.2.1, p1.2.2) w R := by
  have e : fnT Try.prog ⟨FF, MAY, (fun _ _ => False)⟩ pl31 Try.f31 [.agg #[.int .u8 (p1.1), .int .i64 (p1.2.1), .int .i64 (p1.2.2)]] w [(.one .bool)] (fun s w => R s w) = S31 p1 w R := by kernel_rfl
  exact (fn_calls okF okM Try.func31 (by kernel_rfl) (by kernel_rfl) (e.mpr h)).mono fun _ _ ⟨s, he, hR⟩ => ⟨s, he, hR⟩

def S13L1 (s2 : Slc × Int) (vw3 : World) (I4 : (Slc × Int) → World → Prop) (x39 : Int) (I42 : (Slc × Int) → World → Prop) (s40 : Slc × Int) (vw41 : World) : Prop :=
  Br (decide (s40.2 < x39)) (Ld vw41 ((⟨vw3.heap.size, 0, none⟩ : Addr).add 2) (Value.int .i64) fun (x43 : Int) =>
    0 ≤ (IntKind.i64.wrap (((s40.1.len : Nat) : Int) - x43)) ∧ (IntKind.i64.wrap (((s40.1.len : Nat) : Int) - x43)) < (s40.1.len : Nat) ∧ Nn s40.1.p fun a44 =>
    Ld vw41 (a44.add ((IntKind.i64.wrap (((s40.1.len : Nat) : Int) - x43)).toNat * 1)) (Value.int .u8) fun (x45 : Int) =>
    Nw vw41 (.cells #[.int .u8 x45] 5) fun vw46 =>
    Rn Try.prog (Builtin.append_ #[40, 40] 40 #[Slc.v s40.1, Slc.v ((⟨some ⟨vw41.heap.size, 0, none⟩, 1, 1⟩ : Slc))]) vw46 Slc.v fun (x47 : Slc) vw48 =>
    I42 (x47, IntKind.i64.wrap (s40.2 + 1)) vw48) (I4 (s40.1, IntKind.i64.wrap (s2.2 + 1)) vw41)
def S13L2 (s2 : Slc × Int) (vw3 : World) (I4 : (Slc × Int) → World → Prop) (x49 : Int) (I52 : (Slc × Int) → World → Prop) (s50 : Slc × Int) (vw51 : World) : Prop :=
  Br (decide (s50.2 < x49)) (Ld vw51 ((⟨vw3.heap.size, 0, none⟩ : Addr).add 2) (Value.int .i64) fun (x53 : Int) =>
    0 ≤ (IntKind.i64.wrap (((s50.1.len : Nat) : Int) - x53)) ∧ (IntKind.i64.wrap (((s50.1.len : Nat) : Int) - x53)) < (s50.1.len : Nat) ∧ Nn s50.1.p fun a54 =>
    Ld vw51 (a54.add ((IntKind.i64.wrap (((s50.1.len : Nat) : Int) - x53)).toNat * 1)) (Value.int .u8) fun (x55 : Int) =>
    Nw vw51 (.cells #[.int .u8 x55] 5) fun vw56 =>
    Rn Try.prog (Builtin.append_ #[40, 40] 40 #[Slc.v s50.1, Slc.v ((⟨some ⟨vw51.heap.size, 0, none⟩, 1, 1⟩ : Slc))]) vw56 Slc.v fun (x57 : Slc) vw58 =>
    I52 (x57, IntKind.i64.wrap (s50.2 + 1)) vw58) (I4 (s50.1, IntKind.i64.wrap (s2.2 + 1)) vw51)
def S13L3 (l1 : Slc) (R : ByteArray → Int → World → Prop) (I4 : (Slc × Int) → World → Prop) (s2 : Slc × Int) (vw3 : World) : Prop :=
  Br (decide (s2.2 < ((l1.len : Nat) : Int))) (0 ≤ s2.2 ∧ s2.2 < (l1.len : Nat) ∧ Nn l1.p fun a5 =>
    Ld vw3 (a5.add ((s2.2).toNat * 3)) (Value.int .u8) fun (x6 : Int) =>
    Ld vw3 ((a5.add ((s2.2).toNat * 3)).add 1) (Value.int .i64) fun (x7 : Int) =>
    Ld vw3 ((a5.add ((s2.2).toNat * 3)).add 2) (Value.int .i64) fun (x8 : Int) =>
    Nw vw3 (.cells #[.int .u8 0, .int .i64 0, .int .i64 0] 34) fun vw9 =>
    St vw9 (⟨vw3.heap.size, 0, none⟩ : Addr) (.int .u8 x6) fun vw10 =>
    St vw10 ((⟨vw3.heap.size, 0, none⟩ : Addr).add 1) (.int .i64 x7) fun vw11 =>
    St vw11 ((⟨vw3.heap.size, 0, none⟩ : Addr).add 2) (.int .i64 x8) fun vw12 =>
    Ld vw12 (⟨vw3.heap.size, 0, none⟩ : Addr) (Value.int .u8) fun (x21 : Int) =>
    Ld vw12 ((⟨vw3.heap.size, 0, none⟩ : Addr).add 1) (Value.int .i64) fun (x22 : Int) =>
    Ld vw12 ((⟨vw3.heap.size, 0, none⟩ : Addr).add 2) (Value.int .i64) fun (x23 : Int) =>
    C31 (x21, x22, x23) vw12 fun r24 vw25 =>
      Br (!r24) (R (⟨#[]⟩ : ByteArray) 1 vw25) (Ld vw25 ((⟨vw3.heap.size, 0, none⟩ : Addr).add 2) (Value.int .i64) fun (x26 : Int) =>
        Br (decide (x26 > ((s2.1.len : Nat) : Int))) (R (⟨#[]⟩ : ByteArray) 14 vw25) (Ld vw25 ((⟨vw3.heap.size, 0, none⟩ : Addr).add 1) (Value.int .i64) fun (x27 : Int) =>
          Lt (decide ((IntKind.i64.wrap (((s2.1.len : Nat) : Int) + (if 1 > x27 then 1 else x27))) > 1048576)) fun (x28 : Bool) =>
          Br x28 (R (⟨#[]⟩ : ByteArray) 5 vw25) (Ld vw25 ((⟨vw3.heap.size, 0, none⟩ : Addr).add 1) (Value.int .i64) fun (x34 : Int) =>
            Br (x34 == 0) (Ld vw25 (⟨vw3.heap.size, 0, none⟩ : Addr) (Value.int .u8) fun (x35 : Int) =>
              Nw vw25 (.cells #[.int .u8 x35] 5) fun vw36 =>
              Rn Try.prog (Builtin.append_ #[40, 40] 40 #[Slc.v s2.1, Slc.v ((⟨some ⟨vw25.heap.size, 0, none⟩, 1, 1⟩ : Slc))]) vw36 Slc.v fun (x37 : Slc) vw38 =>
              Ld vw38 ((⟨vw3.heap.size, 0, none⟩ : Addr).add 1) (Value.int .i64) fun (x39 : Int) =>
              Lp (σ := Slc × Int) (S13L1 s2 vw3 I4 x39) (x37, 0) vw38) (Ld vw25 ((⟨vw3.heap.size, 0, none⟩ : Addr).add 1) (Value.int .i64) fun (x49 : Int) =>
              Lp (σ := Slc × Int) (S13L2 s2 vw3 I4 x49) (s2.1, 0) vw25))))) (Rn Try.prog (convert 40 9 (Slc.v s2.1)) vw3 Value.string fun (x59 : ByteArray) vw60 =>
    R x59 0 vw60)
/-- foliant/deflate.Unparts -/
def S13 (l1 : Slc) (w : World) (R : ByteArray → Int → World → Prop) : Prop :=
  Lp (σ := Slc × Int) (S13L3 l1 R) ((⟨none, 0, 0⟩ : Slc), 0) w
def pl13 : Plan := (.seq (.reg .seq) (.seq (.reg .seq) (.seq (.seq (.reg .seq) (.block (.loop [(4, (.one .slc)), (9, (.one (.int .i64)))] [7, 8] (.seq (.reg .seq) (.seq (.cond .leaf .leaf) (.seq (.block (.seq (.reg .seq) (.seq (.block (.seq (.reg .seq) (.cond (.seq (.reg .seq) .leaf) (.seq (.reg .seq) (.cond (.seq (.reg .seq) .leaf) (.seq (.reg .seq) (.cond (.seq (.reg .seq) .leaf) .leaf))))))) (.seq (.seq (.reg .seq) (.cond (.reg .seq) .leaf)) (.seq (.reg .seq) (.block (.loop [(4, (.one .slc)), (41, (.one (.int .i64)))] [6, 7, 8, 9, 40] (.seq (.reg .seq) (.seq (.cond .leaf .leaf) (.seq (.block (.reg .seq)) (.reg .seq))))))))))) (.reg .seq))))))) (.seq (.reg .seq) .leaf))))
set_option maxRecDepth 100000 in
theorem T13 (l1 : Slc) (w : World) (R : ByteArray → Int → World → Prop) (h : S13 l1 w R) : C13 l1 w R := by
  have e : fnT Try.prog ⟨FF, MAY, (fun _ _ => False)⟩ pl13 Try.f13 [Slc.v l1] w [(.one .str), (.one (.int .i64))] (fun s w => R s.1 s.2 w) = S13 l1 w R := by kernel_rfl
  exact (fn_calls okF okM Try.func13 (by kernel_rfl) (by kernel_rfl) (e.mpr h)).mono fun _ _ ⟨s, he, hR⟩ => ⟨s.1, s.2, he, hR⟩

def S14L1 (s2 : Slc × Int) (vw3 : World) (I4 : (Slc × Int) → World → Prop) (I47 : (Slc × Int) → World → Prop) (s45 : Slc × Int) (vw46 : World) : Prop :=
  Ld vw46 ((⟨vw3.heap.size, 0, none⟩ : Addr).add 1) (Value.int .i64) fun (x49 : Int) =>
  Br (decide (s45.2 < x49)) (Ld vw46 ((⟨vw3.heap.size, 0, none⟩ : Addr).add 2) (Value.int .i64) fun (x50 : Int) =>
    0 ≤ (IntKind.i64.wrap (((s45.1.len : Nat) : Int) - x50)) ∧ (IntKind.i64.wrap (((s45.1.len : Nat) : Int) - x50)) < (s45.1.len : Nat) ∧ Nn s45.1.p fun a51 =>
    Ld vw46 (a51.add ((IntKind.i64.wrap (((s45.1.len : Nat) : Int) - x50)).toNat * 1)) (Value.int .u8) fun (x52 : Int) =>
    Nw vw46 (.cells #[.int .u8 x52] 5) fun vw53 =>
    Rn Try.prog (Builtin.append_ #[40, 40] 40 #[Slc.v s45.1, Slc.v ((⟨some ⟨vw46.heap.size, 0, none⟩, 1, 1⟩ : Slc))]) vw53 Slc.v fun (x54 : Slc) vw55 =>
    I47 (x54, IntKind.i64.wrap (s45.2 + 1)) vw55) (I4 (s45.1, IntKind.i64.wrap (s2.2 + 1)) vw46)
def S14L2 (s2 : Slc × Int) (vw3 : World) (I4 : (Slc × Int) → World → Prop) (I58 : (Slc × Int) → World → Prop) (s56 : Slc × Int) (vw57 : World) : Prop :=
  Ld vw57 ((⟨vw3.heap.size, 0, none⟩ : Addr).add 1) (Value.int .i64) fun (x59 : Int) =>
  Br (decide (s56.2 < x59)) (Ld vw57 ((⟨vw3.heap.size, 0, none⟩ : Addr).add 2) (Value.int .i64) fun (x60 : Int) =>
    0 ≤ (IntKind.i64.wrap (((s56.1.len : Nat) : Int) - x60)) ∧ (IntKind.i64.wrap (((s56.1.len : Nat) : Int) - x60)) < (s56.1.len : Nat) ∧ Nn s56.1.p fun a61 =>
    Ld vw57 (a61.add ((IntKind.i64.wrap (((s56.1.len : Nat) : Int) - x60)).toNat * 1)) (Value.int .u8) fun (x62 : Int) =>
    Nw vw57 (.cells #[.int .u8 x62] 5) fun vw63 =>
    Rn Try.prog (Builtin.append_ #[40, 40] 40 #[Slc.v s56.1, Slc.v ((⟨some ⟨vw57.heap.size, 0, none⟩, 1, 1⟩ : Slc))]) vw63 Slc.v fun (x64 : Slc) vw65 =>
    I58 (x64, IntKind.i64.wrap (s56.2 + 1)) vw65) (I4 (s56.1, IntKind.i64.wrap (s2.2 + 1)) vw57)
def S14J1 (s2 : Slc × Int) (vw3 : World) (I4 : (Slc × Int) → World → Prop) (R : ByteArray → Int → World → Prop) (s27 : Unit) (vw28 : World) : Prop :=
  Ld vw28 ((⟨vw3.heap.size, 0, none⟩ : Addr).add 2) (Value.int .i64) fun (x30 : Int) =>
  Br (decide (x30 > ((s2.1.len : Nat) : Int))) (R (⟨#[]⟩ : ByteArray) 14 vw28) (Ld vw28 ((⟨vw3.heap.size, 0, none⟩ : Addr).add 1) (Value.int .i64) fun (x33 : Int) =>
    Lt (decide ((IntKind.i64.wrap (((s2.1.len : Nat) : Int) + (if 1 > x33 then 1 else x33))) > 1048576)) fun (x34 : Bool) =>
    Br x34 (R (⟨#[]⟩ : ByteArray) 5 vw28) (Ld vw28 ((⟨vw3.heap.size, 0, none⟩ : Addr).add 1) (Value.int .i64) fun (x40 : Int) =>
      Br (x40 == 0) (Ld vw28 (⟨vw3.heap.size, 0, none⟩ : Addr) (Value.int .u8) fun (x41 : Int) =>
        Nw vw28 (.cells #[.int .u8 x41] 5) fun vw42 =>
        Rn Try.prog (Builtin.append_ #[40, 40] 40 #[Slc.v s2.1, Slc.v ((⟨some ⟨vw28.heap.size, 0, none⟩, 1, 1⟩ : Slc))]) vw42 Slc.v fun (x43 : Slc) vw44 =>
        Lp (σ := Slc × Int) (S14L1 s2 vw3 I4) (x43, 0) vw44) (Lp (σ := Slc × Int) (S14L2 s2 vw3 I4) (s2.1, 0) vw28)))
def S14L3 (l1 : Slc) (R : ByteArray → Int → World → Prop) (I4 : (Slc × Int) → World → Prop) (s2 : Slc × Int) (vw3 : World) : Prop :=
  Br (decide (s2.2 < ((l1.len : Nat) : Int))) (0 ≤ s2.2 ∧ s2.2 < (l1.len : Nat) ∧ Nn l1.p fun a5 =>
    Ld vw3 (a5.add ((s2.2).toNat * 3)) (Value.int .u8) fun (x6 : Int) =>
    Ld vw3 ((a5.add ((s2.2).toNat * 3)).add 1) (Value.int .i64) fun (x7 : Int) =>
    Ld vw3 ((a5.add ((s2.2).toNat * 3)).add 2) (Value.int .i64) fun (x8 : Int) =>
    Nw vw3 (.cells #[.int .u8 0, .int .i64 0, .int .i64 0] 35) fun vw9 =>
    St vw9 (⟨vw3.heap.size, 0, none⟩ : Addr) (.int .u8 x6) fun vw10 =>
    St vw10 ((⟨vw3.heap.size, 0, none⟩ : Addr).add 1) (.int .i64 x7) fun vw11 =>
    St vw11 ((⟨vw3.heap.size, 0, none⟩ : Addr).add 2) (.int .i64 x8) fun vw12 =>
    Join (S14J1 s2 vw3 I4 R) fun (vJ66 : Unit → World → Prop) =>
      Ld vw12 ((⟨vw3.heap.size, 0, none⟩ : Addr).add 1) (Value.int .i64) fun (x67 : Int) =>
      Br (x67 == 0) (Ld vw12 ((⟨vw3.heap.size, 0, none⟩ : Addr).add 2) (Value.int .i64) fun (x68 : Int) =>
        Br (x68 != 0) (R (⟨#[]⟩ : ByteArray) 1 vw12) (Ld vw12 ((⟨vw3.heap.size, 0, none⟩ : Addr).add 1) (Value.int .i64) fun (x69 : Int) =>
          Br (x69 != 0) (Ld vw12 ((⟨vw3.heap.size, 0, none⟩ : Addr).add 1) (Value.int .i64) fun (x70 : Int) =>
            Br (decide (x70 < 3)) (R (⟨#[]⟩ : ByteArray) 1 vw12) (Ld vw12 ((⟨vw3.heap.size, 0, none⟩ : Addr).add 1) (Value.int .i64) fun (x71 : Int) =>
              Br (decide (x71 > 258)) (R (⟨#[]⟩ : ByteArray) 1 vw12) (Ld vw12 ((⟨vw3.heap.size, 0, none⟩ : Addr).add 2) (Value.int .i64) fun (x72 : Int) =>
                Br (decide (x72 < 1)) (R (⟨#[]⟩ : ByteArray) 1 vw12) (Ld vw12 ((⟨vw3.heap.size, 0, none⟩ : Addr).add 2) (Value.int .i64) fun (x73 : Int) =>
                  Br (decide (x73 > 32768)) (R (⟨#[]⟩ : ByteArray) 1 vw12) (Ld vw12 (⟨vw3.heap.size, 0, none⟩ : Addr) (Value.int .u8) fun (x74 : Int) =>
                    Br (x74 != 0) (R (⟨#[]⟩ : ByteArray) 1 vw12) (vJ66 () vw12)))))) (vJ66 () vw12))) (Ld vw12 ((⟨vw3.heap.size, 0, none⟩ : Addr).add 1) (Value.int .i64) fun (x75 : Int) =>
        Br (x75 != 0) (Ld vw12 ((⟨vw3.heap.size, 0, none⟩ : Addr).add 1) (Value.int .i64) fun (x76 : Int) =>
          Br (decide (x76 < 3)) (R (⟨#[]⟩ : ByteArray) 1 vw12) (Ld vw12 ((⟨vw3.heap.size, 0, none⟩ : Addr).add 1) (Value.int .i64) fun (x77 : Int) =>
            Br (decide (x77 > 258)) (R (⟨#[]⟩ : ByteArray) 1 vw12) (Ld vw12 ((⟨vw3.heap.size, 0, none⟩ : Addr).add 2) (Value.int .i64) fun (x78 : Int) =>
              Br (decide (x78 < 1)) (R (⟨#[]⟩ : ByteArray) 1 vw12) (Ld vw12 ((⟨vw3.heap.size, 0, none⟩ : Addr).add 2) (Value.int .i64) fun (x79 : Int) =>
                Br (decide (x79 > 32768)) (R (⟨#[]⟩ : ByteArray) 1 vw12) (Ld vw12 (⟨vw3.heap.size, 0, none⟩ : Addr) (Value.int .u8) fun (x80 : Int) =>
                  Br (x80 != 0) (R (⟨#[]⟩ : ByteArray) 1 vw12) (vJ66 () vw12)))))) (vJ66 () vw12))) (Rn Try.prog (convert 40 9 (Slc.v s2.1)) vw3 Value.string fun (x81 : ByteArray) vw82 =>
    R x81 0 vw82)
/-- foliant/foliantref12.Unparts -/
def S14 (l1 : Slc) (w : World) (R : ByteArray → Int → World → Prop) : Prop :=
  Lp (σ := Slc × Int) (S14L3 l1 R) ((⟨none, 0, 0⟩ : Slc), 0) w
def pl14 : Plan := (.seq (.reg .seq) (.seq (.reg .seq) (.seq (.seq (.reg .seq) (.block (.loop [(4, (.one .slc)), (5, (.one (.int .i64)))] [0] (.seq (.seq (.reg .seq) (.cond .leaf .leaf)) (.seq (.block (.seq (.reg .seq) (.join [] [0, 4, 5, 6] (.seq (.reg .seq) (.cond (.seq (.reg .seq) .leaf) .leaf)) (.seq (.seq (.reg .seq) (.cond (.seq (.reg .seq) .leaf) .leaf)) (.seq (.seq (.reg .seq) (.cond (.seq (.reg .seq) .leaf) .leaf)) (.seq (.seq (.reg .seq) (.cond (.reg .seq) .leaf)) (.seq (.reg .seq) (.block (.loop [(4, (.one .slc)), (7, (.one (.int .i64)))] [0, 5, 6] (.seq (.seq (.reg .seq) (.cond .leaf .leaf)) (.seq (.block (.reg .seq)) (.reg .seq)))))))))))) (.reg .seq)))))) (.seq (.reg .seq) .leaf))))
set_option maxRecDepth 100000 in
theorem T14 (l1 : Slc) (w : World) (R : ByteArray → Int → World → Prop) (h : S14 l1 w R) : C14 l1 w R := by
  have e : fnT Try.prog ⟨FF, MAY, (fun _ _ => False)⟩ pl14 Try.f14 [Slc.v l1] w [(.one .str), (.one (.int .i64))] (fun s w => R s.1 s.2 w) = S14 l1 w R := by kernel_rfl
  exact (fn_calls okF okM Try.func14 (by kernel_rfl) (by kernel_rfl) (e.mpr h)).mono fun _ _ ⟨s, he, hR⟩ => ⟨s.1, s.2, he, hR⟩

def S57L1 (s1 : ByteArray) (a2 : Int) (b3 : Int) (most4 : Int) (R : Int → World → Prop) (I7 : Int → World → Prop) (s5 : Int) (vw6 : World) : Prop :=
  Br (decide (s5 < most4)) (0 ≤ (IntKind.i64.wrap (a2 + s5)) ∧ (IntKind.i64.wrap (a2 + s5)) < ((s1).size : Nat) ∧ 0 ≤ (IntKind.i64.wrap (b3 + s5)) ∧ (IntKind.i64.wrap (b3 + s5)) < ((s1).size : Nat) ∧ Br ((bAt s1 (IntKind.i64.wrap (a2 + s5))) == (bAt s1 (IntKind.i64.wrap (b3 + s5)))) (I7 (IntKind.i64.wrap (s5 + 1)) vw6.drew) (R s5 vw6.drew)) (R s5 vw6.drew)
/-- foliant/deflate.alike -/
def S57 (s1 : ByteArray) (a2 : Int) (b3 : Int) (most4 : Int) (w : World) (R : Int → World → Prop) : Prop :=
  Lp (σ := Int) (S57L1 s1 a2 b3 most4 R) 0 w
def pl57 : Plan := (.seq (.reg .seq) (.seq (.reg .seq) (.seq (.block (.loop [(9, (.one (.int .i64)))] [0, 1, 2, 3] (.seq (.seq (.reg .still) (.cond .leaf .leaf)) (.block (.reg .seq))))) (.seq (.reg .seq) .leaf))))
set_option maxRecDepth 100000 in
theorem T57 (s1 : ByteArray) (a2 : Int) (b3 : Int) (most4 : Int) (w : World) (R : Int → World → Prop) (h : S57 s1 a2 b3 most4 w R) : C57 s1 a2 b3 most4 w R := by
  have e : fnT Try.prog ⟨FF, MAY, (fun _ _ => False)⟩ pl57 Try.f57 [.string s1, .int .i64 a2, .int .i64 b3, .int .i64 most4] w [(.one (.int .i64))] (fun s w => R s w) = S57 s1 a2 b3 most4 w R := by kernel_rfl
  exact (fn_calls okF okM Try.func57 (by kernel_rfl) (by kernel_rfl) (e.mpr h)).mono fun _ _ ⟨s, he, hR⟩ => ⟨s, he, hR⟩

def S28L1 (w : World) (s2 : ByteArray) (vat3 : Int) (vw4 : World) (x21 : Int) (x22 : Slc) (R : (Int × Int × Int) → World → Prop) (I26 : Int → World → Prop) (s24 : Int) (vw25 : World) : Prop :=
  Br (decide (s24 ≥ 0)) (0 ≤ s24 ∧ s24 < (x22.len : Nat) ∧ Nn x22.p fun a30 =>
    Ld vw25 (a30.add ((s24).toNat * 1)) (Value.int .i64) fun (x31 : Int) =>
    Br (decide ((IntKind.i64.wrap (vat3 - x31)) ≤ 32768)) (Ld vw25 ((⟨vw4.heap.size, 0, none⟩ : Addr).add 1) (Value.int .i64) fun (x32 : Int) =>
      Br (decide (x32 < x21)) (0 ≤ s24 ∧ s24 < (x22.len : Nat) ∧ Nn x22.p fun a33 =>
        Ld vw25 (a33.add ((s24).toNat * 1)) (Value.int .i64) fun (x34 : Int) =>
        C57 s2 x34 vat3 x21 vw25 fun r35 vw36 =>
          Ld vw36 ((⟨vw4.heap.size, 0, none⟩ : Addr).add 1) (Value.int .i64) fun (x37 : Int) =>
          Br (decide (r35 > x37)) (0 ≤ s24 ∧ s24 < (x22.len : Nat) ∧ Nn x22.p fun a38 =>
            Ld vw36 (a38.add ((s24).toNat * 1)) (Value.int .i64) fun (x39 : Int) =>
            St vw36 (⟨vw4.heap.size, 0, none⟩ : Addr) (.int .u8 0) fun vw40 =>
            St vw40 ((⟨vw4.heap.size, 0, none⟩ : Addr).add 1) (.int .i64 r35) fun vw41 =>
            St vw41 ((⟨vw4.heap.size, 0, none⟩ : Addr).add 2) (.int .i64 (IntKind.i64.wrap (vat3 - x39))) fun vw42 =>
            I26 (IntKind.i64.wrap (s24 - 1)) vw42) (I26 (IntKind.i64.wrap (s24 - 1)) vw36)) (Ld vw25 (⟨vw4.heap.size, 0, none⟩ : Addr) (Value.int .u8) fun (x43 : Int) =>
        Ld vw25 ((⟨vw4.heap.size, 0, none⟩ : Addr).add 1) (Value.int .i64) fun (x44 : Int) =>
        Ld vw25 ((⟨vw4.heap.size, 0, none⟩ : Addr).add 2) (Value.int .i64) fun (x45 : Int) =>
        St vw25 (⟨w.heap.size, 0, none⟩ : Addr) (.int .u8 x43) fun vw46 =>
        St vw46 ((⟨w.heap.size, 0, none⟩ : Addr).add 1) (.int .i64 x44) fun vw47 =>
        St vw47 ((⟨w.heap.size, 0, none⟩ : Addr).add 2) (.int .i64 x45) fun vw48 =>
        Ld vw48 (⟨w.heap.size, 0, none⟩ : Addr) (Value.int .u8) fun (x49 : Int) =>
        Ld vw48 ((⟨w.heap.size, 0, none⟩ : Addr).add 1) (Value.int .i64) fun (x50 : Int) =>
        Ld vw48 ((⟨w.heap.size, 0, none⟩ : Addr).add 2) (Value.int .i64) fun (x51 : Int) =>
        R (x49, x50, x51) vw48)) (Ld vw25 (⟨vw4.heap.size, 0, none⟩ : Addr) (Value.int .u8) fun (x52 : Int) =>
      Ld vw25 ((⟨vw4.heap.size, 0, none⟩ : Addr).add 1) (Value.int .i64) fun (x53 : Int) =>
      Ld vw25 ((⟨vw4.heap.size, 0, none⟩ : Addr).add 2) (Value.int .i64) fun (x54 : Int) =>
      St vw25 (⟨w.heap.size, 0, none⟩ : Addr) (.int .u8 x52) fun vw55 =>
      St vw55 ((⟨w.heap.size, 0, none⟩ : Addr).add 1) (.int .i64 x53) fun vw56 =>
      St vw56 ((⟨w.heap.size, 0, none⟩ : Addr).add 2) (.int .i64 x54) fun vw57 =>
      Ld vw57 (⟨w.heap.size, 0, none⟩ : Addr) (Value.int .u8) fun (x58 : Int) =>
      Ld vw57 ((⟨w.heap.size, 0, none⟩ : Addr).add 1) (Value.int .i64) fun (x59 : Int) =>
      Ld vw57 ((⟨w.heap.size, 0, none⟩ : Addr).add 2) (Value.int .i64) fun (x60 : Int) =>
      R (x58, x59, x60) vw57)) (Ld vw25 (⟨vw4.heap.size, 0, none⟩ : Addr) (Value.int .u8) fun (x61 : Int) =>
    Ld vw25 ((⟨vw4.heap.size, 0, none⟩ : Addr).add 1) (Value.int .i64) fun (x62 : Int) =>
    Ld vw25 ((⟨vw4.heap.size, 0, none⟩ : Addr).add 2) (Value.int .i64) fun (x63 : Int) =>
    St vw25 (⟨w.heap.size, 0, none⟩ : Addr) (.int .u8 x61) fun vw64 =>
    St vw64 ((⟨w.heap.size, 0, none⟩ : Addr).add 1) (.int .i64 x62) fun vw65 =>
    St vw65 ((⟨w.heap.size, 0, none⟩ : Addr).add 2) (.int .i64 x63) fun vw66 =>
    Ld vw66 (⟨w.heap.size, 0, none⟩ : Addr) (Value.int .u8) fun (x67 : Int) =>
    Ld vw66 ((⟨w.heap.size, 0, none⟩ : Addr).add 1) (Value.int .i64) fun (x68 : Int) =>
    Ld vw66 ((⟨w.heap.size, 0, none⟩ : Addr).add 2) (Value.int .i64) fun (x69 : Int) =>
    R (x67, x68, x69) vw66)
/-- (foliant/deflate.trail).copied -/
def S28 (t1 : Option Nat) (s2 : ByteArray) (vat3 : Int) (w : World) (R : (Int × Int × Int) → World → Prop) : Prop :=
  Nw w (.cells #[.int .u8 0, .int .i64 0, .int .i64 0] 34) fun vw4 =>
  Nw vw4 (.cells #[.int .u8 0, .int .i64 0, .int .i64 0] 34) fun vw5 =>
  Br (decide ((IntKind.i64.wrap (vat3 + 3)) > (((s2).size : Nat) : Int))) (Ld vw5 (⟨vw4.heap.size, 0, none⟩ : Addr) (Value.int .u8) fun (x12 : Int) =>
    Ld vw5 ((⟨vw4.heap.size, 0, none⟩ : Addr).add 1) (Value.int .i64) fun (x13 : Int) =>
    Ld vw5 ((⟨vw4.heap.size, 0, none⟩ : Addr).add 2) (Value.int .i64) fun (x14 : Int) =>
    St vw5 (⟨w.heap.size, 0, none⟩ : Addr) (.int .u8 x12) fun vw15 =>
    St vw15 ((⟨w.heap.size, 0, none⟩ : Addr).add 1) (.int .i64 x13) fun vw16 =>
    St vw16 ((⟨w.heap.size, 0, none⟩ : Addr).add 2) (.int .i64 x14) fun vw17 =>
    Ld vw17 (⟨w.heap.size, 0, none⟩ : Addr) (Value.int .u8) fun (x18 : Int) =>
    Ld vw17 ((⟨w.heap.size, 0, none⟩ : Addr).add 1) (Value.int .i64) fun (x19 : Int) =>
    Ld vw17 ((⟨w.heap.size, 0, none⟩ : Addr).add 2) (Value.int .i64) fun (x20 : Int) =>
    R (x18, x19, x20) vw17) (Lt ((if (IntKind.i64.wrap ((((s2).size : Nat) : Int) - vat3)) < 258 then (IntKind.i64.wrap ((((s2).size : Nat) : Int) - vat3)) else 258)) fun (x21 : Int) =>
    0 ≤ (IntKind.i64.wrap (vat3 + 3)) ∧ (IntKind.i64.wrap (vat3 + 3)) ≤ (((s2).size : Nat) : Int) ∧ 0 ≤ vat3 ∧ vat3 ≤ (((IntKind.i64.wrap (vat3 + 3)).toNat : Nat) : Int) ∧ Rn Try.prog (Instr.lookup 54 (.map t1) (.string (s2.extract ((vat3).toNat) ((IntKind.i64.wrap (vat3 + 3)).toNat))) false) vw5 Slc.v fun (x22 : Slc) vw23 =>
    Lp (σ := Int) (S28L1 w s2 vat3 vw4 x21 x22 R) (IntKind.i64.wrap (((x22.len : Nat) : Int) - 1)) vw23)
def pl28 : Plan := (.seq (.reg .seq) (.seq (.reg .seq) (.seq (.seq (.reg .seq) (.cond (.seq (.reg .seq) .leaf) .leaf)) (.seq (.reg .seq) (.seq (.reg .seq) (.seq (.seq (.reg .seq) (.block (.loop [(10, (.one (.int .i64)))] [1, 2, 6, 7, 8, 9] (.seq (.seq (.reg .seq) (.cond .leaf .leaf)) (.seq (.block (.seq (.reg .seq) (.seq (.reg .seq) (.cond (.reg .seq) .leaf)))) (.reg .seq)))))) (.seq (.reg .seq) .leaf)))))))
set_option maxRecDepth 100000 in
theorem T28 (t1 : Option Nat) (s2 : ByteArray) (vat3 : Int) (w : World) (R : (Int × Int × Int) → World → Prop) (h : S28 t1 s2 vat3 w R) : C28 t1 s2 vat3 w R := by
  have e : fnT Try.prog ⟨FF, MAY, (fun _ _ => False)⟩ pl28 Try.f28 [.map t1, .string s2, .int .i64 vat3] w [(.agg [(.int .u8), (.int .i64), (.int .i64)])] (fun s w => R s w) = S28 t1 s2 vat3 w R := by kernel_rfl
  exact (fn_calls okF okM Try.func28 (by kernel_rfl) (by kernel_rfl) (e.mpr h)).mono fun _ _ ⟨s, he, hR⟩ => ⟨s, he, hR⟩

def S29L1 (t1 : Option Nat) (s2 : ByteArray) (to4 : Int) (R : World → Prop) (I7 : Int → World → Prop) (s5 : Int) (vw6 : World) : Prop :=
  Br (decide (s5 < to4)) (Br (decide ((IntKind.i64.wrap (s5 + 3)) ≤ (((s2).size : Nat) : Int))) (0 ≤ (IntKind.i64.wrap (s5 + 3)) ∧ (IntKind.i64.wrap (s5 + 3)) ≤ (((s2).size : Nat) : Int) ∧ 0 ≤ s5 ∧ s5 ≤ (((IntKind.i64.wrap (s5 + 3)).toNat : Nat) : Int) ∧ 0 ≤ (IntKind.i64.wrap (s5 + 3)) ∧ (IntKind.i64.wrap (s5 + 3)) ≤ (((s2).size : Nat) : Int) ∧ 0 ≤ s5 ∧ s5 ≤ (((IntKind.i64.wrap (s5 + 3)).toNat : Nat) : Int) ∧ (Rn Try.prog (Instr.lookup 54 (.map t1) (.string (s2.extract ((s5).toNat) ((IntKind.i64.wrap (s5 + 3)).toNat))) false) vw6.drew Slc.v fun (x8 : Slc) vw9 =>
        Nw vw9 (.cells #[.int .i64 s5] 3) fun vw10 =>
        Rn Try.prog (Builtin.append_ #[72, 72] 72 #[Slc.v x8, Slc.v ((⟨some ⟨vw9.heap.size, 0, none⟩, 1, 1⟩ : Slc))]) vw10 Slc.v fun (x11 : Slc) vw12 =>
        Ru Try.prog (Instr.mapUpdate 54 (.map t1) (.string (s2.extract ((s5).toNat) ((IntKind.i64.wrap (s5 + 3)).toNat))) (Slc.v x11)) vw12 fun vw13 =>
        I7 (IntKind.i64.wrap (s5 + 1)) vw13) ∧
      (Nw vw6.drew (.cells #[.int .i64 s5] 3) fun vw14 =>
        Rn Try.prog (Instr.lookup 54 (.map t1) (.string (s2.extract ((s5).toNat) ((IntKind.i64.wrap (s5 + 3)).toNat))) false) vw14 Slc.v fun (x15 : Slc) vw16 =>
        Rn Try.prog (Builtin.append_ #[72, 72] 72 #[Slc.v x15, Slc.v ((⟨some ⟨vw6.drew.heap.size, 0, none⟩, 1, 1⟩ : Slc))]) vw16 Slc.v fun (x17 : Slc) vw18 =>
        Ru Try.prog (Instr.mapUpdate 54 (.map t1) (.string (s2.extract ((s5).toNat) ((IntKind.i64.wrap (s5 + 3)).toNat))) (Slc.v x17)) vw18 fun vw19 =>
        I7 (IntKind.i64.wrap (s5 + 1)) vw19)) (R vw6)) (R vw6)
/-- (foliant/deflate.trail).add -/
def S29 (t1 : Option Nat) (s2 : ByteArray) (vfrom3 : Int) (to4 : Int) (w : World) (R : World → Prop) : Prop :=
  Lp (σ := Int) (S29L1 t1 s2 to4 R) vfrom3 w
def pl29 : Plan := (.seq (.reg .seq) (.block (.loop [(8, (.one (.int .i64)))] [0, 1, 3] (.seq (.seq (.reg .seq) (.cond .leaf .leaf)) (.seq (.block (.reg (.held [12, 14] (.take 0 (.take 1 (.take 2 (.take 3 (.take 4 (.take 5 (.take 6 (.take 7 (.take 8 (.take 9 (.take 10 (.take 11 (.take 13 (.effs 12 (some [14]) (.eff 14 (some [15]) (.eff 15 (some [16]) (.eff 16 (some []) .done))) (.eff 14 (some [12]) (.eff 12 (some [15]) (.eff 15 (some [16]) (.eff 16 (some []) .done))))))))))))))))))))) (.reg .seq))))))
set_option maxRecDepth 100000 in
theorem T29 (t1 : Option Nat) (s2 : ByteArray) (vfrom3 : Int) (to4 : Int) (w : World) (R : World → Prop) (h : S29 t1 s2 vfrom3 to4 w R) : C29 t1 s2 vfrom3 to4 w R := by
  have e : fnT Try.prog ⟨FF, MAY, (fun _ _ => False)⟩ pl29 Try.f29 [.map t1, .string s2, .int .i64 vfrom3, .int .i64 to4] w [] (fun _ w => R w) = S29 t1 s2 vfrom3 to4 w R := by kernel_rfl
  exact (fn_calls okF okM Try.func29 (by kernel_rfl) (by kernel_rfl) (e.mpr h)).mono fun _ _ ⟨_, he, hR⟩ => ⟨he, hR⟩

def S11L1 (w : World) (s1 : ByteArray) (R : Slc → World → Prop) (I5 : (Slc × Int) → World → Prop) (s3 : Slc × Int) (vw4 : World) : Prop :=
  Br (decide (s3.2 < (((s1).size : Nat) : Int))) (C28 (some w.heap.size) s1 s3.2 vw4 fun r6 vw7 =>
      Nw vw7 (.cells #[.int .u8 0, .int .i64 0, .int .i64 0] 34) fun vw8 =>
      St vw8 (⟨vw7.heap.size, 0, none⟩ : Addr) (.int .u8 (r6.1)) fun vw9 =>
      St vw9 ((⟨vw7.heap.size, 0, none⟩ : Addr).add 1) (.int .i64 (r6.2.1)) fun vw10 =>
      St vw10 ((⟨vw7.heap.size, 0, none⟩ : Addr).add 2) (.int .i64 (r6.2.2)) fun vw11 =>
      Ld vw11 ((⟨vw7.heap.size, 0, none⟩ : Addr).add 1) (Value.int .i64) fun (x12 : Int) =>
      Ld vw11 ((⟨vw7.heap.size, 0, none⟩ : Addr).add 1) (Value.int .i64) fun (x15 : Int) =>
      Br (x15 == 0) (0 ≤ s3.2 ∧ s3.2 < ((s1).size : Nat) ∧ St vw11 (⟨vw7.heap.size, 0, none⟩ : Addr) (.int .u8 (bAt s1 s3.2)) fun vw16 =>
        Ld vw16 (⟨vw7.heap.size, 0, none⟩ : Addr) (Value.int .u8) fun (x17 : Int) =>
        Ld vw16 ((⟨vw7.heap.size, 0, none⟩ : Addr).add 1) (Value.int .i64) fun (x18 : Int) =>
        Ld vw16 ((⟨vw7.heap.size, 0, none⟩ : Addr).add 2) (Value.int .i64) fun (x19 : Int) =>
        Nw vw16 (.cells #[.int .u8 x17, .int .i64 x18, .int .i64 x19] 34) fun vw20 =>
        Rn Try.prog (Builtin.append_ #[29, 29] 29 #[Slc.v s3.1, Slc.v ((⟨some ⟨vw16.heap.size, 0, none⟩, 1, 1⟩ : Slc))]) vw20 Slc.v fun (x21 : Slc) vw22 =>
        C29 (some w.heap.size) s1 s3.2 (IntKind.i64.wrap (s3.2 + (if 1 > x12 then 1 else x12))) vw22 fun vw23 =>
          I5 (x21, IntKind.i64.wrap (s3.2 + (if 1 > x12 then 1 else x12))) vw23) (Ld vw11 (⟨vw7.heap.size, 0, none⟩ : Addr) (Value.int .u8) fun (x24 : Int) =>
        Ld vw11 ((⟨vw7.heap.size, 0, none⟩ : Addr).add 1) (Value.int .i64) fun (x25 : Int) =>
        Ld vw11 ((⟨vw7.heap.size, 0, none⟩ : Addr).add 2) (Value.int .i64) fun (x26 : Int) =>
        Nw vw11 (.cells #[.int .u8 x24, .int .i64 x25, .int .i64 x26] 34) fun vw27 =>
        Rn Try.prog (Builtin.append_ #[29, 29] 29 #[Slc.v s3.1, Slc.v ((⟨some ⟨vw11.heap.size, 0, none⟩, 1, 1⟩ : Slc))]) vw27 Slc.v fun (x28 : Slc) vw29 =>
        C29 (some w.heap.size) s1 s3.2 (IntKind.i64.wrap (s3.2 + (if 1 > x12 then 1 else x12))) vw29 fun vw30 =>
          I5 (x28, IntKind.i64.wrap (s3.2 + (if 1 > x12 then 1 else x12))) vw30)) (R s3.1 vw4)
/-- foliant/deflate.Parts -/
def S11 (s1 : ByteArray) (w : World) (R : Slc → World → Prop) : Prop :=
  Br (decide ((((s1).size : Nat) : Int) > 1048576)) (R (⟨none, 0, 0⟩ : Slc) w) (Nw w (.map #[] 0) fun vw2 =>
    Lp (σ := Slc × Int) (S11L1 w s1 R) ((⟨none, 0, 0⟩ : Slc), 0) vw2)
def pl11 : Plan := (.seq (.reg .seq) (.seq (.seq (.reg .seq) (.cond (.seq (.reg .seq) .leaf) .leaf)) (.seq (.reg .seq) (.seq (.reg .seq) (.seq (.seq (.reg .seq) (.block (.loop [(3, (.one .slc)), (5, (.one (.int .i64)))] [0, 4] (.seq (.seq (.reg .seq) (.cond .leaf .leaf)) (.block (.seq (.reg .seq) (.seq (.reg .seq) (.seq (.seq (.reg .seq) (.cond (.reg .seq) .leaf)) (.seq (.reg .seq) (.seq (.reg .seq) (.reg .seq))))))))))) (.seq (.reg .seq) .leaf))))))
set_option maxRecDepth 100000 in
theorem T11 (s1 : ByteArray) (w : World) (R : Slc → World → Prop) (h : S11 s1 w R) : C11 s1 w R := by
  have e : fnT Try.prog ⟨FF, MAY, (fun _ _ => False)⟩ pl11 Try.f11 [.string s1] w [(.one .slc)] (fun s w => R s w) = S11 s1 w R := by kernel_rfl
  exact (fn_calls okF okM Try.func11 (by kernel_rfl) (by kernel_rfl) (e.mpr h)).mono fun _ _ ⟨s, he, hR⟩ => ⟨s, he, hR⟩

def S30L1 (s1 : ByteArray) (vat2 : Int) (s3 : Int × Int × Int) (I5 : (Int × Int × Int) → World → Prop) (I14 : Int → World → Prop) (s12 : Int) (vw13 : World) : Prop :=
  Br (decide (s12 < 258)) (Br (decide ((IntKind.i64.wrap (vat2 + s12)) < (((s1).size : Nat) : Int))) (0 ≤ (IntKind.i64.wrap (vat2 + s12)) ∧ (IntKind.i64.wrap (vat2 + s12)) < ((s1).size : Nat) ∧ 0 ≤ (IntKind.i64.wrap ((IntKind.i64.wrap (vat2 + s12)) - s3.2.2)) ∧ (IntKind.i64.wrap ((IntKind.i64.wrap (vat2 + s12)) - s3.2.2)) < ((s1).size : Nat) ∧ Lt ((bAt s1 (IntKind.i64.wrap (vat2 + s12))) == (bAt s1 (IntKind.i64.wrap ((IntKind.i64.wrap (vat2 + s12)) - s3.2.2)))) fun (x15 : Bool) =>
      Br x15 (I14 (IntKind.i64.wrap (s12 + 1)) vw13.drew) (Br (decide (s12 > s3.1)) (I5 (s12, s3.2.2, IntKind.i64.wrap (s3.2.2 + 1)) vw13.drew) (I5 (s3.1, s3.2.1, IntKind.i64.wrap (s3.2.2 + 1)) vw13.drew))) (Br (decide (s12 > s3.1)) (I5 (s12, s3.2.2, IntKind.i64.wrap (s3.2.2 + 1)) vw13.drew) (I5 (s3.1, s3.2.1, IntKind.i64.wrap (s3.2.2 + 1)) vw13.drew))) (Br (decide (s12 > s3.1)) (I5 (s12, s3.2.2, IntKind.i64.wrap (s3.2.2 + 1)) vw13.drew) (I5 (s3.1, s3.2.1, IntKind.i64.wrap (s3.2.2 + 1)) vw13.drew))
def S30L2 (s1 : ByteArray) (vat2 : Int) (R : Int → Int → World → Prop) (I5 : (Int × Int × Int) → World → Prop) (s3 : Int × Int × Int) (vw4 : World) : Prop :=
  Br (decide (s3.2.2 ≤ vat2)) (Br (decide (s3.2.2 ≤ 32768)) (Br (decide (s3.1 < 258)) (Br (decide ((IntKind.i64.wrap (vat2 + s3.1)) ≥ (((s1).size : Nat) : Int))) (I5 (s3.1, s3.2.1, IntKind.i64.wrap (s3.2.2 + 1)) vw4.drew) (0 ≤ (IntKind.i64.wrap (vat2 + s3.1)) ∧ (IntKind.i64.wrap (vat2 + s3.1)) < ((s1).size : Nat) ∧ 0 ≤ (IntKind.i64.wrap ((IntKind.i64.wrap (vat2 + s3.1)) - s3.2.2)) ∧ (IntKind.i64.wrap ((IntKind.i64.wrap (vat2 + s3.1)) - s3.2.2)) < ((s1).size : Nat) ∧ Lt ((bAt s1 (IntKind.i64.wrap (vat2 + s3.1))) != (bAt s1 (IntKind.i64.wrap ((IntKind.i64.wrap (vat2 + s3.1)) - s3.2.2)))) fun (x7 : Bool) =>
          Br x7 (I5 (s3.1, s3.2.1, IntKind.i64.wrap (s3.2.2 + 1)) vw4.drew) (Lp (σ := Int) (S30L1 s1 vat2 s3 I5) 0 vw4.drew))) (R s3.1 s3.2.1 vw4)) (R s3.1 s3.2.1 vw4)) (R s3.1 s3.2.1 vw4)
/-- foliant/foliantref12.longest -/
def S30 (s1 : ByteArray) (vat2 : Int) (w : World) (R : Int → Int → World → Prop) : Prop :=
  Lp (σ := Int × Int × Int) (S30L2 s1 vat2 R) (0, 0, 1) w
def pl30 : Plan := (.seq (.reg .seq) (.seq (.reg .seq) (.seq (.seq (.reg .seq) (.block (.loop [(6, (.one (.int .i64))), (7, (.one (.int .i64))), (8, (.one (.int .i64)))] [0, 1] (.seq (.seq (.reg .seq) (.cond .leaf .leaf)) (.seq (.block (.seq (.seq (.reg .still) (.cond .leaf .leaf)) (.seq (.reg .seq) (.seq (.block (.loop [(9, (.one (.int .i64)))] [0, 1, 6, 7, 8] (.seq (.seq (.reg .still) (.cond .leaf .leaf)) (.block (.reg .seq))))) (.seq (.reg .seq) (.cond (.seq (.reg .seq) (.reg .seq)) .leaf)))))) (.reg .seq)))))) (.seq (.reg .seq) .leaf))))
set_option maxRecDepth 100000 in
theorem T30 (s1 : ByteArray) (vat2 : Int) (w : World) (R : Int → Int → World → Prop) (h : S30 s1 vat2 w R) : C30 s1 vat2 w R := by
  have e : fnT Try.prog ⟨FF, MAY, (fun _ _ => False)⟩ pl30 Try.f30 [.string s1, .int .i64 vat2] w [(.one (.int .i64)), (.one (.int .i64))] (fun s w => R s.1 s.2 w) = S30 s1 vat2 w R := by kernel_rfl
  exact (fn_calls okF okM Try.func30 (by kernel_rfl) (by kernel_rfl) (e.mpr h)).mono fun _ _ ⟨s, he, hR⟩ => ⟨s.1, s.2, he, hR⟩

def S12L1 (s1 : ByteArray) (R : Slc → World → Prop) (I4 : (Slc × Int) → World → Prop) (s2 : Slc × Int) (vw3 : World) : Prop :=
  Br (decide (s2.2 < (((s1).size : Nat) : Int))) (C30 s1 s2.2 vw3 fun r5 r6 vw7 =>
      Br (decide (r5 < 3)) (0 ≤ s2.2 ∧ s2.2 < ((s1).size : Nat) ∧ Nw vw7 (.cells #[.int .u8 (bAt s1 s2.2), .int .i64 0, .int .i64 0] 35) fun vw11 =>
        Rn Try.prog (Builtin.append_ #[31, 31] 31 #[Slc.v s2.1, Slc.v ((⟨some ⟨vw7.heap.size, 0, none⟩, 1, 1⟩ : Slc))]) vw11 Slc.v fun (x12 : Slc) vw13 =>
        I4 (x12, IntKind.i64.wrap (s2.2 + 1)) vw13) (Nw vw7 (.cells #[.int .u8 0, .int .i64 r5, .int .i64 r6] 35) fun vw14 =>
        Rn Try.prog (Builtin.append_ #[31, 31] 31 #[Slc.v s2.1, Slc.v ((⟨some ⟨vw7.heap.size, 0, none⟩, 1, 1⟩ : Slc))]) vw14 Slc.v fun (x15 : Slc) vw16 =>
        I4 (x15, IntKind.i64.wrap (s2.2 + r5)) vw16)) (R s2.1 vw3)
/-- foliant/foliantref12.Parts -/
def S12 (s1 : ByteArray) (w : World) (R : Slc → World → Prop) : Prop :=
  Br (decide ((((s1).size : Nat) : Int) > 1048576)) (R (⟨none, 0, 0⟩ : Slc) w) (Lp (σ := Slc × Int) (S12L1 s1 R) ((⟨none, 0, 0⟩ : Slc), 0) w)
def pl12 : Plan := (.seq (.reg .seq) (.seq (.reg .seq) (.seq (.seq (.reg .seq) (.cond (.seq (.reg .seq) .leaf) .leaf)) (.seq (.seq (.reg .seq) (.block (.loop [(3, (.one .slc)), (4, (.one (.int .i64)))] [0] (.seq (.seq (.reg .seq) (.cond .leaf .leaf)) (.block (.seq (.reg .seq) (.seq (.seq (.reg .seq) (.cond (.seq (.reg .seq) (.seq (.reg .seq) .leaf)) .leaf)) (.seq (.reg .seq) (.reg .seq))))))))) (.seq (.reg .seq) .leaf)))))
set_option maxRecDepth 100000 in
theorem T12 (s1 : ByteArray) (w : World) (R : Slc → World → Prop) (h : S12 s1 w R) : C12 s1 w R := by
  have e : fnT Try.prog ⟨FF, MAY, (fun _ _ => False)⟩ pl12 Try.f12 [.string s1] w [(.one .slc)] (fun s w => R s w) = S12 s1 w R := by kernel_rfl
  exact (fn_calls okF okM Try.func12 (by kernel_rfl) (by kernel_rfl) (e.mpr h)).mono fun _ _ ⟨s, he, hR⟩ => ⟨s, he, hR⟩

def S22J1 (r2 : Option Addr) (s4 : ByteArray) (I6 : ByteArray → World → Prop) (R : ByteArray → World → Prop) (s8 : Int) (vw9 : World) : Prop :=
  C37 r2 s8 1 vw9 fun r10 vw11 =>
    C37 r2 0 2 vw11 fun r12 vw13 =>
      C38 r2 vw13 fun vw14 =>
        C37 r2 (if 65535 < (((s4).size : Nat) : Int) then 65535 else (((s4).size : Nat) : Int)) 16 vw14 fun r15 vw16 =>
          Lt (IntKind.i64.wrap (65535 - (if 65535 < (((s4).size : Nat) : Int) then 65535 else (((s4).size : Nat) : Int)))) fun (x17 : Int) =>
          C37 r2 x17 16 vw16 fun r18 vw19 =>
            C38 r2 vw19 fun vw20 =>
              0 ≤ (if 65535 < (((s4).size : Nat) : Int) then 65535 else (((s4).size : Nat) : Int)) ∧ (if 65535 < (((s4).size : Nat) : Int) then 65535 else (((s4).size : Nat) : Int)) ≤ (((s4).size : Nat) : Int) ∧ Lt (s4.extract 0 (((if 65535 < (((s4).size : Nat) : Int) then 65535 else (((s4).size : Nat) : Int))).toNat)) fun (x21 : ByteArray) =>
              C39 r2 x21 vw20 fun vw22 =>
                0 ≤ (if 65535 < (((s4).size : Nat) : Int) then 65535 else (((s4).size : Nat) : Int)) ∧ (if 65535 < (((s4).size : Nat) : Int) then 65535 else (((s4).size : Nat) : Int)) ≤ (((s4).size : Nat) : Int) ∧ Lt (s4.extract (((if 65535 < (((s4).size : Nat) : Int) then 65535 else (((s4).size : Nat) : Int))).toNat) ((s4).size)) fun (x23 : ByteArray) =>
                Br (s8 == 1) (C40 r2 vw22 fun r24 vw25 =>
                    R r24 vw25) (I6 x23 vw22)
def S22L1 (r2 : Option Addr) (R : ByteArray → World → Prop) (I6 : ByteArray → World → Prop) (s4 : ByteArray) (vw5 : World) : Prop :=
  Join (S22J1 r2 s4 I6 R) fun (vJ26 : Int → World → Prop) =>
    Lt ((if 65535 < (((s4).size : Nat) : Int) then 65535 else (((s4).size : Nat) : Int)) == (((s4).size : Nat) : Int)) fun (x27 : Bool) =>
    Br x27 (vJ26 1 vw5) (vJ26 0 vw5)
/-- foliant/deflate.stored -/
def S22 (s1 : ByteArray) (w : World) (R : ByteArray → World → Prop) : Prop :=
  C36 w fun r2 vw3 =>
    Lp (σ := ByteArray) (S22L1 r2 R) s1 vw3
def pl22 : Plan := (.seq (.reg .seq) (.seq (.reg .seq) (.block (.loop [(0, (.one .str))] [3] (.block (.seq (.reg .seq) (.seq (.reg .seq) (.join [(5, (.one (.int .i64)))] [0, 3, 4] (.seq (.reg .seq) (.cond (.reg .seq) .leaf)) (.seq (.reg .seq) (.seq (.reg .seq) (.seq (.reg .seq) (.seq (.reg .seq) (.seq (.reg .seq) (.seq (.reg .seq) (.seq (.reg .seq) (.seq (.reg .seq) (.seq (.reg .seq) (.cond (.seq (.reg .seq) .leaf) .leaf))))))))))))))))))
set_option maxRecDepth 100000 in
theorem T22 (s1 : ByteArray) (w : World) (R : ByteArray → World → Prop) (h : S22 s1 w R) : C22 s1 w R := by
  have e : fnT Try.prog ⟨FF, MAY, (fun _ _ => False)⟩ pl22 Try.f22 [.string s1] w [(.one .str)] (fun s w => R s w) = S22 s1 w R := by kernel_rfl
  exact (fn_calls okF okM Try.func22 (by kernel_rfl) (by kernel_rfl) (e.mpr h)).mono fun _ _ ⟨s, he, hR⟩ => ⟨s, he, hR⟩

def S15J1 (s3 : ByteArray × Slc) (I5 : (ByteArray × Slc) → World → Prop) (R : ByteArray → Int → World → Prop) (s7 : Int) (vw8 : World) : Prop :=
  Lt (IntKind.u8.wrap (if 65535 < (((s3.1).size : Nat) : Int) then 65535 else (((s3.1).size : Nat) : Int))) fun (x9 : Int) =>
  Lt (Int.fdiv (if 65535 < (((s3.1).size : Nat) : Int) then 65535 else (((s3.1).size : Nat) : Int)) (2 ^ 8)) fun (x10 : Int) =>
  Lt (ixor .i64 (-1) (if 65535 < (((s3.1).size : Nat) : Int) then 65535 else (((s3.1).size : Nat) : Int))) fun (x11 : Int) =>
  Lt (ixor .i64 (-1) (if 65535 < (((s3.1).size : Nat) : Int) then 65535 else (((s3.1).size : Nat) : Int))) fun (x12 : Int) =>
  Nw vw8 (.cells #[.int .u8 s7, .int .u8 x9, .int .u8 (IntKind.u8.wrap x10), .int .u8 (IntKind.u8.wrap x11), .int .u8 (IntKind.u8.wrap (Int.fdiv x12 (2 ^ 8)))] 5) fun vw13 =>
  Rn Try.prog (Builtin.append_ #[40, 40] 40 #[Slc.v s3.2, Slc.v ((⟨some ⟨vw8.heap.size, 0, none⟩, 5, 5⟩ : Slc))]) vw13 Slc.v fun (x14 : Slc) vw15 =>
  0 ≤ (if 65535 < (((s3.1).size : Nat) : Int) then 65535 else (((s3.1).size : Nat) : Int)) ∧ (if 65535 < (((s3.1).size : Nat) : Int) then 65535 else (((s3.1).size : Nat) : Int)) ≤ (((s3.1).size : Nat) : Int) ∧ Lt (s3.1.extract 0 (((if 65535 < (((s3.1).size : Nat) : Int) then 65535 else (((s3.1).size : Nat) : Int))).toNat)) fun (x16 : ByteArray) =>
  Rn Try.prog (Builtin.append_ #[40, 9] 40 #[Slc.v x14, .string x16]) vw15 Slc.v fun (x17 : Slc) vw18 =>
  0 ≤ (if 65535 < (((s3.1).size : Nat) : Int) then 65535 else (((s3.1).size : Nat) : Int)) ∧ (if 65535 < (((s3.1).size : Nat) : Int) then 65535 else (((s3.1).size : Nat) : Int)) ≤ (((s3.1).size : Nat) : Int) ∧ Lt (s3.1.extract (((if 65535 < (((s3.1).size : Nat) : Int) then 65535 else (((s3.1).size : Nat) : Int))).toNat) ((s3.1).size)) fun (x19 : ByteArray) =>
  Br (s7 == 1) (Rn Try.prog (convert 40 9 (Slc.v x17)) vw18 Value.string fun (x20 : ByteArray) vw21 =>
    R x20 0 vw21) (I5 (x19, x17) vw18)
def S15L1 (R : ByteArray → Int → World → Prop) (I5 : (ByteArray × Slc) → World → Prop) (s3 : ByteArray × Slc) (vw4 : World) : Prop :=
  Join (S15J1 s3 I5 R) fun (vJ22 : Int → World → Prop) =>
    Lt ((if 65535 < (((s3.1).size : Nat) : Int) then 65535 else (((s3.1).size : Nat) : Int)) == (((s3.1).size : Nat) : Int)) fun (x23 : Bool) =>
    Br x23 (vJ22 1 vw4) (vJ22 0 vw4)
/-- foliant/foliantref12.All -/
def S15 (s1 : ByteArray) (level2 : Int) (w : World) (R : ByteArray → Int → World → Prop) : Prop :=
  Br (decide (level2 < 0)) (R (⟨#[]⟩ : ByteArray) 1 w) (Br (decide (level2 > 2)) (R (⟨#[]⟩ : ByteArray) 1 w) (Br (decide ((((s1).size : Nat) : Int) > 1048576)) (R (⟨#[]⟩ : ByteArray) 5 w) (Lp (σ := ByteArray × Slc) (S15L1 R) (s1, (⟨none, 0, 0⟩ : Slc)) w)))
def pl15 : Plan := (.seq (.reg .seq) (.seq (.seq (.reg .seq) (.cond (.seq (.reg .seq) .leaf) .leaf)) (.seq (.seq (.reg .seq) (.cond (.seq (.reg .seq) .leaf) .leaf)) (.seq (.reg .seq) (.block (.loop [(0, (.one .str)), (6, (.one .slc))] [] (.block (.seq (.reg .seq) (.seq (.reg .seq) (.join [(8, (.one (.int .u8)))] [0, 6, 7] (.seq (.reg .seq) (.cond (.reg .seq) .leaf)) (.seq (.reg .seq) (.seq (.reg .seq) (.seq (.reg .seq) (.seq (.reg .seq) (.cond (.seq (.reg .seq) .leaf) .leaf)))))))))))))))
set_option maxRecDepth 100000 in
theorem T15 (s1 : ByteArray) (level2 : Int) (w : World) (R : ByteArray → Int → World → Prop) (h : S15 s1 level2 w R) : C15 s1 level2 w R := by
  have e : fnT Try.prog ⟨FF, MAY, (fun _ _ => False)⟩ pl15 Try.f15 [.string s1, .int .i64 level2] w [(.one .str), (.one (.int .i64))] (fun s w => R s.1 s.2 w) = S15 s1 level2 w R := by kernel_rfl
  exact (fn_calls okF okM Try.func15 (by kernel_rfl) (by kernel_rfl) (e.mpr h)).mono fun _ _ ⟨s, he, hR⟩ => ⟨s.1, s.2, he, hR⟩

end Go.Proofs.Ytjkoafjnmkchdaa

/- Deflate: the sign of a length or a distance, both sides. No condition. -/
namespace Go.Proofs.Ytjkoafjnmkchdaa
namespace Inf
open Sh Bit
set_option linter.unusedVariables false
set_option linter.unusedSimpArgs false
set_option maxRecDepth 4000
set_option maxHeartbeats 1000000
attribute [local irreducible] Ld St Nw Nn Lt LdS
/-- What the sign of a size is. -/
def sgnF (v : Int) : Int × Int × Int × Int := if v < 3 ∨ 258 < v then (0, 0, 0, 1) else (((257 + kL v.toNat : Nat) : Int), ((v.toNat - firstL (kL v.toNat) : Nat) : Int), ((moreL (kL v.toNat) : Nat) : Int), 0)
def bckF (v : Int) : Int × Int × Int × Int := if v < 1 ∨ 32768 < v then (0, 0, 0, 1) else (((kD v.toNat : Nat) : Int), ((v.toNat - baseD (kD v.toNat) : Nat) : Int), ((moreD (kD v.toNat) : Nat) : Int), 0)
theorem spr_small {first each : Nat} (he : 2 ≤ each) : ∀ k, k ≤ 2 * each → spr first each k = first + k
  | 0, _ => rfl
  | k + 1, h => by
    show spr first each k + 2 ^ (k / each - 1) = _
    have : k / each ≤ 1 := by
      have := (Nat.div_lt_iff_lt_mul (by omega : 0 < each)).2 (show k < 2 * each by omega)
      omega
    rw [spr_small he k (by omega), show k / each - 1 = 0 by omega]
    omega
theorem spr_step {first each j : Nat} (he : 2 ≤ each) : ∀ q, q ≤ each → spr first each (each * (j + 2) + q) = spr first each (each * (j + 2)) + q * 2 ^ (j + 1)
  | 0, _ => by simp
  | q + 1, h => by
    show spr first each (each * (j + 2) + q) + 2 ^ ((each * (j + 2) + q) / each - 1) = _
    have : (each * (j + 2) + q) / each = j + 2 := by
      rw [Nat.mul_add_div (by omega), Nat.div_eq_of_lt (by omega)]
    rw [spr_step he q (by omega), this, show j + 2 - 1 = j + 1 by omega, Nat.add_mul, Nat.one_mul, Nat.add_assoc]
theorem mask_mod {x m : Nat} (hx : x < 2 ^ 40) (hm : m ≤ 30) : iand .i64 (x : Int) (IntKind.i64.wrap (IntKind.i64.wrap (1 * 2 ^ (min ((m : Int)).toNat 64)) - 1)) = ((x % 2 ^ m : Nat) : Int) := by
  have hp : 2 ^ m ≤ 2 ^ 30 := Nat.pow_le_pow_right (by omega) hm
  have h0 : 0 < 2 ^ m := Nat.pow_pos (by decide)
  rw [sh1 rfl hm, ← Nat.and_two_pow_sub_one_eq_mod]
  generalize 2 ^ m = P at hp h0
  rw [i64_id (by omega), show (P : Int) - 1 = ((P - 1 : Nat) : Int) by omega, iand_nat (by omega) (by omega)]
theorem spr_ge (first each : Nat) : ∀ k, first ≤ spr first each k
  | 0 => Nat.le_refl _
  | k + 1 => Nat.le_trans (spr_ge first each k) (Nat.le_add_right _ _)
/-- foliant/deflate.said. -/
theorem c_said {first each : Nat} (he : each = 2 ∨ each = 4) {n : Nat} (hn : n ≤ 40000) (w : World) : C32 (n : Int) ((2 * each : Nat) : Int) (each : Int) w fun r0 r1 r2 w1 => ∃ k : Nat, r0 = (k : Int) ∧ spr first each k ≤ first + n ∧ first + n < spr first each (k + 1) ∧ r1 = ((first + n - spr first each k : Nat) : Int) ∧ r2 = ((k / each - 1 : Nat) : Int) ∧ Ext (fun _ => False) w w1 := by
  have h2 : 2 ≤ each := by omega
  refine T32 _ _ _ _ _ ?_
  unfold S32
  refine Br.dec (fun q => ?_) fun q => ?_
  · have : n / each ≤ 1 := by
      have := (Nat.div_lt_iff_lt_mul (by omega : 0 < each)).2 (show n < 2 * each by omega)
      omega
    exact ⟨n, rfl, by rw [spr_small h2 n (by omega)]; omega, by rw [spr_small h2 (n + 1) (by omega)]; omega, by rw [spr_small h2 n (by omega)]; omega, by rw [show n / each - 1 = 0 by omega]; rfl, Ext.refl _ _⟩
  · refine ⟨fun m st w3 => ∃ j : Nat, m = 40 - j ∧ j ≤ 14 ∧ spr first each (each * (j + 2)) ≤ first + n ∧ st = (((first + n - spr first each (each * (j + 2)) : Nat) : Int), ((each * (j + 2) : Nat) : Int), ((j + 1 : Nat) : Int)) ∧ w3 = w, 40, ?_, ?_⟩
    · have e0 : spr first each (each * (0 + 2)) = first + 2 * each := by rw [show each * (0 + 2) = 2 * each by omega, spr_small h2 _ (Nat.le_refl _)]
      refine ⟨0, rfl, by omega, by rw [e0]; omega, ?_, rfl⟩
      rw [e0, i64_id (by omega), show ((n : Nat) : Int) - ((2 * each : Nat) : Int) = ((first + n - (first + 2 * each) : Nat) : Int) by omega, show each * (0 + 2) = 2 * each by omega]
      rfl
    · rintro m st _ ⟨j, rfl, hj, hle, rfl, rfl⟩
      unfold S32L1
      dsimp only
      have hp : 2 ^ (j + 1) ≤ 2 ^ 15 := Nat.pow_le_pow_right (by omega) (by omega)
      have hp0 : 0 < 2 ^ (j + 1) := Nat.pow_pos (by decide)
      have hge := spr_ge first each (each * (j + 2))
      have e2 : (each : Int) * 2 ^ (min (((j + 1 : Nat) : Int)).toNat 64) = ((each * 2 ^ (j + 1) : Nat) : Int) := by rw [Int.toNat_natCast, Nat.min_eq_left (by omega)]; simp
      have hm1 : each * 2 ^ (j + 1) ≤ 4 * 2 ^ 15 := Nat.mul_le_mul (by omega) hp
      have eW : IntKind.i64.wrap ((each * 2 ^ (j + 1) : Nat) : Int) = ((each * 2 ^ (j + 1) : Nat) : Int) := i64_id (by omega)
      have st1 := spr_step (first := first) (j := j) h2 each (Nat.le_refl _)
      have em : each * (j + 2) + each = each * (j + 1 + 2) := by rw [← Nat.mul_succ]
      rw [em] at st1
      have hmul : each * (j + 2) ≤ 4 * 16 := Nat.mul_le_mul (by omega) (by omega)
      refine ⟨by omega, ?_⟩
      rw [e2, eW]
      refine Br.dec (fun q2 => ⟨by omega, ?_⟩) fun q2 => ⟨by omega, by omega, Lt.of ?_⟩
      · have hj2 : j + 1 ≤ 14 := by
          rcases Nat.lt_or_ge j 14 with h | h
          · omega
          · have : j = 14 := by omega
            subst this
            omega
        refine ⟨40 - (j + 1), by omega, j + 1, rfl, hj2, by rw [st1]; omega, ?_, rfl⟩
        rw [st1, i64_id (by omega), i64_id (by omega), i64_id (by omega)]
        refine Prod.ext ?_ (Prod.ext ?_ ?_)
        · show (_ : Int) = _; dsimp only; omega
        · show (_ : Int) = _; dsimp only; rw [← em]; omega
        · show (_ : Int) = _; dsimp only; omega
      · have hx : first + n - spr first each (each * (j + 2)) < each * 2 ^ (j + 1) := by omega
        generalize hxe : first + n - spr first each (each * (j + 2)) = x at hx
        have hq : x / 2 ^ (j + 1) < each := (Nat.div_lt_iff_lt_mul hp0).2 hx
        have hdm := Nat.div_add_mod x (2 ^ (j + 1))
        have hmod := Nat.mod_lt x hp0
        have s1 := spr_step (first := first) (j := j) h2 (x / 2 ^ (j + 1)) (by omega)
        have s2 := spr_step (first := first) (j := j) h2 (x / 2 ^ (j + 1) + 1) (by omega)
        rw [Nat.add_mul, Nat.one_mul] at s2
        rw [Nat.mul_comm] at hdm
        have efd : Int.fdiv (x : Int) (2 ^ (min (((j + 1 : Nat) : Int)).toNat 64)) = ((x / 2 ^ (j + 1) : Nat) : Int) := by
          rw [Int.toNat_natCast, Nat.min_eq_left (by omega), fdiv_pow]
          simp
        have ediv : (each * (j + 2) + x / 2 ^ (j + 1)) / each = j + 2 := by
          rw [Nat.mul_add_div (by omega), Nat.div_eq_of_lt hq]
        have hxb : x < 2 ^ 40 := by omega
        refine ⟨each * (j + 2) + x / 2 ^ (j + 1), ?_, by rw [s1]; omega, by rw [Nat.add_assoc, s2]; omega, ?_, by rw [ediv]; rfl, (Ext.refl _ _).drew⟩
        · rw [efd]
          generalize x / 2 ^ (j + 1) = qq at hq ⊢
          rw [i64_id (by omega)]
          omega
        · rw [mask_mod hxb (by omega), s1]; omega
theorem c_Sign (v : Int) (w : World) : C16 v w fun a b c e w1 => (a, b, c, e) = sgnF v ∧ Ext (fun _ => False) w w1 := by
  refine T16 _ _ _ ?_
  unfold S16 sgnF
  refine Br.dec (fun q => ⟨by rw [if_pos (.inl q)], Ext.refl _ _⟩) fun q => Br.dec (fun q2 => ⟨by rw [if_pos (.inr q2)], Ext.refl _ _⟩) fun q2 => ?_
  rw [if_neg (by omega)]
  obtain ⟨n, rfl⟩ : ∃ n : Nat, v = (n : Int) := ⟨v.toNat, by omega⟩
  rw [Int.toNat_natCast]
  refine Br.eq (fun q3 => ?_) fun q3 => ?_
  · have : n = 258 := by omega
    subst this
    exact ⟨rfl, Ext.refl _ _⟩
  · rw [i64_id (by omega), show (n : Int) - 3 = ((n - 3 : Nat) : Int) by omega]
    refine (c_said (first := 3) (each := 4) (.inr rfl) (n := n - 3) (by omega) w).mono ?_
    rintro a b c w1 ⟨k, rfl, h1, h2, rfl, rfl, he⟩
    rw [spr_L] at h1 h2 ⊢
    have hk := kL_eq (v := n) (k := k) (by omega) (by omega) (by omega) (by omega)
    obtain ⟨k1, k2, k3, k4⟩ := kL_spec (v := n) (by omega) (by omega)
    rw [← hk] at k1 k2 k3 k4 ⊢
    have hne : k ≠ 28 := by omega
    have hf : firstL k = baseL k := by unfold firstL; rw [if_neg hne]
    have hm : moreL k = k / 4 - 1 := by unfold moreL; rw [if_neg hne]
    rw [i64_id (by omega), hf, hm]
    refine ⟨?_, he⟩
    refine Prod.ext ?_ (Prod.ext ?_ rfl)
    · show (_ : Int) = _; dsimp only; omega
    · show (_ : Int) = _; dsimp only; omega
theorem c_Back (v : Int) (w : World) : C18 v w fun a b c e w1 => (a, b, c, e) = bckF v ∧ Ext (fun _ => False) w w1 := by
  refine T18 _ _ _ ?_
  unfold S18 bckF
  refine Br.dec (fun q => ⟨by rw [if_pos (.inl q)], Ext.refl _ _⟩) fun q => Br.dec (fun q2 => ⟨by rw [if_pos (.inr q2)], Ext.refl _ _⟩) fun q2 => ?_
  rw [if_neg (by omega)]
  obtain ⟨n, rfl⟩ : ∃ n : Nat, v = (n : Int) := ⟨v.toNat, by omega⟩
  rw [Int.toNat_natCast]
  rw [i64_id (by omega), show (n : Int) - 1 = ((n - 1 : Nat) : Int) by omega]
  refine (c_said (first := 1) (each := 2) (.inl rfl) (n := n - 1) (by omega) w).mono ?_
  rintro a b c w1 ⟨k, rfl, h1, h2, rfl, rfl, he⟩
  rw [spr_D] at h1 h2 ⊢
  have hk := kD_eq (v := n) (k := k) (by omega) (by omega) (by omega) (by omega)
  rw [← hk]
  refine ⟨?_, he⟩
  refine Prod.ext rfl (Prod.ext ?_ rfl)
  show (_ : Int) = _; dsimp only; omega
/-! ### The reference's -/
theorem r_Sign (v : Int) (w : World) : C17 v w fun a b c e w1 => (a, b, c, e) = sgnF v ∧ Ext (fun _ => False) w w1 := by
  refine T17 _ _ _ ?_
  unfold S17 sgnF
  refine Br.dec (fun q => ⟨by rw [if_pos (.inl q)], Ext.refl _ _⟩) fun q => Br.dec (fun q2 => ⟨by rw [if_pos (.inr q2)], Ext.refl _ _⟩) fun q2 => ?_
  rw [if_neg (by omega)]
  obtain ⟨n, rfl⟩ : ∃ n : Nat, v = (n : Int) := ⟨v.toNat, by omega⟩
  rw [Int.toNat_natCast]
  refine Br.eq (fun q3 => ?_) fun q3 => ?_
  · have : n = 258 := by omega
    subst this
    exact ⟨rfl, Ext.refl _ _⟩
  · have hn : n ≠ 258 := by omega
    refine ⟨fun m st w3 => ∃ k : Nat, m = 40 - k ∧ k ≤ 27 ∧ baseL k ≤ n ∧ st = (((257 + k : Nat) : Int), ((k / 4 - 1 : Nat) : Int), ((baseL k : Nat) : Int)) ∧ w3 = w, 40, ⟨0, rfl, by omega, by show 3 ≤ n; omega, rfl, rfl⟩, ?_⟩
    rintro m st w3 ⟨k, rfl, hk, hle, rfl, rfl⟩
    unfold S17L1
    dsimp only
    have hb1 : baseL (k + 1) = baseL k + 2 ^ (k / 4 - 1) := rfl
    have hp : 2 ^ (k / 4 - 1) ≤ 2 ^ 10 := Nat.pow_le_pow_right (by omega) (by omega)
    rw [sh1 rfl (show k / 4 - 1 ≤ 30 by omega), i64_id (n := ((baseL k : Nat) : Int) + _) (by omega), i64_id (n := ((257 + k : Nat) : Int) + 1) (by omega)]
    have em : Int.tmod (((257 + k : Nat) : Int) + 1) 4 = (((258 + k) % 4 : Nat) : Int) := by
      rw [Int.tmod_eq_emod_of_nonneg (by omega)]
      omega
    rw [em]
    refine ⟨by omega, Lt.of ?_⟩
    refine Br.dec (fun q4 => ⟨by omega, ?_⟩) fun q4 => ?_
    · have hk2 : k + 1 ≤ 27 := by
        rcases Nat.lt_or_ge k 27 with h | h
        · omega
        · have : k = 27 := by omega
          subst this
          have : baseL (27 + 1) = 259 := baseL28
          omega
      have fin : ∀ b : Int, b = (((k + 1) / 4 - 1 : Nat) : Int) → ∃ m < 40 - k, ∃ k_1 : Nat, m = 40 - k_1 ∧ k_1 ≤ 27 ∧ baseL k_1 ≤ n ∧ (((257 + k : Nat) : Int) + 1, b, ((baseL k : Nat) : Int) + ((2 ^ (k / 4 - 1) : Nat) : Int)) = (((257 + k_1 : Nat) : Int), ((k_1 / 4 - 1 : Nat) : Int), ((baseL k_1 : Nat) : Int)) ∧ w3 = w3 := by
        rintro b rfl
        refine ⟨40 - (k + 1), by omega, k + 1, rfl, hk2, by omega, ?_, rfl⟩
        refine Prod.ext ?_ (Prod.ext rfl ?_)
        · show (_ : Int) = _; dsimp only; omega
        · show (_ : Int) = _; dsimp only; omega
      refine Br.dec (fun q5 => Br.eq (fun q6 => ?_) fun q6 => ?_) fun q5 => ?_
      · rw [i64_id (by omega)]; exact fin _ (by omega)
      · exact fin _ (by omega)
      · exact fin _ (by omega)
    · have hkL := kL_eq (v := n) (k := k) (by omega) (by omega) hle (by omega)
      have hf : firstL k = baseL k := by unfold firstL; rw [if_neg (by omega)]
      have hm : moreL k = k / 4 - 1 := by unfold moreL; rw [if_neg (by omega)]
      rw [← hkL, hf, hm, i64_id (by omega)]
      refine ⟨?_, Ext.refl _ _⟩
      refine Prod.ext rfl (Prod.ext ?_ rfl)
      show (_ : Int) = _; dsimp only; omega
theorem r_Back (v : Int) (w : World) : C19 v w fun a b c e w1 => (a, b, c, e) = bckF v ∧ Ext (fun _ => False) w w1 := by
  refine T19 _ _ _ ?_
  unfold S19 bckF
  refine Br.dec (fun q => ⟨by rw [if_pos (.inl q)], Ext.refl _ _⟩) fun q => Br.dec (fun q2 => ⟨by rw [if_pos (.inr q2)], Ext.refl _ _⟩) fun q2 => ?_
  rw [if_neg (by omega)]
  obtain ⟨n, rfl⟩ : ∃ n : Nat, v = (n : Int) := ⟨v.toNat, by omega⟩
  rw [Int.toNat_natCast]
  refine ⟨fun m st w3 => ∃ k : Nat, m = 40 - k ∧ k ≤ 29 ∧ baseD k ≤ n ∧ st = ((k : Int), ((k / 2 - 1 : Nat) : Int), ((baseD k : Nat) : Int)) ∧ w3 = w, 40, ⟨0, rfl, by omega, by show 1 ≤ n; omega, rfl, rfl⟩, ?_⟩
  rintro m st w3 ⟨k, rfl, hk, hle, rfl, rfl⟩
  unfold S19L1
  dsimp only
  have hb1 : baseD (k + 1) = baseD k + 2 ^ (k / 2 - 1) := rfl
  have hp : 2 ^ (k / 2 - 1) ≤ 2 ^ 14 := Nat.pow_le_pow_right (by omega) (by omega)
  rw [sh1 rfl (show k / 2 - 1 ≤ 30 by omega), i64_id (n := ((baseD k : Nat) : Int) + _) (by omega), i64_id (n := (k : Int) + 1) (by omega)]
  have em : Int.tmod ((k : Int) + 1) 2 = (((1 + k) % 2 : Nat) : Int) := by
    rw [Int.tmod_eq_emod_of_nonneg (by omega)]
    omega
  rw [em]
  refine ⟨by omega, Lt.of ?_⟩
  refine Br.dec (fun q4 => ⟨by omega, ?_⟩) fun q4 => ?_
  · have hk2 : k + 1 ≤ 29 := by
      rcases Nat.lt_or_ge k 29 with h | h
      · omega
      · have : k = 29 := by omega
        subst this
        have : baseD (29 + 1) = 32769 := baseD30
        omega
    have fin : ∀ b : Int, b = (((k + 1) / 2 - 1 : Nat) : Int) → ∃ m < 40 - k, ∃ k_1 : Nat, m = 40 - k_1 ∧ k_1 ≤ 29 ∧ baseD k_1 ≤ n ∧ ((k : Int) + 1, b, ((baseD k : Nat) : Int) + ((2 ^ (k / 2 - 1) : Nat) : Int)) = ((k_1 : Int), ((k_1 / 2 - 1 : Nat) : Int), ((baseD k_1 : Nat) : Int)) ∧ w3 = w3 := by
      rintro b rfl
      refine ⟨40 - (k + 1), by omega, k + 1, rfl, hk2, by omega, ?_, rfl⟩
      refine Prod.ext ?_ (Prod.ext rfl ?_)
      · show (_ : Int) = _; dsimp only; omega
      · show (_ : Int) = _; dsimp only; omega
    refine Br.dec (fun q5 => Br.eq (fun q6 => ?_) fun q6 => ?_) fun q5 => ?_
    · rw [i64_id (by omega)]; exact fin _ (by omega)
    · exact fin _ (by omega)
    · exact fin _ (by omega)
  · have hkD := kD_eq (v := n) (k := k) (by omega) (by omega) hle (by omega)
    rw [← hkD, i64_id (by omega)]
    refine ⟨?_, Ext.refl _ _⟩
    refine Prod.ext rfl (Prod.ext ?_ rfl)
    show (_ : Int) = _; dsimp only; omega
/-- What the sign says is the size. -/
theorem size_back {v : Int} (h : ¬ (v < 3 ∨ 258 < v)) : sizeF (sgnF v).1 (sgnF v).2.1 = (v, 0) := by
  obtain ⟨n, rfl⟩ : ∃ n : Nat, v = (n : Int) := ⟨v.toNat, by omega⟩
  obtain ⟨a, b, c, d⟩ := kL_spec (v := n) (by omega) (by omega)
  have e2 : ((2 ^ moreL (kL n) : Nat) : Int) = 2 ^ moreL (kL n) := by simp
  unfold sgnF sizeF
  rw [if_neg h, Int.toNat_natCast]
  dsimp only
  rw [if_neg (by omega), show (((257 + kL n : Nat) : Int) - 257).toNat = kL n by omega]
  rw [if_neg (by omega)]
  refine Prod.ext ?_ rfl
  show (_ : Int) = _; dsimp only; omega
theorem far_back {v : Int} (h : ¬ (v < 1 ∨ 32768 < v)) : farF (bckF v).1 (bckF v).2.1 = (v, 0) := by
  obtain ⟨n, rfl⟩ : ∃ n : Nat, v = (n : Int) := ⟨v.toNat, by omega⟩
  obtain ⟨a, b, c⟩ := kD_spec (v := n) (by omega) (by omega)
  have e2 : ((2 ^ moreD (kD n) : Nat) : Int) = 2 ^ moreD (kD n) := by simp
  unfold bckF farF
  rw [if_neg h, Int.toNat_natCast]
  dsimp only
  rw [if_neg (by omega), Int.toNat_natCast]
  rw [if_neg (by omega)]
  refine Prod.ext ?_ rfl
  show (_ : Int) = _; dsimp only; omega
end Inf
end Go.Proofs.Ytjkoafjnmkchdaa

/- append to a slice that has no room, or to an empty one. Conditions: sizes. -/
namespace Go.Proofs.Ytjkoafjnmkchdaa
namespace Sh
set_option linter.unusedVariables false
set_option linter.unusedSimpArgs false
section
variable {P : Program} {t e : TypeId} {k B : Nat} {z : Value} {w : World} {s : Slc} {ty : TypeId} {xs ys news : List Value} {i : TypeInfo} {x : Value} {m len : Nat} {a : Addr}
/-- append to a slice without room. -/
theorem append_fullB (ht : P.underlying t = some (.slice e)) (hi : P.info? e = some i) (hz : i.zero = some z) (hzs : z.cells.size = i.size) (hm : 0 < m)
    (hlen : Builtin.lenOf x = pure m) (hcells : ∀ w' : World, w'.heap = w.heap → (Builtin.firstCells i.size m x).run P w' = .ok news.toArray w') (hl : news.length = m * i.size)
    (hx1 : xs.length = len * i.size) (holds : ∀ j v, xs[j]? = some v → w.cell? (a.add j) = some v) (hb : (len + m) * i.bytes ≤ 140737488355328) (h63 : len + m ≤ 9223372036854775807) :
    ∃ s' w', RunV P (Builtin.append_ #[t, t] ty #[Slc.v ⟨some a, len, len⟩, x]) w (Slc.v s') w' ∧ Row w' s' e i.size (xs ++ news) ∧ s'.len = len + m ∧ Ext (fun _ => False) w w' ∧ ∀ j, s'.own j → w.heap.size ≤ j := by
  have hlenr : (xs ++ news).length = (len + m) * i.size := by rw [List.length_append, hx1, hl, Nat.add_mul]
  have hd : w.drew.heap = w.heap := rfl
  refine ⟨⟨some ⟨w.heap.size, 0, none⟩, len + m, grownCap w (len + m) len e⟩, w.drew.alloc (.cells (xs.toArray ++ news.toArray ++ Builtin.zeroCells z.cells (grownCap w (len + m) len e - (len + m))) e), ?_, ⟨hlenr, .inr ⟨_, _, rfl, Blk.new w.drew _ e, grownCap_ge w (len + m) len e, ?_, ?_⟩⟩, rfl, ((Ext.refl _ w).drew).alloc _, fun j hj => ?_⟩
  · have hc := hcells w.drew hd
    have hf := growslice_fits (need := len + m) (old := len) (by omega) hb
    have hf' : ¬ (281474976710656 < Builtin.nextslicecap (len + m) len * i.bytes) := by omega
    have h6 : ¬ (9223372036854775807 < ((len : Int) + (m : Int))) := by omega
    have hroom : ¬ (len + m ≤ len) := by omega
    have hm0 : m ≠ 0 := by omega
    have hfo := run_firstCells_some (P := P) w.drew i.size len a len len xs hx1 (fun j v hj => by have := holds j v hj; simpa using this)
    simp [RunV, Slc.v, Builtin.append_, run_underlying ht, sizeOf, typeInfo, zeroValue, hi, hz, hlen, hroom, hm0, h6, hf', Question.forced, hfo, hc, newRow, grownCap] <;>
      (congr 2; apply Array.ext'; simp [List.append_assoc])
  · have hge := grownCap_ge w (len + m) len e
    simp only [Array.size_append, List.size_toArray, size_zeroCells, hzs, hx1, hl, ← Nat.add_mul]
    congr 1
    omega
  · simp only [Array.toList_append]
    rw [← hlenr]
    exact List.take_left
  · obtain ⟨a', ha, rfl⟩ := hj
    cases ha
    exact Nat.le_refl _
/-- append(empty, l...): nothing old is written. -/
theorem El.app0 {s2 : Slc} (h : El P t e k B z) (hk : 0 < k) (own : Row w s e k []) (hc : s.cap = 0) (h2 : VRow w s2 k ys) (h1 : ∀ v ∈ ys, v.oneCell' = true) (hb : s2.len * B ≤ 140737488355328) (h63 : s2.len ≤ 9223372036854775807) :
    ∃ s' w', RunV P (Builtin.append_ #[t, t] ty #[Slc.v s, Slc.v s2]) w (Slc.v s') w' ∧ Row w' s' e k ys ∧ s'.len = s2.len ∧ Ext (fun _ => False) w w' ∧ ∀ j, s'.own j → s.own j ∨ w.heap.size ≤ j := by
  have hl0 : s.len = 0 := by
    have := own.1
    rcases Nat.mul_eq_zero.1 this.symm with h0 | h0
    · exact h0
    · omega
  obtain ⟨p, len, cap⟩ := s
  simp only at hc hl0
  subst hc hl0
  cases p with
  | none =>
    obtain ⟨s', w', r1, r2, r3, r4, r5⟩ := h.app (ty := ty) (xs := []) own h2 h1 (by simpa using hb) (by simpa using h63)
    exact ⟨s', w', r1, by simpa using r2, by simpa using r3, r4.mono (fun j _ hj => by obtain ⟨a, ha, _⟩ := hj; cases ha), r5⟩
  | some a =>
    obtain ⟨i, hi, rfl, rfl, hz⟩ := h.info
    have hcells : ∀ w' : World, w'.heap = w.heap → (Builtin.firstCells i.size s2.len (Slc.v s2)).run P w' = .ok ys.toArray w' := fun w' hw' => by
      obtain ⟨p, len, cap⟩ := s2
      cases p with
      | none =>
        have hy : ys = [] := by
          cases ys with
          | nil => rfl
          | cons y r =>
            obtain ⟨a, ha, _⟩ := h2.2 0 y rfl
            cases ha
        subst hy
        have hl := h2.1
        simp only [List.length_nil] at hl
        exact run_firstCells_none (P := P) (w := w') _ _ _ _
      | some a =>
        refine run_firstCells_some w' i.size len a len cap ys h2.1 fun j v hj => ?_
        obtain ⟨a', ha, hc⟩ := h2.2 j v hj
        cases ha
        unfold World.cell? at hc ⊢
        rw [hw']
        exact hc
    by_cases hm : s2.len = 0
    · have hy : ys = [] := List.eq_nil_of_length_eq_zero (by have := h2.1; rw [hm] at this; simpa using this)
      subst hy
      refine ⟨⟨some a, 0, 0⟩, w, ?_, own, hm.symm, Ext.refl _ _, fun j hj => .inl hj⟩
      have hc := hcells w rfl
      have hlen : Builtin.lenOf (Slc.v s2) = pure 0 := by rw [← hm]; rfl
      rw [hm] at hc
      simp [RunV, Builtin.append_, run_underlying h.und, sizeOf, typeInfo, hi, hlen, hc, Slc.v] at *
      simp [RunV, Builtin.append_, run_underlying h.und, sizeOf, typeInfo, hi, hlen, hc, Slc.v, storeCells]
    · obtain ⟨s', w', r1, r2, r3, r4, r5⟩ := append_fullB (ty := ty) (a := a) (len := 0) (xs := []) (x := Slc.v s2) (m := s2.len) h.und hi hz h.cells (by omega) rfl hcells h2.1 (by simp) (fun j v hj => by cases hj) (by simpa using hb) (by simpa using h63)
      exact ⟨s', w', r1, by simpa using r2, by simpa using r3, r4, fun j hj => .inr (r5 j hj)⟩
end
end Sh
end Go.Proofs.Ytjkoafjnmkchdaa

/- Deflate: what parts give, or why not; both sides. Conditions: sizes. -/
namespace Go.Proofs.Ytjkoafjnmkchdaa
namespace Inf
open Sh Bit
set_option linter.unusedVariables false
set_option linter.unusedSimpArgs false
set_option maxRecDepth 4000
set_option maxHeartbeats 1000000
attribute [local irreducible] Ld St Nw Nn Lt LdS
/-- A part as it lies in memory: a byte, a size, how far back. -/
abbrev Qr := Int × Int × Int
def prow (q : Qr) : List Value := [.int .u8 q.1, .int .i64 q.2.1, .int .i64 q.2.2]
theorem elP : El Try.prog 29 34 3 24 (.agg (prow (0, 0, 0)).toArray) := ⟨by kernel_rfl, by kernel_rfl, by kernel_rfl, by kernel_rfl, rfl⟩
theorem elR : El Try.prog 31 35 3 24 (.agg (prow (0, 0, 0)).toArray) := ⟨by kernel_rfl, by kernel_rfl, by kernel_rfl, by kernel_rfl, rfl⟩
theorem p_len (L : List Qr) : (L.flatMap prow).length = L.length * 3 := by
  induction L with
  | nil => rfl
  | cons o L ih => rw [List.flatMap_cons, List.length_append, ih, List.length_cons]; simp [prow]; omega
theorem p_get {L : List Qr} {i j : Nat} {o : Qr} (hi : L[i]? = some o) (hj : j < 3) : (L.flatMap prow)[i * 3 + j]? = (prow o)[j]? := by
  induction L generalizing i with
  | nil => cases hi
  | cons p L ih =>
    rw [List.flatMap_cons]
    cases i with
    | zero =>
      cases hi
      rw [Nat.zero_mul, Nat.zero_add, List.getElem?_append_left (by simp [prow]; omega)]
    | succ i =>
      rw [List.getElem?_append_right (by simp [prow]; omega), ← ih (by simpa using hi)]
      congr 1
      simp only [prow, List.length_cons, List.length_nil]
      omega
theorem p_one (L : List Qr) : ∀ v ∈ L.flatMap prow, v.oneCell' = true := by
  intro v hv
  obtain ⟨q, _, hq⟩ := List.mem_flatMap.1 hv
  unfold prow at hq
  rcases List.mem_cons.1 hq with rfl | hq
  · rfl
  rcases List.mem_cons.1 hq with rfl | hq
  · rfl
  rcases List.mem_cons.1 hq with rfl | hq
  · rfl
  · cases hq
/-- The parts of a slice. -/
def PV (w : World) (s : Slc) (L : List Qr) : Prop := s.len = L.length ∧ VRow w s 3 (L.flatMap prow)
theorem PV.keep {w w' : World} {s : Slc} {L : List Qr} (h : PV w s L) (he : Ext (fun _ => False) w w') : PV w' s L := ⟨h.1, h.2.keep he⟩
theorem PV.get {w : World} {s : Slc} {L : List Qr} (h : PV w s L) {i : Nat} {o : Qr} (hi : L[i]? = some o) : ∃ a, s.p = some a ∧ w.cell? (a.add (i * 3)) = some (.int .u8 o.1) ∧ w.cell? ((a.add (i * 3)).add 1) = some (.int .i64 o.2.1) ∧ w.cell? ((a.add (i * 3)).add 2) = some (.int .i64 o.2.2) := by
  have g : ∀ j v, j < 3 → (prow o)[j]? = some v → ∃ a, s.p = some a ∧ w.cell? ((a.add (i * 3)).add j) = some v := fun j v hj hv => by
    obtain ⟨a, ha, hc⟩ := h.2.2 (i * 3 + j) v (by rw [p_get hi hj]; exact hv)
    exact ⟨a, ha, by rw [add_add']; exact hc⟩
  obtain ⟨a, ha, c0⟩ := g 0 _ (by omega) rfl
  obtain ⟨a1, ha1, c1⟩ := g 1 _ (by omega) rfl
  obtain ⟨a2, ha2, c2⟩ := g 2 _ (by omega) rfl
  rw [ha] at ha1 ha2
  cases ha1; cases ha2
  exact ⟨a, ha, by rw [add_add'] at c0; exact c0, c1, c2⟩
def okQ (q : Qr) : Prop := (q.2.1 = 0 ∧ q.2.2 = 0) ∨ (q.1 = 0 ∧ 3 ≤ q.2.1 ∧ q.2.1 ≤ 258 ∧ 1 ≤ q.2.2 ∧ q.2.2 ≤ 32768)
instance (q : Qr) : Decidable (okQ q) := by unfold okQ; infer_instance
def toP (q : Qr) : Prt := ⟨UInt8.ofNat q.1.toNat, q.2.1.toNat, q.2.2.toNat⟩
/-- What parts give, or the first error. -/
def unQ : List Qr → List UInt8 → Except Int (List UInt8)
  | [], out => .ok out
  | q :: r, out => if ¬ okQ q then .error 1 else if (out.length : Int) < q.2.2 then .error 14 else if 1048576 < (out.length : Int) + max q.2.1 1 then .error 5 else unQ r (addP out (toP q))
def unR (L : List Qr) : ByteArray × Int := match unQ L [] with
  | .ok o => (⟨o.toArray⟩, 0)
  | .error e => (⟨#[]⟩, e)
def rawP (p : Prt) : Qr := ((p.b.toNat : Int), (p.n : Int), (p.f : Int))
theorem toP_raw (p : Prt) : toP (rawP p) = p := by
  unfold toP rawP
  simp
theorem unQ_fit : ∀ (l : List Prt) (out : List UInt8), Fit l out → (l.foldl addP out).length ≤ 1048576 → unQ (l.map rawP) out = .ok (l.foldl addP out)
  | [], out, _, _ => rfl
  | p :: r, out, ⟨h1, h2, h3⟩, hl => by
    rw [List.map_cons]
    unfold unQ
    rw [List.foldl_cons] at hl ⊢
    have := foldl_len r (addP out p)
    rw [addP_len] at this
    have ok : okQ (rawP p) := by
      unfold okQ rawP
      rcases h1 with ⟨a, b⟩ | ⟨a, b, c, d, e⟩
      · exact .inl ⟨by simp [a], by simp [b]⟩
      · exact .inr ⟨by simp [a], by show 3 ≤ (p.n : Int); omega, by show (p.n : Int) ≤ 258; omega, by show 1 ≤ (p.f : Int); omega, by show (p.f : Int) ≤ 32768; omega⟩
    rw [if_neg (fun h => h ok), toP_raw, if_neg (by show ¬ (out.length : Int) < (p.f : Int); omega), if_neg (by show ¬ 1048576 < (out.length : Int) + max (p.n : Int) 1; omega)]
    exact unQ_fit r (addP out p) h3 hl
theorem Hn.base {w0 w1 w : World} {L : List (Nat × List Value × TypeId)} (h : Hn w1 w L) (he : Ext (fun _ => False) w0 w1) : Hn w0 w L :=
  ⟨⟨h.h.blk, h.h.nodup, he.tr h.ext⟩, fun p hp => Nat.le_trans he.size (h.new p hp)⟩
section
variable {w vw : World} {B : Nat} {cs : List Value} {t : TypeId} {sl : Slc} {out : List UInt8}
/-- A byte is appended. -/
theorem push1 (H : Hn w vw [(B, cs, t)]) (hr : BRow vw sl out) (ho : ∀ j, sl.own j → w.heap.size ≤ j ∧ j ≠ B) (hl : out.length ≤ 2000000) (b : UInt8) {x : Int} (hx : x = (b.toNat : Int)) {K : Slc → World → Prop}
    (k : ∀ s' w', Hn w w' [(B, cs, t)] → BRow w' s' (out ++ [b]) → (∀ j, s'.own j → w.heap.size ≤ j ∧ j ≠ B) → K s' w') :
    Nw vw (.cells #[.int .u8 x] 5) fun vw46 => Rn Try.prog (Builtin.append_ #[40, 40] 40 #[Slc.v sl, Slc.v ((⟨some ⟨vw.heap.size, 0, none⟩, 1, 1⟩ : Slc))]) vw46 Slc.v K := by
  subst hx
  refine Nw.of ?_
  have e1 := (Ext.refl (fun _ => False) vw).alloc (.cells #[.int .u8 (b.toNat : Int)] 5)
  obtain ⟨s', w', hrun, hrow, hext, hown⟩ := app_one (ty := 40) (b := b) (hr.keep e1 (fun _ _ h => h)) (Blk.new vw _ _) (by omega)
  refine ⟨s', w', hrun, k s' w' ((H.keep e1).other hext fun j hj => ⟨(ho j hj).1, by simpa using (ho j hj).2⟩) hrow fun j hj => ?_⟩
  rcases hown j hj with e | e
  · exact ho j e
  · have h1 := H.lt 0 rfl
    have h2 := e1.size
    have h3 := H.size
    exact ⟨by omega, by omega⟩
theorem copy_succ (out : List UInt8) (f j : Nat) : copy out f (j + 1) = copy out f j ++ [(copy out f j).getD (out.length + j - f) 0] := by
  show copy out f j ++ [(copy out f j).getD ((copy out f j).length - f) 0] = _
  rw [copy_len]
variable {s2 : Slc × Int} {vw3 : World} {I4 : (Slc × Int) → World → Prop} {b : Int} {n f : Nat}
theorem l13 (H : Hn w vw [(vw3.heap.size, prow (b, (n : Int), (f : Int)), 34)]) (hr : BRow vw s2.1 out) (ho : ∀ j, s2.1.own j → w.heap.size ≤ j ∧ j ≠ vw3.heap.size) (hf1 : 1 ≤ f) (hf : f ≤ out.length) (hl : out.length + n ≤ 1048576)
    (k : ∀ s' w', Hn w w' [(vw3.heap.size, prow (b, (n : Int), (f : Int)), 34)] → BRow w' s' (copy out f n) → (∀ j, s'.own j → w.heap.size ≤ j ∧ j ≠ vw3.heap.size) → I4 (s', IntKind.i64.wrap (s2.2 + 1)) w') :
    Lp (σ := Slc × Int) (S13L2 s2 vw3 I4 (n : Int)) (s2.1, 0) vw := by
  refine ⟨fun m st w9 => ∃ j : Nat, st.2 = (j : Int) ∧ j ≤ n ∧ m = n - j ∧ Hn w w9 [(vw3.heap.size, prow (b, (n : Int), (f : Int)), 34)] ∧ BRow w9 st.1 (copy out f j) ∧ ∀ i, st.1.own i → w.heap.size ≤ i ∧ i ≠ vw3.heap.size, n, ⟨0, rfl, by omega, rfl, H, hr, ho⟩, ?_⟩
  rintro m ⟨sl, j'⟩ w9 ⟨j, hj', hj, rfl, H, hr9, ho9⟩
  simp only at hj' hr9 ho9
  subst hj'
  unfold S13L2 prow at *
  dsimp only
  have hcl := copy_len out f j
  rw [hr9.len, hcl]
  refine Br.dec (fun q => ?_) fun q => ?_
  · iterate 1 refine H.ld 0 rfl rfl ?_
    rw [i64_id (n := ((out.length + j : Nat) : Int) - (f : Int)) (by omega), show ((out.length + j : Nat) : Int) - (f : Int) = ((out.length + j - f : Nat) : Int) by omega]
    have hlt : out.length + j - f < (copy out f j).length := by omega
    obtain ⟨g, hg, hc⟩ := hr9.get (getD_some hlt)
    rw [hg]
    refine ⟨by omega, by omega, Nn.of ?_⟩
    simp only [add_lit, Int.toNat_natCast, Nat.mul_one, Nat.zero_add]
    refine Ld.mk (x := (((copy out f j).getD (out.length + j - f) 0).toNat : Int)) hc ?_
    refine push1 H hr9 ho9 (by omega) _ rfl fun s' w' H hr' ho' => ?_
    refine ⟨n - (j + 1), by omega, j + 1, by rw [i64_id (by omega)]; rfl, by omega, rfl, H, ?_, ho'⟩
    rw [copy_succ]
    exact hr'
  · have : j = n := by omega
    subst this
    exact k _ _ H hr9 ho9
theorem l14 (H : Hn w vw [(vw3.heap.size, prow (b, (n : Int), (f : Int)), 35)]) (hr : BRow vw s2.1 out) (ho : ∀ j, s2.1.own j → w.heap.size ≤ j ∧ j ≠ vw3.heap.size) (hf1 : 1 ≤ f) (hf : f ≤ out.length) (hl : out.length + n ≤ 1048576)
    (k : ∀ s' w', Hn w w' [(vw3.heap.size, prow (b, (n : Int), (f : Int)), 35)] → BRow w' s' (copy out f n) → (∀ j, s'.own j → w.heap.size ≤ j ∧ j ≠ vw3.heap.size) → I4 (s', IntKind.i64.wrap (s2.2 + 1)) w') :
    Lp (σ := Slc × Int) (S14L2 s2 vw3 I4) (s2.1, 0) vw := by
  refine ⟨fun m st w9 => ∃ j : Nat, st.2 = (j : Int) ∧ j ≤ n ∧ m = n - j ∧ Hn w w9 [(vw3.heap.size, prow (b, (n : Int), (f : Int)), 35)] ∧ BRow w9 st.1 (copy out f j) ∧ ∀ i, st.1.own i → w.heap.size ≤ i ∧ i ≠ vw3.heap.size, n, ⟨0, rfl, by omega, rfl, H, hr, ho⟩, ?_⟩
  rintro m ⟨sl, j'⟩ w9 ⟨j, hj', hj, rfl, H, hr9, ho9⟩
  simp only at hj' hr9 ho9
  subst hj'
  unfold S14L2 prow at *
  dsimp only
  have hcl := copy_len out f j
  iterate 1 refine H.ld 0 rfl rfl ?_
  dsimp only
  rw [hr9.len, hcl]
  refine Br.dec (fun q => ?_) fun q => ?_
  · iterate 1 refine H.ld 0 rfl rfl ?_
    rw [i64_id (n := ((out.length + j : Nat) : Int) - (f : Int)) (by omega), show ((out.length + j : Nat) : Int) - (f : Int) = ((out.length + j - f : Nat) : Int) by omega]
    have hlt : out.length + j - f < (copy out f j).length := by omega
    obtain ⟨g, hg, hc⟩ := hr9.get (getD_some hlt)
    rw [hg]
    refine ⟨by omega, by omega, Nn.of ?_⟩
    simp only [add_lit, Int.toNat_natCast, Nat.mul_one, Nat.zero_add]
    refine Ld.mk (x := (((copy out f j).getD (out.length + j - f) 0).toNat : Int)) hc ?_
    refine push1 H hr9 ho9 (by omega) _ rfl fun s' w' H hr' ho' => ?_
    refine ⟨n - (j + 1), by omega, j + 1, by rw [i64_id (by omega)]; rfl, by omega, rfl, H, ?_, ho'⟩
    rw [copy_succ]
    exact hr'
  · have : j = n := by omega
    subst this
    exact k _ _ H hr9 ho9
end
theorem c_may (q : Qr) (w : World) : C31 (q.1, q.2.1, q.2.2) w fun r w1 => r = decide (okQ q) ∧ Ext (fun _ => False) w w1 := by
  refine T31 (q.1, q.2.1, q.2.2) _ _ ?_
  unfold S31
  refine (Hn.start w).nw fun w2 H => ?_
  simp only [List.nil_append] at H
  iterate 1 refine H.ld 0 rfl rfl ?_
  refine Br.eq (fun h1 => ?_) fun h1 => ?_
  · iterate 1 refine H.ld 0 rfl rfl ?_
    refine ⟨?_, H.ext⟩
    by_cases h2 : q.2.2 = 0
    · rw [decide_eq_true (show okQ q from .inl ⟨h1, h2⟩)]; simp [h2]
    · rw [decide_eq_false (fun h : okQ q => by rcases h with h | h <;> omega)]; simp [h2]
  · iterate 1 refine H.ld 0 rfl rfl ?_
    refine Br.eq (fun h2 => ?_) fun h2 => ⟨(decide_eq_false (fun h : okQ q => by rcases h with h | h <;> omega)).symm, H.ext⟩
    iterate 1 refine H.ld 0 rfl rfl ?_
    refine Br.dec (fun h3 => ?_) fun h3 => ⟨(decide_eq_false (fun h : okQ q => by rcases h with h | h <;> omega)).symm, H.ext⟩
    iterate 1 refine H.ld 0 rfl rfl ?_
    refine Br.dec (fun h4 => ?_) fun h4 => ⟨(decide_eq_false (fun h : okQ q => by rcases h with h | h <;> omega)).symm, H.ext⟩
    iterate 1 refine H.ld 0 rfl rfl ?_
    refine Br.dec (fun h5 => ?_) fun h5 => ⟨(decide_eq_false (fun h : okQ q => by rcases h with h | h <;> omega)).symm, H.ext⟩
    iterate 1 refine H.ld 0 rfl rfl ?_
    refine ⟨?_, H.ext⟩
    by_cases h6 : q.2.2 ≤ 32768
    · rw [decide_eq_true (show okQ q from .inr ⟨h2, h3, h4, h5, h6⟩)]; simp [h6]
    · rw [decide_eq_false (fun h : okQ q => by rcases h with h | h <;> omega)]; simp [h6]
/-- The loop over the parts. -/
def UInv (w : World) (L : List Qr) (m : Nat) (st : Slc × Int) (w3 : World) : Prop :=
  ∃ (i : Nat) (out : List UInt8), st.2 = (i : Int) ∧ i ≤ L.length ∧ m = L.length - i ∧ BRow w3 st.1 out ∧ out.length ≤ 1048576 ∧ unQ (L.drop i) out = unQ L [] ∧ Ext (fun _ => False) w w3 ∧ ∀ j, st.1.own j → w.heap.size ≤ j
theorem unq_er {L : List Qr} {e : Int} (h : .error e = unQ L []) : ((⟨#[]⟩ : ByteArray), e) = unR L := by
  unfold unR; rw [← h]
theorem max1 (x : Int) : (if 1 > x then 1 else x) = max x 1 := by split <;> omega
theorem unQ_cons (q : Qr) (r : List Qr) (out : List UInt8) : unQ (q :: r) out = if ¬ okQ q then .error 1 else if (out.length : Int) < q.2.2 then .error 14 else if 1048576 < (out.length : Int) + max q.2.1 1 then .error 5 else unQ r (addP out (toP q)) := rfl
theorem drop_at {L : List Qr} {i : Nat} (h : i < L.length) : ∃ o, L[i]? = some o ∧ o ∈ L ∧ L.drop i = o :: L.drop (i + 1) :=
  ⟨L[i], List.getElem?_eq_getElem h, List.getElem_mem h, List.drop_eq_getElem_cons h⟩
theorem UInv.next {w w3 : World} {L : List Qr} {i : Nat} {o : Qr} {out : List UInt8} {sl : Slc} {B : Nat} {t : TypeId} {cs : List Value} (hi : i < L.length) (hL : L.length ≤ 4611686018427387904) (hr : BRow w3 sl (addP out (toP o))) (hl : (out.length : Int) + max o.2.1 1 ≤ 1048576)
    (hun : unQ (L.drop (i + 1)) (addP out (toP o)) = unQ L []) (H : Hn w w3 [(B, cs, t)]) (ho : ∀ j, sl.own j → w.heap.size ≤ j ∧ j ≠ B) : ∃ m, m < L.length - i ∧ UInv w L m (sl, IntKind.i64.wrap ((i : Int) + 1)) w3 := by
  refine ⟨L.length - (i + 1), by omega, i + 1, _, by rw [i64_id (by omega)]; rfl, by omega, rfl, hr, ?_, hun, H.ext, fun j hj => (ho j hj).1⟩
  rw [addP_len]
  have : ((toP o).n : Int) = o.2.1.toNat := rfl
  omega
theorem c_Unparts {L : List Qr} {s : Slc} {w : World} (h : PV w s L) (hw : ∀ q ∈ L, 0 ≤ q.1 ∧ q.1 ≤ 255) (hL : L.length ≤ 4611686018427387904) : C13 s w fun r e w1 => (r, e) = unR L ∧ Ext (fun _ => False) w w1 := by
  refine T13 _ _ _ ?_
  unfold S13
  refine ⟨UInv w L, L.length, ⟨0, [], rfl, by omega, rfl, BRow.nil w, by simp, rfl, Ext.refl _ _, fun j hj => by obtain ⟨a, ha, _⟩ := hj; cases ha⟩, ?_⟩
  rintro m ⟨sl, i'⟩ w3 ⟨i, out, hi', hi, rfl, hr, hlen, hun, he, ho⟩
  simp only at hi' hr ho
  subst hi'
  unfold S13L3
  dsimp only
  rw [h.1]
  refine Br.dec (fun q => ?_) fun q => ?_
  · have hil : i < L.length := by omega
    obtain ⟨⟨b, n, f⟩, hio, hmem, hdrop⟩ := drop_at hil
    rw [hdrop, unQ_cons] at hun
    obtain ⟨a, ha, c0, c1, c2⟩ := (h.keep he).get hio
    have hob := hw _ hmem
    rw [ha]
    refine ⟨by omega, by omega, Nn.of ?_⟩
    rw [Int.toNat_natCast]
    refine Ld.mk (x := b) c0 (Ld.mk (x := n) c1 (Ld.mk (x := f) c2 ?_))
    have hne : ∀ j, sl.own j → w.heap.size ≤ j ∧ j ≠ w3.heap.size := fun j hj => ⟨ho j hj, by have := hr.own_lt hj; omega⟩
    refine (Hn.start w3).nw fun w9 H => ?_
    simp only [List.nil_append] at H
    iterate 3 (refine H.st 0 rfl (by simp) fun _ H => ?_; simp only [List.nil_append, List.cons_append, List.set_cons_zero, List.set_cons_succ, Nat.zero_add] at H)
    rename_i w12
    have hr := hr.keep H.ext (fun _ _ h => h)
    have H := Hn.base H he
    clear he
    have hb : b = ((UInt8.ofNat b.toNat).toNat : Int) := by
      rw [UInt8.toNat_ofNat', Nat.mod_eq_of_lt (by omega)]
      omega
    iterate 3 refine H.ld 0 rfl rfl ?_
    refine (c_may (b, n, f) w12).mono ?_
    rintro r w25 ⟨rfl, he2⟩
    have H := H.keep he2
    have hr := hr.keep he2 (fun _ _ h => h)
    by_cases hok : okQ (b, n, f)
    · refine Br.f (by rw [decide_eq_true hok]; rfl) ?_
      rw [if_neg (fun h => h hok)] at hun
      dsimp only at hun ⊢
      rw [hr.len]
      iterate 1 refine H.ld 0 rfl rfl ?_
      refine Br.dec (fun h1 => ?_) fun h1 => ?_
      · rw [if_pos (by omega)] at hun
        exact ⟨unq_er hun, H.ext⟩
      rw [if_neg (by omega)] at hun
      have hok' := hok
      unfold okQ at hok'
      dsimp only at hok'
      iterate 1 refine H.ld 0 rfl rfl ?_
      rw [max1, i64_id (by omega)]
      refine Lt.of ?_
      refine Br.dec (fun h2 => ?_) fun h2 => ?_
      · rw [if_pos (by omega)] at hun
        exact ⟨unq_er hun, H.ext⟩
      rw [if_neg (by omega)] at hun
      iterate 1 refine H.ld 0 rfl rfl ?_
      refine Br.eq (fun h3 => ?_) fun h3 => ?_
      · subst h3
        iterate 1 refine H.ld 0 rfl rfl ?_
        refine push1 H hr hne (by omega) _ hb fun s' w' H hr' ho' => ?_
        iterate 1 refine H.ld 0 rfl rfl ?_
        refine ⟨fun m st w9 => st = (s', 0) ∧ w9 = w', 0, ⟨rfl, rfl⟩, ?_⟩
        rintro m _ _ ⟨rfl, rfl⟩
        unfold S13L1
        dsimp only
        refine Br.dec (fun h4 => absurd h4 (by decide)) fun h4 => ?_
        exact UInv.next (o := (b, 0, f)) hil hL hr' (by show (out.length : Int) + max 0 1 ≤ _; omega) hun H ho'
      · obtain ⟨n', rfl⟩ : ∃ n' : Nat, n = (n' : Int) := ⟨n.toNat, by omega⟩
        obtain ⟨f', rfl⟩ : ∃ f' : Nat, f = (f' : Int) := ⟨f.toNat, by omega⟩
        iterate 1 refine H.ld 0 rfl rfl ?_
        refine l13 H hr hne (by omega) (by omega) (by omega) fun s' w' H hr' ho' => ?_
        refine UInv.next (o := (b, (n' : Int), (f' : Int))) hil hL ?_ (by show (out.length : Int) + max (n' : Int) 1 ≤ _; omega) hun H ho'
        have e : addP out (toP (b, (n' : Int), (f' : Int))) = copy out f' n' := by
          unfold addP toP
          dsimp only
          rw [Int.toNat_natCast, Int.toNat_natCast, if_neg (by omega)]
        rw [e]
        exact hr'
    · refine Br.t (by rw [decide_eq_false hok]; rfl) ?_
      rw [if_pos hok] at hun
      exact ⟨unq_er hun, H.ext⟩
  · have : i = L.length := by omega
    subst this
    rw [List.drop_length] at hun
    refine ⟨_, _, str_row hr, ?_, he⟩
    unfold unR
    rw [← hun]
    rfl
theorem r_Unparts {L : List Qr} {s : Slc} {w : World} (h : PV w s L) (hw : ∀ q ∈ L, 0 ≤ q.1 ∧ q.1 ≤ 255) (hL : L.length ≤ 4611686018427387904) : C14 s w fun r e w1 => (r, e) = unR L ∧ Ext (fun _ => False) w w1 := by
  refine T14 _ _ _ ?_
  unfold S14
  refine ⟨UInv w L, L.length, ⟨0, [], rfl, by omega, rfl, BRow.nil w, by simp, rfl, Ext.refl _ _, fun j hj => by obtain ⟨a, ha, _⟩ := hj; cases ha⟩, ?_⟩
  rintro m ⟨sl, i'⟩ w3 ⟨i, out, hi', hi, rfl, hr, hlen, hun, he, ho⟩
  simp only at hi' hr ho
  subst hi'
  unfold S14L3
  dsimp only
  rw [h.1]
  refine Br.dec (fun q => ?_) fun q => ?_
  · have hil : i < L.length := by omega
    obtain ⟨⟨b, n, f⟩, hio, hmem, hdrop⟩ := drop_at hil
    rw [hdrop, unQ_cons] at hun
    obtain ⟨a, ha, c0, c1, c2⟩ := (h.keep he).get hio
    have hob := hw _ hmem
    rw [ha]
    refine ⟨by omega, by omega, Nn.of ?_⟩
    rw [Int.toNat_natCast]
    refine Ld.mk (x := b) c0 (Ld.mk (x := n) c1 (Ld.mk (x := f) c2 ?_))
    have hne : ∀ j, sl.own j → w.heap.size ≤ j ∧ j ≠ w3.heap.size := fun j hj => ⟨ho j hj, by have := hr.own_lt hj; omega⟩
    refine (Hn.start w3).nw fun w9 H => ?_
    simp only [List.nil_append] at H
    iterate 3 (refine H.st 0 rfl (by simp) fun _ H => ?_; simp only [List.nil_append, List.cons_append, List.set_cons_zero, List.set_cons_succ, Nat.zero_add] at H)
    rename_i w12
    have hr := hr.keep H.ext (fun _ _ h => h)
    have H := Hn.base H he
    clear he
    have hb : b = ((UInt8.ofNat b.toNat).toNat : Int) := by
      rw [UInt8.toNat_ofNat', Nat.mod_eq_of_lt (by omega)]
      omega
    refine ⟨fun _ w28 => w28 = w12 ∧ okQ (b, n, f), ?_, ?_⟩
    · rintro _ w25 ⟨rfl, hok⟩
      unfold S14J1
      rw [if_neg (fun h => h hok)] at hun
      dsimp only at hun ⊢
      rw [hr.len]
      iterate 1 refine H.ld 0 rfl rfl ?_
      refine Br.dec (fun h1 => ?_) fun h1 => ?_
      · rw [if_pos (by omega)] at hun
        exact ⟨unq_er hun, H.ext⟩
      rw [if_neg (by omega)] at hun
      have hok' := hok
      unfold okQ at hok'
      dsimp only at hok'
      iterate 1 refine H.ld 0 rfl rfl ?_
      rw [max1, i64_id (by omega)]
      refine Lt.of ?_
      refine Br.dec (fun h2 => ?_) fun h2 => ?_
      · rw [if_pos (by omega)] at hun
        exact ⟨unq_er hun, H.ext⟩
      rw [if_neg (by omega)] at hun
      iterate 1 refine H.ld 0 rfl rfl ?_
      refine Br.eq (fun h3 => ?_) fun h3 => ?_
      · subst h3
        iterate 1 refine H.ld 0 rfl rfl ?_
        refine push1 H hr hne (by omega) _ hb fun s' w' H hr' ho' => ?_
        refine ⟨fun m st w9 => st = (s', 0) ∧ w9 = w', 0, ⟨rfl, rfl⟩, ?_⟩
        rintro m _ _ ⟨rfl, rfl⟩
        unfold S14L1
        dsimp only
        refine H.ld 0 rfl rfl ?_
        refine Br.dec (fun h4 => absurd h4 (by decide)) fun h4 => ?_
        exact UInv.next (o := (b, 0, f)) hil hL hr' (by show (out.length : Int) + max 0 1 ≤ _; omega) hun H ho'
      · obtain ⟨n', rfl⟩ : ∃ n' : Nat, n = (n' : Int) := ⟨n.toNat, by omega⟩
        obtain ⟨f', rfl⟩ : ∃ f' : Nat, f = (f' : Int) := ⟨f.toNat, by omega⟩
        refine l14 H hr hne (by omega) (by omega) (by omega) fun s' w' H hr' ho' => ?_
        refine UInv.next (o := (b, (n' : Int), (f' : Int))) hil hL ?_ (by show (out.length : Int) + max (n' : Int) 1 ≤ _; omega) hun H ho'
        have e : addP out (toP (b, (n' : Int), (f' : Int))) = copy out f' n' := by
          unfold addP toP
          dsimp only
          rw [Int.toNat_natCast, Int.toNat_natCast, if_neg (by omega)]
        rw [e]
        exact hr'
    · have bad : ¬ okQ (b, n, f) → (((⟨#[]⟩ : ByteArray), (1 : Int)) = unR L ∧ Ext (fun _ => False) w w12) := fun hok => by
        rw [if_pos hok] at hun
        exact ⟨unq_er hun, H.ext⟩
      unfold okQ at bad ⊢
      dsimp only at bad ⊢
      have rest : ¬ n = 0 → Ld w12 ((⟨w3.heap.size, 0, none⟩ : Addr).add 1) (Value.int .i64) fun (x75 : Int) =>
        Br (x75 != 0) (Ld w12 ((⟨w3.heap.size, 0, none⟩ : Addr).add 1) (Value.int .i64) fun (x76 : Int) =>
          Br (decide (x76 < 3)) (((⟨#[]⟩ : ByteArray), (1 : Int)) = unR L ∧ Ext (fun _ => False) w w12) (Ld w12 ((⟨w3.heap.size, 0, none⟩ : Addr).add 1) (Value.int .i64) fun (x77 : Int) =>
            Br (decide (x77 > 258)) (((⟨#[]⟩ : ByteArray), (1 : Int)) = unR L ∧ Ext (fun _ => False) w w12) (Ld w12 ((⟨w3.heap.size, 0, none⟩ : Addr).add 2) (Value.int .i64) fun (x78 : Int) =>
              Br (decide (x78 < 1)) (((⟨#[]⟩ : ByteArray), (1 : Int)) = unR L ∧ Ext (fun _ => False) w w12) (Ld w12 ((⟨w3.heap.size, 0, none⟩ : Addr).add 2) (Value.int .i64) fun (x79 : Int) =>
                Br (decide (x79 > 32768)) (((⟨#[]⟩ : ByteArray), (1 : Int)) = unR L ∧ Ext (fun _ => False) w w12) (Ld w12 (⟨w3.heap.size, 0, none⟩ : Addr) (Value.int .u8) fun (x80 : Int) =>
                  Br (x80 != 0) (((⟨#[]⟩ : ByteArray), (1 : Int)) = unR L ∧ Ext (fun _ => False) w w12) (w12 = w12 ∧ (n = 0 ∧ f = 0 ∨ b = 0 ∧ 3 ≤ n ∧ n ≤ 258 ∧ 1 ≤ f ∧ f ≤ 32768))))))) (w12 = w12 ∧ (n = 0 ∧ f = 0 ∨ b = 0 ∧ 3 ≤ n ∧ n ≤ 258 ∧ 1 ≤ f ∧ f ≤ 32768)) := fun hn => by
        iterate 1 refine H.ld 0 rfl rfl ?_
        refine Br.ne (fun h1 => ?_) fun h1 => absurd h1 hn
        iterate 1 refine H.ld 0 rfl rfl ?_
        refine Br.dec (fun h2 => bad (by omega)) fun h2 => ?_
        iterate 1 refine H.ld 0 rfl rfl ?_
        refine Br.dec (fun h3 => bad (by omega)) fun h3 => ?_
        iterate 1 refine H.ld 0 rfl rfl ?_
        refine Br.dec (fun h4 => bad (by omega)) fun h4 => ?_
        iterate 1 refine H.ld 0 rfl rfl ?_
        refine Br.dec (fun h5 => bad (by omega)) fun h5 => ?_
        iterate 1 refine H.ld 0 rfl rfl ?_
        refine Br.ne (fun h6 => bad (by omega)) fun h6 => ⟨rfl, by omega⟩
      iterate 1 refine H.ld 0 rfl rfl ?_
      refine Br.eq (fun h1 => ?_) fun h1 => rest h1
      iterate 1 refine H.ld 0 rfl rfl ?_
      refine Br.ne (fun h2 => bad (by omega)) fun h2 => ?_
      iterate 1 refine H.ld 0 rfl rfl ?_
      refine Br.ne (fun h3 => absurd h1 h3) fun h3 => ⟨rfl, by omega⟩
  · have : i = L.length := by omega
    subst this
    rw [List.drop_length] at hun
    refine ⟨_, _, str_row hr, ?_, he⟩
    unfold unR
    rw [← hun]
    rfl
end Inf
end Go.Proofs.Ytjkoafjnmkchdaa

/- Maps from strings in memory: made, looked up, written. Conditions: sizes. -/
namespace Go.Proofs.Ytjkoafjnmkchdaa
namespace Sh
open Go.WideMaps Go.WideShapes
set_option linter.unusedVariables false
set_option linter.unusedSimpArgs false
/-- What a map holds: keys and values, in the order of their making. -/
abbrev MpL : Type := List (ByteArray × Value)
def MpE (E : List MapEntry) (L : MpL) : Prop := E.map (fun e => (e.key, e.val)) = L.map fun p => ((.string p.1 : Value), p.2)
/-- Block b is a map. -/
structure MpB (w : World) (b : Nat) (L : MpL) : Prop where
  blk : ∃ (E : Array MapEntry) (clock : Nat), w.heap[b]? = some (.map E clock) ∧ MpE E.toList L
  one : (L.map (·.1)).Nodup
  few : ∀ p ∈ L, p.1.size ≤ maxLen
def mget : MpL → ByteArray → Option Value
  | [], _ => none
  | p :: L, k => if p.1 = k then some p.2 else mget L k
def mput : MpL → ByteArray → Value → MpL
  | [], k, v => [(k, v)]
  | p :: L, k, v => if p.1 = k then (k, v) :: L else p :: mput L k v
theorem mget_put (L : MpL) (k : ByteArray) (v : Value) (j : ByteArray) : mget (mput L k v) j = if j = k then some v else mget L j := by
  induction L with
  | nil =>
    show (if k = j then some v else none) = _
    by_cases h : j = k
    · rw [if_pos h, if_pos h.symm]
    · rw [if_neg h, if_neg (fun e => h e.symm)]
      rfl
  | cons p L ih =>
    unfold mput
    by_cases hp : p.1 = k
    · rw [if_pos hp]
      show (if k = j then some v else mget L j) = if j = k then some v else (if p.1 = j then some p.2 else mget L j)
      by_cases h : j = k
      · rw [if_pos h, if_pos h.symm]
      · rw [if_neg h, if_neg (fun e => h e.symm), if_neg (fun e => h (e.symm.trans hp))]
    · rw [if_neg hp]
      show (if p.1 = j then some p.2 else mget (mput L k v) j) = if j = k then some v else (if p.1 = j then some p.2 else mget L j)
      by_cases h1 : p.1 = j
      · rw [if_pos h1, if_pos h1, if_neg (fun e => hp (h1.trans e))]
      · rw [if_neg h1, if_neg h1, ih]
theorem mget_none {L : MpL} {k : ByteArray} (h : k ∉ L.map (·.1)) : mget L k = none := by
  induction L with
  | nil => rfl
  | cons p L ih =>
    rw [List.map_cons] at h
    unfold mget
    rw [if_neg (fun e => h (by rw [e]; exact List.mem_cons_self ..))]
    exact ih fun hm => h (List.mem_cons_of_mem _ hm)
section
variable {P : Program} {w : World} {t k e : TypeId} {b : Nat} {L : MpL} {z : Value}
theorem MpB.keepF {F : Nat → Prop} {w' : World} (h : MpB w b L) (he : Ext F w w') (hb : ¬ F b) : MpB w' b L := by
  obtain ⟨E, c, h1, h2⟩ := h.blk
  exact ⟨⟨E, c, by rw [he.block b (Array.getElem?_eq_some_iff.1 h1).1 hb]; exact h1, h2⟩, h.one, h.few⟩
theorem MpB.keep {w' : World} (h : MpB w b L) (he : Ext (fun _ => False) w w') : MpB w' b L := h.keepF he id
theorem MpB.lt (h : MpB w b L) : b < w.heap.size := by
  obtain ⟨E, c, h1, h2⟩ := h.blk
  exact (Array.getElem?_eq_some_iff.1 h1).1
theorem MpB.new (w : World) : MpB (w.alloc (.map #[] 0)) w.heap.size [] := ⟨⟨#[], 0, by show (w.heap.push _)[w.heap.size]? = _; simp, rfl⟩, List.nodup_nil, fun p hp => by cases hp⟩
theorem mput_keys (L : MpL) (k : ByteArray) (v : Value) : (k ∈ L.map (·.1) ∧ (mput L k v).map (·.1) = L.map (·.1)) ∨ (k ∉ L.map (·.1) ∧ mput L k v = L ++ [(k, v)]) := by
  induction L with
  | nil => exact .inr ⟨by simp, rfl⟩
  | cons p L ih =>
    unfold mput
    by_cases hp : p.1 = k
    · rw [if_pos hp]
      exact .inl ⟨by rw [List.map_cons, hp]; exact List.mem_cons_self .., by rw [List.map_cons, List.map_cons, hp]⟩
    · rw [if_neg hp]
      rcases ih with ⟨h1, h2⟩ | ⟨h1, h2⟩
      · exact .inl ⟨List.mem_cons_of_mem _ h1, by rw [List.map_cons, List.map_cons, h2]⟩
      · exact .inr ⟨fun h => by
          rw [List.map_cons] at h
          rcases List.mem_cons.1 h with h | h
          · exact hp h.symm
          · exact h1 h, by rw [h2]; rfl⟩
theorem mput_nodup {L : MpL} (h : (L.map (·.1)).Nodup) (k : ByteArray) (v : Value) : ((mput L k v).map (·.1)).Nodup := by
  rcases mput_keys L k v with ⟨_, h2⟩ | ⟨h1, h2⟩
  · rw [h2]; exact h
  · rw [h2, List.map_append]
    exact List.nodup_append.2 ⟨h, by simp, fun a ha c hc e => h1 (by rw [List.map_cons, List.map_nil, List.mem_singleton] at hc; rw [← show c = k from hc, ← e]; exact ha)⟩
theorem mput_few {L : MpL} {k : ByteArray} {v : Value} (h : ∀ p ∈ L, p.1.size ≤ maxLen) (hk : k.size ≤ maxLen) : ∀ p ∈ mput L k v, p.1.size ≤ maxLen := by
  induction L with
  | nil => intro p hp; rw [List.mem_singleton.1 hp]; exact hk
  | cons q L ih =>
    intro p hp
    unfold mput at hp
    split at hp
    · rcases List.mem_cons.1 hp with rfl | hp
      · exact hk
      · exact h p (List.mem_cons_of_mem _ hp)
    · rcases List.mem_cons.1 hp with rfl | hp
      · exact h p (List.mem_cons_self ..)
      · exact ih (fun p hp => h p (List.mem_cons_of_mem _ hp)) p hp
theorem at_key {L : MpL} (h : (L.map (·.1)).Nodup) {j : Nat} {k : ByteArray} {x : Value} (hj : L[j]? = some (k, x)) : mget L k = some x ∧ ∀ v, mput L k v = L.set j (k, v) := by
  induction L generalizing j with
  | nil => cases hj
  | cons p L ih =>
    cases j with
    | zero =>
      cases hj
      exact ⟨by unfold mget; rw [if_pos rfl], fun v => by unfold mput; rw [if_pos rfl]; rfl⟩
    | succ j =>
      have hj : L[j]? = some (k, x) := by simpa using hj
      rw [List.map_cons, List.nodup_cons] at h
      have hne : ¬ p.1 = k := fun e => h.1 (by rw [e]; exact List.mem_map.2 ⟨_, List.mem_of_getElem? hj, rfl⟩)
      obtain ⟨h1, h2⟩ := ih h.2 hj
      refine ⟨?_, fun v => ?_⟩
      · unfold mget
        rw [if_neg hne]
        exact h1
      · unfold mput
        rw [if_neg hne, h2]
        rfl
theorem MpE.get {E : List MapEntry} (h : MpE E L) {i : Nat} {x : MapEntry} (hi : E[i]? = some x) : ∃ p, L[i]? = some p ∧ x.key = .string p.1 ∧ x.val = p.2 := by
  have h1 : (E.map fun e => (e.key, e.val))[i]? = some (x.key, x.val) := by rw [List.getElem?_map, hi]; rfl
  rw [h, List.getElem?_map] at h1
  obtain ⟨p, hp, h2⟩ := Option.map_eq_some_iff.1 h1
  exact ⟨p, hp, (congrArg Prod.fst h2).symm, (congrArg Prod.snd h2).symm⟩
theorem MpE.keys {E : List MapEntry} (h : MpE E L) (hk : P.underlying k = some .string) (hs : ∀ p ∈ L, p.1.size ≤ maxLen) : ∀ x ∈ E, ∃ l, keyOf P k x.key = some l := fun x hx => by
  obtain ⟨i, hi⟩ := List.getElem?_of_mem hx
  obtain ⟨p, hp, h1, _⟩ := h.get hi
  exact ⟨_, by rw [h1]; exact keyOf_string_mk hk (hs p (List.mem_of_getElem? hp))⟩
/-- What the search for a key finds. -/
theorem mp_find {E : List MapEntry} (h : MpE E L) (hn : (L.map (·.1)).Nodup) (hk : P.underlying k = some .string) (hs : ∀ p ∈ L, p.1.size ≤ maxLen) {key : ByteArray} (hks : key.size ≤ maxLen) (w : World) :
    ((Instr.findKey k (.string key) E).run P w = .ok none w ∧ mget L key = none ∧ key ∉ L.map (·.1)) ∨ ∃ j x, (Instr.findKey k (.string key) E).run P w = .ok (some (j, x)) w ∧ L[j]? = some (key, x) ∧ (E[j]?).map (·.key) = some (.string key) := by
  rcases (string_law hk).find w (keyOf_string_mk hk hks) E (h.keys hk hs) with ⟨h1, h2⟩ | ⟨j, x, h1, h2, h3⟩
  · have no : key ∉ L.map (·.1) := fun hm => by
      obtain ⟨p, hp, e⟩ := List.mem_map.1 hm
      obtain ⟨i, hi⟩ := List.getElem?_of_mem hp
      have hl : (E.map fun e => (e.key, e.val))[i]? = some ((.string p.1 : Value), p.2) := by rw [h, List.getElem?_map, hi]; rfl
      rw [List.getElem?_map] at hl
      obtain ⟨x, hx, h4⟩ := Option.map_eq_some_iff.1 hl
      refine h2 x (List.mem_of_getElem? hx) ?_
      exact (congrArg Prod.fst h4).trans (by rw [e])
    exact .inl ⟨h1, mget_none no, no⟩
  · obtain ⟨p, hp, h4, h5⟩ := h.get h2
    have hp1 : p.1 = key := by
      rw [h3] at h4
      exact (Value.string.inj h4).symm
    exact .inr ⟨j, x.val, h1, by rw [hp, h5, ← hp1], by rw [h2]; exact congrArg some h3⟩
theorem MpB.look (h : MpB w b L) (ht : P.underlying t = some (.map k e)) (hk : P.underlying k = some .string) (hz : (zeroValue e).run P w = .ok z w) {key : ByteArray} (hks : key.size ≤ maxLen) :
    RunV P (Instr.lookup t (.map (some b)) (.string key) false) w ((mget L key).getD z) w := by
  obtain ⟨E, c, hb, hE⟩ := h.blk
  have hkey := keyOf_string_mk hk hks
  have hch := (string_law hk).check w E.isEmpty hkey
  rcases mp_find hE h.one hk h.few hks w with ⟨h1, h2, _⟩ | ⟨j, x, h1, h2, _⟩
  · rw [h2]
    simp [RunV, Instr.lookup, run_underlying ht, MapKept.run_getObj_map hb, hch, h1, hz, Result.andThen]
  · rw [(at_key h.one h2).1]
    simp [RunV, Instr.lookup, run_underlying ht, MapKept.run_getObj_map hb, hch, h1, Result.andThen]
theorem MpB.put (h : MpB w b L) (ht : P.underlying t = some (.map k e)) (hk : P.underlying k = some .string) {key : ByteArray} (hks : key.size ≤ maxLen) (v : Value) :
    ∃ w', RunU P (Instr.mapUpdate t (.map (some b)) (.string key) v) w w' ∧ MpB w' b (mput L key v) ∧ Ext (· = b) w w' := by
  obtain ⟨E, c, hb, hE⟩ := h.blk
  have hkey := keyOf_string_mk hk hks
  have hch := (string_law hk).check w false hkey
  have ext : ∀ o : Obj, Ext (· = b) w { w with heap := w.heap.setIfInBounds b o } := fun o => ⟨rfl, rfl, rfl, by simp, fun i hi hn => by
    show (w.heap.setIfInBounds b o)[i]? = _
    rw [Array.getElem?_setIfInBounds_ne (fun e => hn e.symm)]⟩
  have here : ∀ o : Obj, ({ w with heap := w.heap.setIfInBounds b o } : World).heap[b]? = some o := fun o => by
    show (w.heap.setIfInBounds b o)[b]? = _
    rw [Array.getElem?_setIfInBounds_self_of_lt (Array.getElem?_eq_some_iff.1 hb).1]
  rcases mp_find hE h.one hk h.few hks w with ⟨h1, h2, h3⟩ | ⟨j, x, h1, h2, h3⟩
  · refine ⟨{ w with heap := w.heap.setIfInBounds b (.map (E.push { key := .string key, val := v, born := c }) (c + 1)) }, ?_, ⟨⟨_, _, here _, ?_⟩, mput_nodup h.one _ _, mput_few h.few hks⟩, ext _⟩
    · simp [RunU, Instr.mapUpdate, run_underlying ht, MapKept.run_getObj_map hb, hch, h1, Result.andThen, MapKept.run_setObj_map _ hb]
    · rcases mput_keys L key v with ⟨h4, _⟩ | ⟨_, h4⟩
      · exact absurd h4 h3
      · rw [h4]
        unfold MpE at hE ⊢
        rw [Array.toList_push, List.map_append, hE, List.map_append]
        rfl
  · obtain ⟨y, hy, hy2⟩ := Option.map_eq_some_iff.1 h3
    have hyE : E[j]? = some y := by simpa using hy
    refine ⟨{ w with heap := w.heap.setIfInBounds b (.map (E.modify j fun e => { e with key := .string key, val := v }) c) }, ?_, ⟨⟨_, _, here _, ?_⟩, mput_nodup h.one _ _, mput_few h.few hks⟩, ext _⟩
    · simp [RunU, Instr.mapUpdate, run_underlying ht, MapKept.run_getObj_map hb, hch, h1, Result.andThen, MapKept.run_setObj_map _ hb, hyE, hy2, (string_law hk).stays w hkey]
    · rw [(at_key h.one h2).2]
      unfold MpE at hE ⊢
      have hEi : ∀ i, (E.toList[i]?).map (fun e : MapEntry => (e.key, e.val)) = (L[i]?).map (fun p : ByteArray × Value => ((.string p.1 : Value), p.2)) := fun i => by rw [← List.getElem?_map, hE, List.getElem?_map]
      rw [Array.toList_modify]
      apply List.ext_getElem?
      intro i
      have hL : j < L.length := (List.getElem?_eq_some_iff.1 h2).1
      rw [List.getElem?_map, List.getElem?_map, List.getElem?_modify, List.getElem?_set]
      by_cases hij : j = i
      · subst hij
        rw [if_pos rfl, if_pos hL, hy]
        simp
      · rw [if_neg hij, ← hEi i]
        simp [hij]
end
end Sh
end Go.Proofs.Ytjkoafjnmkchdaa

/- Deflate: the trail of places in a map, and the copy that it finds. Conditions: sizes. -/
namespace Go.Proofs.Ytjkoafjnmkchdaa
namespace Inf
open Sh Bit
set_option linter.unusedVariables false
set_option linter.unusedSimpArgs false
set_option maxRecDepth 4000
set_option maxHeartbeats 1000000
attribute [local irreducible] Ld St Nw Nn Lt LdS
theorem c_alike {S : ByteArray} {a b m : Nat} (hab : a ≤ b) (hb : b + m ≤ S.size) (hs : S.size ≤ 2000000) (w : World) : C57 S (a : Int) (b : Int) (m : Int) w fun r w1 => r = ((alikeK S.data.toList a b 0 m : Nat) : Int) ∧ Ext (fun _ => False) w w1 := by
  refine T57 _ _ _ _ _ _ ?_
  unfold S57
  refine ⟨fun k st w3 => ∃ n : Nat, st = (n : Int) ∧ n ≤ m ∧ k = m - n ∧ alikeK S.data.toList a b n (m - n) = alikeK S.data.toList a b 0 m ∧ Ext (fun _ => False) w w3, m, ⟨0, rfl, by omega, rfl, rfl, Ext.refl _ _⟩, ?_⟩
  rintro k st w3 ⟨n, rfl, hn, rfl, ha, he⟩
  unfold S57L1
  refine Br.dec (fun q => ?_) fun q => ?_
  · rw [i64_id (n := (a : Int) + (n : Int)) (by omega), i64_id (n := (b : Int) + (n : Int)) (by omega), show (a : Int) + (n : Int) = ((a + n : Nat) : Int) by omega, show (b : Int) + (n : Int) = ((b + n : Nat) : Int) by omega, bAt_list, bAt_list]
    rw [show m - n = (m - (n + 1)) + 1 by omega, alikeK_step] at ha
    refine ⟨by omega, by omega, by omega, by omega, Br.eq (fun h1 => ?_) fun h1 => ?_⟩
    · rw [if_pos (UInt8.toNat_inj.1 (by omega))] at ha
      exact ⟨m - (n + 1), by omega, n + 1, by rw [i64_id (by omega)]; rfl, by omega, rfl, ha, he.drew⟩
    · rw [if_neg (fun e => h1 (by rw [e]))] at ha
      exact ⟨by rw [ha], he.drew⟩
  · have : n = m := by omega
    subst this
    rw [Nat.sub_self] at ha
    exact ⟨by rw [← ha]; rfl, he.drew⟩
/-- The places before p where these three bytes are. -/
def posN (s : List UInt8) (p : Nat) (key : List UInt8) : List Nat := (List.range p).filter fun q => (s.drop q).take 3 = key ∧ q + 3 ≤ s.length
theorem posN_succ (s : List UInt8) (p : Nat) (key : List UInt8) : posN s (p + 1) key = if (s.drop p).take 3 = key ∧ p + 3 ≤ s.length then posN s p key ++ [p] else posN s p key := by
  unfold posN
  rw [List.range_succ, List.filter_append]
  split
  · rename_i h
    congr 1
    simp [h]
  · rename_i h
    rw [show List.filter (fun q => decide ((s.drop q).take 3 = key ∧ q + 3 ≤ s.length)) [p] = [] by simp only [List.filter_cons, List.filter_nil, h, decide_false]; rfl, List.append_nil]
theorem posN_end (s : List UInt8) {p : Nat} (hp : s.length < p + 3) (key : List UInt8) : ∀ d, posN s (p + d) key = posN s p key
  | 0 => rfl
  | d + 1 => by
    rw [← Nat.add_assoc, posN_succ, if_neg (by omega), posN_end s hp key d]
theorem posN_mem {s : List UInt8} {p q : Nat} {key : List UInt8} : q ∈ posN s p key ↔ q < p ∧ (s.drop q).take 3 = key ∧ q + 3 ≤ s.length := by
  unfold posN
  rw [List.mem_filter, List.mem_range, decide_eq_true_iff]
theorem posN_sort (s : List UInt8) (p : Nat) (key : List UInt8) : (posN s p key).Pairwise (· < ·) := List.Pairwise.filter _ List.pairwise_lt_range
theorem posN_len (s : List UInt8) (p : Nat) (key : List UInt8) : (posN s p key).length ≤ p := by
  unfold posN
  have := List.length_filter_le (fun q => decide ((s.drop q).take 3 = key ∧ q + 3 ≤ s.length)) (List.range p)
  rw [List.length_range] at this
  exact this
/-- Where no such place is, nothing is found. -/
theorem thr_skip {s : List UInt8} {p F : Nat} : ∀ d, (∀ k, F < k → k ≤ F + d → mlen s p k < 3) → thr (bst s p (F + d)) = thr (bst s p F)
  | 0, _ => rfl
  | d + 1, h => by
    rw [← Nat.add_assoc, thr_low (h (F + d + 1) (by omega) (by omega))]
    exact thr_skip d fun k h1 h2 => h k h1 (by omega)
theorem mem_mlen {s : List UInt8} {p k : Nat} (h3 : p + 3 ≤ s.length) (h1 : 1 ≤ k) (hk : k ≤ p) : 3 ≤ mlen s p k ↔ p - k ∈ posN s p ((s.drop p).take 3) := by
  rw [mlen3 h3 hk, posN_mem]
  exact ⟨fun h => ⟨by omega, h, by omega⟩, fun h => h.2.1⟩
/-- What the trail holds. -/
structure Trl (w : World) (mb : Nat) (L : MpL) (s : List UInt8) (p : Nat) : Prop where
  map : MpB w mb L
  val : ∀ k v, mget L k = some v → ∃ sl, v = Slc.v sl ∧ Row w sl 3 1 (ints (ordI (posN s p k.data.toList))) ∧ ¬ sl.own mb
  no : ∀ k, mget L k = none → posN s p k.data.toList = []
  sep : ∀ k k' sl sl', mget L k = some (Slc.v sl) → mget L k' = some (Slc.v sl') → k ≠ k' → ∀ j, sl.own j → ¬ sl'.own j
/-- The blocks of a trail. -/
def tOwn (mb : Nat) (L : MpL) (j : Nat) : Prop := j = mb ∨ ∃ k sl, mget L k = some (Slc.v sl) ∧ sl.own j
section
variable {w : World} {mb : Nat} {L : MpL} {s : List UInt8} {p : Nat}
theorem Trl.keepF {F : Nat → Prop} {w' : World} (h : Trl w mb L s p) (he : Ext F w w') (hF : ∀ j, tOwn mb L j → ¬ F j) : Trl w' mb L s p :=
  ⟨h.map.keepF he (hF mb (.inl rfl)), fun k v hk => by
    obtain ⟨sl, h1, h2, h3⟩ := h.val k v hk
    exact ⟨sl, h1, h2.keep he fun j hj => hF j (.inr ⟨k, sl, by rw [hk, h1], hj⟩), h3⟩, h.no, h.sep⟩
theorem Trl.keep {w' : World} (h : Trl w mb L s p) (he : Ext (fun _ => False) w w') : Trl w' mb L s p := h.keepF he fun _ _ h => h
theorem Trl.lt (h : Trl w mb L s p) {j : Nat} (hj : tOwn mb L j) : j < w.heap.size := by
  rcases hj with rfl | ⟨k, sl, hk, hj⟩
  · exact h.map.lt
  · obtain ⟨sl', h1, h2, _⟩ := h.val k _ hk
    rw [Slc.v_inj] at h1
    subst h1
    exact h2.own_lt hj
theorem und54 : Try.prog.underlying 54 = some (.map 9 72) := by kernel_rfl
theorem zero72 (w : World) : (zeroValue 72).run Try.prog w = .ok (Slc.v ⟨none, 0, 0⟩) w := by
  have h : (Try.prog.info? 72).bind (·.zero) = some (Slc.v ⟨none, 0, 0⟩) := by kernel_rfl
  cases hi : Try.prog.info? 72 with
  | none => rw [hi] at h; cases h
  | some i =>
    rw [hi] at h
    have hz : i.zero = some (Slc.v ⟨none, 0, 0⟩) := h
    simp [zeroValue, typeInfo, hi, hz]
/-- A key is looked up. -/
theorem Trl.look (h : Trl w mb L s p) {key : ByteArray} (hk : key.size ≤ maxLen) : ∃ sl, RunV Try.prog (Instr.lookup 54 (.map (some mb)) (.string key) false) w (Slc.v sl) w ∧ Row w sl 3 1 (ints (ordI (posN s p key.data.toList))) ∧ (∀ j, sl.own j → tOwn mb L j ∧ j ≠ mb) ∧
    ∀ k' sl', mget L k' = some (Slc.v sl') → k' ≠ key → ∀ j, sl.own j → ¬ sl'.own j := by
  have hr := h.map.look und54 und_string (zero72 w) hk
  cases hg : mget L key with
  | none =>
    rw [hg] at hr
    refine ⟨⟨none, 0, 0⟩, hr, ?_, fun j hj => ?_, fun k' sl' _ _ j hj => ?_⟩
    · rw [h.no key hg]
      exact Row.nil w _ _
    · obtain ⟨a, ha, _⟩ := hj; cases ha
    · obtain ⟨a, ha, _⟩ := hj; cases ha
  | some v =>
    rw [hg] at hr
    obtain ⟨sl, rfl, h2, h3⟩ := h.val key v hg
    exact ⟨sl, hr, h2, fun j hj => ⟨.inr ⟨key, sl, hg, hj⟩, fun e => h3 (by rw [← e]; exact hj)⟩, fun k' sl' hk' hne j hj => h.sep key k' sl sl' hg hk' (fun e => hne e.symm) j hj⟩
end
section
variable {w : World} {mb : Nat} {L : MpL} {S : ByteArray} {p : Nat}
/-- The copy that the trail finds: the longest, the nearest of these. -/
theorem c_copiedT (h : Trl w mb L S.data.toList p) (hp : p < S.size) (hs : S.size ≤ 1048576) :
    C28 (some mb) S (p : Int) w fun r w1 => r = (0, (((thr (bst S.data.toList p (farK p))).1 : Nat) : Int), (((thr (bst S.data.toList p (farK p))).2 : Nat) : Int)) ∧ Ext (fun _ => False) w w1 := by
  have hsz : S.data.toList.length = S.size := (size_list S).symm
  refine T28 _ _ _ _ _ ?_
  unfold S28
  refine (Hn.start w).nw fun w4 H => ?_
  simp only [List.nil_append] at H
  refine H.nw fun w5 H => ?_
  simp only [List.cons_append, List.nil_append] at H
  rw [i64_id (n := (p : Int) + 3) (by omega)]
  refine Br.dec (fun q => ?_) fun q => ?_
  · iterate 3 refine H.ld 1 rfl rfl ?_
    iterate 3 (refine H.st 0 rfl (by simp) fun _ H => ?_; simp only [List.nil_append, List.cons_append, List.set_cons_zero, List.set_cons_succ, Nat.zero_add] at H)
    iterate 3 refine H.ld 0 rfl rfl ?_
    have : thr (bst S.data.toList p (farK p)) = (0, 0) := by
      have := bst_le S.data.toList p (farK p)
      unfold mostK at this
      unfold thr
      rw [if_pos (by omega)]
    rw [this]
    exact ⟨rfl, H.ext⟩
  · have h3 : p + 3 ≤ S.data.toList.length := by omega
    have hmk : mostK S.data.toList p = min 258 (S.size - p) := by unfold mostK; rw [hsz]
    have hmost : (if IntKind.i64.wrap (((S.size : Nat) : Int) - (p : Int)) < 258 then IntKind.i64.wrap (((S.size : Nat) : Int) - (p : Int)) else 258) = ((mostK S.data.toList p : Nat) : Int) := by
      rw [hmk, i64_id (by omega)]
      split <;> omega
    rw [hmost]
    refine Lt.of ?_
    have hT := h.keep H.ext
    have e3 : ((p : Int) + 3).toNat = p + 3 := by omega
    rw [e3, Int.toNat_natCast]
    have hkey : (S.extract p (p + 3)).data.toList = (S.data.toList.drop p).take 3 := by rw [extract_list]; congr 1; omega
    obtain ⟨sl, hrun, hrow, hown, _⟩ := hT.look (key := S.extract p (p + 3)) (by rw [ByteArray.size_extract]; unfold maxLen; omega)
    rw [hkey] at hrow
    refine ⟨by omega, by omega, by omega, by omega, sl, _, hrun, ?_⟩
    clear hrun
    have hiv := IV.row hrow
    have hsort := posN_sort S.data.toList p ((S.data.toList.drop p).take 3)
    have hmem := fun k => mem_mlen (s := S.data.toList) (p := p) (k := k) h3
    have hlt : ∀ q, q ∈ posN S.data.toList p ((S.data.toList.drop p).take 3) → q < p := fun q hq => (posN_mem.1 hq).1
    have hlen := posN_len S.data.toList p ((S.data.toList.drop p).take 3)
    generalize posN S.data.toList p ((S.data.toList.drop p).take 3) = PS at hiv hsort hmem hlt hlen
    have hsl : sl.len = PS.length := by rw [hiv.1, ordI_len]
    dsimp only
    rw [hsl]
    -- places between have no copy
    have skip : ∀ F G A B, PS = A ++ B → F ≤ G → G ≤ p → (∀ q ∈ A, G < p - q) → (∀ q ∈ B, p - q ≤ F) → thr (bst S.data.toList p G) = thr (bst S.data.toList p F) := fun F G A B hPS hFG hGp hA hB => by
      have := thr_skip (s := S.data.toList) (p := p) (F := F) (G - F) fun k k1 k2 => by
        rcases Nat.lt_or_ge (mlen S.data.toList p k) 3 with h | h
        · exact h
        · have := (hmem k (by omega) (by omega)).1 h
          rw [hPS] at this
          rcases List.mem_append.1 this with h | h
          · have := hA _ h; omega
          · have := hB _ h; omega
      rw [show F + (G - F) = G by omega] at this
      exact this
    refine ⟨fun m st w9 => ∃ (A B : List Nat) (F : Nat), PS = A ++ B ∧ st = (A.length : Int) - 1 ∧ m = A.length ∧ (∀ q ∈ A, F < p - q) ∧ (∀ q ∈ B, p - q ≤ F) ∧ F ≤ farK p ∧
      Hn w w9 [(w.heap.size, prow (0, 0, 0), 34), (w4.heap.size, prow (0, ((thr (bst S.data.toList p F)).1 : Int), ((thr (bst S.data.toList p F)).2 : Int)), 34)] ∧ IV w9 sl (ordI PS), PS.length,
      ⟨PS, [], 0, by simp, by rw [i64_id (by omega)], rfl, fun q hq => by have := hlt q hq; omega, (fun q hq => by cases hq), Nat.zero_le _, H, hiv⟩, ?_⟩
    rintro m st w9 ⟨A, B, F, hPS, rfl, rfl, hA, hB, hF, H, hiv⟩
    unfold S28L1 prow at *
    have hfk : farK p = min p 32768 := rfl
    have fin : ∀ F', thr (bst S.data.toList p (farK p)) = thr (bst S.data.toList p F') → F' = F → ∀ w9, Hn w w9 [(w.heap.size, prow (0, 0, 0), 34), (w4.heap.size, prow (0, ((thr (bst S.data.toList p F)).1 : Int), ((thr (bst S.data.toList p F)).2 : Int)), 34)] → Ld w9 (⟨w4.heap.size, 0, none⟩ : Addr) (Value.int .u8) fun (x61 : Int) =>
        Ld w9 ((⟨w4.heap.size, 0, none⟩ : Addr).add 1) (Value.int .i64) fun (x62 : Int) =>
        Ld w9 ((⟨w4.heap.size, 0, none⟩ : Addr).add 2) (Value.int .i64) fun (x63 : Int) =>
        St w9 (⟨w.heap.size, 0, none⟩ : Addr) (.int .u8 x61) fun vw64 =>
        St vw64 ((⟨w.heap.size, 0, none⟩ : Addr).add 1) (.int .i64 x62) fun vw65 =>
        St vw65 ((⟨w.heap.size, 0, none⟩ : Addr).add 2) (.int .i64 x63) fun vw66 =>
        Ld vw66 (⟨w.heap.size, 0, none⟩ : Addr) (Value.int .u8) fun (x67 : Int) =>
        Ld vw66 ((⟨w.heap.size, 0, none⟩ : Addr).add 1) (Value.int .i64) fun (x68 : Int) =>
        Ld vw66 ((⟨w.heap.size, 0, none⟩ : Addr).add 2) (Value.int .i64) fun (x69 : Int) =>
        (((x67, x68, x69) : Int × Int × Int) = (0, (((thr (bst S.data.toList p (farK p))).1 : Nat) : Int), (((thr (bst S.data.toList p (farK p))).2 : Nat) : Int)) ∧ Ext (fun _ => False) w vw66) := fun F' hF' e w9 H => by
      subst e
      unfold prow at H
      iterate 3 refine H.ld 1 rfl rfl ?_
      iterate 3 (refine H.st 0 rfl (by simp) fun _ H => ?_; simp only [List.nil_append, List.cons_append, List.set_cons_zero, List.set_cons_succ, Nat.zero_add] at H)
      iterate 3 refine H.ld 0 rfl rfl ?_
      rw [hF']
      exact ⟨rfl, H.ext⟩
    refine Br.dec (fun q1 => ?_) fun q1 => ?_
    · obtain ⟨A', qq, rfl⟩ : ∃ A' qq, A = A' ++ [qq] := by
        rcases List.eq_nil_or_concat A with h | ⟨A', qq, h⟩
        · subst h; simp at q1
        · exact ⟨A', qq, by rw [h, List.concat_eq_append]⟩
      have hAl : (((A' ++ [qq]).length : Nat) : Int) - 1 = (A'.length : Int) := by rw [List.length_append]; simp
      rw [hAl]
      have hPl : A'.length < PS.length := by rw [hPS]; simp
      have hqm : qq ∈ PS := by rw [hPS]; simp
      have hqp := hlt qq hqm
      have hget : ((ordI PS).getD A'.length 0) = (qq : Int) := by
        rw [ordI_get, List.getD_eq_getElem?_getD, hPS, List.append_assoc, List.getElem?_append_right (Nat.le_refl _), Nat.sub_self]
        rfl
      obtain ⟨a, ha, hc⟩ := hiv.get (i := A'.length) (by rw [ordI_len]; exact hPl)
      rw [hget] at hc
      rw [ha]
      refine ⟨by omega, by omega, Nn.of ?_⟩
      rw [Int.toNat_natCast]
      refine Ld.mk (x := (qq : Int)) hc ?_
      have hFq := hA qq (by simp)
      have hA' : ∀ q ∈ A', p - qq < p - q := fun q hq => by
        rw [hPS, List.append_assoc] at hsort
        have := (List.pairwise_append.1 hsort).2.2 q hq qq (by simp)
        omega
      rw [i64_id (n := (p : Int) - (qq : Int)) (by omega)]
      refine Br.dec (fun q2 => ?_) fun q2 => ?_
      · iterate 1 refine H.ld 1 rfl rfl ?_
        refine Br.dec (fun q3 => ?_) fun q3 => ?_
        · refine ⟨by omega, by omega, Nn.of ?_⟩
          refine Ld.mk (x := (qq : Int)) hc ?_
          refine (c_alike (S := S) (a := qq) (b := p) (m := mostK S.data.toList p) (by omega) (by omega) (by omega) w9).mono ?_
          rintro r w36 ⟨rfl, he⟩
          have H := H.keep he
          have hiv := hiv.keep he
          have hcc := he.cell_same hc
          iterate 1 refine H.ld 1 rfl rfl ?_
          have eM : alikeK S.data.toList qq p 0 (mostK S.data.toList p) = mlen S.data.toList p (p - qq) := by
            unfold mlen
            rw [show p - (p - qq) = qq by omega]
          rw [eM]
          have m3 : 3 ≤ mlen S.data.toList p (p - qq) := (hmem (p - qq) (by omega) (by omega)).2 (by rw [show p - (p - qq) = qq by omega]; exact hqm)
          have sk := skip F (p - qq - 1) (A' ++ [qq]) B hPS (by omega) (by omega) (fun q hq => by
            rcases List.mem_append.1 hq with h | h
            · have := hA' q h; omega
            · rw [List.mem_singleton.1 h]; omega) hB
          have th := thr_high (s := S.data.toList) (p := p) (F := p - qq - 1) (by rw [show p - qq - 1 + 1 = p - qq by omega]; exact m3)
          rw [show p - qq - 1 + 1 = p - qq by omega, sk] at th
          have hB' : ∀ q ∈ qq :: B, p - q ≤ p - qq := fun q hq => by
            rcases List.mem_cons.1 hq with rfl | hq
            · exact Nat.le_refl _
            · have := hB q hq; omega
          have hPS' : PS = A' ++ (qq :: B) := by rw [hPS, List.append_assoc]; rfl
          dsimp only
          refine Br.dec (fun q4 => ?_) fun q4 => ?_
          · refine ⟨by omega, by omega, Nn.of ?_⟩
            refine Ld.mk (x := (qq : Int)) hcc ?_
            rw [i64_id (n := (p : Int) - (qq : Int)) (by omega)]
            rw [if_pos (by omega)] at th
            have hiv0 := hiv
            have hsz36 := H.size
            refine H.st' 1 rfl (by simp) fun w40 H e40 => ?_
            simp only [List.set_cons_zero, List.set_cons_succ] at H
            refine H.st' 1 rfl (by simp) fun w41 H e41 => ?_
            simp only [List.set_cons_zero, List.set_cons_succ] at H
            refine H.st' 1 rfl (by simp) fun w42 H e42 => ?_
            simp only [List.set_cons_zero, List.set_cons_succ] at H
            have hnb : ∀ j, sl.own j → ¬ j = w4.heap.size := fun j hj => by
              have h1 := h.lt (hown j hj).1
              have h2 := H.ge 1 rfl
              omega
            refine ⟨A'.length, by simp, A', qq :: B, p - qq, hPS', by rw [i64_id (by omega)], rfl, hA', hB', by omega, ?_, ((hiv.keepF e40 hnb).keepF e41 hnb).keepF e42 hnb⟩
            rw [th]
            dsimp only
            rw [show (p : Int) - (qq : Int) = ((p - qq : Nat) : Int) by omega] at H
            exact H
          · rw [if_neg (by omega)] at th
            exact ⟨A'.length, by simp, A', qq :: B, p - qq, hPS', by rw [i64_id (by omega)], rfl, hA', hB', by omega, by rw [th]; exact H, hiv⟩
        · refine fin F ?_ rfl w9 H
          have hm3 : 3 ≤ mostK S.data.toList p := by omega
          have hle := bst_le S.data.toList p F
          have hq3 : ¬ ((thr (bst S.data.toList p F)).1 : Int) < (mostK S.data.toList p : Int) := q3
          have heq : (bst S.data.toList p F).1 = mostK S.data.toList p := by
            unfold thr at hq3
            split at hq3
            · exact absurd hq3 (by show ¬ ¬ ((0 : Nat) : Int) < _; omega)
            · omega
          have := bst_max heq (farK p - F)
          rw [show F + (farK p - F) = farK p by omega] at this
          rw [this]
      · refine fin F (skip F (farK p) (A' ++ [qq]) B hPS hF (by omega) (fun q hq => ?_) hB) rfl w9 H
        rcases List.mem_append.1 hq with h | h
        · have := hA' q h; omega
        · rw [List.mem_singleton.1 h]; omega
    · have : A = [] := by
        cases A with
        | nil => rfl
        | cons a A => simp at q1
      subst this
      exact fin F (skip F (farK p) [] B hPS hF (by omega) (fun q hq => by cases hq) hB) rfl w9 H
end
end Inf
end Go.Proofs.Ytjkoafjnmkchdaa

/- Deflate: places are added to the trail. Conditions: sizes. -/
namespace Go.Proofs.Ytjkoafjnmkchdaa
namespace Inf
open Sh Bit
set_option linter.unusedVariables false
set_option linter.unusedSimpArgs false
set_option maxRecDepth 4000
set_option maxHeartbeats 1000000
attribute [local irreducible] Ld St Nw Nn Lt LdS
section
variable {w : World} {mb : Nat} {L : MpL} {s : List UInt8} {p q : Nat}
theorem Trl.stay (h : Trl w mb L s q) (hq : s.length < q + 3) (d : Nat) : Trl w mb L s (q + d) :=
  ⟨h.map, fun k v hk => by rw [posN_end s hq]; exact h.val k v hk, fun k hk => by rw [posN_end s hq]; exact h.no k hk, h.sep⟩
/-- A place is added. -/
theorem Trl.push (h : Trl w mb L s q) (hs : s.length ≤ 1048576) (hq : q + 3 ≤ s.length) {key : ByteArray} (hkey : key.data.toList = (s.drop q).take 3) (hks : key.size ≤ maxLen) {sl : Slc} (hrow : Row w sl 3 1 (ints (ordI (posN s q key.data.toList)))) (hown : ∀ j, sl.own j → tOwn mb L j ∧ j ≠ mb)
    (hsep : ∀ k' sl', mget L k' = some (Slc.v sl') → k' ≠ key → ∀ j, sl.own j → ¬ sl'.own j) {g : Nat} (hg : Blk w g #[.int .i64 (q : Int)] 3) :
    ∃ sl' wc, RunV Try.prog (Builtin.append_ #[72, 72] 72 #[Slc.v sl, Slc.v ⟨some ⟨g, 0, none⟩, 1, 1⟩]) w (Slc.v sl') wc ∧ ∃ wd, RunU Try.prog (Instr.mapUpdate 54 (.map (some mb)) (.string key) (Slc.v sl')) wc wd ∧
      ∃ L', Trl wd mb L' s (q + 1) ∧ Ext (tOwn mb L) w wd ∧ ∀ j, tOwn mb L' j → tOwn mb L j ∨ w.heap.size ≤ j := by
  have hpl := posN_len s q key.data.toList
  have hsl : sl.len = (posN s q key.data.toList).length := by rw [(IV.row hrow).1, ordI_len]
  obtain ⟨sl', wc, hrun, hrow', hlen', hext, hown'⟩ := elI.app1 (ty := 72) (ys := [.int .i64 (q : Int)]) hrow hg rfl (fun v hv => by rw [List.mem_singleton.1 hv]; rfl) (by omega) (by omega)
  have hmb := h.map.lt
  have hmap := h.map.keepF hext fun hj => (hown mb hj).2 rfl
  obtain ⟨wd, hput, hmap2, hext2⟩ := hmap.put und54 und_string hks (Slc.v sl')
  have hnew : ∀ j, sl'.own j → j ≠ mb := fun j hj => by
    rcases hown' j hj with e | e
    · exact (hown j e).2
    · omega
  refine ⟨sl', wc, hrun, wd, hput, mput L key (Slc.v sl'), ⟨hmap2, fun k v hk => ?_, fun k hk => ?_, fun k k' s1 s2 h1 h2 hne j hj hj2 => ?_⟩, ?_, fun j hj => ?_⟩
  · rw [mget_put] at hk
    by_cases hkk : k = key
    · rw [if_pos hkk] at hk
      cases hk
      subst hkk
      refine ⟨sl', rfl, ?_, fun hj => hnew mb hj rfl⟩
      rw [posN_succ, if_pos ⟨hkey.symm, hq⟩, ordI_app, ints_app]
      exact hrow'.keep hext2 fun j hj => hnew j hj
    · rw [if_neg hkk] at hk
      obtain ⟨s1, h1, h2, h3⟩ := h.val k v hk
      subst h1
      refine ⟨s1, rfl, ?_, h3⟩
      rw [posN_succ, if_neg (fun e => hkk (ba_ext (by rw [hkey]; exact e.1.symm)))]
      exact (h2.keep hext fun j hj hj2 => hsep k s1 hk hkk j hj2 hj).keep hext2 fun j hj e => h3 (by rw [← e]; exact hj)
  · rw [mget_put] at hk
    by_cases hkk : k = key
    · rw [if_pos hkk] at hk; cases hk
    · rw [if_neg hkk] at hk
      rw [posN_succ, if_neg (fun e => hkk (ba_ext (by rw [hkey]; exact e.1.symm)))]
      exact h.no k hk
  · rw [mget_put] at h1 h2
    have old : ∀ k s1, mget L k = some (Slc.v s1) → k ≠ key → ∀ j, sl'.own j → ¬ s1.own j := fun k s1 hk hkk j hj hj2 => by
      rcases hown' j hj with e | e
      · exact hsep k s1 hk hkk j e hj2
      · have := h.lt (.inr ⟨k, s1, hk, hj2⟩)
        omega
    by_cases e1 : k = key
    · rw [if_pos e1] at h1
      have e2 : k' ≠ key := fun e2 => hne (e1.trans e2.symm)
      rw [if_neg e2] at h2
      have h1 := Slc.v_inj _ _ |>.1 (Option.some.inj h1)
      subst h1
      exact old k' s2 h2 e2 j hj hj2
    · rw [if_neg e1] at h1
      by_cases e2 : k' = key
      · rw [if_pos e2] at h2
        have h2 := Slc.v_inj _ _ |>.1 (Option.some.inj h2)
        subst h2
        exact old k s1 h1 e1 j hj2 hj
      · rw [if_neg e2] at h2
        exact h.sep k k' s1 s2 h1 h2 hne j hj hj2
  · refine (hext.mono fun j _ hj => (hown j hj).1).trans hext2 (fun _ h => h) fun j _ e => .inl e
  · rcases hj with rfl | ⟨k, s1, hk, hj⟩
    · exact .inl (.inl rfl)
    · rw [mget_put] at hk
      by_cases e1 : k = key
      · rw [if_pos e1] at hk
        have hk := Slc.v_inj _ _ |>.1 (Option.some.inj hk)
        subst hk
        exact (hown' j hj).imp (fun e => (hown j e).1) id
      · rw [if_neg e1] at hk
        exact .inl (.inr ⟨k, s1, hk, hj⟩)
end
theorem c_addT {w : World} {mb : Nat} {L : MpL} {S : ByteArray} {p t : Nat} (h : Trl w mb L S.data.toList p) (hpt : p ≤ t) (ht : t ≤ S.size) (hs : S.size ≤ 1048576) :
    C29 (some mb) S (p : Int) (t : Int) w fun w1 => ∃ L', Trl w1 mb L' S.data.toList t ∧ Ext (tOwn mb L) w w1 ∧ ∀ j, tOwn mb L' j → tOwn mb L j ∨ w.heap.size ≤ j := by
  have hsz : S.data.toList.length = S.size := (size_list S).symm
  refine T29 _ _ _ _ _ _ ?_
  unfold S29
  refine ⟨fun m st w3 => ∃ (q : Nat) (L' : MpL), st = (q : Int) ∧ p ≤ q ∧ q ≤ t ∧ m = t - q ∧ Trl w3 mb L' S.data.toList q ∧ Ext (tOwn mb L) w w3 ∧ ∀ j, tOwn mb L' j → tOwn mb L j ∨ w.heap.size ≤ j, t - p, ⟨p, L, rfl, by omega, hpt, rfl, h, Ext.refl _ _, fun j hj => .inl hj⟩, ?_⟩
  rintro m st w3 ⟨q, L', rfl, hq1, hq2, rfl, hT, he, ho⟩
  unfold S29L1
  refine Br.dec (fun h1 => ?_) fun h1 => ?_
  · rw [i64_id (n := (q : Int) + 3) (by omega)]
    refine Br.dec (fun h2 => ?_) fun h2 => ?_
    · have e3 : ((q : Int) + 3).toNat = q + 3 := by omega
      rw [e3, Int.toNat_natCast]
      have hkey : (S.extract q (q + 3)).data.toList = (S.data.toList.drop q).take 3 := by rw [extract_list]; congr 1; omega
      have hks : (S.extract q (q + 3)).size ≤ maxLen := by rw [ByteArray.size_extract]; unfold maxLen; omega
      have hTd := hT.keep (w' := w3.drew) (Ext.refl _ _).drew
      have next : ∀ wb wd L2, Ext (fun _ => False) w3 wb → Trl wd mb L2 S.data.toList (q + 1) → Ext (tOwn mb L') wb wd → (∀ j, tOwn mb L2 j → tOwn mb L' j ∨ wb.heap.size ≤ j) → ∃ n', n' < t - q ∧ ∃ (q_1 : Nat) (L_1 : MpL), IntKind.i64.wrap ((q : Int) + 1) = (q_1 : Int) ∧ p ≤ q_1 ∧ q_1 ≤ t ∧ n' = t - q_1 ∧ Trl wd mb L_1 S.data.toList q_1 ∧ Ext (tOwn mb L) w wd ∧ ∀ j, tOwn mb L_1 j → tOwn mb L j ∨ w.heap.size ≤ j := fun wb wd L2 e1 t1 e2 o2 => by
        have z1 := he.size
        have z2 := e1.size
        refine ⟨t - (q + 1), by omega, q + 1, L2, by rw [i64_id (by omega)]; rfl, by omega, by omega, rfl, t1, ?_, fun j hj => ?_⟩
        · refine (he.trans e1 (fun _ h => h) fun _ _ h => h.elim).trans e2 (fun _ h => h) fun j hj e => ?_
          rcases ho j e with e | e
          · exact e
          · omega
        · rcases o2 j hj with e | e
          · exact ho j e
          · exact .inr (by omega)
      refine ⟨by omega, by omega, by omega, by omega, by omega, by omega, by omega, by omega, ?_, ?_⟩
      · obtain ⟨sl, hrun, hrow, hown, hsep⟩ := hTd.look hks
        refine ⟨sl, _, hrun, Nw.of ?_⟩
        have e1 := (Ext.refl (fun _ => False) w3.drew).alloc (.cells #[.int .i64 (q : Int)] 3)
        obtain ⟨sl', wc, r1, wd, r2, L2, t1, e2, o2⟩ := (hTd.keep e1).push (by omega) (by omega) hkey hks (hrow.keep e1 fun _ _ h => h) hown hsep (Blk.new w3.drew _ _)
        exact ⟨sl', wc, r1, wd, r2, next _ wd L2 ((Ext.refl _ _).drew.tr e1) t1 e2 o2⟩
      · refine Nw.of ?_
        have e1 := (Ext.refl (fun _ => False) w3.drew).alloc (.cells #[.int .i64 (q : Int)] 3)
        obtain ⟨sl, hrun, hrow, hown, hsep⟩ := (hTd.keep e1).look hks
        refine ⟨sl, _, hrun, ?_⟩
        obtain ⟨sl', wc, r1, wd, r2, L2, t1, e2, o2⟩ := (hTd.keep e1).push (by omega) (by omega) hkey hks hrow hown hsep (Blk.new w3.drew _ _)
        exact ⟨sl', wc, r1, wd, r2, next _ wd L2 ((Ext.refl _ _).drew.tr e1) t1 e2 o2⟩
    · have := hT.stay (by omega) (t - q)
      rw [show q + (t - q) = t by omega] at this
      exact ⟨L', this, he, ho⟩
  · have : q = t := by omega
    subst this
    exact ⟨L', hT, he, ho⟩
end Inf
end Go.Proofs.Ytjkoafjnmkchdaa

/- Deflate: the greedy parse, both sides. Conditions: sizes. -/
namespace Go.Proofs.Ytjkoafjnmkchdaa
namespace Inf
open Sh Bit
set_option linter.unusedVariables false
set_option linter.unusedSimpArgs false
set_option maxRecDepth 4000
set_option maxHeartbeats 1000000
attribute [local irreducible] Ld St Nw Nn Lt LdS
/-- A part is appended. -/
theorem pushP {TS T : TypeId} {z : Value} (hel : El Try.prog TS T 3 24 z) {w : World} {sl : Slc} {D : List Qr} (hr : Row w sl T 3 (D.flatMap prow)) (hl : D.length ≤ 2000000) (q : Qr) {K : Slc → World → Prop}
    (k : ∀ s' w', Row w' s' T 3 ((D ++ [q]).flatMap prow) → Ext sl.own w w' → (∀ j, s'.own j → sl.own j ∨ w.heap.size ≤ j) → K s' w') :
    Nw w (.cells #[.int .u8 q.1, .int .i64 q.2.1, .int .i64 q.2.2] T) fun v => Rn Try.prog (Builtin.append_ #[TS, TS] TS #[Slc.v sl, Slc.v ((⟨some ⟨w.heap.size, 0, none⟩, 1, 1⟩ : Slc))]) v Slc.v K := by
  refine Nw.of ?_
  have e1 := (Ext.refl (fun _ => False) w).alloc (.cells #[.int .u8 q.1, .int .i64 q.2.1, .int .i64 q.2.2] T)
  have hsl : sl.len = D.length := by
    have := hr.1
    rw [p_len] at this
    omega
  obtain ⟨s', w', hrun, hrow, hlen, hext, hown⟩ := hel.app1 (ty := TS) (ys := prow q) (hr.keep e1 fun _ _ h => h) (Blk.new w _ _) rfl (fun v hv => p_one [q] v (by simpa using hv)) (by omega) (by omega)
  refine ⟨s', w', hrun, k s' w' ?_ ?_ fun j hj => (hown j hj).imp id fun h => Nat.le_trans e1.size h⟩
  · rw [List.flatMap_append]
    simpa using hrow
  · exact (e1.mono fun _ _ h => h.elim).trans hext (fun _ h => h) fun _ _ h => h
theorem row_pv {w : World} {sl : Slc} {T : TypeId} {D : List Qr} (hr : Row w sl T 3 (D.flatMap prow)) : PV w sl D := by
  refine ⟨?_, hr.view⟩
  have := hr.1
  rw [p_len] at this
  omega
/-- One step of the parse. -/
theorem parts_step (s : List UInt8) {p : Nat} (hp : p < s.length) : (((bst s p (farK p)).1 < 3) → partsF s (s.length - p) p = ⟨s.getD p 0, 0, 0⟩ :: partsF s (s.length - (p + 1)) (p + 1)) ∧
    (¬ ((bst s p (farK p)).1 < 3) → partsF s (s.length - p) p = ⟨0, (bst s p (farK p)).1, (bst s p (farK p)).2⟩ :: partsF s (s.length - (p + (bst s p (farK p)).1)) (p + (bst s p (farK p)).1)) ∧ p + (bst s p (farK p)).1 ≤ s.length := by
  have hle := bst_le s p (farK p)
  unfold mostK at hle
  have e : s.length - p = (s.length - (p + 1)) + 1 := by omega
  refine ⟨fun h => ?_, fun h => ?_, by omega⟩
  · rw [e]
    conv => lhs; unfold partsF
    rw [if_neg (by omega), if_pos h]
  · rw [e]
    conv => lhs; unfold partsF
    rw [if_neg (by omega), if_neg h]
    congr 1
    have := partsF_more s (s.length - (p + (bst s p (farK p)).1)) ((bst s p (farK p)).1 - 1) (p + (bst s p (farK p)).1) (by omega)
    rw [← this]
    congr 1
    omega
theorem c_Parts {S : ByteArray} (hs : S.size ≤ 1048576) (w : World) : C11 S w fun r w1 => PV w1 r ((partsS S.data.toList).map rawP) ∧ Ext (fun _ => False) w w1 := by
  have hsz : S.data.toList.length = S.size := (size_list S).symm
  refine T11 _ _ _ ?_
  unfold S11
  refine Br.dec (fun q => absurd q (by omega)) fun q => Nw.of ?_
  have e0 := (Ext.refl (fun _ => False) w).alloc (.map #[] 0)
  have T0 : Trl (w.alloc (.map #[] 0)) w.heap.size [] S.data.toList 0 := ⟨MpB.new w, (fun k v hk => by cases hk), fun k _ => rfl, fun k k' s1 s2 h => by cases h⟩
  refine ⟨fun m st w3 => ∃ (p : Nat) (L : MpL) (D : List Qr), st.2 = (p : Int) ∧ p ≤ S.size ∧ m = S.size - p ∧ D.length ≤ p ∧ Row w3 st.1 34 3 (D.flatMap prow) ∧ D ++ (partsF S.data.toList (S.data.toList.length - p) p).map rawP = (partsS S.data.toList).map rawP ∧
    Trl w3 w.heap.size L S.data.toList p ∧ Ext (fun _ => False) w w3 ∧ (∀ j, st.1.own j → w.heap.size ≤ j ∧ ¬ tOwn w.heap.size L j) ∧ ∀ j, tOwn w.heap.size L j → w.heap.size ≤ j, S.size,
    ⟨0, [], [], rfl, Nat.zero_le _, rfl, Nat.le_refl _, Row.nil _ _ _, rfl, T0, e0, (fun j hj => by obtain ⟨a, ha, _⟩ := hj; cases ha), fun j hj => by
      rcases hj with rfl | ⟨k, sl, hk, _⟩
      · exact Nat.le_refl _
      · cases hk⟩, ?_⟩
  rintro m ⟨sl, p'⟩ w3 ⟨p, L, D, hp', hp, rfl, hD, hr, hres, hT, he, ho, hto⟩
  simp only at hp' hr ho
  subst hp'
  unfold S11L1
  dsimp only
  refine Br.dec (fun q1 => ?_) fun q1 => ?_
  · have hp : p < S.size := by omega
    refine (c_copiedT hT hp hs).mono ?_
    rintro r w7 ⟨rfl, e7⟩
    dsimp only
    have hT := hT.keep e7
    have hr := hr.keep e7 fun _ _ h => h
    have he := he.tr e7
    obtain ⟨s1, s2, s3⟩ := parts_step S.data.toList (p := p) (by omega)
    refine (Hn.start w7).nw fun w8 H => ?_
    simp only [List.nil_append] at H
    iterate 3 (refine H.st 0 rfl (by simp) fun _ H => ?_; simp only [List.nil_append, List.cons_append, List.set_cons_zero, List.set_cons_succ, Nat.zero_add] at H)
    iterate 2 refine H.ld 0 rfl rfl ?_
    -- what follows the append
    have next : ∀ (pr : Prt) (n : Nat), partsF S.data.toList (S.data.toList.length - p) p = pr :: partsF S.data.toList (S.data.toList.length - (p + n)) (p + n) → 1 ≤ n → p + n ≤ S.size → ∀ w9, Ext (fun _ => False) w7 w9 → ∀ s' w', Row w' s' 34 3 ((D ++ [rawP pr]).flatMap prow) → Ext sl.own w9 w' → (∀ j, s'.own j → sl.own j ∨ w9.heap.size ≤ j) → ∀ x : Int, x = ((p + n : Nat) : Int) → C29 (some w.heap.size) S (p : Int) x w' fun w10 => ∃ n', n' < S.size - p ∧ ∃ (p_1 : Nat) (L : MpL) (D : List Qr), x = (p_1 : Int) ∧ p_1 ≤ S.size ∧ n' = S.size - p_1 ∧ D.length ≤ p_1 ∧ Row w10 s' 34 3 (D.flatMap prow) ∧ D ++ (partsF S.data.toList (S.data.toList.length - p_1) p_1).map rawP = (partsS S.data.toList).map rawP ∧
        Trl w10 w.heap.size L S.data.toList p_1 ∧ Ext (fun _ => False) w w10 ∧ (∀ j, s'.own j → w.heap.size ≤ j ∧ ¬ tOwn w.heap.size L j) ∧ ∀ j, tOwn w.heap.size L j → w.heap.size ≤ j := by
      rintro pr n hpr hn hpn w9 e9 s' w' hr' e10 o10 x rfl
      have hT9 := (hT.keep e9).keepF e10 fun j hj hj2 => (ho j hj2).2 hj
      refine (c_addT hT9 (by omega) hpn hs).mono ?_
      rintro w11 ⟨L', t1, e11, o11⟩
      have z9 := e9.size
      have z10 := e10.size
      have zz := he.size
      have hdis : ∀ j, s'.own j → ¬ tOwn w.heap.size L j := fun j hj hj2 => by
        rcases o10 j hj with e | e
        · exact (ho j e).2 hj2
        · have := hT.lt hj2
          omega
      refine ⟨S.size - (p + n), by omega, p + n, L', D ++ [rawP pr], rfl, hpn, rfl, by rw [List.length_append]; simp; omega, hr'.keep e11 fun j hj hj2 => hdis j hj hj2, ?_, t1, ?_, fun j hj => ⟨?_, fun hj2 => ?_⟩, fun j hj => ?_⟩
      · rw [hpr, List.map_cons] at hres
        rw [← hres, List.append_assoc]
        rfl
      · exact ((he.tr e9).trans e10 (fun _ h => h) fun j hj e => by have := (ho j e).1; omega).trans e11 (fun _ h => h) fun j hj e => by have := hto j e; omega
      · rcases o10 j hj with e | e
        · exact (ho j e).1
        · omega
      · rcases o11 j hj2 with e | e
        · exact hdis j hj e
        · have := hr'.own_lt hj
          omega
      · rcases o11 j hj with e | e
        · exact hto j e
        · omega
    have hx : ∀ (y : Nat), p + max y 1 ≤ S.size → IntKind.i64.wrap ((p : Int) + (if 1 > (y : Int) then 1 else (y : Int))) = ((p + max y 1 : Nat) : Int) := fun y hy => by
      rw [max1, i64_id (by omega)]
      omega
    by_cases hb : (bst S.data.toList p (farK p)).1 < 3
    · have hthr : thr (bst S.data.toList p (farK p)) = (0, 0) := by unfold thr; rw [if_pos hb]
      rw [hthr] at H ⊢
      dsimp only at H ⊢
      refine Br.eq (fun _ => ?_) fun h => absurd rfl h
      refine ⟨by omega, by omega, ?_⟩
      rw [bAt_list]
      iterate 1 (refine H.st 0 rfl (by simp) fun _ H => ?_; simp only [List.nil_append, List.cons_append, List.set_cons_zero, List.set_cons_succ, Nat.zero_add] at H)
      iterate 3 refine H.ld 0 rfl rfl ?_
      refine pushP elP (D := D) (hr.keep H.ext fun _ _ h => h) (by omega) (rawP ⟨S.data.toList.getD p 0, 0, 0⟩) fun s' w' r1 r2 r3 => ?_
      exact next ⟨S.data.toList.getD p 0, 0, 0⟩ 1 (s1 hb) (Nat.le_refl _) (by omega) _ H.ext s' w' r1 r2 r3 _ (hx 0 (by omega))
    · have hthr : thr (bst S.data.toList p (farK p)) = bst S.data.toList p (farK p) := by unfold thr; rw [if_neg hb]
      rw [hthr] at H ⊢
      refine Br.eq (fun h => absurd h (by omega)) fun _ => ?_
      iterate 3 refine H.ld 0 rfl rfl ?_
      refine pushP elP (D := D) (hr.keep H.ext fun _ _ h => h) (by omega) (rawP ⟨0, (bst S.data.toList p (farK p)).1, (bst S.data.toList p (farK p)).2⟩) fun s' w' r1 r2 r3 => ?_
      refine next ⟨0, (bst S.data.toList p (farK p)).1, (bst S.data.toList p (farK p)).2⟩ _ (s2 hb) (by omega) (by omega) _ H.ext s' w' r1 r2 r3 _ ?_
      rw [hx _ (by omega)]
      omega
  · have : p = S.size := by omega
    subst this
    rw [hsz, Nat.sub_self] at hres
    have hres : D ++ [] = _ := hres
    rw [List.append_nil] at hres
    rw [← hres]
    exact ⟨row_pv hr, he⟩
/-! ### The reference's -/
theorem r_longest {S : ByteArray} {p : Nat} (hp : p < S.size) (hs : S.size ≤ 1048576) (w : World) : C30 S (p : Int) w fun n f w1 => n = (((bst S.data.toList p (farK p)).1 : Nat) : Int) ∧ f = (((bst S.data.toList p (farK p)).2 : Nat) : Int) ∧ Ext (fun _ => False) w w1 := by
  have hsz : S.data.toList.length = S.size := (size_list S).symm
  have hfk : farK p = min p 32768 := rfl
  have hmk : mostK S.data.toList p = min 258 (S.size - p) := by unfold mostK; rw [hsz]
  refine T30 _ _ _ _ ?_
  unfold S30
  refine ⟨fun m st w3 => ∃ F : Nat, st = (((bst S.data.toList p F).1 : Int), ((bst S.data.toList p F).2 : Int), ((F + 1 : Nat) : Int)) ∧ F ≤ farK p ∧ m = farK p - F ∧ Ext (fun _ => False) w w3, farK p, ⟨0, rfl, Nat.zero_le _, rfl, Ext.refl _ _⟩, ?_⟩
  rintro m st w3 ⟨F, rfl, hF, rfl, he⟩
  generalize hfc : ((F + 1 : Nat) : Int) = fc
  unfold S30L2
  dsimp only
  have hle := bst_le S.data.toList p F
  have fin : farK p = F → bst S.data.toList p (farK p) = bst S.data.toList p F := fun h => by rw [h]
  refine Br.dec (fun q1 => ?_) fun q1 => ?_
  rotate_left
  · rw [fin (by omega)]
    exact ⟨rfl, rfl, he⟩
  refine Br.dec (fun q2 => ?_) fun q2 => ?_
  rotate_left
  · rw [fin (by omega)]
    exact ⟨rfl, rfl, he⟩
  subst hfc
  refine Br.dec (fun q3 => ?_) fun q3 => ?_
  · have hF2 : F + 1 ≤ farK p := by omega
    have hsub : p - (F + 1) + (F + 1) = p := by omega
    have hx1 : IntKind.i64.wrap (((F + 1 : Nat) : Int) + 1) = ((F + 1 + 1 : Nat) : Int) := by rw [i64_id (by omega)]; rfl
    have same : mlen S.data.toList p (F + 1) ≤ (bst S.data.toList p F).1 → ∀ w4, Ext (fun _ => False) w w4 → ∃ n', n' < farK p - F ∧ ∃ F_1 : Nat, (((bst S.data.toList p F).1 : Int), ((bst S.data.toList p F).2 : Int), IntKind.i64.wrap (((F + 1 : Nat) : Int) + 1)) = (((bst S.data.toList p F_1).1 : Int), ((bst S.data.toList p F_1).2 : Int), ((F_1 + 1 : Nat) : Int)) ∧ F_1 ≤ farK p ∧ n' = farK p - F_1 ∧ Ext (fun _ => False) w w4 := fun hm w4 e4 => by
      have : bst S.data.toList p (F + 1) = bst S.data.toList p F := by
        conv => lhs; unfold bst
        rw [if_neg (by omega)]
      exact ⟨farK p - (F + 1), by omega, F + 1, by rw [this, hx1], hF2, rfl, e4⟩
    have spec := alikeK_spec S.data.toList (p - (F + 1)) p (mostK S.data.toList p) 0
    have hml := mlen_le S.data.toList p (F + 1)
    have hmd : mlen S.data.toList p (F + 1) = alikeK S.data.toList (p - (F + 1)) p 0 (mostK S.data.toList p) := rfl
    rw [i64_id (n := (p : Int) + ((bst S.data.toList p F).1 : Int)) (by omega)]
    refine Br.dec (fun q4 => same (by omega) _ he.drew) fun q4 => ?_
    rw [i64_id (by omega), show (p : Int) + ((bst S.data.toList p F).1 : Int) - ((F + 1 : Nat) : Int) = ((p - (F + 1) + (bst S.data.toList p F).1 : Nat) : Int) by omega, show (p : Int) + ((bst S.data.toList p F).1 : Int) = ((p + (bst S.data.toList p F).1 : Nat) : Int) by omega, bAt_list, bAt_list]
    refine ⟨by omega, by omega, by omega, by omega, Lt.of ?_⟩
    refine Br.ne (fun q5 => ?_) fun q5 => ?_
    · refine same ?_ _ he.drew
      rcases Nat.lt_or_ge (bst S.data.toList p F).1 (mlen S.data.toList p (F + 1)) with h | h
      · have := spec.2.2.1 (bst S.data.toList p F).1 (Nat.zero_le _) (by omega)
        exact absurd (by rw [this]) q5
      · exact h
    · refine ⟨fun m st w5 => ∃ k : Nat, st = (k : Int) ∧ k ≤ mostK S.data.toList p ∧ m = mostK S.data.toList p - k ∧ alikeK S.data.toList (p - (F + 1)) p k (mostK S.data.toList p - k) = mlen S.data.toList p (F + 1) ∧ Ext (fun _ => False) w w5, mostK S.data.toList p, ⟨0, rfl, Nat.zero_le _, rfl, rfl, he.drew⟩, ?_⟩
      rintro m st w5 ⟨k, rfl, hk, rfl, hkm, e5⟩
      unfold S30L1
      dsimp only
      have done : mlen S.data.toList p (F + 1) = k → Br (decide ((k : Int) > ((bst S.data.toList p F).1 : Int))) (∃ n', n' < farK p - F ∧ ∃ F_1 : Nat, ((k : Int), ((F + 1 : Nat) : Int), IntKind.i64.wrap (((F + 1 : Nat) : Int) + 1)) = (((bst S.data.toList p F_1).1 : Int), ((bst S.data.toList p F_1).2 : Int), ((F_1 + 1 : Nat) : Int)) ∧ F_1 ≤ farK p ∧ n' = farK p - F_1 ∧ Ext (fun _ => False) w w5.drew)
          (∃ n', n' < farK p - F ∧ ∃ F_1 : Nat, (((bst S.data.toList p F).1 : Int), ((bst S.data.toList p F).2 : Int), IntKind.i64.wrap (((F + 1 : Nat) : Int) + 1)) = (((bst S.data.toList p F_1).1 : Int), ((bst S.data.toList p F_1).2 : Int), ((F_1 + 1 : Nat) : Int)) ∧ F_1 ≤ farK p ∧ n' = farK p - F_1 ∧ Ext (fun _ => False) w w5.drew) := fun hm => by
        refine Br.dec (fun h => ?_) fun h => same (by omega) _ e5.drew
        have : bst S.data.toList p (F + 1) = (mlen S.data.toList p (F + 1), F + 1) := by
          conv => lhs; unfold bst
          rw [if_pos (by omega)]
        exact ⟨farK p - (F + 1), by omega, F + 1, by rw [this, hx1, hm], hF2, rfl, e5.drew⟩
      rw [i64_id (n := (p : Int) + (k : Int)) (by omega)]
      refine Br.dec (fun q6 => Br.dec (fun q7 => ?_) fun q7 => ?_) fun q6 => ?_
      · rw [i64_id (by omega), show (p : Int) + (k : Int) - ((F + 1 : Nat) : Int) = ((p - (F + 1) + k : Nat) : Int) by omega, show (p : Int) + (k : Int) = ((p + k : Nat) : Int) by omega, bAt_list, bAt_list]
        refine ⟨by omega, by omega, by omega, by omega, Lt.of ?_⟩
        have hkm2 := hkm
        rw [show mostK S.data.toList p - k = (mostK S.data.toList p - (k + 1)) + 1 by omega, alikeK_step] at hkm2
        refine Br.eq (fun q8 => ?_) fun q8 => ?_
        · rw [if_pos (UInt8.toNat_inj.1 (by omega))] at hkm2
          exact ⟨mostK S.data.toList p - (k + 1), by omega, k + 1, by rw [i64_id (by omega)]; rfl, by omega, rfl, hkm2, e5.drew⟩
        · rw [if_neg (fun e => q8 (by rw [e]))] at hkm2
          exact done hkm2.symm
      · have : k = mostK S.data.toList p := by omega
        subst this
        rw [Nat.sub_self] at hkm
        exact done hkm.symm
      · have : k = mostK S.data.toList p := by omega
        subst this
        rw [Nat.sub_self] at hkm
        exact done hkm.symm
  · have heq : (bst S.data.toList p F).1 = mostK S.data.toList p := by omega
    have := bst_max heq (farK p - F)
    rw [show F + (farK p - F) = farK p by omega] at this
    rw [this]
    exact ⟨rfl, rfl, he⟩
theorem r_Parts {S : ByteArray} (hs : S.size ≤ 1048576) (w : World) : C12 S w fun r w1 => PV w1 r ((partsS S.data.toList).map rawP) ∧ Ext (fun _ => False) w w1 := by
  have hsz : S.data.toList.length = S.size := (size_list S).symm
  refine T12 _ _ _ ?_
  unfold S12
  refine Br.dec (fun q => absurd q (by omega)) fun q => ?_
  refine ⟨fun m st w3 => ∃ (p : Nat) (D : List Qr), st.2 = (p : Int) ∧ p ≤ S.size ∧ m = S.size - p ∧ D.length ≤ p ∧ Row w3 st.1 35 3 (D.flatMap prow) ∧ D ++ (partsF S.data.toList (S.data.toList.length - p) p).map rawP = (partsS S.data.toList).map rawP ∧
    Ext (fun _ => False) w w3 ∧ ∀ j, st.1.own j → w.heap.size ≤ j, S.size,
    ⟨0, [], rfl, Nat.zero_le _, rfl, Nat.le_refl _, Row.nil _ _ _, rfl, Ext.refl _ _, fun j hj => by obtain ⟨a, ha, _⟩ := hj; cases ha⟩, ?_⟩
  rintro m ⟨sl, p'⟩ w3 ⟨p, D, hp', hp, rfl, hD, hr, hres, he, ho⟩
  simp only at hp' hr ho
  subst hp'
  unfold S12L1
  dsimp only
  refine Br.dec (fun q1 => ?_) fun q1 => ?_
  · have hp : p < S.size := by omega
    refine (r_longest hp hs w3).mono ?_
    rintro n f w7 ⟨rfl, rfl, e7⟩
    have hr := hr.keep e7 fun _ _ h => h
    have he := he.tr e7
    obtain ⟨s1, s2, s3⟩ := parts_step S.data.toList (p := p) (by omega)
    have next : ∀ (pr : Prt) (n : Nat), partsF S.data.toList (S.data.toList.length - p) p = pr :: partsF S.data.toList (S.data.toList.length - (p + n)) (p + n) → 1 ≤ n → p + n ≤ S.size → ∀ s' w', Row w' s' 35 3 ((D ++ [rawP pr]).flatMap prow) → Ext sl.own w7 w' → (∀ j, s'.own j → sl.own j ∨ w7.heap.size ≤ j) → ∀ x : Int, x = ((p + n : Nat) : Int) → ∃ n', n' < S.size - p ∧ ∃ (p_1 : Nat) (D : List Qr), x = (p_1 : Int) ∧ p_1 ≤ S.size ∧ n' = S.size - p_1 ∧ D.length ≤ p_1 ∧ Row w' s' 35 3 (D.flatMap prow) ∧ D ++ (partsF S.data.toList (S.data.toList.length - p_1) p_1).map rawP = (partsS S.data.toList).map rawP ∧
        Ext (fun _ => False) w w' ∧ ∀ j, s'.own j → w.heap.size ≤ j := by
      rintro pr n hpr hn hpn s' w' hr' e10 o10 x rfl
      have zz := he.size
      refine ⟨S.size - (p + n), by omega, p + n, D ++ [rawP pr], rfl, hpn, rfl, by rw [List.length_append]; simp; omega, hr', ?_, ?_, fun j hj => ?_⟩
      · rw [hpr, List.map_cons] at hres
        rw [← hres, List.append_assoc]
        rfl
      · exact he.trans e10 (fun _ h => h) fun j hj e => by have := ho j e; omega
      · rcases o10 j hj with e | e
        · exact ho j e
        · omega
    refine Br.dec (fun hb => ?_) fun hb => ?_
    · refine ⟨by omega, by omega, ?_⟩
      rw [bAt_list]
      refine pushP elR (D := D) hr (by omega) (rawP ⟨S.data.toList.getD p 0, 0, 0⟩) fun s' w' r1 r2 r3 => ?_
      exact next ⟨S.data.toList.getD p 0, 0, 0⟩ 1 (s1 (by omega)) (Nat.le_refl _) (by omega) s' w' r1 r2 r3 _ (by rw [i64_id (by omega)]; rfl)
    · refine pushP elR (D := D) hr (by omega) (rawP ⟨0, (bst S.data.toList p (farK p)).1, (bst S.data.toList p (farK p)).2⟩) fun s' w' r1 r2 r3 => ?_
      exact next ⟨0, (bst S.data.toList p (farK p)).1, (bst S.data.toList p (farK p)).2⟩ _ (s2 (by omega)) (by omega) (by omega) s' w' r1 r2 r3 _ (by rw [i64_id (by omega)]; rfl)
  · have : p = S.size := by omega
    subst this
    rw [hsz, Nat.sub_self] at hres
    have hres : D ++ [] = _ := hres
    rw [List.append_nil] at hres
    rw [← hres]
    exact ⟨row_pv hr, he⟩
end Inf
end Go.Proofs.Ytjkoafjnmkchdaa
