/- The formulas of 19 functions of the program, written by program (gen.py); the kernel checks each. No condition. -/
import Derived.Test.YtjlaijhmnlkpiaaFn
import Derived.Test.YtjlaijhmnlkpiaaFnMat
namespace Go.Proofs.Ytjlaijhmnlkpiaa
open Sh
set_option linter.unusedVariables false

def C89 (n1 : Int) (least2 : Int) (most3 : Int) (w : World) (R : Bool → World → Prop) : Prop :=
  Calls Try.prog 89 #[.int .i64 n1, .int .i64 least2, .int .i64 most3] w fun e w' => ∃ r0 : Bool, e = .returned (.bool r0) ∧ R r0 w'
theorem C89.mono {n1 : Int} {least2 : Int} {most3 : Int} {w : World} {R R' : Bool → World → Prop} (h : C89 n1 least2 most3 w R) (hr : ∀ r0 w', R r0 w' → R' r0 w') : C89 n1 least2 most3 w R' :=
  Calls.mono h fun _ _ ⟨r0, he, hR⟩ => ⟨r0, he, hr _ _ hR⟩
def C55 (o1 : Int × Int × Int × ByteArray × Slc × Slc) (w : World) (R : Int → Bool → World → Prop) : Prop :=
  Calls Try.prog 55 #[.agg #[.int .i64 (o1.1), .int .i64 (o1.2.1), .int .i64 (o1.2.2.1), .string o1.2.2.2.1, Slc.v o1.2.2.2.2.1, Slc.v o1.2.2.2.2.2]] w fun e w' => ∃ r0 : Int, ∃ r1 : Bool, e = .returned (.tuple #[.int .i64 r0, .bool r1]) ∧ R r0 r1 w'
theorem C55.mono {o1 : Int × Int × Int × ByteArray × Slc × Slc} {w : World} {R R' : Int → Bool → World → Prop} (h : C55 o1 w R) (hr : ∀ r0 r1 w', R r0 r1 w' → R' r0 r1 w') : C55 o1 w R' :=
  Calls.mono h fun _ _ ⟨r0, r1, he, hR⟩ => ⟨r0, r1, he, hr _ _ _ hR⟩
def C22 (o1 : Int × Int × Int × ByteArray × Slc × Slc) (w : World) (R : (Int × Int × Int × Int × Int × Int) → Int → World → Prop) : Prop :=
  Calls Try.prog 22 #[.agg #[.int .i64 (o1.1), .int .i64 (o1.2.1), .int .i64 (o1.2.2.1), .string o1.2.2.2.1, Slc.v o1.2.2.2.2.1, Slc.v o1.2.2.2.2.2]] w fun e w' => ∃ r0 : Int × Int × Int × Int × Int × Int, ∃ r1 : Int, e = .returned (.tuple #[.agg #[.int .i64 (r0.1), .int .i64 (r0.2.1), .int .i64 (r0.2.2.1), .int .i64 (r0.2.2.2.1), .int .i64 (r0.2.2.2.2.1), .int .i64 (r0.2.2.2.2.2)], .int .i64 r1]) ∧ R r0 r1 w'
theorem C22.mono {o1 : Int × Int × Int × ByteArray × Slc × Slc} {w : World} {R R' : (Int × Int × Int × Int × Int × Int) → Int → World → Prop} (h : C22 o1 w R) (hr : ∀ r0 r1 w', R r0 r1 w' → R' r0 r1 w') : C22 o1 w R' :=
  Calls.mono h fun _ _ ⟨r0, r1, he, hR⟩ => ⟨r0, r1, he, hr _ _ _ hR⟩
def C56 (o1 : Int × Int × Int × ByteArray × Slc × Slc) (w : World) (R : Int → Bool → World → Prop) : Prop :=
  Calls Try.prog 56 #[.agg #[.int .i64 (o1.1), .int .i64 (o1.2.1), .int .i64 (o1.2.2.1), .string o1.2.2.2.1, Slc.v o1.2.2.2.2.1, Slc.v o1.2.2.2.2.2]] w fun e w' => ∃ r0 : Int, ∃ r1 : Bool, e = .returned (.tuple #[.int .i64 r0, .bool r1]) ∧ R r0 r1 w'
theorem C56.mono {o1 : Int × Int × Int × ByteArray × Slc × Slc} {w : World} {R R' : Int → Bool → World → Prop} (h : C56 o1 w R) (hr : ∀ r0 r1 w', R r0 r1 w' → R' r0 r1 w') : C56 o1 w R' :=
  Calls.mono h fun _ _ ⟨r0, r1, he, hR⟩ => ⟨r0, r1, he, hr _ _ _ hR⟩
def C23 (o1 : Int × Int × Int × ByteArray × Slc × Slc) (w : World) (R : (Int × Int × Int × Int × Int × Int) → Int → World → Prop) : Prop :=
  Calls Try.prog 23 #[.agg #[.int .i64 (o1.1), .int .i64 (o1.2.1), .int .i64 (o1.2.2.1), .string o1.2.2.2.1, Slc.v o1.2.2.2.2.1, Slc.v o1.2.2.2.2.2]] w fun e w' => ∃ r0 : Int × Int × Int × Int × Int × Int, ∃ r1 : Int, e = .returned (.tuple #[.agg #[.int .i64 (r0.1), .int .i64 (r0.2.1), .int .i64 (r0.2.2.1), .int .i64 (r0.2.2.2.1), .int .i64 (r0.2.2.2.2.1), .int .i64 (r0.2.2.2.2.2)], .int .i64 r1]) ∧ R r0 r1 w'
theorem C23.mono {o1 : Int × Int × Int × ByteArray × Slc × Slc} {w : World} {R R' : (Int × Int × Int × Int × Int × Int) → Int → World → Prop} (h : C23 o1 w R) (hr : ∀ r0 r1 w', R r0 r1 w' → R' r0 r1 w') : C23 o1 w R' :=
  Calls.mono h fun _ _ ⟨r0, r1, he, hR⟩ => ⟨r0, r1, he, hr _ _ _ hR⟩
def C59 (n1 : Int) (w : World) (R : (Int × Int × Int × ByteArray × Slc × Slc) → World → Prop) : Prop :=
  Calls Try.prog 59 #[.int .i64 n1] w fun e w' => ∃ r0 : Int × Int × Int × ByteArray × Slc × Slc, e = .returned (.agg #[.int .i64 (r0.1), .int .i64 (r0.2.1), .int .i64 (r0.2.2.1), .string r0.2.2.2.1, Slc.v r0.2.2.2.2.1, Slc.v r0.2.2.2.2.2]) ∧ R r0 w'
theorem C59.mono {n1 : Int} {w : World} {R R' : (Int × Int × Int × ByteArray × Slc × Slc) → World → Prop} (h : C59 n1 w R) (hr : ∀ r0 w', R r0 w' → R' r0 w') : C59 n1 w R' :=
  Calls.mono h fun _ _ ⟨r0, he, hR⟩ => ⟨r0, he, hr _ _ hR⟩
def C60 (units1 : Int) (w : World) (R : (Int × Int × Int × ByteArray × Slc × Slc) → World → Prop) : Prop :=
  Calls Try.prog 60 #[.int .i64 units1] w fun e w' => ∃ r0 : Int × Int × Int × ByteArray × Slc × Slc, e = .returned (.agg #[.int .i64 (r0.1), .int .i64 (r0.2.1), .int .i64 (r0.2.2.1), .string r0.2.2.2.1, Slc.v r0.2.2.2.2.1, Slc.v r0.2.2.2.2.2]) ∧ R r0 w'
theorem C60.mono {units1 : Int} {w : World} {R R' : (Int × Int × Int × ByteArray × Slc × Slc) → World → Prop} (h : C60 units1 w R) (hr : ∀ r0 w', R r0 w' → R' r0 w') : C60 units1 w R' :=
  Calls.mono h fun _ _ ⟨r0, he, hR⟩ => ⟨r0, he, hr _ _ hR⟩
def C105 (x1 : Int × Int × Int × ByteArray × Slc × Slc) (w : World) (R : (Int × Int × Int × ByteArray × Slc × Slc) → World → Prop) : Prop :=
  Calls Try.prog 105 #[.agg #[.int .i64 (x1.1), .int .i64 (x1.2.1), .int .i64 (x1.2.2.1), .string x1.2.2.2.1, Slc.v x1.2.2.2.2.1, Slc.v x1.2.2.2.2.2]] w fun e w' => ∃ r0 : Int × Int × Int × ByteArray × Slc × Slc, e = .returned (.agg #[.int .i64 (r0.1), .int .i64 (r0.2.1), .int .i64 (r0.2.2.1), .string r0.2.2.2.1, Slc.v r0.2.2.2.2.1, Slc.v r0.2.2.2.2.2]) ∧ R r0 w'
theorem C105.mono {x1 : Int × Int × Int × ByteArray × Slc × Slc} {w : World} {R R' : (Int × Int × Int × ByteArray × Slc × Slc) → World → Prop} (h : C105 x1 w R) (hr : ∀ r0 w', R r0 w' → R' r0 w') : C105 x1 w R' :=
  Calls.mono h fun _ _ ⟨r0, he, hR⟩ => ⟨r0, he, hr _ _ hR⟩
def C110 (s1 : Slc) (w : World) (R : Slc → World → Prop) : Prop :=
  Calls Try.prog 110 #[Slc.v s1] w fun e w' => ∃ r0 : Slc, e = .returned (Slc.v r0) ∧ R r0 w'
theorem C110.mono {s1 : Slc} {w : World} {R R' : Slc → World → Prop} (h : C110 s1 w R) (hr : ∀ r0 w', R r0 w' → R' r0 w') : C110 s1 w R' :=
  Calls.mono h fun _ _ ⟨r0, he, hR⟩ => ⟨r0, he, hr _ _ hR⟩
def C104 (o1 : Int × Int × Int × ByteArray × Slc × Slc) (how2 : Value) (w : World) (R : (Int × Int × Int × ByteArray × Slc × Slc) → World → Prop) : Prop :=
  Calls Try.prog 104 #[.agg #[.int .i64 (o1.1), .int .i64 (o1.2.1), .int .i64 (o1.2.2.1), .string o1.2.2.2.1, Slc.v o1.2.2.2.2.1, Slc.v o1.2.2.2.2.2], how2] w fun e w' => ∃ r0 : Int × Int × Int × ByteArray × Slc × Slc, e = .returned (.agg #[.int .i64 (r0.1), .int .i64 (r0.2.1), .int .i64 (r0.2.2.1), .string r0.2.2.2.1, Slc.v r0.2.2.2.2.1, Slc.v r0.2.2.2.2.2]) ∧ R r0 w'
theorem C104.mono {o1 : Int × Int × Int × ByteArray × Slc × Slc} {how2 : Value} {w : World} {R R' : (Int × Int × Int × ByteArray × Slc × Slc) → World → Prop} (h : C104 o1 how2 w R) (hr : ∀ r0 w', R r0 w' → R' r0 w') : C104 o1 how2 w R' :=
  Calls.mono h fun _ _ ⟨r0, he, hR⟩ => ⟨r0, he, hr _ _ hR⟩
def C90 (o1 : Int × Int × Int × ByteArray × Slc × Slc) (w : World) (R : (Int × Int × Int × ByteArray × Slc × Slc) → World → Prop) : Prop :=
  Calls Try.prog 90 #[.agg #[.int .i64 (o1.1), .int .i64 (o1.2.1), .int .i64 (o1.2.2.1), .string o1.2.2.2.1, Slc.v o1.2.2.2.2.1, Slc.v o1.2.2.2.2.2]] w fun e w' => ∃ r0 : Int × Int × Int × ByteArray × Slc × Slc, e = .returned (.agg #[.int .i64 (r0.1), .int .i64 (r0.2.1), .int .i64 (r0.2.2.1), .string r0.2.2.2.1, Slc.v r0.2.2.2.2.1, Slc.v r0.2.2.2.2.2]) ∧ R r0 w'
theorem C90.mono {o1 : Int × Int × Int × ByteArray × Slc × Slc} {w : World} {R R' : (Int × Int × Int × ByteArray × Slc × Slc) → World → Prop} (h : C90 o1 w R) (hr : ∀ r0 w', R r0 w' → R' r0 w') : C90 o1 w R' :=
  Calls.mono h fun _ _ ⟨r0, he, hR⟩ => ⟨r0, he, hr _ _ hR⟩
def C61 (kids1 : Slc) (w : World) (R : (Int × Int × Int × ByteArray × Slc × Slc) → World → Prop) : Prop :=
  Calls Try.prog 61 #[Slc.v kids1] w fun e w' => ∃ r0 : Int × Int × Int × ByteArray × Slc × Slc, e = .returned (.agg #[.int .i64 (r0.1), .int .i64 (r0.2.1), .int .i64 (r0.2.2.1), .string r0.2.2.2.1, Slc.v r0.2.2.2.2.1, Slc.v r0.2.2.2.2.2]) ∧ R r0 w'
theorem C61.mono {kids1 : Slc} {w : World} {R R' : (Int × Int × Int × ByteArray × Slc × Slc) → World → Prop} (h : C61 kids1 w R) (hr : ∀ r0 w', R r0 w' → R' r0 w') : C61 kids1 w R' :=
  Calls.mono h fun _ _ ⟨r0, he, hR⟩ => ⟨r0, he, hr _ _ hR⟩
def C33 (m1 : Int × Int × Int × Int × Int × Int) (w : World) (R : (Int × Int × Int × ByteArray × Slc × Slc) → World → Prop) : Prop :=
  Calls Try.prog 33 #[.agg #[.int .i64 (m1.1), .int .i64 (m1.2.1), .int .i64 (m1.2.2.1), .int .i64 (m1.2.2.2.1), .int .i64 (m1.2.2.2.2.1), .int .i64 (m1.2.2.2.2.2)]] w fun e w' => ∃ r0 : Int × Int × Int × ByteArray × Slc × Slc, e = .returned (.agg #[.int .i64 (r0.1), .int .i64 (r0.2.1), .int .i64 (r0.2.2.1), .string r0.2.2.2.1, Slc.v r0.2.2.2.2.1, Slc.v r0.2.2.2.2.2]) ∧ R r0 w'
theorem C33.mono {m1 : Int × Int × Int × Int × Int × Int} {w : World} {R R' : (Int × Int × Int × ByteArray × Slc × Slc) → World → Prop} (h : C33 m1 w R) (hr : ∀ r0 w', R r0 w' → R' r0 w') : C33 m1 w R' :=
  Calls.mono h fun _ _ ⟨r0, he, hR⟩ => ⟨r0, he, hr _ _ hR⟩
def C62 (n1 : Int) (w : World) (R : (Int × Int × Int × ByteArray × Slc × Slc) → World → Prop) : Prop :=
  Calls Try.prog 62 #[.int .i64 n1] w fun e w' => ∃ r0 : Int × Int × Int × ByteArray × Slc × Slc, e = .returned (.agg #[.int .i64 (r0.1), .int .i64 (r0.2.1), .int .i64 (r0.2.2.1), .string r0.2.2.2.1, Slc.v r0.2.2.2.2.1, Slc.v r0.2.2.2.2.2]) ∧ R r0 w'
theorem C62.mono {n1 : Int} {w : World} {R R' : (Int × Int × Int × ByteArray × Slc × Slc) → World → Prop} (h : C62 n1 w R) (hr : ∀ r0 w', R r0 w' → R' r0 w') : C62 n1 w R' :=
  Calls.mono h fun _ _ ⟨r0, he, hR⟩ => ⟨r0, he, hr _ _ hR⟩
def C34 (m1 : Int × Int × Int × Int × Int × Int) (w : World) (R : (Int × Int × Int × ByteArray × Slc × Slc) → World → Prop) : Prop :=
  Calls Try.prog 34 #[.agg #[.int .i64 (m1.1), .int .i64 (m1.2.1), .int .i64 (m1.2.2.1), .int .i64 (m1.2.2.2.1), .int .i64 (m1.2.2.2.2.1), .int .i64 (m1.2.2.2.2.2)]] w fun e w' => ∃ r0 : Int × Int × Int × ByteArray × Slc × Slc, e = .returned (.agg #[.int .i64 (r0.1), .int .i64 (r0.2.1), .int .i64 (r0.2.2.1), .string r0.2.2.2.1, Slc.v r0.2.2.2.2.1, Slc.v r0.2.2.2.2.2]) ∧ R r0 w'
theorem C34.mono {m1 : Int × Int × Int × Int × Int × Int} {w : World} {R R' : (Int × Int × Int × ByteArray × Slc × Slc) → World → Prop} (h : C34 m1 w R) (hr : ∀ r0 w', R r0 w' → R' r0 w') : C34 m1 w R' :=
  Calls.mono h fun _ _ ⟨r0, he, hR⟩ => ⟨r0, he, hr _ _ hR⟩
def C12 (o1 : Int × Int × Int × ByteArray × Slc × Slc) (w : World) (R : Int → World → Prop) : Prop :=
  Calls Try.prog 12 #[.agg #[.int .i64 (o1.1), .int .i64 (o1.2.1), .int .i64 (o1.2.2.1), .string o1.2.2.2.1, Slc.v o1.2.2.2.2.1, Slc.v o1.2.2.2.2.2]] w fun e w' => ∃ r0 : Int, e = .returned (.int .i64 r0) ∧ R r0 w'
theorem C12.mono {o1 : Int × Int × Int × ByteArray × Slc × Slc} {w : World} {R R' : Int → World → Prop} (h : C12 o1 w R) (hr : ∀ r0 w', R r0 w' → R' r0 w') : C12 o1 w R' :=
  Calls.mono h fun _ _ ⟨r0, he, hR⟩ => ⟨r0, he, hr _ _ hR⟩
def C57 (a1 : Slc) (b2 : Slc) (w : World) (R : Bool → World → Prop) : Prop :=
  Calls Try.prog 57 #[Slc.v a1, Slc.v b2] w fun e w' => ∃ r0 : Bool, e = .returned (.bool r0) ∧ R r0 w'
theorem C57.mono {a1 : Slc} {b2 : Slc} {w : World} {R R' : Bool → World → Prop} (h : C57 a1 b2 w R) (hr : ∀ r0 w', R r0 w' → R' r0 w') : C57 a1 b2 w R' :=
  Calls.mono h fun _ _ ⟨r0, he, hR⟩ => ⟨r0, he, hr _ _ hR⟩
def C58 (a1 : Slc) (b2 : Slc) (w : World) (R : Bool → World → Prop) : Prop :=
  Calls Try.prog 58 #[Slc.v a1, Slc.v b2] w fun e w' => ∃ r0 : Bool, e = .returned (.bool r0) ∧ R r0 w'
theorem C58.mono {a1 : Slc} {b2 : Slc} {w : World} {R R' : Bool → World → Prop} (h : C58 a1 b2 w R) (hr : ∀ r0 w', R r0 w' → R' r0 w') : C58 a1 b2 w R' :=
  Calls.mono h fun _ _ ⟨r0, he, hR⟩ => ⟨r0, he, hr _ _ hR⟩
def C32 (a1 : Int × Int × Int × ByteArray × Slc × Slc) (b2 : Int × Int × Int × ByteArray × Slc × Slc) (w : World) (R : Bool → World → Prop) : Prop :=
  Calls Try.prog 32 #[.agg #[.int .i64 (a1.1), .int .i64 (a1.2.1), .int .i64 (a1.2.2.1), .string a1.2.2.2.1, Slc.v a1.2.2.2.2.1, Slc.v a1.2.2.2.2.2], .agg #[.int .i64 (b2.1), .int .i64 (b2.2.1), .int .i64 (b2.2.2.1), .string b2.2.2.2.1, Slc.v b2.2.2.2.2.1, Slc.v b2.2.2.2.2.2]] w fun e w' => ∃ r0 : Bool, e = .returned (.bool r0) ∧ R r0 w'
theorem C32.mono {a1 : Int × Int × Int × ByteArray × Slc × Slc} {b2 : Int × Int × Int × ByteArray × Slc × Slc} {w : World} {R R' : Bool → World → Prop} (h : C32 a1 b2 w R) (hr : ∀ r0 w', R r0 w' → R' r0 w') : C32 a1 b2 w R' :=
  Calls.mono h fun _ _ ⟨r0, he, hR⟩ => ⟨r0, he, hr _ _ hR⟩

/-- foliant/value.within[int64] -/
def S89 (n1 : Int) (least2 : Int) (most3 : Int) (w : World) (R : Bool → World → Prop) : Prop :=
  Br (decide (least2 ≤ n1)) (R (decide (n1 ≤ most3)) w) (R false w)
def pl89 : Plan := (.seq (.reg .seq) (.seq (.reg .seq) .leaf))
set_option maxRecDepth 100000 in
theorem T89 (n1 : Int) (least2 : Int) (most3 : Int) (w : World) (R : Bool → World → Prop) (h : S89 n1 least2 most3 w R) : C89 n1 least2 most3 w R := by
  have e : fnT Try.prog ⟨FF, MAY, (fun _ _ => False)⟩ pl89 Try.f89 [.int .i64 n1, .int .i64 least2, .int .i64 most3] w [(.one .bool)] (fun s w => R s w) = S89 n1 least2 most3 w R := by kernel_rfl
  exact (fn_calls okF okM Try.func89 (by kernel_rfl) (by kernel_rfl) (e.mpr h)).mono fun _ _ ⟨s, he, hR⟩ => ⟨s, he, hR⟩

/-- foliant/value.Number -/
def S55 (o1 : Int × Int × Int × ByteArray × Slc × Slc) (w : World) (R : Int → Bool → World → Prop) : Prop :=
  Nw w (.cells #[.int .i64 (o1.1), .int .i64 (o1.2.1), .int .i64 (o1.2.2.1), .string o1.2.2.2.1, Slc.v o1.2.2.2.2.1, Slc.v o1.2.2.2.2.2] 31) fun vw2 =>
  Ld vw2 ((⟨w.heap.size, 0, none⟩ : Addr).add 1) (Value.int .i64) fun (x3 : Int) =>
  Ld vw2 (⟨w.heap.size, 0, none⟩ : Addr) (Value.int .i64) fun (x7 : Int) =>
  Br (x7 == 2) (C89 x3 (-107374) 107374 vw2 fun r8 vw9 =>
      Br (!r8) (R 0 false vw9) (C89 (IntKind.i64.wrap (x3 * 10000)) (-1073741824) 1073741824 vw9 fun r10 vw11 =>
          Br (!r10) (R 0 false vw11) (R (IntKind.i64.wrap (x3 * 10000)) true vw11))) (Br (x7 == 3) (C89 x3 (-1073741824) 1073741824 vw2 fun r12 vw13 =>
        Br (!r12) (R 0 false vw13) (R x3 true vw13)) (R 0 false vw2))
def pl55 : Plan := (.seq (.reg .seq) (.seq (.reg .seq) (.seq (.seq (.reg .seq) (.block (.seq (.reg .seq) (.cond (.seq (.seq (.reg .seq) (.cond (.seq (.reg .seq) .leaf) .leaf)) (.reg .seq)) (.seq (.reg .seq) (.cond .leaf (.seq (.reg .seq) .leaf))))))) (.seq (.seq (.reg .seq) (.cond (.seq (.reg .seq) .leaf) .leaf)) (.seq (.reg .seq) .leaf)))))
set_option maxRecDepth 100000 in
theorem T55 (o1 : Int × Int × Int × ByteArray × Slc × Slc) (w : World) (R : Int → Bool → World → Prop) (h : S55 o1 w R) : C55 (o1.1, o1.2.1, o1.2.2.1, o1.2.2.2.1, o1.2.2.2.2.1, o1.2.2.2.2.2) w R := by
  have e : fnT Try.prog ⟨FF, MAY, (fun _ _ => False)⟩ pl55 Try.f55 [.agg #[.int .i64 (o1.1), .int .i64 (o1.2.1), .int .i64 (o1.2.2.1), .string o1.2.2.2.1, Slc.v o1.2.2.2.2.1, Slc.v o1.2.2.2.2.2]] w [(.one (.int .i64)), (.one .bool)] (fun s w => R s.1 s.2 w) = S55 o1 w R := by kernel_rfl
  exact (fn_calls okF okM Try.func55 (by kernel_rfl) (by kernel_rfl) (e.mpr h)).mono fun _ _ ⟨s, he, hR⟩ => ⟨s.1, s.2, he, hR⟩

def S22L1 (vw2 : World) (vw3 : World) (vw26 : World) (x54 : Slc) (R : (Int × Int × Int × Int × Int × Int) → Int → World → Prop) (I57 : Int → World → Prop) (s55 : Int) (vw56 : World) : Prop :=
  Br (decide (s55 < ((x54.len : Nat) : Int))) (0 ≤ s55 ∧ s55 < (x54.len : Nat) ∧ Nn x54.p fun a58 =>
    Ld vw56 (a58.add ((s55).toNat * 6)) (Value.int .i64) fun (x59 : Int) =>
    Ld vw56 ((a58.add ((s55).toNat * 6)).add 1) (Value.int .i64) fun (x60 : Int) =>
    Ld vw56 ((a58.add ((s55).toNat * 6)).add 2) (Value.int .i64) fun (x61 : Int) =>
    Ld vw56 ((a58.add ((s55).toNat * 6)).add 3) Value.string fun (x62 : ByteArray) =>
    Ld vw56 ((a58.add ((s55).toNat * 6)).add 4) Slc.v fun (x63 : Slc) =>
    Ld vw56 ((a58.add ((s55).toNat * 6)).add 5) Slc.v fun (x64 : Slc) =>
    Nw vw56 (.cells #[.int .i64 0, .int .i64 0, .int .i64 0, .string ((⟨#[]⟩ : ByteArray)), Slc.v ((⟨none, 0, 0⟩ : Slc)), Slc.v ((⟨none, 0, 0⟩ : Slc))] 31) fun vw65 =>
    St vw65 (⟨vw56.heap.size, 0, none⟩ : Addr) (.int .i64 x59) fun vw66 =>
    St vw66 ((⟨vw56.heap.size, 0, none⟩ : Addr).add 1) (.int .i64 x60) fun vw67 =>
    St vw67 ((⟨vw56.heap.size, 0, none⟩ : Addr).add 2) (.int .i64 x61) fun vw68 =>
    St vw68 ((⟨vw56.heap.size, 0, none⟩ : Addr).add 3) (.string x62) fun vw69 =>
    St vw69 ((⟨vw56.heap.size, 0, none⟩ : Addr).add 4) (Slc.v x63) fun vw70 =>
    St vw70 ((⟨vw56.heap.size, 0, none⟩ : Addr).add 5) (Slc.v x64) fun vw71 =>
    Ld vw71 (⟨vw56.heap.size, 0, none⟩ : Addr) (Value.int .i64) fun (x72 : Int) =>
    Ld vw71 ((⟨vw56.heap.size, 0, none⟩ : Addr).add 1) (Value.int .i64) fun (x73 : Int) =>
    Ld vw71 ((⟨vw56.heap.size, 0, none⟩ : Addr).add 2) (Value.int .i64) fun (x74 : Int) =>
    Ld vw71 ((⟨vw56.heap.size, 0, none⟩ : Addr).add 3) Value.string fun (x75 : ByteArray) =>
    Ld vw71 ((⟨vw56.heap.size, 0, none⟩ : Addr).add 4) Slc.v fun (x76 : Slc) =>
    Ld vw71 ((⟨vw56.heap.size, 0, none⟩ : Addr).add 5) Slc.v fun (x77 : Slc) =>
    C55 (x72, x73, x74, x75, x76, x77) vw71 fun r78 r79 vw80 =>
      Br (!r79) (St vw80 (⟨vw2.heap.size, 0, none⟩ : Addr) (.int .i64 0) fun vw81 =>
        St vw81 ((⟨vw2.heap.size, 0, none⟩ : Addr).add 1) (.int .i64 0) fun vw82 =>
        St vw82 ((⟨vw2.heap.size, 0, none⟩ : Addr).add 2) (.int .i64 0) fun vw83 =>
        St vw83 ((⟨vw2.heap.size, 0, none⟩ : Addr).add 3) (.int .i64 0) fun vw84 =>
        St vw84 ((⟨vw2.heap.size, 0, none⟩ : Addr).add 4) (.int .i64 0) fun vw85 =>
        St vw85 ((⟨vw2.heap.size, 0, none⟩ : Addr).add 5) (.int .i64 0) fun vw86 =>
        Ld vw86 (⟨vw2.heap.size, 0, none⟩ : Addr) (Value.int .i64) fun (x87 : Int) =>
        Ld vw86 ((⟨vw2.heap.size, 0, none⟩ : Addr).add 1) (Value.int .i64) fun (x88 : Int) =>
        Ld vw86 ((⟨vw2.heap.size, 0, none⟩ : Addr).add 2) (Value.int .i64) fun (x89 : Int) =>
        Ld vw86 ((⟨vw2.heap.size, 0, none⟩ : Addr).add 3) (Value.int .i64) fun (x90 : Int) =>
        Ld vw86 ((⟨vw2.heap.size, 0, none⟩ : Addr).add 4) (Value.int .i64) fun (x91 : Int) =>
        Ld vw86 ((⟨vw2.heap.size, 0, none⟩ : Addr).add 5) (Value.int .i64) fun (x92 : Int) =>
        R (x87, x88, x89, x90, x91, x92) 3 vw86) (0 ≤ s55 ∧ s55 < (6 : Nat) ∧ Ld vw80 ((⟨vw26.heap.size, 0, none⟩ : Addr).add ((s55).toNat * 1)) Value.pointer fun (x93 : Option Addr) =>
        Nn x93 fun a94 =>
        St vw80 a94 (.int .i64 r78) fun vw95 =>
        I57 (IntKind.i64.wrap (s55 + 1)) vw95)) (Ld vw56 (⟨vw3.heap.size, 0, none⟩ : Addr) (Value.int .i64) fun (x96 : Int) =>
    Ld vw56 ((⟨vw3.heap.size, 0, none⟩ : Addr).add 1) (Value.int .i64) fun (x97 : Int) =>
    Ld vw56 ((⟨vw3.heap.size, 0, none⟩ : Addr).add 2) (Value.int .i64) fun (x98 : Int) =>
    Ld vw56 ((⟨vw3.heap.size, 0, none⟩ : Addr).add 3) (Value.int .i64) fun (x99 : Int) =>
    Ld vw56 ((⟨vw3.heap.size, 0, none⟩ : Addr).add 4) (Value.int .i64) fun (x100 : Int) =>
    Ld vw56 ((⟨vw3.heap.size, 0, none⟩ : Addr).add 5) (Value.int .i64) fun (x101 : Int) =>
    St vw56 (⟨vw2.heap.size, 0, none⟩ : Addr) (.int .i64 x96) fun vw102 =>
    St vw102 ((⟨vw2.heap.size, 0, none⟩ : Addr).add 1) (.int .i64 x97) fun vw103 =>
    St vw103 ((⟨vw2.heap.size, 0, none⟩ : Addr).add 2) (.int .i64 x98) fun vw104 =>
    St vw104 ((⟨vw2.heap.size, 0, none⟩ : Addr).add 3) (.int .i64 x99) fun vw105 =>
    St vw105 ((⟨vw2.heap.size, 0, none⟩ : Addr).add 4) (.int .i64 x100) fun vw106 =>
    St vw106 ((⟨vw2.heap.size, 0, none⟩ : Addr).add 5) (.int .i64 x101) fun vw107 =>
    Ld vw107 (⟨vw2.heap.size, 0, none⟩ : Addr) (Value.int .i64) fun (x108 : Int) =>
    Ld vw107 ((⟨vw2.heap.size, 0, none⟩ : Addr).add 1) (Value.int .i64) fun (x109 : Int) =>
    Ld vw107 ((⟨vw2.heap.size, 0, none⟩ : Addr).add 2) (Value.int .i64) fun (x110 : Int) =>
    Ld vw107 ((⟨vw2.heap.size, 0, none⟩ : Addr).add 3) (Value.int .i64) fun (x111 : Int) =>
    Ld vw107 ((⟨vw2.heap.size, 0, none⟩ : Addr).add 4) (Value.int .i64) fun (x112 : Int) =>
    Ld vw107 ((⟨vw2.heap.size, 0, none⟩ : Addr).add 5) (Value.int .i64) fun (x113 : Int) =>
    R (x108, x109, x110, x111, x112, x113) 0 vw107)
/-- foliant/matrix.Read -/
def S22 (o1 : Int × Int × Int × ByteArray × Slc × Slc) (w : World) (R : (Int × Int × Int × Int × Int × Int) → Int → World → Prop) : Prop :=
  Nw w (.cells #[.int .i64 (o1.1), .int .i64 (o1.2.1), .int .i64 (o1.2.2.1), .string o1.2.2.2.1, Slc.v o1.2.2.2.2.1, Slc.v o1.2.2.2.2.2] 31) fun vw2 =>
  Nw vw2 (.cells #[.int .i64 0, .int .i64 0, .int .i64 0, .int .i64 0, .int .i64 0, .int .i64 0] 23) fun vw3 =>
  Ld vw3 (⟨w.heap.size, 0, none⟩ : Addr) (Value.int .i64) fun (x11 : Int) =>
  Br (x11 != 6) (St vw3 (⟨vw2.heap.size, 0, none⟩ : Addr) (.int .i64 0) fun vw12 =>
    St vw12 ((⟨vw2.heap.size, 0, none⟩ : Addr).add 1) (.int .i64 0) fun vw13 =>
    St vw13 ((⟨vw2.heap.size, 0, none⟩ : Addr).add 2) (.int .i64 0) fun vw14 =>
    St vw14 ((⟨vw2.heap.size, 0, none⟩ : Addr).add 3) (.int .i64 0) fun vw15 =>
    St vw15 ((⟨vw2.heap.size, 0, none⟩ : Addr).add 4) (.int .i64 0) fun vw16 =>
    St vw16 ((⟨vw2.heap.size, 0, none⟩ : Addr).add 5) (.int .i64 0) fun vw17 =>
    Ld vw17 (⟨vw2.heap.size, 0, none⟩ : Addr) (Value.int .i64) fun (x18 : Int) =>
    Ld vw17 ((⟨vw2.heap.size, 0, none⟩ : Addr).add 1) (Value.int .i64) fun (x19 : Int) =>
    Ld vw17 ((⟨vw2.heap.size, 0, none⟩ : Addr).add 2) (Value.int .i64) fun (x20 : Int) =>
    Ld vw17 ((⟨vw2.heap.size, 0, none⟩ : Addr).add 3) (Value.int .i64) fun (x21 : Int) =>
    Ld vw17 ((⟨vw2.heap.size, 0, none⟩ : Addr).add 4) (Value.int .i64) fun (x22 : Int) =>
    Ld vw17 ((⟨vw2.heap.size, 0, none⟩ : Addr).add 5) (Value.int .i64) fun (x23 : Int) =>
    R (x18, x19, x20, x21, x22, x23) 10 vw17) (Nw vw3 (.cells #[.int .i64 0, .int .i64 0, .int .i64 0, .int .i64 0, .int .i64 0, .int .i64 0] 23) fun vw24 =>
    C54 (some (⟨vw3.heap.size, 0, none⟩ : Addr)) vw24 fun r25 vw26 =>
      Nw vw26 (.cells #[.pointer none, .pointer none, .pointer none, .pointer none, .pointer none, .pointer none] 82) fun vw27 =>
      St vw27 (⟨vw26.heap.size, 0, none⟩ : Addr) (.pointer r25.1) fun vw28 =>
      St vw28 ((⟨vw26.heap.size, 0, none⟩ : Addr).add 1) (.pointer r25.2.1) fun vw29 =>
      St vw29 ((⟨vw26.heap.size, 0, none⟩ : Addr).add 2) (.pointer r25.2.2.1) fun vw30 =>
      St vw30 ((⟨vw26.heap.size, 0, none⟩ : Addr).add 3) (.pointer r25.2.2.2.1) fun vw31 =>
      St vw31 ((⟨vw26.heap.size, 0, none⟩ : Addr).add 4) (.pointer r25.2.2.2.2.1) fun vw32 =>
      St vw32 ((⟨vw26.heap.size, 0, none⟩ : Addr).add 5) (.pointer r25.2.2.2.2.2) fun vw33 =>
      Ld vw33 ((⟨w.heap.size, 0, none⟩ : Addr).add 5) Slc.v fun (x41 : Slc) =>
      Br (((x41.len : Nat) : Int) != 6) (St vw33 (⟨vw2.heap.size, 0, none⟩ : Addr) (.int .i64 0) fun vw42 =>
        St vw42 ((⟨vw2.heap.size, 0, none⟩ : Addr).add 1) (.int .i64 0) fun vw43 =>
        St vw43 ((⟨vw2.heap.size, 0, none⟩ : Addr).add 2) (.int .i64 0) fun vw44 =>
        St vw44 ((⟨vw2.heap.size, 0, none⟩ : Addr).add 3) (.int .i64 0) fun vw45 =>
        St vw45 ((⟨vw2.heap.size, 0, none⟩ : Addr).add 4) (.int .i64 0) fun vw46 =>
        St vw46 ((⟨vw2.heap.size, 0, none⟩ : Addr).add 5) (.int .i64 0) fun vw47 =>
        Ld vw47 (⟨vw2.heap.size, 0, none⟩ : Addr) (Value.int .i64) fun (x48 : Int) =>
        Ld vw47 ((⟨vw2.heap.size, 0, none⟩ : Addr).add 1) (Value.int .i64) fun (x49 : Int) =>
        Ld vw47 ((⟨vw2.heap.size, 0, none⟩ : Addr).add 2) (Value.int .i64) fun (x50 : Int) =>
        Ld vw47 ((⟨vw2.heap.size, 0, none⟩ : Addr).add 3) (Value.int .i64) fun (x51 : Int) =>
        Ld vw47 ((⟨vw2.heap.size, 0, none⟩ : Addr).add 4) (Value.int .i64) fun (x52 : Int) =>
        Ld vw47 ((⟨vw2.heap.size, 0, none⟩ : Addr).add 5) (Value.int .i64) fun (x53 : Int) =>
        R (x48, x49, x50, x51, x52, x53) 3 vw47) (Ld vw33 ((⟨w.heap.size, 0, none⟩ : Addr).add 5) Slc.v fun (x54 : Slc) =>
        Lp (σ := Int) (S22L1 vw2 vw3 vw26 x54 R) 0 vw33))
def pl22 : Plan := (.seq (.reg .seq) (.seq (.seq (.reg .seq) (.cond (.seq (.reg .seq) .leaf) .leaf)) (.seq (.reg .seq) (.seq (.reg .seq) (.seq (.seq (.reg .seq) (.cond (.seq (.reg .seq) .leaf) .leaf)) (.seq (.seq (.reg .seq) (.block (.loop [(23, (.one (.int .i64)))] [2, 4, 5, 21, 22] (.seq (.reg .seq) (.seq (.cond .leaf .leaf) (.seq (.block (.seq (.reg .seq) (.seq (.reg .seq) (.seq (.seq (.reg .seq) (.cond (.seq (.reg .seq) .leaf) .leaf)) (.reg .seq))))) (.reg .seq))))))) (.seq (.reg .seq) .leaf)))))))
set_option maxRecDepth 100000 in
theorem T22 (o1 : Int × Int × Int × ByteArray × Slc × Slc) (w : World) (R : (Int × Int × Int × Int × Int × Int) → Int → World → Prop) (h : S22 o1 w R) : C22 (o1.1, o1.2.1, o1.2.2.1, o1.2.2.2.1, o1.2.2.2.2.1, o1.2.2.2.2.2) w R := by
  have e : fnT Try.prog ⟨FF, MAY, (fun _ _ => False)⟩ pl22 Try.f22 [.agg #[.int .i64 (o1.1), .int .i64 (o1.2.1), .int .i64 (o1.2.2.1), .string o1.2.2.2.1, Slc.v o1.2.2.2.2.1, Slc.v o1.2.2.2.2.2]] w [(.agg [(.int .i64), (.int .i64), (.int .i64), (.int .i64), (.int .i64), (.int .i64)]), (.one (.int .i64))] (fun s w => R s.1 s.2 w) = S22 o1 w R := by kernel_rfl
  exact (fn_calls okF okM Try.func22 (by kernel_rfl) (by kernel_rfl) (e.mpr h)).mono fun _ _ ⟨s, he, hR⟩ => ⟨s.1, s.2, he, hR⟩

def S56J1 (w : World) (R : Int → Bool → World → Prop) (s7 : Unit) (vw8 : World) : Prop :=
  Ld vw8 (⟨w.heap.size, 0, none⟩ : Addr) (Value.int .i64) fun (x9 : Int) =>
  Br (x9 == 2) (Ld vw8 ((⟨w.heap.size, 0, none⟩ : Addr).add 1) (Value.int .i64) fun (x10 : Int) =>
    Br (decide (x10 ≥ (-107374))) (Ld vw8 ((⟨w.heap.size, 0, none⟩ : Addr).add 1) (Value.int .i64) fun (x11 : Int) =>
      Br (decide (x11 ≤ 107374)) (Ld vw8 ((⟨w.heap.size, 0, none⟩ : Addr).add 1) (Value.int .i64) fun (x12 : Int) =>
        R (IntKind.i64.wrap (10000 * x12)) true vw8) (R 0 false vw8)) (R 0 false vw8)) (R 0 false vw8)
/-- foliant/foliantref05.Number -/
def S56 (o1 : Int × Int × Int × ByteArray × Slc × Slc) (w : World) (R : Int → Bool → World → Prop) : Prop :=
  Nw w (.cells #[.int .i64 (o1.1), .int .i64 (o1.2.1), .int .i64 (o1.2.2.1), .string o1.2.2.2.1, Slc.v o1.2.2.2.2.1, Slc.v o1.2.2.2.2.2] 31) fun vw2 =>
  Join (S56J1 w R) fun (vJ13 : Unit → World → Prop) =>
    Ld vw2 (⟨w.heap.size, 0, none⟩ : Addr) (Value.int .i64) fun (x14 : Int) =>
    Br (x14 == 3) (Ld vw2 ((⟨w.heap.size, 0, none⟩ : Addr).add 1) (Value.int .i64) fun (x15 : Int) =>
      Br (decide (x15 ≥ (-1073741824))) (Ld vw2 ((⟨w.heap.size, 0, none⟩ : Addr).add 1) (Value.int .i64) fun (x16 : Int) =>
        Br (decide (x16 ≤ 1073741824)) (Ld vw2 ((⟨w.heap.size, 0, none⟩ : Addr).add 1) (Value.int .i64) fun (x17 : Int) =>
          R x17 true vw2) (vJ13 () vw2)) (vJ13 () vw2)) (vJ13 () vw2)
def pl56 : Plan := (.seq (.reg .seq) (.join [] [1] (.seq (.reg .seq) (.cond (.seq (.reg .seq) .leaf) .leaf)) (.seq (.seq (.reg .seq) (.cond (.seq (.reg .seq) .leaf) .leaf)) (.seq (.reg .seq) .leaf))))
set_option maxRecDepth 100000 in
theorem T56 (o1 : Int × Int × Int × ByteArray × Slc × Slc) (w : World) (R : Int → Bool → World → Prop) (h : S56 o1 w R) : C56 (o1.1, o1.2.1, o1.2.2.1, o1.2.2.2.1, o1.2.2.2.2.1, o1.2.2.2.2.2) w R := by
  have e : fnT Try.prog ⟨FF, MAY, (fun _ _ => False)⟩ pl56 Try.f56 [.agg #[.int .i64 (o1.1), .int .i64 (o1.2.1), .int .i64 (o1.2.2.1), .string o1.2.2.2.1, Slc.v o1.2.2.2.2.1, Slc.v o1.2.2.2.2.2]] w [(.one (.int .i64)), (.one .bool)] (fun s w => R s.1 s.2 w) = S56 o1 w R := by kernel_rfl
  exact (fn_calls okF okM Try.func56 (by kernel_rfl) (by kernel_rfl) (e.mpr h)).mono fun _ _ ⟨s, he, hR⟩ => ⟨s.1, s.2, he, hR⟩

def S23L1 (vw2 : World) (x80 : Slc) (R : (Int × Int × Int × Int × Int × Int) → Int → World → Prop) (I83 : (Slc × Int) → World → Prop) (s81 : Slc × Int) (vw82 : World) : Prop :=
  Br (decide (s81.2 < ((x80.len : Nat) : Int))) (0 ≤ s81.2 ∧ s81.2 < (x80.len : Nat) ∧ Nn x80.p fun a84 =>
    Ld vw82 (a84.add ((s81.2).toNat * 6)) (Value.int .i64) fun (x85 : Int) =>
    Ld vw82 ((a84.add ((s81.2).toNat * 6)).add 1) (Value.int .i64) fun (x86 : Int) =>
    Ld vw82 ((a84.add ((s81.2).toNat * 6)).add 2) (Value.int .i64) fun (x87 : Int) =>
    Ld vw82 ((a84.add ((s81.2).toNat * 6)).add 3) Value.string fun (x88 : ByteArray) =>
    Ld vw82 ((a84.add ((s81.2).toNat * 6)).add 4) Slc.v fun (x89 : Slc) =>
    Ld vw82 ((a84.add ((s81.2).toNat * 6)).add 5) Slc.v fun (x90 : Slc) =>
    Nw vw82 (.cells #[.int .i64 0, .int .i64 0, .int .i64 0, .string ((⟨#[]⟩ : ByteArray)), Slc.v ((⟨none, 0, 0⟩ : Slc)), Slc.v ((⟨none, 0, 0⟩ : Slc))] 31) fun vw91 =>
    St vw91 (⟨vw82.heap.size, 0, none⟩ : Addr) (.int .i64 x85) fun vw92 =>
    St vw92 ((⟨vw82.heap.size, 0, none⟩ : Addr).add 1) (.int .i64 x86) fun vw93 =>
    St vw93 ((⟨vw82.heap.size, 0, none⟩ : Addr).add 2) (.int .i64 x87) fun vw94 =>
    St vw94 ((⟨vw82.heap.size, 0, none⟩ : Addr).add 3) (.string x88) fun vw95 =>
    St vw95 ((⟨vw82.heap.size, 0, none⟩ : Addr).add 4) (Slc.v x89) fun vw96 =>
    St vw96 ((⟨vw82.heap.size, 0, none⟩ : Addr).add 5) (Slc.v x90) fun vw97 =>
    Ld vw97 (⟨vw82.heap.size, 0, none⟩ : Addr) (Value.int .i64) fun (x98 : Int) =>
    Ld vw97 ((⟨vw82.heap.size, 0, none⟩ : Addr).add 1) (Value.int .i64) fun (x99 : Int) =>
    Ld vw97 ((⟨vw82.heap.size, 0, none⟩ : Addr).add 2) (Value.int .i64) fun (x100 : Int) =>
    Ld vw97 ((⟨vw82.heap.size, 0, none⟩ : Addr).add 3) Value.string fun (x101 : ByteArray) =>
    Ld vw97 ((⟨vw82.heap.size, 0, none⟩ : Addr).add 4) Slc.v fun (x102 : Slc) =>
    Ld vw97 ((⟨vw82.heap.size, 0, none⟩ : Addr).add 5) Slc.v fun (x103 : Slc) =>
    C56 (x98, x99, x100, x101, x102, x103) vw97 fun r104 r105 vw106 =>
      Br (!r105) (St vw106 (⟨vw2.heap.size, 0, none⟩ : Addr) (.int .i64 0) fun vw107 =>
        St vw107 ((⟨vw2.heap.size, 0, none⟩ : Addr).add 1) (.int .i64 0) fun vw108 =>
        St vw108 ((⟨vw2.heap.size, 0, none⟩ : Addr).add 2) (.int .i64 0) fun vw109 =>
        St vw109 ((⟨vw2.heap.size, 0, none⟩ : Addr).add 3) (.int .i64 0) fun vw110 =>
        St vw110 ((⟨vw2.heap.size, 0, none⟩ : Addr).add 4) (.int .i64 0) fun vw111 =>
        St vw111 ((⟨vw2.heap.size, 0, none⟩ : Addr).add 5) (.int .i64 0) fun vw112 =>
        Ld vw112 (⟨vw2.heap.size, 0, none⟩ : Addr) (Value.int .i64) fun (x113 : Int) =>
        Ld vw112 ((⟨vw2.heap.size, 0, none⟩ : Addr).add 1) (Value.int .i64) fun (x114 : Int) =>
        Ld vw112 ((⟨vw2.heap.size, 0, none⟩ : Addr).add 2) (Value.int .i64) fun (x115 : Int) =>
        Ld vw112 ((⟨vw2.heap.size, 0, none⟩ : Addr).add 3) (Value.int .i64) fun (x116 : Int) =>
        Ld vw112 ((⟨vw2.heap.size, 0, none⟩ : Addr).add 4) (Value.int .i64) fun (x117 : Int) =>
        Ld vw112 ((⟨vw2.heap.size, 0, none⟩ : Addr).add 5) (Value.int .i64) fun (x118 : Int) =>
        R (x113, x114, x115, x116, x117, x118) 3 vw112) (Nw vw106 (.cells #[.int .i64 r104] 2) fun vw119 =>
        Rn Try.prog (Builtin.append_ #[54, 54] 54 #[Slc.v s81.1, Slc.v ((⟨some ⟨vw106.heap.size, 0, none⟩, 1, 1⟩ : Slc))]) vw119 Slc.v fun (x120 : Slc) vw121 =>
        I83 (x120, IntKind.i64.wrap (s81.2 + 1)) vw121)) (0 ≤ (0 : Int) ∧ (0 : Int) < (s81.1.len : Nat) ∧ Nn s81.1.p fun a122 =>
    Ld vw82.drew (a122.add (((0 : Int)).toNat * 1)) (Value.int .i64) fun (x123 : Int) =>
    0 ≤ (1 : Int) ∧ (1 : Int) < (s81.1.len : Nat) ∧ Nn s81.1.p fun a124 =>
    Ld vw82.drew (a124.add (((1 : Int)).toNat * 1)) (Value.int .i64) fun (x125 : Int) =>
    0 ≤ (2 : Int) ∧ (2 : Int) < (s81.1.len : Nat) ∧ Nn s81.1.p fun a126 =>
    Ld vw82.drew (a126.add (((2 : Int)).toNat * 1)) (Value.int .i64) fun (x127 : Int) =>
    0 ≤ (3 : Int) ∧ (3 : Int) < (s81.1.len : Nat) ∧ Nn s81.1.p fun a128 =>
    Ld vw82.drew (a128.add (((3 : Int)).toNat * 1)) (Value.int .i64) fun (x129 : Int) =>
    0 ≤ (4 : Int) ∧ (4 : Int) < (s81.1.len : Nat) ∧ Nn s81.1.p fun a130 =>
    Ld vw82.drew (a130.add (((4 : Int)).toNat * 1)) (Value.int .i64) fun (x131 : Int) =>
    0 ≤ (5 : Int) ∧ (5 : Int) < (s81.1.len : Nat) ∧ Nn s81.1.p fun a132 =>
    Ld vw82.drew (a132.add (((5 : Int)).toNat * 1)) (Value.int .i64) fun (x133 : Int) =>
    St vw82.drew (⟨vw2.heap.size, 0, none⟩ : Addr) (.int .i64 x123) fun vw134 =>
    St vw134 ((⟨vw2.heap.size, 0, none⟩ : Addr).add 1) (.int .i64 x125) fun vw135 =>
    St vw135 ((⟨vw2.heap.size, 0, none⟩ : Addr).add 2) (.int .i64 x127) fun vw136 =>
    St vw136 ((⟨vw2.heap.size, 0, none⟩ : Addr).add 3) (.int .i64 x129) fun vw137 =>
    St vw137 ((⟨vw2.heap.size, 0, none⟩ : Addr).add 4) (.int .i64 x131) fun vw138 =>
    St vw138 ((⟨vw2.heap.size, 0, none⟩ : Addr).add 5) (.int .i64 x133) fun vw139 =>
    Ld vw139 (⟨vw2.heap.size, 0, none⟩ : Addr) (Value.int .i64) fun (x140 : Int) =>
    Ld vw139 ((⟨vw2.heap.size, 0, none⟩ : Addr).add 1) (Value.int .i64) fun (x141 : Int) =>
    Ld vw139 ((⟨vw2.heap.size, 0, none⟩ : Addr).add 2) (Value.int .i64) fun (x142 : Int) =>
    Ld vw139 ((⟨vw2.heap.size, 0, none⟩ : Addr).add 3) (Value.int .i64) fun (x143 : Int) =>
    Ld vw139 ((⟨vw2.heap.size, 0, none⟩ : Addr).add 4) (Value.int .i64) fun (x144 : Int) =>
    Ld vw139 ((⟨vw2.heap.size, 0, none⟩ : Addr).add 5) (Value.int .i64) fun (x145 : Int) =>
    R (x140, x141, x142, x143, x144, x145) 0 vw139)
/-- foliant/foliantref42.Read -/
def S23 (o1 : Int × Int × Int × ByteArray × Slc × Slc) (w : World) (R : (Int × Int × Int × Int × Int × Int) → Int → World → Prop) : Prop :=
  Nw w (.cells #[.int .i64 (o1.1), .int .i64 (o1.2.1), .int .i64 (o1.2.2.1), .string o1.2.2.2.1, Slc.v o1.2.2.2.2.1, Slc.v o1.2.2.2.2.2] 31) fun vw2 =>
  Nw vw2 (.cells #[.int .i64 0, .int .i64 0, .int .i64 0, .int .i64 0, .int .i64 0, .int .i64 0] 23) fun vw3 =>
  Ld vw3 (⟨w.heap.size, 0, none⟩ : Addr) (Value.int .i64) fun (x11 : Int) =>
  Br (x11 != 6) (St vw3 (⟨vw2.heap.size, 0, none⟩ : Addr) (.int .i64 0) fun vw12 =>
    St vw12 ((⟨vw2.heap.size, 0, none⟩ : Addr).add 1) (.int .i64 0) fun vw13 =>
    St vw13 ((⟨vw2.heap.size, 0, none⟩ : Addr).add 2) (.int .i64 0) fun vw14 =>
    St vw14 ((⟨vw2.heap.size, 0, none⟩ : Addr).add 3) (.int .i64 0) fun vw15 =>
    St vw15 ((⟨vw2.heap.size, 0, none⟩ : Addr).add 4) (.int .i64 0) fun vw16 =>
    St vw16 ((⟨vw2.heap.size, 0, none⟩ : Addr).add 5) (.int .i64 0) fun vw17 =>
    Ld vw17 (⟨vw2.heap.size, 0, none⟩ : Addr) (Value.int .i64) fun (x18 : Int) =>
    Ld vw17 ((⟨vw2.heap.size, 0, none⟩ : Addr).add 1) (Value.int .i64) fun (x19 : Int) =>
    Ld vw17 ((⟨vw2.heap.size, 0, none⟩ : Addr).add 2) (Value.int .i64) fun (x20 : Int) =>
    Ld vw17 ((⟨vw2.heap.size, 0, none⟩ : Addr).add 3) (Value.int .i64) fun (x21 : Int) =>
    Ld vw17 ((⟨vw2.heap.size, 0, none⟩ : Addr).add 4) (Value.int .i64) fun (x22 : Int) =>
    Ld vw17 ((⟨vw2.heap.size, 0, none⟩ : Addr).add 5) (Value.int .i64) fun (x23 : Int) =>
    R (x18, x19, x20, x21, x22, x23) 10 vw17) (Ld vw3 ((⟨w.heap.size, 0, none⟩ : Addr).add 5) Slc.v fun (x31 : Slc) =>
    Br (((x31.len : Nat) : Int) != 6) (St vw3 (⟨vw2.heap.size, 0, none⟩ : Addr) (.int .i64 0) fun vw32 =>
      St vw32 ((⟨vw2.heap.size, 0, none⟩ : Addr).add 1) (.int .i64 0) fun vw33 =>
      St vw33 ((⟨vw2.heap.size, 0, none⟩ : Addr).add 2) (.int .i64 0) fun vw34 =>
      St vw34 ((⟨vw2.heap.size, 0, none⟩ : Addr).add 3) (.int .i64 0) fun vw35 =>
      St vw35 ((⟨vw2.heap.size, 0, none⟩ : Addr).add 4) (.int .i64 0) fun vw36 =>
      St vw36 ((⟨vw2.heap.size, 0, none⟩ : Addr).add 5) (.int .i64 0) fun vw37 =>
      Ld vw37 (⟨vw2.heap.size, 0, none⟩ : Addr) (Value.int .i64) fun (x38 : Int) =>
      Ld vw37 ((⟨vw2.heap.size, 0, none⟩ : Addr).add 1) (Value.int .i64) fun (x39 : Int) =>
      Ld vw37 ((⟨vw2.heap.size, 0, none⟩ : Addr).add 2) (Value.int .i64) fun (x40 : Int) =>
      Ld vw37 ((⟨vw2.heap.size, 0, none⟩ : Addr).add 3) (Value.int .i64) fun (x41 : Int) =>
      Ld vw37 ((⟨vw2.heap.size, 0, none⟩ : Addr).add 4) (Value.int .i64) fun (x42 : Int) =>
      Ld vw37 ((⟨vw2.heap.size, 0, none⟩ : Addr).add 5) (Value.int .i64) fun (x43 : Int) =>
      R (x38, x39, x40, x41, x42, x43) 3 vw37) (Ld vw3 ((⟨w.heap.size, 0, none⟩ : Addr).add 5) Slc.v fun (x80 : Slc) =>
      Lp (σ := Slc × Int) (S23L1 vw2 x80 R) ((⟨none, 0, 0⟩ : Slc), 0) vw3))
def pl23 : Plan := (.seq (.reg .seq) (.seq (.seq (.reg .seq) (.cond (.seq (.reg .seq) .leaf) .leaf)) (.seq (.seq (.reg .seq) (.cond (.seq (.reg .seq) .leaf) .leaf)) (.seq (.reg .seq) (.seq (.seq (.reg .seq) (.block (.loop [(4, (.one .slc)), (21, (.one (.int .i64)))] [2, 19, 20] (.seq (.reg .seq) (.seq (.cond .leaf .leaf) (.seq (.block (.seq (.reg .seq) (.seq (.reg .seq) (.seq (.seq (.reg .seq) (.cond (.seq (.reg .seq) .leaf) .leaf)) (.reg .seq))))) (.reg .seq))))))) (.seq (.reg (.tail 18)) .leaf))))))
set_option maxRecDepth 100000 in
theorem T23 (o1 : Int × Int × Int × ByteArray × Slc × Slc) (w : World) (R : (Int × Int × Int × Int × Int × Int) → Int → World → Prop) (h : S23 o1 w R) : C23 (o1.1, o1.2.1, o1.2.2.1, o1.2.2.2.1, o1.2.2.2.2.1, o1.2.2.2.2.2) w R := by
  have e : fnT Try.prog ⟨FF, MAY, (fun _ _ => False)⟩ pl23 Try.f23 [.agg #[.int .i64 (o1.1), .int .i64 (o1.2.1), .int .i64 (o1.2.2.1), .string o1.2.2.2.1, Slc.v o1.2.2.2.2.1, Slc.v o1.2.2.2.2.2]] w [(.agg [(.int .i64), (.int .i64), (.int .i64), (.int .i64), (.int .i64), (.int .i64)]), (.one (.int .i64))] (fun s w => R s.1 s.2 w) = S23 o1 w R := by kernel_rfl
  exact (fn_calls okF okM Try.func23 (by kernel_rfl) (by kernel_rfl) (e.mpr h)).mono fun _ _ ⟨s, he, hR⟩ => ⟨s.1, s.2, he, hR⟩

/-- foliant/value.Int -/
def S59 (n1 : Int) (w : World) (R : (Int × Int × Int × ByteArray × Slc × Slc) → World → Prop) : Prop :=
  Nw w (.cells #[.int .i64 0, .int .i64 0, .int .i64 0, .string ((⟨#[]⟩ : ByteArray)), Slc.v ((⟨none, 0, 0⟩ : Slc)), Slc.v ((⟨none, 0, 0⟩ : Slc))] 31) fun vw2 =>
  St vw2 (⟨w.heap.size, 0, none⟩ : Addr) (.int .i64 2) fun vw3 =>
  St vw3 ((⟨w.heap.size, 0, none⟩ : Addr).add 1) (.int .i64 n1) fun vw4 =>
  St vw4 ((⟨w.heap.size, 0, none⟩ : Addr).add 2) (.int .i64 0) fun vw5 =>
  St vw5 ((⟨w.heap.size, 0, none⟩ : Addr).add 3) (.string ((⟨#[]⟩ : ByteArray))) fun vw6 =>
  St vw6 ((⟨w.heap.size, 0, none⟩ : Addr).add 4) (Slc.v ((⟨none, 0, 0⟩ : Slc))) fun vw7 =>
  St vw7 ((⟨w.heap.size, 0, none⟩ : Addr).add 5) (Slc.v ((⟨none, 0, 0⟩ : Slc))) fun vw8 =>
  Ld vw8 (⟨w.heap.size, 0, none⟩ : Addr) (Value.int .i64) fun (x9 : Int) =>
  Ld vw8 ((⟨w.heap.size, 0, none⟩ : Addr).add 1) (Value.int .i64) fun (x10 : Int) =>
  Ld vw8 ((⟨w.heap.size, 0, none⟩ : Addr).add 2) (Value.int .i64) fun (x11 : Int) =>
  Ld vw8 ((⟨w.heap.size, 0, none⟩ : Addr).add 3) Value.string fun (x12 : ByteArray) =>
  Ld vw8 ((⟨w.heap.size, 0, none⟩ : Addr).add 4) Slc.v fun (x13 : Slc) =>
  Ld vw8 ((⟨w.heap.size, 0, none⟩ : Addr).add 5) Slc.v fun (x14 : Slc) =>
  R (x9, x10, x11, x12, x13, x14) vw8
def pl59 : Plan := (.seq (.reg .seq) (.seq (.reg .seq) .leaf))
set_option maxRecDepth 100000 in
theorem T59 (n1 : Int) (w : World) (R : (Int × Int × Int × ByteArray × Slc × Slc) → World → Prop) (h : S59 n1 w R) : C59 n1 w R := by
  have e : fnT Try.prog ⟨FF, MAY, (fun _ _ => False)⟩ pl59 Try.f59 [.int .i64 n1] w [(.agg [(.int .i64), (.int .i64), (.int .i64), .str, .slc, .slc])] (fun s w => R s w) = S59 n1 w R := by kernel_rfl
  exact (fn_calls okF okM Try.func59 (by kernel_rfl) (by kernel_rfl) (e.mpr h)).mono fun _ _ ⟨s, he, hR⟩ => ⟨s, he, hR⟩

/-- foliant/value.Real -/
def S60 (units1 : Int) (w : World) (R : (Int × Int × Int × ByteArray × Slc × Slc) → World → Prop) : Prop :=
  Nw w (.cells #[.int .i64 0, .int .i64 0, .int .i64 0, .string ((⟨#[]⟩ : ByteArray)), Slc.v ((⟨none, 0, 0⟩ : Slc)), Slc.v ((⟨none, 0, 0⟩ : Slc))] 31) fun vw2 =>
  St vw2 (⟨w.heap.size, 0, none⟩ : Addr) (.int .i64 3) fun vw3 =>
  St vw3 ((⟨w.heap.size, 0, none⟩ : Addr).add 1) (.int .i64 units1) fun vw4 =>
  St vw4 ((⟨w.heap.size, 0, none⟩ : Addr).add 2) (.int .i64 0) fun vw5 =>
  St vw5 ((⟨w.heap.size, 0, none⟩ : Addr).add 3) (.string ((⟨#[]⟩ : ByteArray))) fun vw6 =>
  St vw6 ((⟨w.heap.size, 0, none⟩ : Addr).add 4) (Slc.v ((⟨none, 0, 0⟩ : Slc))) fun vw7 =>
  St vw7 ((⟨w.heap.size, 0, none⟩ : Addr).add 5) (Slc.v ((⟨none, 0, 0⟩ : Slc))) fun vw8 =>
  Ld vw8 (⟨w.heap.size, 0, none⟩ : Addr) (Value.int .i64) fun (x9 : Int) =>
  Ld vw8 ((⟨w.heap.size, 0, none⟩ : Addr).add 1) (Value.int .i64) fun (x10 : Int) =>
  Ld vw8 ((⟨w.heap.size, 0, none⟩ : Addr).add 2) (Value.int .i64) fun (x11 : Int) =>
  Ld vw8 ((⟨w.heap.size, 0, none⟩ : Addr).add 3) Value.string fun (x12 : ByteArray) =>
  Ld vw8 ((⟨w.heap.size, 0, none⟩ : Addr).add 4) Slc.v fun (x13 : Slc) =>
  Ld vw8 ((⟨w.heap.size, 0, none⟩ : Addr).add 5) Slc.v fun (x14 : Slc) =>
  R (x9, x10, x11, x12, x13, x14) vw8
def pl60 : Plan := (.seq (.reg .seq) (.seq (.reg .seq) .leaf))
set_option maxRecDepth 100000 in
theorem T60 (units1 : Int) (w : World) (R : (Int × Int × Int × ByteArray × Slc × Slc) → World → Prop) (h : S60 units1 w R) : C60 units1 w R := by
  have e : fnT Try.prog ⟨FF, MAY, (fun _ _ => False)⟩ pl60 Try.f60 [.int .i64 units1] w [(.agg [(.int .i64), (.int .i64), (.int .i64), .str, .slc, .slc])] (fun s w => R s w) = S60 units1 w R := by kernel_rfl
  exact (fn_calls okF okM Try.func60 (by kernel_rfl) (by kernel_rfl) (e.mpr h)).mono fun _ _ ⟨s, he, hR⟩ => ⟨s, he, hR⟩

/-- foliant/value.Clone$1 -/
def S105 (x1 : Int × Int × Int × ByteArray × Slc × Slc) (w : World) (R : (Int × Int × Int × ByteArray × Slc × Slc) → World → Prop) : Prop :=
  Nw w (.cells #[.int .i64 (x1.1), .int .i64 (x1.2.1), .int .i64 (x1.2.2.1), .string x1.2.2.2.1, Slc.v x1.2.2.2.2.1, Slc.v x1.2.2.2.2.2] 31) fun vw2 =>
  Nw vw2 (.cells #[.int .i64 0, .int .i64 0, .int .i64 0, .string ((⟨#[]⟩ : ByteArray)), Slc.v ((⟨none, 0, 0⟩ : Slc)), Slc.v ((⟨none, 0, 0⟩ : Slc))] 31) fun vw3 =>
  Ld vw3 (⟨w.heap.size, 0, none⟩ : Addr) (Value.int .i64) fun (x4 : Int) =>
  Ld vw3 ((⟨w.heap.size, 0, none⟩ : Addr).add 1) (Value.int .i64) fun (x5 : Int) =>
  Ld vw3 ((⟨w.heap.size, 0, none⟩ : Addr).add 2) (Value.int .i64) fun (x6 : Int) =>
  Ld vw3 ((⟨w.heap.size, 0, none⟩ : Addr).add 3) Value.string fun (x7 : ByteArray) =>
  Ld vw3 ((⟨w.heap.size, 0, none⟩ : Addr).add 4) Slc.v fun (x8 : Slc) =>
  Ld vw3 ((⟨w.heap.size, 0, none⟩ : Addr).add 5) Slc.v fun (x9 : Slc) =>
  St vw3 (⟨vw2.heap.size, 0, none⟩ : Addr) (.int .i64 x4) fun vw10 =>
  St vw10 ((⟨vw2.heap.size, 0, none⟩ : Addr).add 1) (.int .i64 x5) fun vw11 =>
  St vw11 ((⟨vw2.heap.size, 0, none⟩ : Addr).add 2) (.int .i64 x6) fun vw12 =>
  St vw12 ((⟨vw2.heap.size, 0, none⟩ : Addr).add 3) (.string x7) fun vw13 =>
  St vw13 ((⟨vw2.heap.size, 0, none⟩ : Addr).add 4) (Slc.v x8) fun vw14 =>
  St vw14 ((⟨vw2.heap.size, 0, none⟩ : Addr).add 5) (Slc.v x9) fun vw15 =>
  Ld vw15 (⟨vw2.heap.size, 0, none⟩ : Addr) (Value.int .i64) fun (x16 : Int) =>
  Ld vw15 ((⟨vw2.heap.size, 0, none⟩ : Addr).add 1) (Value.int .i64) fun (x17 : Int) =>
  Ld vw15 ((⟨vw2.heap.size, 0, none⟩ : Addr).add 2) (Value.int .i64) fun (x18 : Int) =>
  Ld vw15 ((⟨vw2.heap.size, 0, none⟩ : Addr).add 3) Value.string fun (x19 : ByteArray) =>
  Ld vw15 ((⟨vw2.heap.size, 0, none⟩ : Addr).add 4) Slc.v fun (x20 : Slc) =>
  Ld vw15 ((⟨vw2.heap.size, 0, none⟩ : Addr).add 5) Slc.v fun (x21 : Slc) =>
  R (x16, x17, x18, x19, x20, x21) vw15
def pl105 : Plan := (.seq (.reg .seq) (.seq (.reg .seq) .leaf))
set_option maxRecDepth 100000 in
theorem T105 (x1 : Int × Int × Int × ByteArray × Slc × Slc) (w : World) (R : (Int × Int × Int × ByteArray × Slc × Slc) → World → Prop) (h : S105 x1 w R) : C105 (x1.1, x1.2.1, x1.2.2.1, x1.2.2.2.1, x1.2.2.2.2.1, x1.2.2.2.2.2) w R := by
  have e : fnT Try.prog ⟨FF, MAY, (fun _ _ => False)⟩ pl105 Try.f105 [.agg #[.int .i64 (x1.1), .int .i64 (x1.2.1), .int .i64 (x1.2.2.1), .string x1.2.2.2.1, Slc.v x1.2.2.2.2.1, Slc.v x1.2.2.2.2.2]] w [(.agg [(.int .i64), (.int .i64), (.int .i64), .str, .slc, .slc])] (fun s w => R s w) = S105 x1 w R := by kernel_rfl
  exact (fn_calls okF okM Try.func105 (by kernel_rfl) (by kernel_rfl) (e.mpr h)).mono fun _ _ ⟨s, he, hR⟩ => ⟨s, he, hR⟩

/-- slices.Clone[[]string,string] -/
def S110 (s1 : Slc) (w : World) (R : Slc → World → Prop) : Prop :=
  Br s1.p.isNone (R (⟨none, 0, 0⟩ : Slc) w) (Nw w (.cells #[] 9) fun vw2 =>
    Rn Try.prog (Builtin.append_ #[28, 28] 28 #[Slc.v ((⟨some ⟨w.heap.size, 0, none⟩, 0, 0⟩ : Slc)), Slc.v s1]) vw2 Slc.v fun (x3 : Slc) vw4 =>
    R x3 vw4)
def pl110 : Plan := (.seq (.reg .seq) (.seq (.seq (.reg .seq) (.cond (.seq (.reg .seq) .leaf) .leaf)) (.seq (.reg .seq) .leaf)))
set_option maxRecDepth 100000 in
theorem T110 (s1 : Slc) (w : World) (R : Slc → World → Prop) (h : S110 s1 w R) : C110 s1 w R := by
  have e : fnT Try.prog ⟨FF, MAY, (fun _ _ => False)⟩ pl110 Try.f110 [Slc.v s1] w [(.one .slc)] (fun s w => R s w) = S110 s1 w R := by kernel_rfl
  exact (fn_calls okF okM Try.func110 (by kernel_rfl) (by kernel_rfl) (e.mpr h)).mono fun _ _ ⟨s, he, hR⟩ => ⟨s, he, hR⟩

def S104_F105L1 (w : World) (vw3 : World) (x25 : Slc) (x27 : Slc) (R : (Int × Int × Int × ByteArray × Slc × Slc) → World → Prop) (I30 : Int → World → Prop) (s28 : Int) (vw29 : World) : Prop :=
  Br (decide (s28 < ((x27.len : Nat) : Int))) (0 ≤ s28 ∧ s28 < (x27.len : Nat) ∧ Nn x27.p fun a31 =>
    Ld vw29 (a31.add ((s28).toNat * 6)) (Value.int .i64) fun (x32 : Int) =>
    Ld vw29 ((a31.add ((s28).toNat * 6)).add 1) (Value.int .i64) fun (x33 : Int) =>
    Ld vw29 ((a31.add ((s28).toNat * 6)).add 2) (Value.int .i64) fun (x34 : Int) =>
    Ld vw29 ((a31.add ((s28).toNat * 6)).add 3) Value.string fun (x35 : ByteArray) =>
    Ld vw29 ((a31.add ((s28).toNat * 6)).add 4) Slc.v fun (x36 : Slc) =>
    Ld vw29 ((a31.add ((s28).toNat * 6)).add 5) Slc.v fun (x37 : Slc) =>
    Nw vw29 (.cells #[.int .i64 0, .int .i64 0, .int .i64 0, .string ((⟨#[]⟩ : ByteArray)), Slc.v ((⟨none, 0, 0⟩ : Slc)), Slc.v ((⟨none, 0, 0⟩ : Slc))] 31) fun vw38 =>
    St vw38 (⟨vw29.heap.size, 0, none⟩ : Addr) (.int .i64 x32) fun vw39 =>
    St vw39 ((⟨vw29.heap.size, 0, none⟩ : Addr).add 1) (.int .i64 x33) fun vw40 =>
    St vw40 ((⟨vw29.heap.size, 0, none⟩ : Addr).add 2) (.int .i64 x34) fun vw41 =>
    St vw41 ((⟨vw29.heap.size, 0, none⟩ : Addr).add 3) (.string x35) fun vw42 =>
    St vw42 ((⟨vw29.heap.size, 0, none⟩ : Addr).add 4) (Slc.v x36) fun vw43 =>
    St vw43 ((⟨vw29.heap.size, 0, none⟩ : Addr).add 5) (Slc.v x37) fun vw44 =>
    Ld vw44 (⟨vw29.heap.size, 0, none⟩ : Addr) (Value.int .i64) fun (x45 : Int) =>
    Ld vw44 ((⟨vw29.heap.size, 0, none⟩ : Addr).add 1) (Value.int .i64) fun (x46 : Int) =>
    Ld vw44 ((⟨vw29.heap.size, 0, none⟩ : Addr).add 2) (Value.int .i64) fun (x47 : Int) =>
    Ld vw44 ((⟨vw29.heap.size, 0, none⟩ : Addr).add 3) Value.string fun (x48 : ByteArray) =>
    Ld vw44 ((⟨vw29.heap.size, 0, none⟩ : Addr).add 4) Slc.v fun (x49 : Slc) =>
    Ld vw44 ((⟨vw29.heap.size, 0, none⟩ : Addr).add 5) Slc.v fun (x50 : Slc) =>
    C104 (x45, x46, x47, x48, x49, x50) (.func (.func 105) #[] #[]) vw44 fun r51 vw52 =>
      0 ≤ s28 ∧ s28 < (x25.len : Nat) ∧ Nn x25.p fun a53 =>
      St vw52 (a53.add ((s28).toNat * 6)) (.int .i64 (r51.1)) fun vw54 =>
      St vw54 ((a53.add ((s28).toNat * 6)).add 1) (.int .i64 (r51.2.1)) fun vw55 =>
      St vw55 ((a53.add ((s28).toNat * 6)).add 2) (.int .i64 (r51.2.2.1)) fun vw56 =>
      St vw56 ((a53.add ((s28).toNat * 6)).add 3) (.string r51.2.2.2.1) fun vw57 =>
      St vw57 ((a53.add ((s28).toNat * 6)).add 4) (Slc.v r51.2.2.2.2.1) fun vw58 =>
      St vw58 ((a53.add ((s28).toNat * 6)).add 5) (Slc.v r51.2.2.2.2.2) fun vw59 =>
      I30 (IntKind.i64.wrap (s28 + 1)) vw59) (St vw29 ((⟨w.heap.size, 0, none⟩ : Addr).add 5) (Slc.v x25) fun vw60 =>
    Ld vw60 (⟨w.heap.size, 0, none⟩ : Addr) (Value.int .i64) fun (x61 : Int) =>
    Ld vw60 ((⟨w.heap.size, 0, none⟩ : Addr).add 1) (Value.int .i64) fun (x62 : Int) =>
    Ld vw60 ((⟨w.heap.size, 0, none⟩ : Addr).add 2) (Value.int .i64) fun (x63 : Int) =>
    Ld vw60 ((⟨w.heap.size, 0, none⟩ : Addr).add 3) Value.string fun (x64 : ByteArray) =>
    Ld vw60 ((⟨w.heap.size, 0, none⟩ : Addr).add 4) Slc.v fun (x65 : Slc) =>
    Ld vw60 ((⟨w.heap.size, 0, none⟩ : Addr).add 5) Slc.v fun (x66 : Slc) =>
    St vw60 (⟨vw3.heap.size, 0, none⟩ : Addr) (.int .i64 x61) fun vw67 =>
    St vw67 ((⟨vw3.heap.size, 0, none⟩ : Addr).add 1) (.int .i64 x62) fun vw68 =>
    St vw68 ((⟨vw3.heap.size, 0, none⟩ : Addr).add 2) (.int .i64 x63) fun vw69 =>
    St vw69 ((⟨vw3.heap.size, 0, none⟩ : Addr).add 3) (.string x64) fun vw70 =>
    St vw70 ((⟨vw3.heap.size, 0, none⟩ : Addr).add 4) (Slc.v x65) fun vw71 =>
    St vw71 ((⟨vw3.heap.size, 0, none⟩ : Addr).add 5) (Slc.v x66) fun vw72 =>
    Ld vw72 (⟨vw3.heap.size, 0, none⟩ : Addr) (Value.int .i64) fun (x73 : Int) =>
    Ld vw72 ((⟨vw3.heap.size, 0, none⟩ : Addr).add 1) (Value.int .i64) fun (x74 : Int) =>
    Ld vw72 ((⟨vw3.heap.size, 0, none⟩ : Addr).add 2) (Value.int .i64) fun (x75 : Int) =>
    Ld vw72 ((⟨vw3.heap.size, 0, none⟩ : Addr).add 3) Value.string fun (x76 : ByteArray) =>
    Ld vw72 ((⟨vw3.heap.size, 0, none⟩ : Addr).add 4) Slc.v fun (x77 : Slc) =>
    Ld vw72 ((⟨vw3.heap.size, 0, none⟩ : Addr).add 5) Slc.v fun (x78 : Slc) =>
    R (x73, x74, x75, x76, x77, x78) vw72)
/-- foliant/value.changed -/
def S104_F105 (o1 : Int × Int × Int × ByteArray × Slc × Slc) (w : World) (R : (Int × Int × Int × ByteArray × Slc × Slc) → World → Prop) : Prop :=
  Nw w (.cells #[.int .i64 (o1.1), .int .i64 (o1.2.1), .int .i64 (o1.2.2.1), .string o1.2.2.2.1, Slc.v o1.2.2.2.2.1, Slc.v o1.2.2.2.2.2] 31) fun vw3 =>
  Nw vw3 (.cells #[.int .i64 0, .int .i64 0, .int .i64 0, .string ((⟨#[]⟩ : ByteArray)), Slc.v ((⟨none, 0, 0⟩ : Slc)), Slc.v ((⟨none, 0, 0⟩ : Slc))] 31) fun vw4 =>
  Ld vw4 (⟨w.heap.size, 0, none⟩ : Addr) (Value.int .i64) fun (x5 : Int) =>
  Ld vw4 ((⟨w.heap.size, 0, none⟩ : Addr).add 1) (Value.int .i64) fun (x6 : Int) =>
  Ld vw4 ((⟨w.heap.size, 0, none⟩ : Addr).add 2) (Value.int .i64) fun (x7 : Int) =>
  Ld vw4 ((⟨w.heap.size, 0, none⟩ : Addr).add 3) Value.string fun (x8 : ByteArray) =>
  Ld vw4 ((⟨w.heap.size, 0, none⟩ : Addr).add 4) Slc.v fun (x9 : Slc) =>
  Ld vw4 ((⟨w.heap.size, 0, none⟩ : Addr).add 5) Slc.v fun (x10 : Slc) =>
  C105 (x5, x6, x7, x8, x9, x10) vw4 fun r11 vw12 =>
    St vw12 (⟨w.heap.size, 0, none⟩ : Addr) (.int .i64 (r11.1)) fun vw13 =>
    St vw13 ((⟨w.heap.size, 0, none⟩ : Addr).add 1) (.int .i64 (r11.2.1)) fun vw14 =>
    St vw14 ((⟨w.heap.size, 0, none⟩ : Addr).add 2) (.int .i64 (r11.2.2.1)) fun vw15 =>
    St vw15 ((⟨w.heap.size, 0, none⟩ : Addr).add 3) (.string r11.2.2.2.1) fun vw16 =>
    St vw16 ((⟨w.heap.size, 0, none⟩ : Addr).add 4) (Slc.v r11.2.2.2.2.1) fun vw17 =>
    St vw17 ((⟨w.heap.size, 0, none⟩ : Addr).add 5) (Slc.v r11.2.2.2.2.2) fun vw18 =>
    Ld vw18 ((⟨w.heap.size, 0, none⟩ : Addr).add 4) Slc.v fun (x19 : Slc) =>
    C110 x19 vw18 fun r20 vw21 =>
      St vw21 ((⟨w.heap.size, 0, none⟩ : Addr).add 4) (Slc.v r20) fun vw22 =>
      Ld vw22 ((⟨w.heap.size, 0, none⟩ : Addr).add 5) Slc.v fun (x23 : Slc) =>
      Br (!(x23.p.isNone)) (Ld vw22 ((⟨w.heap.size, 0, none⟩ : Addr).add 5) Slc.v fun (x24 : Slc) =>
        Rn Try.prog (Instr.makeSlice 29 (.int .i64 ((x24.len : Nat) : Int)) (.int .i64 ((x24.len : Nat) : Int))) vw22 Slc.v fun (x25 : Slc) vw26 =>
        Ld vw26 ((⟨w.heap.size, 0, none⟩ : Addr).add 5) Slc.v fun (x27 : Slc) =>
        Lp (σ := Int) (S104_F105L1 w vw3 x25 x27 R) 0 vw26) (Ld vw22 (⟨w.heap.size, 0, none⟩ : Addr) (Value.int .i64) fun (x79 : Int) =>
        Ld vw22 ((⟨w.heap.size, 0, none⟩ : Addr).add 1) (Value.int .i64) fun (x80 : Int) =>
        Ld vw22 ((⟨w.heap.size, 0, none⟩ : Addr).add 2) (Value.int .i64) fun (x81 : Int) =>
        Ld vw22 ((⟨w.heap.size, 0, none⟩ : Addr).add 3) Value.string fun (x82 : ByteArray) =>
        Ld vw22 ((⟨w.heap.size, 0, none⟩ : Addr).add 4) Slc.v fun (x83 : Slc) =>
        Ld vw22 ((⟨w.heap.size, 0, none⟩ : Addr).add 5) Slc.v fun (x84 : Slc) =>
        St vw22 (⟨vw3.heap.size, 0, none⟩ : Addr) (.int .i64 x79) fun vw85 =>
        St vw85 ((⟨vw3.heap.size, 0, none⟩ : Addr).add 1) (.int .i64 x80) fun vw86 =>
        St vw86 ((⟨vw3.heap.size, 0, none⟩ : Addr).add 2) (.int .i64 x81) fun vw87 =>
        St vw87 ((⟨vw3.heap.size, 0, none⟩ : Addr).add 3) (.string x82) fun vw88 =>
        St vw88 ((⟨vw3.heap.size, 0, none⟩ : Addr).add 4) (Slc.v x83) fun vw89 =>
        St vw89 ((⟨vw3.heap.size, 0, none⟩ : Addr).add 5) (Slc.v x84) fun vw90 =>
        Ld vw90 (⟨vw3.heap.size, 0, none⟩ : Addr) (Value.int .i64) fun (x91 : Int) =>
        Ld vw90 ((⟨vw3.heap.size, 0, none⟩ : Addr).add 1) (Value.int .i64) fun (x92 : Int) =>
        Ld vw90 ((⟨vw3.heap.size, 0, none⟩ : Addr).add 2) (Value.int .i64) fun (x93 : Int) =>
        Ld vw90 ((⟨vw3.heap.size, 0, none⟩ : Addr).add 3) Value.string fun (x94 : ByteArray) =>
        Ld vw90 ((⟨vw3.heap.size, 0, none⟩ : Addr).add 4) Slc.v fun (x95 : Slc) =>
        Ld vw90 ((⟨vw3.heap.size, 0, none⟩ : Addr).add 5) Slc.v fun (x96 : Slc) =>
        R (x91, x92, x93, x94, x95, x96) vw90)
def pl104_F105 : Plan := (.seq (.reg .seq) (.seq (.reg .seq) (.seq (.reg .seq) (.seq (.seq (.reg .seq) (.cond (.seq (.reg .seq) (.seq (.seq (.reg .seq) (.block (.loop [(25, (.one (.int .i64)))] [1, 2, 4, 5, 23, 24] (.seq (.reg .seq) (.seq (.cond .leaf .leaf) (.seq (.block (.seq (.reg .seq) (.reg .seq))) (.reg .seq))))))) (.reg .seq))) .leaf)) (.seq (.reg .seq) .leaf)))))
set_option maxRecDepth 100000 in
theorem T104_F105 (o1 : Int × Int × Int × ByteArray × Slc × Slc) (w : World) (R : (Int × Int × Int × ByteArray × Slc × Slc) → World → Prop) (h : S104_F105 o1 w R) : C104 (o1.1, o1.2.1, o1.2.2.1, o1.2.2.2.1, o1.2.2.2.2.1, o1.2.2.2.2.2) (.func (.func 105) #[] #[]) w R := by
  have e : fnT Try.prog ⟨FF, MAY, (fun _ _ => False)⟩ pl104_F105 Try.f104 [.agg #[.int .i64 (o1.1), .int .i64 (o1.2.1), .int .i64 (o1.2.2.1), .string o1.2.2.2.1, Slc.v o1.2.2.2.2.1, Slc.v o1.2.2.2.2.2], .func (.func 105) #[] #[]] w [(.agg [(.int .i64), (.int .i64), (.int .i64), .str, .slc, .slc])] (fun s w => R s w) = S104_F105 o1 w R := by kernel_rfl
  exact (fn_calls okF okM Try.func104 (by kernel_rfl) (by kernel_rfl) (e.mpr h)).mono fun _ _ ⟨s, he, hR⟩ => ⟨s, he, hR⟩

/-- foliant/value.Clone -/
def S90 (o1 : Int × Int × Int × ByteArray × Slc × Slc) (w : World) (R : (Int × Int × Int × ByteArray × Slc × Slc) → World → Prop) : Prop :=
  Nw w (.cells #[.int .i64 (o1.1), .int .i64 (o1.2.1), .int .i64 (o1.2.2.1), .string o1.2.2.2.1, Slc.v o1.2.2.2.2.1, Slc.v o1.2.2.2.2.2] 31) fun vw2 =>
  Nw vw2 (.cells #[.int .i64 0, .int .i64 0, .int .i64 0, .string ((⟨#[]⟩ : ByteArray)), Slc.v ((⟨none, 0, 0⟩ : Slc)), Slc.v ((⟨none, 0, 0⟩ : Slc))] 31) fun vw3 =>
  Ld vw3 (⟨w.heap.size, 0, none⟩ : Addr) (Value.int .i64) fun (x4 : Int) =>
  Ld vw3 ((⟨w.heap.size, 0, none⟩ : Addr).add 1) (Value.int .i64) fun (x5 : Int) =>
  Ld vw3 ((⟨w.heap.size, 0, none⟩ : Addr).add 2) (Value.int .i64) fun (x6 : Int) =>
  Ld vw3 ((⟨w.heap.size, 0, none⟩ : Addr).add 3) Value.string fun (x7 : ByteArray) =>
  Ld vw3 ((⟨w.heap.size, 0, none⟩ : Addr).add 4) Slc.v fun (x8 : Slc) =>
  Ld vw3 ((⟨w.heap.size, 0, none⟩ : Addr).add 5) Slc.v fun (x9 : Slc) =>
  C104 (x4, x5, x6, x7, x8, x9) (.func (.func 105) #[] #[]) vw3 fun r10 vw11 =>
    St vw11 (⟨vw2.heap.size, 0, none⟩ : Addr) (.int .i64 (r10.1)) fun vw12 =>
    St vw12 ((⟨vw2.heap.size, 0, none⟩ : Addr).add 1) (.int .i64 (r10.2.1)) fun vw13 =>
    St vw13 ((⟨vw2.heap.size, 0, none⟩ : Addr).add 2) (.int .i64 (r10.2.2.1)) fun vw14 =>
    St vw14 ((⟨vw2.heap.size, 0, none⟩ : Addr).add 3) (.string r10.2.2.2.1) fun vw15 =>
    St vw15 ((⟨vw2.heap.size, 0, none⟩ : Addr).add 4) (Slc.v r10.2.2.2.2.1) fun vw16 =>
    St vw16 ((⟨vw2.heap.size, 0, none⟩ : Addr).add 5) (Slc.v r10.2.2.2.2.2) fun vw17 =>
    Ld vw17 (⟨vw2.heap.size, 0, none⟩ : Addr) (Value.int .i64) fun (x18 : Int) =>
    Ld vw17 ((⟨vw2.heap.size, 0, none⟩ : Addr).add 1) (Value.int .i64) fun (x19 : Int) =>
    Ld vw17 ((⟨vw2.heap.size, 0, none⟩ : Addr).add 2) (Value.int .i64) fun (x20 : Int) =>
    Ld vw17 ((⟨vw2.heap.size, 0, none⟩ : Addr).add 3) Value.string fun (x21 : ByteArray) =>
    Ld vw17 ((⟨vw2.heap.size, 0, none⟩ : Addr).add 4) Slc.v fun (x22 : Slc) =>
    Ld vw17 ((⟨vw2.heap.size, 0, none⟩ : Addr).add 5) Slc.v fun (x23 : Slc) =>
    R (x18, x19, x20, x21, x22, x23) vw17
def pl90 : Plan := (.seq (.reg .seq) (.seq (.reg .seq) .leaf))
set_option maxRecDepth 100000 in
theorem T90 (o1 : Int × Int × Int × ByteArray × Slc × Slc) (w : World) (R : (Int × Int × Int × ByteArray × Slc × Slc) → World → Prop) (h : S90 o1 w R) : C90 (o1.1, o1.2.1, o1.2.2.1, o1.2.2.2.1, o1.2.2.2.2.1, o1.2.2.2.2.2) w R := by
  have e : fnT Try.prog ⟨FF, MAY, (fun _ _ => False)⟩ pl90 Try.f90 [.agg #[.int .i64 (o1.1), .int .i64 (o1.2.1), .int .i64 (o1.2.2.1), .string o1.2.2.2.1, Slc.v o1.2.2.2.2.1, Slc.v o1.2.2.2.2.2]] w [(.agg [(.int .i64), (.int .i64), (.int .i64), .str, .slc, .slc])] (fun s w => R s w) = S90 o1 w R := by kernel_rfl
  exact (fn_calls okF okM Try.func90 (by kernel_rfl) (by kernel_rfl) (e.mpr h)).mono fun _ _ ⟨s, he, hR⟩ => ⟨s, he, hR⟩

/-- foliant/value.Array -/
def S61 (kids1 : Slc) (w : World) (R : (Int × Int × Int × ByteArray × Slc × Slc) → World → Prop) : Prop :=
  Nw w (.cells #[.int .i64 0, .int .i64 0, .int .i64 0, .string ((⟨#[]⟩ : ByteArray)), Slc.v ((⟨none, 0, 0⟩ : Slc)), Slc.v ((⟨none, 0, 0⟩ : Slc))] 31) fun vw2 =>
  C90 (6, 0, 0, (⟨#[]⟩ : ByteArray), (⟨none, 0, 0⟩ : Slc), kids1) vw2 fun r3 vw4 =>
    St vw4 (⟨w.heap.size, 0, none⟩ : Addr) (.int .i64 (r3.1)) fun vw5 =>
    St vw5 ((⟨w.heap.size, 0, none⟩ : Addr).add 1) (.int .i64 (r3.2.1)) fun vw6 =>
    St vw6 ((⟨w.heap.size, 0, none⟩ : Addr).add 2) (.int .i64 (r3.2.2.1)) fun vw7 =>
    St vw7 ((⟨w.heap.size, 0, none⟩ : Addr).add 3) (.string r3.2.2.2.1) fun vw8 =>
    St vw8 ((⟨w.heap.size, 0, none⟩ : Addr).add 4) (Slc.v r3.2.2.2.2.1) fun vw9 =>
    St vw9 ((⟨w.heap.size, 0, none⟩ : Addr).add 5) (Slc.v r3.2.2.2.2.2) fun vw10 =>
    Ld vw10 (⟨w.heap.size, 0, none⟩ : Addr) (Value.int .i64) fun (x11 : Int) =>
    Ld vw10 ((⟨w.heap.size, 0, none⟩ : Addr).add 1) (Value.int .i64) fun (x12 : Int) =>
    Ld vw10 ((⟨w.heap.size, 0, none⟩ : Addr).add 2) (Value.int .i64) fun (x13 : Int) =>
    Ld vw10 ((⟨w.heap.size, 0, none⟩ : Addr).add 3) Value.string fun (x14 : ByteArray) =>
    Ld vw10 ((⟨w.heap.size, 0, none⟩ : Addr).add 4) Slc.v fun (x15 : Slc) =>
    Ld vw10 ((⟨w.heap.size, 0, none⟩ : Addr).add 5) Slc.v fun (x16 : Slc) =>
    R (x11, x12, x13, x14, x15, x16) vw10
def pl61 : Plan := (.seq (.reg .seq) (.seq (.reg .seq) .leaf))
set_option maxRecDepth 100000 in
theorem T61 (kids1 : Slc) (w : World) (R : (Int × Int × Int × ByteArray × Slc × Slc) → World → Prop) (h : S61 kids1 w R) : C61 kids1 w R := by
  have e : fnT Try.prog ⟨FF, MAY, (fun _ _ => False)⟩ pl61 Try.f61 [Slc.v kids1] w [(.agg [(.int .i64), (.int .i64), (.int .i64), .str, .slc, .slc])] (fun s w => R s w) = S61 kids1 w R := by kernel_rfl
  exact (fn_calls okF okM Try.func61 (by kernel_rfl) (by kernel_rfl) (e.mpr h)).mono fun _ _ ⟨s, he, hR⟩ => ⟨s, he, hR⟩

def S33L1 (vw2 : World) (r4 : Option Addr × Option Addr × Option Addr × Option Addr × Option Addr × Option Addr) (R : (Int × Int × Int × ByteArray × Slc × Slc) → World → Prop) (I8 : (Slc × Int) → World → Prop) (s6 : Slc × Int) (vw7 : World) : Prop :=
  Br (decide (s6.2 < 6)) (0 ≤ s6.2 ∧ s6.2 < (6 : Nat) ∧ ∃ x9 : Option Addr, (#[.pointer r4.1, .pointer r4.2.1, .pointer r4.2.2.1, .pointer r4.2.2.2.1, .pointer r4.2.2.2.2.1, .pointer r4.2.2.2.2.2] : Array Value)[(s6.2).toNat * 1]? = some (.pointer x9) ∧ Nn x9 fun a10 =>
    Ld vw7 a10 (Value.int .i64) fun (x11 : Int) =>
    Br ((Int.tmod x11 10000) == 0) (Nn x9 fun a12 =>
      Ld vw7 a12 (Value.int .i64) fun (x13 : Int) =>
      C59 (IntKind.i64.wrap (Int.tdiv x13 10000)) vw7 fun r14 vw15 =>
        Nw vw15 (.cells #[.int .i64 (r14.1), .int .i64 (r14.2.1), .int .i64 (r14.2.2.1), .string r14.2.2.2.1, Slc.v r14.2.2.2.2.1, Slc.v r14.2.2.2.2.2] 31) fun vw16 =>
        Rn Try.prog (Builtin.append_ #[29, 29] 29 #[Slc.v s6.1, Slc.v ((⟨some ⟨vw15.heap.size, 0, none⟩, 1, 1⟩ : Slc))]) vw16 Slc.v fun (x17 : Slc) vw18 =>
        I8 (x17, IntKind.i64.wrap (s6.2 + 1)) vw18) (Nn x9 fun a19 =>
      Ld vw7 a19 (Value.int .i64) fun (x20 : Int) =>
      C60 x20 vw7 fun r21 vw22 =>
        Nw vw22 (.cells #[.int .i64 (r21.1), .int .i64 (r21.2.1), .int .i64 (r21.2.2.1), .string r21.2.2.2.1, Slc.v r21.2.2.2.2.1, Slc.v r21.2.2.2.2.2] 31) fun vw23 =>
        Rn Try.prog (Builtin.append_ #[29, 29] 29 #[Slc.v s6.1, Slc.v ((⟨some ⟨vw22.heap.size, 0, none⟩, 1, 1⟩ : Slc))]) vw23 Slc.v fun (x24 : Slc) vw25 =>
        I8 (x24, IntKind.i64.wrap (s6.2 + 1)) vw25)) (C61 s6.1 vw7 fun r26 vw27 =>
      St vw27 (⟨vw2.heap.size, 0, none⟩ : Addr) (.int .i64 (r26.1)) fun vw28 =>
      St vw28 ((⟨vw2.heap.size, 0, none⟩ : Addr).add 1) (.int .i64 (r26.2.1)) fun vw29 =>
      St vw29 ((⟨vw2.heap.size, 0, none⟩ : Addr).add 2) (.int .i64 (r26.2.2.1)) fun vw30 =>
      St vw30 ((⟨vw2.heap.size, 0, none⟩ : Addr).add 3) (.string r26.2.2.2.1) fun vw31 =>
      St vw31 ((⟨vw2.heap.size, 0, none⟩ : Addr).add 4) (Slc.v r26.2.2.2.2.1) fun vw32 =>
      St vw32 ((⟨vw2.heap.size, 0, none⟩ : Addr).add 5) (Slc.v r26.2.2.2.2.2) fun vw33 =>
      Ld vw33 (⟨vw2.heap.size, 0, none⟩ : Addr) (Value.int .i64) fun (x34 : Int) =>
      Ld vw33 ((⟨vw2.heap.size, 0, none⟩ : Addr).add 1) (Value.int .i64) fun (x35 : Int) =>
      Ld vw33 ((⟨vw2.heap.size, 0, none⟩ : Addr).add 2) (Value.int .i64) fun (x36 : Int) =>
      Ld vw33 ((⟨vw2.heap.size, 0, none⟩ : Addr).add 3) Value.string fun (x37 : ByteArray) =>
      Ld vw33 ((⟨vw2.heap.size, 0, none⟩ : Addr).add 4) Slc.v fun (x38 : Slc) =>
      Ld vw33 ((⟨vw2.heap.size, 0, none⟩ : Addr).add 5) Slc.v fun (x39 : Slc) =>
      R (x34, x35, x36, x37, x38, x39) vw33)
/-- foliant/matrix.Object -/
def S33 (m1 : Int × Int × Int × Int × Int × Int) (w : World) (R : (Int × Int × Int × ByteArray × Slc × Slc) → World → Prop) : Prop :=
  Nw w (.cells #[.int .i64 (m1.1), .int .i64 (m1.2.1), .int .i64 (m1.2.2.1), .int .i64 (m1.2.2.2.1), .int .i64 (m1.2.2.2.2.1), .int .i64 (m1.2.2.2.2.2)] 23) fun vw2 =>
  Nw vw2 (.cells #[.int .i64 0, .int .i64 0, .int .i64 0, .string ((⟨#[]⟩ : ByteArray)), Slc.v ((⟨none, 0, 0⟩ : Slc)), Slc.v ((⟨none, 0, 0⟩ : Slc))] 31) fun vw3 =>
  C54 (some (⟨w.heap.size, 0, none⟩ : Addr)) vw3 fun r4 vw5 =>
    Lp (σ := Slc × Int) (S33L1 vw2 r4 R) ((⟨none, 0, 0⟩ : Slc), 0) vw5
def pl33 : Plan := (.seq (.reg .seq) (.seq (.reg .seq) (.seq (.seq (.reg .seq) (.block (.loop [(3, (.one .slc)), (7, (.one (.int .i64)))] [2, 6] (.seq (.reg .seq) (.seq (.cond .leaf .leaf) (.seq (.block (.seq (.reg .seq) (.seq (.reg .seq) (.cond (.reg .seq) (.reg .seq))))) (.reg .seq))))))) (.seq (.reg .seq) .leaf))))
set_option maxRecDepth 100000 in
theorem T33 (m1 : Int × Int × Int × Int × Int × Int) (w : World) (R : (Int × Int × Int × ByteArray × Slc × Slc) → World → Prop) (h : S33 m1 w R) : C33 (m1.1, m1.2.1, m1.2.2.1, m1.2.2.2.1, m1.2.2.2.2.1, m1.2.2.2.2.2) w R := by
  have e : fnT Try.prog ⟨FF, MAY, (fun _ _ => False)⟩ pl33 Try.f33 [.agg #[.int .i64 (m1.1), .int .i64 (m1.2.1), .int .i64 (m1.2.2.1), .int .i64 (m1.2.2.2.1), .int .i64 (m1.2.2.2.2.1), .int .i64 (m1.2.2.2.2.2)]] w [(.agg [(.int .i64), (.int .i64), (.int .i64), .str, .slc, .slc])] (fun s w => R s w) = S33 m1 w R := by kernel_rfl
  exact (fn_calls okF okM Try.func33 (by kernel_rfl) (by kernel_rfl) (e.mpr h)).mono fun _ _ ⟨s, he, hR⟩ => ⟨s, he, hR⟩

/-- foliant/foliantref42.Num -/
def S62 (n1 : Int) (w : World) (R : (Int × Int × Int × ByteArray × Slc × Slc) → World → Prop) : Prop :=
  Nw w (.cells #[.int .i64 0, .int .i64 0, .int .i64 0, .string ((⟨#[]⟩ : ByteArray)), Slc.v ((⟨none, 0, 0⟩ : Slc)), Slc.v ((⟨none, 0, 0⟩ : Slc))] 31) fun vw2 =>
  Br ((Int.tmod n1 10000) == 0) (St vw2 (⟨w.heap.size, 0, none⟩ : Addr) (.int .i64 2) fun vw3 =>
    St vw3 ((⟨w.heap.size, 0, none⟩ : Addr).add 1) (.int .i64 (IntKind.i64.wrap (Int.tdiv n1 10000))) fun vw4 =>
    St vw4 ((⟨w.heap.size, 0, none⟩ : Addr).add 2) (.int .i64 0) fun vw5 =>
    St vw5 ((⟨w.heap.size, 0, none⟩ : Addr).add 3) (.string ((⟨#[]⟩ : ByteArray))) fun vw6 =>
    St vw6 ((⟨w.heap.size, 0, none⟩ : Addr).add 4) (Slc.v ((⟨none, 0, 0⟩ : Slc))) fun vw7 =>
    St vw7 ((⟨w.heap.size, 0, none⟩ : Addr).add 5) (Slc.v ((⟨none, 0, 0⟩ : Slc))) fun vw8 =>
    Ld vw8 (⟨w.heap.size, 0, none⟩ : Addr) (Value.int .i64) fun (x9 : Int) =>
    Ld vw8 ((⟨w.heap.size, 0, none⟩ : Addr).add 1) (Value.int .i64) fun (x10 : Int) =>
    Ld vw8 ((⟨w.heap.size, 0, none⟩ : Addr).add 2) (Value.int .i64) fun (x11 : Int) =>
    Ld vw8 ((⟨w.heap.size, 0, none⟩ : Addr).add 3) Value.string fun (x12 : ByteArray) =>
    Ld vw8 ((⟨w.heap.size, 0, none⟩ : Addr).add 4) Slc.v fun (x13 : Slc) =>
    Ld vw8 ((⟨w.heap.size, 0, none⟩ : Addr).add 5) Slc.v fun (x14 : Slc) =>
    R (x9, x10, x11, x12, x13, x14) vw8) (St vw2 (⟨w.heap.size, 0, none⟩ : Addr) (.int .i64 3) fun vw15 =>
    St vw15 ((⟨w.heap.size, 0, none⟩ : Addr).add 1) (.int .i64 n1) fun vw16 =>
    St vw16 ((⟨w.heap.size, 0, none⟩ : Addr).add 2) (.int .i64 0) fun vw17 =>
    St vw17 ((⟨w.heap.size, 0, none⟩ : Addr).add 3) (.string ((⟨#[]⟩ : ByteArray))) fun vw18 =>
    St vw18 ((⟨w.heap.size, 0, none⟩ : Addr).add 4) (Slc.v ((⟨none, 0, 0⟩ : Slc))) fun vw19 =>
    St vw19 ((⟨w.heap.size, 0, none⟩ : Addr).add 5) (Slc.v ((⟨none, 0, 0⟩ : Slc))) fun vw20 =>
    Ld vw20 (⟨w.heap.size, 0, none⟩ : Addr) (Value.int .i64) fun (x21 : Int) =>
    Ld vw20 ((⟨w.heap.size, 0, none⟩ : Addr).add 1) (Value.int .i64) fun (x22 : Int) =>
    Ld vw20 ((⟨w.heap.size, 0, none⟩ : Addr).add 2) (Value.int .i64) fun (x23 : Int) =>
    Ld vw20 ((⟨w.heap.size, 0, none⟩ : Addr).add 3) Value.string fun (x24 : ByteArray) =>
    Ld vw20 ((⟨w.heap.size, 0, none⟩ : Addr).add 4) Slc.v fun (x25 : Slc) =>
    Ld vw20 ((⟨w.heap.size, 0, none⟩ : Addr).add 5) Slc.v fun (x26 : Slc) =>
    R (x21, x22, x23, x24, x25, x26) vw20)
def pl62 : Plan := (.seq (.reg .seq) (.seq (.seq (.reg .seq) (.cond (.seq (.reg .seq) .leaf) .leaf)) (.seq (.reg .seq) .leaf)))
set_option maxRecDepth 100000 in
theorem T62 (n1 : Int) (w : World) (R : (Int × Int × Int × ByteArray × Slc × Slc) → World → Prop) (h : S62 n1 w R) : C62 n1 w R := by
  have e : fnT Try.prog ⟨FF, MAY, (fun _ _ => False)⟩ pl62 Try.f62 [.int .i64 n1] w [(.agg [(.int .i64), (.int .i64), (.int .i64), .str, .slc, .slc])] (fun s w => R s w) = S62 n1 w R := by kernel_rfl
  exact (fn_calls okF okM Try.func62 (by kernel_rfl) (by kernel_rfl) (e.mpr h)).mono fun _ _ ⟨s, he, hR⟩ => ⟨s, he, hR⟩

/-- foliant/foliantref42.Object -/
def S34 (m1 : Int × Int × Int × Int × Int × Int) (w : World) (R : (Int × Int × Int × ByteArray × Slc × Slc) → World → Prop) : Prop :=
  Nw w (.cells #[.int .i64 (m1.1), .int .i64 (m1.2.1), .int .i64 (m1.2.2.1), .int .i64 (m1.2.2.2.1), .int .i64 (m1.2.2.2.2.1), .int .i64 (m1.2.2.2.2.2)] 23) fun vw2 =>
  Nw vw2 (.cells #[.int .i64 0, .int .i64 0, .int .i64 0, .string ((⟨#[]⟩ : ByteArray)), Slc.v ((⟨none, 0, 0⟩ : Slc)), Slc.v ((⟨none, 0, 0⟩ : Slc))] 31) fun vw3 =>
  ∃ vS4 : World → Prop, vS4 vw3.drew ∧ LdS vS4 (⟨w.heap.size, 0, none⟩ : Addr) (Value.int .i64) fun (x5 : Int) =>
  LdS vS4 ((⟨w.heap.size, 0, none⟩ : Addr).add 1) (Value.int .i64) fun (x6 : Int) =>
  LdS vS4 ((⟨w.heap.size, 0, none⟩ : Addr).add 2) (Value.int .i64) fun (x7 : Int) =>
  LdS vS4 ((⟨w.heap.size, 0, none⟩ : Addr).add 3) (Value.int .i64) fun (x8 : Int) =>
  LdS vS4 ((⟨w.heap.size, 0, none⟩ : Addr).add 4) (Value.int .i64) fun (x9 : Int) =>
  LdS vS4 ((⟨w.heap.size, 0, none⟩ : Addr).add 5) (Value.int .i64) fun (x10 : Int) =>
  C62 x5 vw3.drew fun r11 vw12 =>
    vS4 vw12 ∧ C62 x6 vw12 fun r13 vw14 =>
      vS4 vw14 ∧ C62 x7 vw14 fun r15 vw16 =>
        vS4 vw16 ∧ C62 x8 vw16 fun r17 vw18 =>
          vS4 vw18 ∧ C62 x9 vw18 fun r19 vw20 =>
            vS4 vw20 ∧ C62 x10 vw20 fun r21 vw22 =>
              Nw vw22 (.cells #[.int .i64 (r11.1), .int .i64 (r11.2.1), .int .i64 (r11.2.2.1), .string r11.2.2.2.1, Slc.v r11.2.2.2.2.1, Slc.v r11.2.2.2.2.2, .int .i64 (r13.1), .int .i64 (r13.2.1), .int .i64 (r13.2.2.1), .string r13.2.2.2.1, Slc.v r13.2.2.2.2.1, Slc.v r13.2.2.2.2.2, .int .i64 (r15.1), .int .i64 (r15.2.1), .int .i64 (r15.2.2.1), .string r15.2.2.2.1, Slc.v r15.2.2.2.2.1, Slc.v r15.2.2.2.2.2, .int .i64 (r17.1), .int .i64 (r17.2.1), .int .i64 (r17.2.2.1), .string r17.2.2.2.1, Slc.v r17.2.2.2.2.1, Slc.v r17.2.2.2.2.2, .int .i64 (r19.1), .int .i64 (r19.2.1), .int .i64 (r19.2.2.1), .string r19.2.2.2.1, Slc.v r19.2.2.2.2.1, Slc.v r19.2.2.2.2.2, .int .i64 (r21.1), .int .i64 (r21.2.1), .int .i64 (r21.2.2.1), .string r21.2.2.2.1, Slc.v r21.2.2.2.2.1, Slc.v r21.2.2.2.2.2] 31) fun vw23 =>
              St vw23 (⟨vw2.heap.size, 0, none⟩ : Addr) (.int .i64 6) fun vw24 =>
              St vw24 ((⟨vw2.heap.size, 0, none⟩ : Addr).add 1) (.int .i64 0) fun vw25 =>
              St vw25 ((⟨vw2.heap.size, 0, none⟩ : Addr).add 2) (.int .i64 0) fun vw26 =>
              St vw26 ((⟨vw2.heap.size, 0, none⟩ : Addr).add 3) (.string ((⟨#[]⟩ : ByteArray))) fun vw27 =>
              St vw27 ((⟨vw2.heap.size, 0, none⟩ : Addr).add 4) (Slc.v ((⟨none, 0, 0⟩ : Slc))) fun vw28 =>
              St vw28 ((⟨vw2.heap.size, 0, none⟩ : Addr).add 5) (Slc.v ((⟨some ⟨vw22.heap.size, 0, none⟩, 6, 6⟩ : Slc))) fun vw29 =>
              Ld vw29 (⟨vw2.heap.size, 0, none⟩ : Addr) (Value.int .i64) fun (x30 : Int) =>
              Ld vw29 ((⟨vw2.heap.size, 0, none⟩ : Addr).add 1) (Value.int .i64) fun (x31 : Int) =>
              Ld vw29 ((⟨vw2.heap.size, 0, none⟩ : Addr).add 2) (Value.int .i64) fun (x32 : Int) =>
              Ld vw29 ((⟨vw2.heap.size, 0, none⟩ : Addr).add 3) Value.string fun (x33 : ByteArray) =>
              Ld vw29 ((⟨vw2.heap.size, 0, none⟩ : Addr).add 4) Slc.v fun (x34 : Slc) =>
              Ld vw29 ((⟨vw2.heap.size, 0, none⟩ : Addr).add 5) Slc.v fun (x35 : Slc) =>
              R (x30, x31, x32, x33, x34, x35) vw29
def pl34 : Plan := (.seq (.reg .seq) (.seq (.reg (.held [17] (.take 0 (.take 1 (.take 3 (.take 4 (.take 6 (.take 7 (.take 9 (.take 10 (.take 12 (.take 13 (.take 15 (.take 16 (.eff 2 none (.eff 5 none (.eff 8 none (.eff 11 none (.eff 14 none (.eff 17 (some [18]) (.eff 18 (some [19]) (.eff 19 (some [20]) (.eff 20 (some []) .done))))))))))))))))))))))) .leaf))
set_option maxRecDepth 100000 in
theorem T34 (m1 : Int × Int × Int × Int × Int × Int) (w : World) (R : (Int × Int × Int × ByteArray × Slc × Slc) → World → Prop) (h : S34 m1 w R) : C34 (m1.1, m1.2.1, m1.2.2.1, m1.2.2.2.1, m1.2.2.2.2.1, m1.2.2.2.2.2) w R := by
  have e : fnT Try.prog ⟨FF, MAY, (fun _ _ => False)⟩ pl34 Try.f34 [.agg #[.int .i64 (m1.1), .int .i64 (m1.2.1), .int .i64 (m1.2.2.1), .int .i64 (m1.2.2.2.1), .int .i64 (m1.2.2.2.2.1), .int .i64 (m1.2.2.2.2.2)]] w [(.agg [(.int .i64), (.int .i64), (.int .i64), .str, .slc, .slc])] (fun s w => R s w) = S34 m1 w R := by kernel_rfl
  exact (fn_calls okF okM Try.func34 (by kernel_rfl) (by kernel_rfl) (e.mpr h)).mono fun _ _ ⟨s, he, hR⟩ => ⟨s, he, hR⟩

def S12L1 (x16 : Slc) (R : Int → World → Prop) (I19 : (Int × Int) → World → Prop) (s17 : Int × Int) (vw18 : World) : Prop :=
  Br (decide (s17.2 < ((x16.len : Nat) : Int))) (0 ≤ s17.2 ∧ s17.2 < (x16.len : Nat) ∧ Nn x16.p fun a20 =>
    Ld vw18 (a20.add ((s17.2).toNat * 6)) (Value.int .i64) fun (x21 : Int) =>
    Ld vw18 ((a20.add ((s17.2).toNat * 6)).add 1) (Value.int .i64) fun (x22 : Int) =>
    Ld vw18 ((a20.add ((s17.2).toNat * 6)).add 2) (Value.int .i64) fun (x23 : Int) =>
    Ld vw18 ((a20.add ((s17.2).toNat * 6)).add 3) Value.string fun (x24 : ByteArray) =>
    Ld vw18 ((a20.add ((s17.2).toNat * 6)).add 4) Slc.v fun (x25 : Slc) =>
    Ld vw18 ((a20.add ((s17.2).toNat * 6)).add 5) Slc.v fun (x26 : Slc) =>
    Nw vw18 (.cells #[.int .i64 0, .int .i64 0, .int .i64 0, .string ((⟨#[]⟩ : ByteArray)), Slc.v ((⟨none, 0, 0⟩ : Slc)), Slc.v ((⟨none, 0, 0⟩ : Slc))] 31) fun vw27 =>
    St vw27 (⟨vw18.heap.size, 0, none⟩ : Addr) (.int .i64 x21) fun vw28 =>
    St vw28 ((⟨vw18.heap.size, 0, none⟩ : Addr).add 1) (.int .i64 x22) fun vw29 =>
    St vw29 ((⟨vw18.heap.size, 0, none⟩ : Addr).add 2) (.int .i64 x23) fun vw30 =>
    St vw30 ((⟨vw18.heap.size, 0, none⟩ : Addr).add 3) (.string x24) fun vw31 =>
    St vw31 ((⟨vw18.heap.size, 0, none⟩ : Addr).add 4) (Slc.v x25) fun vw32 =>
    St vw32 ((⟨vw18.heap.size, 0, none⟩ : Addr).add 5) (Slc.v x26) fun vw33 =>
    Ld vw33 (⟨vw18.heap.size, 0, none⟩ : Addr) (Value.int .i64) fun (x34 : Int) =>
    Ld vw33 ((⟨vw18.heap.size, 0, none⟩ : Addr).add 1) (Value.int .i64) fun (x35 : Int) =>
    Ld vw33 ((⟨vw18.heap.size, 0, none⟩ : Addr).add 2) (Value.int .i64) fun (x36 : Int) =>
    Ld vw33 ((⟨vw18.heap.size, 0, none⟩ : Addr).add 3) Value.string fun (x37 : ByteArray) =>
    Ld vw33 ((⟨vw18.heap.size, 0, none⟩ : Addr).add 4) Slc.v fun (x38 : Slc) =>
    Ld vw33 ((⟨vw18.heap.size, 0, none⟩ : Addr).add 5) Slc.v fun (x39 : Slc) =>
    C12 (x34, x35, x36, x37, x38, x39) vw33 fun r40 vw41 =>
      I19 (IntKind.i64.wrap (s17.1 + r40), IntKind.i64.wrap (s17.2 + 1)) vw41) (R s17.1 vw18)
def S12L2 (w : World) (x10 : Slc) (R : Int → World → Prop) (I13 : (Int × Int) → World → Prop) (s11 : Int × Int) (vw12 : World) : Prop :=
  Br (decide (s11.2 < ((x10.len : Nat) : Int))) (0 ≤ s11.2 ∧ s11.2 < (x10.len : Nat) ∧ Nn x10.p fun a14 =>
    Ld vw12 (a14.add ((s11.2).toNat * 1)) Value.string fun (x15 : ByteArray) =>
    I13 (IntKind.i64.wrap (s11.1 + (IntKind.i64.wrap (Int.tdiv (((x15).size : Nat) : Int) 50))), IntKind.i64.wrap (s11.2 + 1)) vw12) (Ld vw12 ((⟨w.heap.size, 0, none⟩ : Addr).add 5) Slc.v fun (x16 : Slc) =>
    Lp (σ := Int × Int) (S12L1 x16 R) (s11.1, 0) vw12)
/-- foliant/foliantref05.Size -/
def S12 (o1 : Int × Int × Int × ByteArray × Slc × Slc) (w : World) (R : Int → World → Prop) : Prop :=
  Nw w (.cells #[.int .i64 (o1.1), .int .i64 (o1.2.1), .int .i64 (o1.2.2.1), .string o1.2.2.2.1, Slc.v o1.2.2.2.2.1, Slc.v o1.2.2.2.2.2] 31) fun vw2 =>
  Ld vw2 ((⟨w.heap.size, 0, none⟩ : Addr).add 3) Value.string fun (x3 : ByteArray) =>
  Ld vw2 ((⟨w.heap.size, 0, none⟩ : Addr).add 4) Slc.v fun (x10 : Slc) =>
  Lp (σ := Int × Int) (S12L2 w x10 R) (IntKind.i64.wrap (1 + (IntKind.i64.wrap (Int.tdiv (((x3).size : Nat) : Int) 50))), 0) vw2
def pl12 : Plan := (.seq (.reg .seq) (.seq (.reg .seq) (.seq (.seq (.reg .seq) (.block (.loop [(3, (.one (.int .i64))), (16, (.one (.int .i64)))] [1, 14, 15] (.seq (.reg .seq) (.seq (.cond .leaf .leaf) (.seq (.block (.seq (.reg .seq) (.reg .seq))) (.reg .seq))))))) (.seq (.seq (.reg .seq) (.block (.loop [(3, (.one (.int .i64))), (29, (.one (.int .i64)))] [27, 28] (.seq (.reg .seq) (.seq (.cond .leaf .leaf) (.seq (.block (.seq (.reg .seq) (.reg .seq))) (.reg .seq))))))) (.seq (.reg .seq) .leaf)))))
set_option maxRecDepth 100000 in
theorem T12 (o1 : Int × Int × Int × ByteArray × Slc × Slc) (w : World) (R : Int → World → Prop) (h : S12 o1 w R) : C12 (o1.1, o1.2.1, o1.2.2.1, o1.2.2.2.1, o1.2.2.2.2.1, o1.2.2.2.2.2) w R := by
  have e : fnT Try.prog ⟨FF, MAY, (fun _ _ => False)⟩ pl12 Try.f12 [.agg #[.int .i64 (o1.1), .int .i64 (o1.2.1), .int .i64 (o1.2.2.1), .string o1.2.2.2.1, Slc.v o1.2.2.2.2.1, Slc.v o1.2.2.2.2.2]] w [(.one (.int .i64))] (fun s w => R s w) = S12 o1 w R := by kernel_rfl
  exact (fn_calls okF okM Try.func12 (by kernel_rfl) (by kernel_rfl) (e.mpr h)).mono fun _ _ ⟨s, he, hR⟩ => ⟨s, he, hR⟩

def S57L1 (a1 : Slc) (b2 : Slc) (R : Bool → World → Prop) (I5 : Int → World → Prop) (s3 : Int) (vw4 : World) : Prop :=
  Br (decide (s3 < ((a1.len : Nat) : Int))) (0 ≤ s3 ∧ s3 < (a1.len : Nat) ∧ Nn a1.p fun a6 =>
    Ld vw4.drew (a6.add ((s3).toNat * 1)) Value.string fun (x7 : ByteArray) =>
    0 ≤ s3 ∧ s3 < (b2.len : Nat) ∧ Nn b2.p fun a8 =>
    Ld vw4.drew (a8.add ((s3).toNat * 1)) Value.string fun (x9 : ByteArray) =>
    Br (!(x7.toList == x9.toList)) (R false vw4.drew) (I5 (IntKind.i64.wrap (s3 + 1)) vw4.drew)) (R true vw4)
/-- foliant/foliantref05.Texts -/
def S57 (a1 : Slc) (b2 : Slc) (w : World) (R : Bool → World → Prop) : Prop :=
  Br (((a1.len : Nat) : Int) != ((b2.len : Nat) : Int)) (R false w) (Lp (σ := Int) (S57L1 a1 b2 R) 0 w)
def pl57 : Plan := (.seq (.reg .seq) (.seq (.seq (.reg .seq) (.cond (.seq (.reg .seq) .leaf) .leaf)) (.seq (.seq (.reg .seq) (.block (.loop [(13, (.one (.int .i64)))] [0, 1, 12] (.seq (.reg .seq) (.seq (.cond .leaf .leaf) (.seq (.block (.seq (.reg .seq) (.seq (.reg .still) (.cond (.seq (.reg .seq) .leaf) .leaf)))) (.reg .seq))))))) (.seq (.reg .seq) .leaf))))
set_option maxRecDepth 100000 in
theorem T57 (a1 : Slc) (b2 : Slc) (w : World) (R : Bool → World → Prop) (h : S57 a1 b2 w R) : C57 a1 b2 w R := by
  have e : fnT Try.prog ⟨FF, MAY, (fun _ _ => False)⟩ pl57 Try.f57 [Slc.v a1, Slc.v b2] w [(.one .bool)] (fun s w => R s w) = S57 a1 b2 w R := by kernel_rfl
  exact (fn_calls okF okM Try.func57 (by kernel_rfl) (by kernel_rfl) (e.mpr h)).mono fun _ _ ⟨s, he, hR⟩ => ⟨s, he, hR⟩

def S58L1 (a1 : Slc) (b2 : Slc) (R : Bool → World → Prop) (I5 : Int → World → Prop) (s3 : Int) (vw4 : World) : Prop :=
  Br (decide (s3 < ((a1.len : Nat) : Int))) (0 ≤ s3 ∧ s3 < (a1.len : Nat) ∧ Nn a1.p fun a6 =>
    Ld vw4.drew (a6.add ((s3).toNat * 6)) (Value.int .i64) fun (x7 : Int) =>
    Ld vw4.drew ((a6.add ((s3).toNat * 6)).add 1) (Value.int .i64) fun (x8 : Int) =>
    Ld vw4.drew ((a6.add ((s3).toNat * 6)).add 2) (Value.int .i64) fun (x9 : Int) =>
    Ld vw4.drew ((a6.add ((s3).toNat * 6)).add 3) Value.string fun (x10 : ByteArray) =>
    Ld vw4.drew ((a6.add ((s3).toNat * 6)).add 4) Slc.v fun (x11 : Slc) =>
    Ld vw4.drew ((a6.add ((s3).toNat * 6)).add 5) Slc.v fun (x12 : Slc) =>
    0 ≤ s3 ∧ s3 < (b2.len : Nat) ∧ Nn b2.p fun a13 =>
    Ld vw4.drew (a13.add ((s3).toNat * 6)) (Value.int .i64) fun (x14 : Int) =>
    Ld vw4.drew ((a13.add ((s3).toNat * 6)).add 1) (Value.int .i64) fun (x15 : Int) =>
    Ld vw4.drew ((a13.add ((s3).toNat * 6)).add 2) (Value.int .i64) fun (x16 : Int) =>
    Ld vw4.drew ((a13.add ((s3).toNat * 6)).add 3) Value.string fun (x17 : ByteArray) =>
    Ld vw4.drew ((a13.add ((s3).toNat * 6)).add 4) Slc.v fun (x18 : Slc) =>
    Ld vw4.drew ((a13.add ((s3).toNat * 6)).add 5) Slc.v fun (x19 : Slc) =>
    C32 (x7, x8, x9, x10, x11, x12) (x14, x15, x16, x17, x18, x19) vw4.drew fun r20 vw21 =>
      Br (!r20) (R false vw21) (I5 (IntKind.i64.wrap (s3 + 1)) vw21)) (R true vw4)
/-- foliant/foliantref05.List -/
def S58 (a1 : Slc) (b2 : Slc) (w : World) (R : Bool → World → Prop) : Prop :=
  Br (((a1.len : Nat) : Int) != ((b2.len : Nat) : Int)) (R false w) (Lp (σ := Int) (S58L1 a1 b2 R) 0 w)
def pl58 : Plan := (.seq (.reg .seq) (.seq (.seq (.reg .seq) (.cond (.seq (.reg .seq) .leaf) .leaf)) (.seq (.seq (.reg .seq) (.block (.loop [(13, (.one (.int .i64)))] [0, 1, 12] (.seq (.reg .seq) (.seq (.cond .leaf .leaf) (.seq (.block (.seq (.reg .seq) (.seq (.reg (.tail 8)) (.cond (.seq (.reg .seq) .leaf) .leaf)))) (.reg .seq))))))) (.seq (.reg .seq) .leaf))))
set_option maxRecDepth 100000 in
theorem T58 (a1 : Slc) (b2 : Slc) (w : World) (R : Bool → World → Prop) (h : S58 a1 b2 w R) : C58 a1 b2 w R := by
  have e : fnT Try.prog ⟨FF, MAY, (fun _ _ => False)⟩ pl58 Try.f58 [Slc.v a1, Slc.v b2] w [(.one .bool)] (fun s w => R s w) = S58 a1 b2 w R := by kernel_rfl
  exact (fn_calls okF okM Try.func58 (by kernel_rfl) (by kernel_rfl) (e.mpr h)).mono fun _ _ ⟨s, he, hR⟩ => ⟨s, he, hR⟩

/-- foliant/foliantref05.Same -/
def S32 (a1 : Int × Int × Int × ByteArray × Slc × Slc) (b2 : Int × Int × Int × ByteArray × Slc × Slc) (w : World) (R : Bool → World → Prop) : Prop :=
  Nw w (.cells #[.int .i64 (a1.1), .int .i64 (a1.2.1), .int .i64 (a1.2.2.1), .string a1.2.2.2.1, Slc.v a1.2.2.2.2.1, Slc.v a1.2.2.2.2.2] 31) fun vw3 =>
  Nw vw3 (.cells #[.int .i64 (b2.1), .int .i64 (b2.2.1), .int .i64 (b2.2.2.1), .string b2.2.2.2.1, Slc.v b2.2.2.2.2.1, Slc.v b2.2.2.2.2.2] 31) fun vw4 =>
  Ld vw4 (⟨w.heap.size, 0, none⟩ : Addr) (Value.int .i64) fun (x5 : Int) =>
  Ld vw4 (⟨vw3.heap.size, 0, none⟩ : Addr) (Value.int .i64) fun (x6 : Int) =>
  Br (x5 == x6) (Ld vw4 ((⟨w.heap.size, 0, none⟩ : Addr).add 1) (Value.int .i64) fun (x7 : Int) =>
    Ld vw4 ((⟨vw3.heap.size, 0, none⟩ : Addr).add 1) (Value.int .i64) fun (x8 : Int) =>
    Br (x7 == x8) (Ld vw4 ((⟨w.heap.size, 0, none⟩ : Addr).add 2) (Value.int .i64) fun (x9 : Int) =>
      Ld vw4 ((⟨vw3.heap.size, 0, none⟩ : Addr).add 2) (Value.int .i64) fun (x10 : Int) =>
      Br (x9 == x10) (Ld vw4 ((⟨w.heap.size, 0, none⟩ : Addr).add 3) Value.string fun (x11 : ByteArray) =>
        Ld vw4 ((⟨vw3.heap.size, 0, none⟩ : Addr).add 3) Value.string fun (x12 : ByteArray) =>
        Br (x11.toList == x12.toList) (Ld vw4 ((⟨w.heap.size, 0, none⟩ : Addr).add 4) Slc.v fun (x13 : Slc) =>
          Ld vw4 ((⟨vw3.heap.size, 0, none⟩ : Addr).add 4) Slc.v fun (x14 : Slc) =>
          C57 x13 x14 vw4 fun r15 vw16 =>
            Br r15 (Ld vw16 ((⟨w.heap.size, 0, none⟩ : Addr).add 5) Slc.v fun (x17 : Slc) =>
              Ld vw16 ((⟨vw3.heap.size, 0, none⟩ : Addr).add 5) Slc.v fun (x18 : Slc) =>
              C58 x17 x18 vw16 fun r19 vw20 =>
                R r19 vw20) (R false vw16)) (R false vw4)) (R false vw4)) (R false vw4)) (R false vw4)
def pl32 : Plan := (.seq (.reg .seq) (.seq (.reg .seq) .leaf))
set_option maxRecDepth 100000 in
theorem T32 (a1 : Int × Int × Int × ByteArray × Slc × Slc) (b2 : Int × Int × Int × ByteArray × Slc × Slc) (w : World) (R : Bool → World → Prop) (h : S32 a1 b2 w R) : C32 (a1.1, a1.2.1, a1.2.2.1, a1.2.2.2.1, a1.2.2.2.2.1, a1.2.2.2.2.2) (b2.1, b2.2.1, b2.2.2.1, b2.2.2.2.1, b2.2.2.2.2.1, b2.2.2.2.2.2) w R := by
  have e : fnT Try.prog ⟨FF, MAY, (fun _ _ => False)⟩ pl32 Try.f32 [.agg #[.int .i64 (a1.1), .int .i64 (a1.2.1), .int .i64 (a1.2.2.1), .string a1.2.2.2.1, Slc.v a1.2.2.2.2.1, Slc.v a1.2.2.2.2.2], .agg #[.int .i64 (b2.1), .int .i64 (b2.2.1), .int .i64 (b2.2.2.1), .string b2.2.2.2.1, Slc.v b2.2.2.2.2.1, Slc.v b2.2.2.2.2.2]] w [(.one .bool)] (fun s w => R s w) = S32 a1 b2 w R := by kernel_rfl
  exact (fn_calls okF okM Try.func32 (by kernel_rfl) (by kernel_rfl) (e.mpr h)).mono fun _ _ ⟨s, he, hR⟩ => ⟨s, he, hR⟩

end Go.Proofs.Ytjlaijhmnlkpiaa
