/- The formulas of 22 functions of the program, written by program (gen.py); the kernel checks each. No condition. -/
import Derived.Test.YtjlaijhmnlkpiaaFn
import Derived.Test.YtjlaijhmnlkpiaaFnBit
namespace Go.Proofs.Ytjlaijhmnlkpiaa
open Sh
set_option linter.unusedVariables false
set_option maxRecDepth 100000

def C68 (h1 : Option Addr) (c2 : Int) (w : World) (R : Option Addr → World → Prop) : Prop :=
  Calls Try.prog 68 #[.pointer h1, .int .i64 c2] w fun e w' => ∃ r0 : Option Addr, e = .returned (.pointer r0) ∧ R r0 w'
theorem C68.mono {h1 : Option Addr} {c2 : Int} {w : World} {R R' : Option Addr → World → Prop} (h : C68 h1 c2 w R) (hr : ∀ r0 w', R r0 w' → R' r0 w') : C68 h1 c2 w R' :=
  Calls.mono h fun _ _ ⟨r0, he, hR⟩ => ⟨r0, he, hr _ _ hR⟩
def C91 (c1 : Int) (w : World) (R : Int → World → Prop) : Prop :=
  Calls Try.prog 91 #[.int .i64 c1] w fun e w' => ∃ r0 : Int, e = .returned (.int .i64 r0) ∧ R r0 w'
theorem C91.mono {c1 : Int} {w : World} {R R' : Int → World → Prop} (h : C91 c1 w R) (hr : ∀ r0 w', R r0 w' → R' r0 w') : C91 c1 w R' :=
  Calls.mono h fun _ _ ⟨r0, he, hR⟩ => ⟨r0, he, hr _ _ hR⟩
def C63 (l1 : Slc) (w : World) (R : Int → World → Prop) : Prop :=
  Calls Try.prog 63 #[Slc.v l1] w fun e w' => ∃ r0 : Int, e = .returned (.int .i64 r0) ∧ R r0 w'
theorem C63.mono {l1 : Slc} {w : World} {R R' : Int → World → Prop} (h : C63 l1 w R) (hr : ∀ r0 w', R r0 w' → R' r0 w') : C63 l1 w R' :=
  Calls.mono h fun _ _ ⟨r0, he, hR⟩ => ⟨r0, he, hr _ _ hR⟩
def C64 (s1 : Slc) (w : World) (R : Slc → World → Prop) : Prop :=
  Calls Try.prog 64 #[Slc.v s1] w fun e w' => ∃ r0 : Slc, e = .returned (Slc.v r0) ∧ R r0 w'
theorem C64.mono {s1 : Slc} {w : World} {R R' : Slc → World → Prop} (h : C64 s1 w R) (hr : ∀ r0 w', R r0 w' → R' r0 w') : C64 s1 w R' :=
  Calls.mono h fun _ _ ⟨r0, he, hR⟩ => ⟨r0, he, hr _ _ hR⟩
def C66 (p1 : Option Addr) (n2 : Int) (wide3 : Int) (w : World) (R : World → Prop) : Prop :=
  Calls Try.prog 66 #[.agg #[.pointer p1], .int .i64 n2, .int .i64 wide3] w fun e w' => e = .returned (.tuple #[]) ∧ R w'
theorem C66.mono {p1 : Option Addr} {n2 : Int} {wide3 : Int} {w : World} {R R' : World → Prop} (h : C66 p1 n2 wide3 w R) (hr : ∀ w', R w' → R' w') : C66 p1 n2 wide3 w R' :=
  Calls.mono h fun _ _ ⟨he, hR⟩ => ⟨he, hr _ hR⟩
def C99 (x1 : Int) (w : World) (R : Int → World → Prop) : Prop :=
  Calls Try.prog 99 #[.int .u64 x1] w fun e w' => ∃ r0 : Int, e = .returned (.int .i64 r0) ∧ R r0 w'
theorem C99.mono {x1 : Int} {w : World} {R R' : Int → World → Prop} (h : C99 x1 w R) (hr : ∀ r0 w', R r0 w' → R' r0 w') : C99 x1 w R' :=
  Calls.mono h fun _ _ ⟨r0, he, hR⟩ => ⟨r0, he, hr _ _ hR⟩
def C84 (x1 : Int) (w : World) (R : Int → World → Prop) : Prop :=
  Calls Try.prog 84 #[.int .u64 x1] w fun e w' => ∃ r0 : Int, e = .returned (.int .i64 r0) ∧ R r0 w'
theorem C84.mono {x1 : Int} {w : World} {R R' : Int → World → Prop} (h : C84 x1 w R) (hr : ∀ r0 w', R r0 w' → R' r0 w') : C84 x1 w R' :=
  Calls.mono h fun _ _ ⟨r0, he, hR⟩ => ⟨r0, he, hr _ _ hR⟩
def C43 (n1 : Int) (w : World) (R : Int → World → Prop) : Prop :=
  Calls Try.prog 43 #[.int .i64 n1] w fun e w' => ∃ r0 : Int, e = .returned (.int .i64 r0) ∧ R r0 w'
theorem C43.mono {n1 : Int} {w : World} {R R' : Int → World → Prop} (h : C43 n1 w R) (hr : ∀ r0 w', R r0 w' → R' r0 w') : C43 n1 w R' :=
  Calls.mono h fun _ _ ⟨r0, he, hR⟩ => ⟨r0, he, hr _ _ hR⟩
def C67 (l1 : Slc) (c2 : Int) (w : World) (R : Int → Int → World → Prop) : Prop :=
  Calls Try.prog 67 #[Slc.v l1, .int .i64 c2] w fun e w' => ∃ r0 : Int, ∃ r1 : Int, e = .returned (.tuple #[.int .i64 r0, .int .i64 r1]) ∧ R r0 r1 w'
theorem C67.mono {l1 : Slc} {c2 : Int} {w : World} {R R' : Int → Int → World → Prop} (h : C67 l1 c2 w R) (hr : ∀ r0 r1 w', R r0 r1 w' → R' r0 r1 w') : C67 l1 c2 w R' :=
  Calls.mono h fun _ _ ⟨r0, r1, he, hR⟩ => ⟨r0, r1, he, hr _ _ _ hR⟩
def C38 (l1 : Slc) (w : World) (R : ByteArray → Int → World → Prop) : Prop :=
  Calls Try.prog 38 #[Slc.v l1] w fun e w' => ∃ r0 : ByteArray, ∃ r1 : Int, e = .returned (.tuple #[.string r0, .int .i64 r1]) ∧ R r0 r1 w'
theorem C38.mono {l1 : Slc} {w : World} {R R' : ByteArray → Int → World → Prop} (h : C38 l1 w R) (hr : ∀ r0 r1 w', R r0 r1 w' → R' r0 r1 w') : C38 l1 w R' :=
  Calls.mono h fun _ _ ⟨r0, r1, he, hR⟩ => ⟨r0, r1, he, hr _ _ _ hR⟩
def C44 (n1 : Int) (w : World) (R : Int → World → Prop) : Prop :=
  Calls Try.prog 44 #[.int .i64 n1] w fun e w' => ∃ r0 : Int, e = .returned (.int .i64 r0) ∧ R r0 w'
theorem C44.mono {n1 : Int} {w : World} {R R' : Int → World → Prop} (h : C44 n1 w R) (hr : ∀ r0 w', R r0 w' → R' r0 w') : C44 n1 w R' :=
  Calls.mono h fun _ _ ⟨r0, he, hR⟩ => ⟨r0, he, hr _ _ hR⟩
def C71 (l1 : Slc) (w : World) (R : Int → World → Prop) : Prop :=
  Calls Try.prog 71 #[Slc.v l1] w fun e w' => ∃ r0 : Int, e = .returned (.int .i64 r0) ∧ R r0 w'
theorem C71.mono {l1 : Slc} {w : World} {R R' : Int → World → Prop} (h : C71 l1 w R) (hr : ∀ r0 w', R r0 w' → R' r0 w') : C71 l1 w R' :=
  Calls.mono h fun _ _ ⟨r0, he, hR⟩ => ⟨r0, he, hr _ _ hR⟩
def C76 (h1 : Int × Int × Int) (k2 : Int) (w : World) (R : Int → World → Prop) : Prop :=
  Calls Try.prog 76 #[.agg #[.int .i64 (h1.1), .int .i64 (h1.2.1), .int .i64 (h1.2.2)], .int .i64 k2] w fun e w' => ∃ r0 : Int, e = .returned (.int .i64 r0) ∧ R r0 w'
theorem C76.mono {h1 : Int × Int × Int} {k2 : Int} {w : World} {R R' : Int → World → Prop} (h : C76 h1 k2 w R) (hr : ∀ r0 w', R r0 w' → R' r0 w') : C76 h1 k2 w R' :=
  Calls.mono h fun _ _ ⟨r0, he, hR⟩ => ⟨r0, he, hr _ _ hR⟩
def C74 (l1 : Slc) (k2 : Int) (w : World) (R : Int → Int → World → Prop) : Prop :=
  Calls Try.prog 74 #[Slc.v l1, .int .i64 k2] w fun e w' => ∃ r0 : Int, ∃ r1 : Int, e = .returned (.tuple #[.int .i64 r0, .int .i64 r1]) ∧ R r0 r1 w'
theorem C74.mono {l1 : Slc} {k2 : Int} {w : World} {R R' : Int → Int → World → Prop} (h : C74 l1 k2 w R) (hr : ∀ r0 r1 w', R r0 r1 w' → R' r0 r1 w') : C74 l1 k2 w R' :=
  Calls.mono h fun _ _ ⟨r0, r1, he, hR⟩ => ⟨r0, r1, he, hr _ _ _ hR⟩
def C39 (l1 : Slc) (w : World) (R : ByteArray → Int → World → Prop) : Prop :=
  Calls Try.prog 39 #[Slc.v l1] w fun e w' => ∃ r0 : ByteArray, ∃ r1 : Int, e = .returned (.tuple #[.string r0, .int .i64 r1]) ∧ R r0 r1 w'
theorem C39.mono {l1 : Slc} {w : World} {R R' : ByteArray → Int → World → Prop} (h : C39 l1 w R) (hr : ∀ r0 r1 w', R r0 r1 w' → R' r0 r1 w') : C39 l1 w R' :=
  Calls.mono h fun _ _ ⟨r0, r1, he, hR⟩ => ⟨r0, r1, he, hr _ _ _ hR⟩
def CD78 (c1 : Addr) (c2 : Addr) (u : Option Value) (w : World) (R : World → Prop) : Prop := CallD Try.prog 78 #[.pointer (some c1), .pointer (some c2)] u w R
theorem CD78.mono {c1 : Addr} {c2 : Addr} {u : Option Value} {w : World} {R R' : World → Prop} (h : CD78 c1 c2 u w R) (hr : ∀ w', R w' → R' w') : CD78 c1 c2 u w R' :=
  CallsD.mono h fun _ _ _ ⟨h1, h2, h3⟩ => ⟨h1, h2, hr _ h3⟩
def C95 (ve1 : Option Addr) (wide2 : Int) (most3 : Int) (w : World) (R : Int → World → Prop) (PR : Value → World → Prop) : Prop :=
  Calls Try.prog 95 #[.agg #[.pointer ve1], .int .i64 wide2, .int .i64 most3] w fun e w' => (∃ r0 : Int, e = .returned (.int .i64 r0) ∧ R r0 w') ∨ ∃ v, e = .panicked (onePanic v) ∧ PR v w'
theorem C95.mono {ve1 : Option Addr} {wide2 : Int} {most3 : Int} {w : World} {R R' : Int → World → Prop} {PR PR' : Value → World → Prop} (h : C95 ve1 wide2 most3 w R PR) (hr : ∀ r0 w', R r0 w' → R' r0 w') (hp : ∀ v w', PR v w' → PR' v w') : C95 ve1 wide2 most3 w R' PR' :=
  Calls.mono h fun _ _ he => he.elim (fun ⟨r0, he, hR⟩ => .inl ⟨r0, he, hr _ _ hR⟩) fun ⟨v, he, hP⟩ => .inr ⟨v, he, hp _ _ hP⟩
def C80 (ve1 : Option Addr) (w : World) (R : Slc → World → Prop) (PR : Value → World → Prop) : Prop :=
  Calls Try.prog 80 #[.agg #[.pointer ve1]] w fun e w' => (∃ r0 : Slc, e = .returned (Slc.v r0) ∧ R r0 w') ∨ ∃ v, e = .panicked (onePanic v) ∧ PR v w'
theorem C80.mono {ve1 : Option Addr} {w : World} {R R' : Slc → World → Prop} {PR PR' : Value → World → Prop} (h : C80 ve1 w R PR) (hr : ∀ r0 w', R r0 w' → R' r0 w') (hp : ∀ v w', PR v w' → PR' v w') : C80 ve1 w R' PR' :=
  Calls.mono h fun _ _ he => he.elim (fun ⟨r0, he, hR⟩ => .inl ⟨r0, he, hr _ _ hR⟩) fun ⟨v, he, hP⟩ => .inr ⟨v, he, hp _ _ hP⟩
def C40 (s1 : ByteArray) (w : World) (R : Slc → Int → World → Prop) : Prop :=
  Calls Try.prog 40 #[.string s1] w fun e w' => ∃ r0 : Slc, ∃ r1 : Int, e = .returned (.tuple #[Slc.v r0, .int .i64 r1]) ∧ R r0 r1 w'
theorem C40.mono {s1 : ByteArray} {w : World} {R R' : Slc → Int → World → Prop} (h : C40 s1 w R) (hr : ∀ r0 r1 w', R r0 r1 w' → R' r0 r1 w') : C40 s1 w R' :=
  Calls.mono h fun _ _ ⟨r0, r1, he, hR⟩ => ⟨r0, r1, he, hr _ _ _ hR⟩
def C82 (r1 : Option Addr) (n2 : Int) (w : World) (R : Int → World → Prop) : Prop :=
  Calls Try.prog 82 #[.pointer r1, .int .i64 n2] w fun e w' => ∃ r0 : Int, e = .returned (.int .i64 r0) ∧ R r0 w'
theorem C82.mono {r1 : Option Addr} {n2 : Int} {w : World} {R R' : Int → World → Prop} (h : C82 r1 n2 w R) (hr : ∀ r0 w', R r0 w' → R' r0 w') : C82 r1 n2 w R' :=
  Calls.mono h fun _ _ ⟨r0, he, hR⟩ => ⟨r0, he, hr _ _ hR⟩
def C41 (s1 : ByteArray) (w : World) (R : Slc → Int → World → Prop) : Prop :=
  Calls Try.prog 41 #[.string s1] w fun e w' => ∃ r0 : Slc, ∃ r1 : Int, e = .returned (.tuple #[Slc.v r0, .int .i64 r1]) ∧ R r0 r1 w'
theorem C41.mono {s1 : ByteArray} {w : World} {R R' : Slc → Int → World → Prop} (h : C41 s1 w R) (hr : ∀ r0 r1 w', R r0 r1 w' → R' r0 r1 w') : C41 s1 w R' :=
  Calls.mono h fun _ _ ⟨r0, r1, he, hR⟩ => ⟨r0, r1, he, hr _ _ _ hR⟩
def C42 (a1 : Slc) (b2 : Slc) (w : World) (R : Bool → World → Prop) : Prop :=
  Calls Try.prog 42 #[Slc.v a1, Slc.v b2] w fun e w' => ∃ r0 : Bool, e = .returned (.bool r0) ∧ R r0 w'
theorem C42.mono {a1 : Slc} {b2 : Slc} {w : World} {R R' : Bool → World → Prop} (h : C42 a1 b2 w R) (hr : ∀ r0 w', R r0 w' → R' r0 w') : C42 a1 b2 w R' :=
  Calls.mono h fun _ _ ⟨r0, he, hR⟩ => ⟨r0, he, hr _ _ hR⟩

/-- foliant/hint.cell -/
def S68 (h1 : Option Addr) (c2 : Int) (w : World) (R : Option Addr → World → Prop) : Prop :=
  Br (c2 == 0) (Nn h1 fun a3 =>
    R (some a3) w) (Br (c2 == 1) (Nn h1 fun a4 =>
      R (some (a4.add 1)) w) (Nn h1 fun a5 =>
      R (some (a5.add 2)) w))
def pl68 : Plan := (.seq (.reg .seq) (.seq (.seq (.reg .seq) (.block (.seq (.reg .seq) (.cond (.seq (.reg .seq) .leaf) (.seq (.reg .seq) (.cond (.seq (.reg .seq) .leaf) .leaf)))))) (.seq (.reg .seq) .leaf)))
set_option maxRecDepth 100000 in
theorem T68 (h1 : Option Addr) (c2 : Int) (w : World) (R : Option Addr → World → Prop) (h : S68 h1 c2 w R) : C68 h1 c2 w R := by
  have e : fnT Try.prog ⟨FF, MAY, (fun _ _ => False)⟩ pl68 Try.f68 [.pointer h1, .int .i64 c2] w [(.one .ptr)] (fun s w => R s w) = S68 h1 c2 w R := by kernel_rfl
  exact (fn_calls okF okM Try.func68 (by kernel_rfl) (by kernel_rfl) (e.mpr h)).mono fun _ _ ⟨s, he, hR⟩ => ⟨s, he, hR⟩

/-- foliant/hint.most -/
def S91 (c1 : Int) (w : World) (R : Int → World → Prop) : Prop :=
  Br (c1 == 0) (R 8191 w) (R 1048576 w)
def pl91 : Plan := (.seq (.reg .seq) (.seq (.seq (.reg .seq) (.cond (.seq (.reg .seq) .leaf) .leaf)) (.seq (.reg .seq) .leaf)))
set_option maxRecDepth 100000 in
theorem T91 (c1 : Int) (w : World) (R : Int → World → Prop) (h : S91 c1 w R) : C91 c1 w R := by
  have e : fnT Try.prog ⟨FF, MAY, (fun _ _ => False)⟩ pl91 Try.f91 [.int .i64 c1] w [(.one (.int .i64))] (fun s w => R s w) = S91 c1 w R := by kernel_rfl
  exact (fn_calls okF okM Try.func91 (by kernel_rfl) (by kernel_rfl) (e.mpr h)).mono fun _ _ ⟨s, he, hR⟩ => ⟨s, he, hR⟩

def S63L1 (l1 : Slc) (s2 : Int) (I4 : Int → World → Prop) (R : Int → World → Prop) (I7 : Int → World → Prop) (s5 : Int) (vw6 : World) : Prop :=
  Br (decide (s5 < 3)) (0 ≤ s2 ∧ s2 < (l1.len : Nat) ∧ Nn l1.p fun a8 =>
    C68 (some (a8.add ((s2).toNat * 3))) s5 vw6 fun r9 vw10 =>
      Nn r9 fun a11 =>
      Ld vw10 a11 (Value.int .i64) fun (x12 : Int) =>
      Br (decide (x12 < 0)) (R 2 vw10) (C91 s5 vw10 fun r13 vw14 =>
          Br (decide (x12 > r13)) (R 2 vw14) (I7 (IntKind.i64.wrap (s5 + 1)) vw14))) (I4 (IntKind.i64.wrap (s2 + 1)) vw6)
def S63L2 (l1 : Slc) (R : Int → World → Prop) (I4 : Int → World → Prop) (s2 : Int) (vw3 : World) : Prop :=
  Br (decide (s2 < ((l1.len : Nat) : Int))) (Lp (σ := Int) (S63L1 l1 s2 I4 R) 0 vw3) (R 0 vw3)
/-- foliant/hint.check -/
def S63 (l1 : Slc) (w : World) (R : Int → World → Prop) : Prop :=
  Br (((l1.len : Nat) : Int) == 0) (R 1 w) (Br (decide (((l1.len : Nat) : Int) > 2048)) (R 6 w) (Lp (σ := Int) (S63L2 l1 R) 0 w))
def pl63 : Plan := (.seq (.reg .seq) (.seq (.block (.seq (.reg .seq) (.cond (.seq (.reg .seq) .leaf) (.seq (.reg .seq) (.cond (.seq (.reg .seq) .leaf) .leaf))))) (.seq (.seq (.reg .seq) (.block (.loop [(16, (.one (.int .i64)))] [0, 15] (.seq (.reg .seq) (.seq (.cond .leaf .leaf) (.seq (.block (.seq (.reg .seq) (.seq (.reg .seq) (.block (.loop [(19, (.one (.int .i64)))] [0, 3, 15, 16] (.seq (.reg .seq) (.seq (.cond .leaf .leaf) (.seq (.block (.seq (.reg .seq) (.seq (.reg .seq) (.seq (.reg .seq) (.cond (.seq (.reg .seq) .leaf) .leaf))))) (.reg .seq))))))))) (.reg .seq))))))) (.seq (.reg .seq) .leaf))))
set_option maxRecDepth 100000 in
theorem T63 (l1 : Slc) (w : World) (R : Int → World → Prop) (h : S63 l1 w R) : C63 l1 w R := by
  have e : fnT Try.prog ⟨FF, MAY, (fun _ _ => False)⟩ pl63 Try.f63 [Slc.v l1] w [(.one (.int .i64))] (fun s w => R s w) = S63 l1 w R := by kernel_rfl
  exact (fn_calls okF okM Try.func63 (by kernel_rfl) (by kernel_rfl) (e.mpr h)).mono fun _ _ ⟨s, he, hR⟩ => ⟨s, he, hR⟩

/-- slices.Clone[[]foliant/api.Hint,foliant/api.Hint] -/
def S64 (s1 : Slc) (w : World) (R : Slc → World → Prop) : Prop :=
  Br s1.p.isNone (R (⟨none, 0, 0⟩ : Slc) w) (Nw w (.cells #[] 70) fun vw2 =>
    Rn Try.prog (Builtin.append_ #[59, 59] 59 #[Slc.v ((⟨some ⟨w.heap.size, 0, none⟩, 0, 0⟩ : Slc)), Slc.v s1]) vw2 Slc.v fun (x3 : Slc) vw4 =>
    R x3 vw4)
def pl64 : Plan := (.seq (.reg .seq) (.seq (.seq (.reg .seq) (.cond (.seq (.reg .seq) .leaf) .leaf)) (.seq (.reg .seq) .leaf)))
set_option maxRecDepth 100000 in
theorem T64 (s1 : Slc) (w : World) (R : Slc → World → Prop) (h : S64 s1 w R) : C64 s1 w R := by
  have e : fnT Try.prog ⟨FF, MAY, (fun _ _ => False)⟩ pl64 Try.f64 [Slc.v s1] w [(.one .slc)] (fun s w => R s w) = S64 s1 w R := by kernel_rfl
  exact (fn_calls okF okM Try.func64 (by kernel_rfl) (by kernel_rfl) (e.mpr h)).mono fun _ _ ⟨s, he, hR⟩ => ⟨s, he, hR⟩

/-- (foliant/hint.pen).num -/
def S66 (p1 : Option Addr) (n2 : Int) (wide3 : Int) (w : World) (R : World → Prop) : Prop :=
  Nw w (.cells #[.pointer p1] 96) fun vw4 =>
  Br (decide (wide3 > 24)) (Ld vw4 (⟨w.heap.size, 0, none⟩ : Addr) Value.pointer fun (x5 : Option Addr) =>
    C66 x5 (Int.fdiv n2 (2 ^ 16)) (IntKind.i64.wrap (wide3 - 16)) vw4 fun vw6 =>
      Ld vw6 (⟨w.heap.size, 0, none⟩ : Addr) Value.pointer fun (x7 : Option Addr) =>
      C92 x7 (iand .i64 n2 65535) 16 vw6 fun r8 vw9 =>
        R vw9) (Ld vw4 (⟨w.heap.size, 0, none⟩ : Addr) Value.pointer fun (x10 : Option Addr) =>
    C92 x10 n2 wide3 vw4 fun r11 vw12 =>
      R vw12)
def pl66 : Plan := (.seq (.reg .seq) (.seq (.seq (.reg .seq) (.cond (.seq (.reg .seq) (.reg .seq)) .leaf)) (.reg .seq)))
set_option maxRecDepth 100000 in
theorem T66 (p1 : Option Addr) (n2 : Int) (wide3 : Int) (w : World) (R : World → Prop) (h : S66 p1 n2 wide3 w R) : C66 p1 n2 wide3 w R := by
  have e : fnT Try.prog ⟨FF, MAY, (fun _ _ => False)⟩ pl66 Try.f66 [.agg #[.pointer p1], .int .i64 n2, .int .i64 wide3] w [] (fun _ w => R w) = S66 p1 n2 wide3 w R := by kernel_rfl
  exact (fn_calls okF okM Try.func66 (by kernel_rfl) (by kernel_rfl) (e.mpr h)).mono fun _ _ ⟨_, he, hR⟩ => ⟨he, hR⟩

def S99J1 (R : Int → World → Prop) (s2 : Int × Int) (vw3 : World) : Prop :=
  Br (decide (s2.1 ≥ 65536)) (Br (decide ((Int.fdiv s2.1 (2 ^ 16)) ≥ 256)) (0 ≤ (IntKind.u8.wrap (Int.fdiv (Int.fdiv s2.1 (2 ^ 16)) (2 ^ 8))) ∧ (IntKind.u8.wrap (Int.fdiv (Int.fdiv s2.1 (2 ^ 16)) (2 ^ 8))) < (((⟨#[0, 1, 2, 2, 3, 3, 3, 3, 4, 4, 4, 4, 4, 4, 4, 4, 5, 5, 5, 5, 5, 5, 5, 5, 5, 5, 5, 5, 5, 5, 5, 5, 6, 6, 6, 6, 6, 6, 6, 6, 6, 6, 6, 6, 6, 6, 6, 6, 6, 6, 6, 6, 6, 6, 6, 6, 6, 6, 6, 6, 6, 6, 6, 6, 7, 7, 7, 7, 7, 7, 7, 7, 7, 7, 7, 7, 7, 7, 7, 7, 7, 7, 7, 7, 7, 7, 7, 7, 7, 7, 7, 7, 7, 7, 7, 7, 7, 7, 7, 7, 7, 7, 7, 7, 7, 7, 7, 7, 7, 7, 7, 7, 7, 7, 7, 7, 7, 7, 7, 7, 7, 7, 7, 7, 7, 7, 7, 7, 8, 8, 8, 8, 8, 8, 8, 8, 8, 8, 8, 8, 8, 8, 8, 8, 8, 8, 8, 8, 8, 8, 8, 8, 8, 8, 8, 8, 8, 8, 8, 8, 8, 8, 8, 8, 8, 8, 8, 8, 8, 8, 8, 8, 8, 8, 8, 8, 8, 8, 8, 8, 8, 8, 8, 8, 8, 8, 8, 8, 8, 8, 8, 8, 8, 8, 8, 8, 8, 8, 8, 8, 8, 8, 8, 8, 8, 8, 8, 8, 8, 8, 8, 8, 8, 8, 8, 8, 8, 8, 8, 8, 8, 8, 8, 8, 8, 8, 8, 8, 8, 8, 8, 8, 8, 8, 8, 8, 8, 8, 8, 8, 8, 8, 8, 8, 8, 8, 8, 8, 8, 8, 8, 8, 8, 8, 8, 8]⟩ : ByteArray)).size : Nat) ∧ Lt (bAt (⟨#[0, 1, 2, 2, 3, 3, 3, 3, 4, 4, 4, 4, 4, 4, 4, 4, 5, 5, 5, 5, 5, 5, 5, 5, 5, 5, 5, 5, 5, 5, 5, 5, 6, 6, 6, 6, 6, 6, 6, 6, 6, 6, 6, 6, 6, 6, 6, 6, 6, 6, 6, 6, 6, 6, 6, 6, 6, 6, 6, 6, 6, 6, 6, 6, 7, 7, 7, 7, 7, 7, 7, 7, 7, 7, 7, 7, 7, 7, 7, 7, 7, 7, 7, 7, 7, 7, 7, 7, 7, 7, 7, 7, 7, 7, 7, 7, 7, 7, 7, 7, 7, 7, 7, 7, 7, 7, 7, 7, 7, 7, 7, 7, 7, 7, 7, 7, 7, 7, 7, 7, 7, 7, 7, 7, 7, 7, 7, 7, 8, 8, 8, 8, 8, 8, 8, 8, 8, 8, 8, 8, 8, 8, 8, 8, 8, 8, 8, 8, 8, 8, 8, 8, 8, 8, 8, 8, 8, 8, 8, 8, 8, 8, 8, 8, 8, 8, 8, 8, 8, 8, 8, 8, 8, 8, 8, 8, 8, 8, 8, 8, 8, 8, 8, 8, 8, 8, 8, 8, 8, 8, 8, 8, 8, 8, 8, 8, 8, 8, 8, 8, 8, 8, 8, 8, 8, 8, 8, 8, 8, 8, 8, 8, 8, 8, 8, 8, 8, 8, 8, 8, 8, 8, 8, 8, 8, 8, 8, 8, 8, 8, 8, 8, 8, 8, 8, 8, 8, 8, 8, 8, 8, 8, 8, 8, 8, 8, 8, 8, 8, 8, 8, 8, 8, 8, 8, 8]⟩ : ByteArray) (IntKind.u8.wrap (Int.fdiv (Int.fdiv s2.1 (2 ^ 16)) (2 ^ 8)))) fun (x4 : Int) =>
      Lt (IntKind.i64.wrap ((IntKind.i64.wrap ((IntKind.i64.wrap (s2.2 + 16)) + 8)) + (IntKind.i64.wrap x4))) fun (x5 : Int) =>
      R x5 vw3) (0 ≤ (IntKind.u8.wrap (Int.fdiv s2.1 (2 ^ 16))) ∧ (IntKind.u8.wrap (Int.fdiv s2.1 (2 ^ 16))) < (((⟨#[0, 1, 2, 2, 3, 3, 3, 3, 4, 4, 4, 4, 4, 4, 4, 4, 5, 5, 5, 5, 5, 5, 5, 5, 5, 5, 5, 5, 5, 5, 5, 5, 6, 6, 6, 6, 6, 6, 6, 6, 6, 6, 6, 6, 6, 6, 6, 6, 6, 6, 6, 6, 6, 6, 6, 6, 6, 6, 6, 6, 6, 6, 6, 6, 7, 7, 7, 7, 7, 7, 7, 7, 7, 7, 7, 7, 7, 7, 7, 7, 7, 7, 7, 7, 7, 7, 7, 7, 7, 7, 7, 7, 7, 7, 7, 7, 7, 7, 7, 7, 7, 7, 7, 7, 7, 7, 7, 7, 7, 7, 7, 7, 7, 7, 7, 7, 7, 7, 7, 7, 7, 7, 7, 7, 7, 7, 7, 7, 8, 8, 8, 8, 8, 8, 8, 8, 8, 8, 8, 8, 8, 8, 8, 8, 8, 8, 8, 8, 8, 8, 8, 8, 8, 8, 8, 8, 8, 8, 8, 8, 8, 8, 8, 8, 8, 8, 8, 8, 8, 8, 8, 8, 8, 8, 8, 8, 8, 8, 8, 8, 8, 8, 8, 8, 8, 8, 8, 8, 8, 8, 8, 8, 8, 8, 8, 8, 8, 8, 8, 8, 8, 8, 8, 8, 8, 8, 8, 8, 8, 8, 8, 8, 8, 8, 8, 8, 8, 8, 8, 8, 8, 8, 8, 8, 8, 8, 8, 8, 8, 8, 8, 8, 8, 8, 8, 8, 8, 8, 8, 8, 8, 8, 8, 8, 8, 8, 8, 8, 8, 8, 8, 8, 8, 8, 8, 8]⟩ : ByteArray)).size : Nat) ∧ Lt (bAt (⟨#[0, 1, 2, 2, 3, 3, 3, 3, 4, 4, 4, 4, 4, 4, 4, 4, 5, 5, 5, 5, 5, 5, 5, 5, 5, 5, 5, 5, 5, 5, 5, 5, 6, 6, 6, 6, 6, 6, 6, 6, 6, 6, 6, 6, 6, 6, 6, 6, 6, 6, 6, 6, 6, 6, 6, 6, 6, 6, 6, 6, 6, 6, 6, 6, 7, 7, 7, 7, 7, 7, 7, 7, 7, 7, 7, 7, 7, 7, 7, 7, 7, 7, 7, 7, 7, 7, 7, 7, 7, 7, 7, 7, 7, 7, 7, 7, 7, 7, 7, 7, 7, 7, 7, 7, 7, 7, 7, 7, 7, 7, 7, 7, 7, 7, 7, 7, 7, 7, 7, 7, 7, 7, 7, 7, 7, 7, 7, 7, 8, 8, 8, 8, 8, 8, 8, 8, 8, 8, 8, 8, 8, 8, 8, 8, 8, 8, 8, 8, 8, 8, 8, 8, 8, 8, 8, 8, 8, 8, 8, 8, 8, 8, 8, 8, 8, 8, 8, 8, 8, 8, 8, 8, 8, 8, 8, 8, 8, 8, 8, 8, 8, 8, 8, 8, 8, 8, 8, 8, 8, 8, 8, 8, 8, 8, 8, 8, 8, 8, 8, 8, 8, 8, 8, 8, 8, 8, 8, 8, 8, 8, 8, 8, 8, 8, 8, 8, 8, 8, 8, 8, 8, 8, 8, 8, 8, 8, 8, 8, 8, 8, 8, 8, 8, 8, 8, 8, 8, 8, 8, 8, 8, 8, 8, 8, 8, 8, 8, 8, 8, 8, 8, 8, 8, 8, 8, 8]⟩ : ByteArray) (IntKind.u8.wrap (Int.fdiv s2.1 (2 ^ 16)))) fun (x6 : Int) =>
      R (IntKind.i64.wrap ((IntKind.i64.wrap (s2.2 + 16)) + (IntKind.i64.wrap x6))) vw3)) (Br (decide (s2.1 ≥ 256)) (0 ≤ (IntKind.u8.wrap (Int.fdiv s2.1 (2 ^ 8))) ∧ (IntKind.u8.wrap (Int.fdiv s2.1 (2 ^ 8))) < (((⟨#[0, 1, 2, 2, 3, 3, 3, 3, 4, 4, 4, 4, 4, 4, 4, 4, 5, 5, 5, 5, 5, 5, 5, 5, 5, 5, 5, 5, 5, 5, 5, 5, 6, 6, 6, 6, 6, 6, 6, 6, 6, 6, 6, 6, 6, 6, 6, 6, 6, 6, 6, 6, 6, 6, 6, 6, 6, 6, 6, 6, 6, 6, 6, 6, 7, 7, 7, 7, 7, 7, 7, 7, 7, 7, 7, 7, 7, 7, 7, 7, 7, 7, 7, 7, 7, 7, 7, 7, 7, 7, 7, 7, 7, 7, 7, 7, 7, 7, 7, 7, 7, 7, 7, 7, 7, 7, 7, 7, 7, 7, 7, 7, 7, 7, 7, 7, 7, 7, 7, 7, 7, 7, 7, 7, 7, 7, 7, 7, 8, 8, 8, 8, 8, 8, 8, 8, 8, 8, 8, 8, 8, 8, 8, 8, 8, 8, 8, 8, 8, 8, 8, 8, 8, 8, 8, 8, 8, 8, 8, 8, 8, 8, 8, 8, 8, 8, 8, 8, 8, 8, 8, 8, 8, 8, 8, 8, 8, 8, 8, 8, 8, 8, 8, 8, 8, 8, 8, 8, 8, 8, 8, 8, 8, 8, 8, 8, 8, 8, 8, 8, 8, 8, 8, 8, 8, 8, 8, 8, 8, 8, 8, 8, 8, 8, 8, 8, 8, 8, 8, 8, 8, 8, 8, 8, 8, 8, 8, 8, 8, 8, 8, 8, 8, 8, 8, 8, 8, 8, 8, 8, 8, 8, 8, 8, 8, 8, 8, 8, 8, 8, 8, 8, 8, 8, 8, 8]⟩ : ByteArray)).size : Nat) ∧ Lt (bAt (⟨#[0, 1, 2, 2, 3, 3, 3, 3, 4, 4, 4, 4, 4, 4, 4, 4, 5, 5, 5, 5, 5, 5, 5, 5, 5, 5, 5, 5, 5, 5, 5, 5, 6, 6, 6, 6, 6, 6, 6, 6, 6, 6, 6, 6, 6, 6, 6, 6, 6, 6, 6, 6, 6, 6, 6, 6, 6, 6, 6, 6, 6, 6, 6, 6, 7, 7, 7, 7, 7, 7, 7, 7, 7, 7, 7, 7, 7, 7, 7, 7, 7, 7, 7, 7, 7, 7, 7, 7, 7, 7, 7, 7, 7, 7, 7, 7, 7, 7, 7, 7, 7, 7, 7, 7, 7, 7, 7, 7, 7, 7, 7, 7, 7, 7, 7, 7, 7, 7, 7, 7, 7, 7, 7, 7, 7, 7, 7, 7, 8, 8, 8, 8, 8, 8, 8, 8, 8, 8, 8, 8, 8, 8, 8, 8, 8, 8, 8, 8, 8, 8, 8, 8, 8, 8, 8, 8, 8, 8, 8, 8, 8, 8, 8, 8, 8, 8, 8, 8, 8, 8, 8, 8, 8, 8, 8, 8, 8, 8, 8, 8, 8, 8, 8, 8, 8, 8, 8, 8, 8, 8, 8, 8, 8, 8, 8, 8, 8, 8, 8, 8, 8, 8, 8, 8, 8, 8, 8, 8, 8, 8, 8, 8, 8, 8, 8, 8, 8, 8, 8, 8, 8, 8, 8, 8, 8, 8, 8, 8, 8, 8, 8, 8, 8, 8, 8, 8, 8, 8, 8, 8, 8, 8, 8, 8, 8, 8, 8, 8, 8, 8, 8, 8, 8, 8, 8, 8]⟩ : ByteArray) (IntKind.u8.wrap (Int.fdiv s2.1 (2 ^ 8)))) fun (x7 : Int) =>
      R (IntKind.i64.wrap ((IntKind.i64.wrap (s2.2 + 8)) + (IntKind.i64.wrap x7))) vw3) (0 ≤ (IntKind.u8.wrap s2.1) ∧ (IntKind.u8.wrap s2.1) < (((⟨#[0, 1, 2, 2, 3, 3, 3, 3, 4, 4, 4, 4, 4, 4, 4, 4, 5, 5, 5, 5, 5, 5, 5, 5, 5, 5, 5, 5, 5, 5, 5, 5, 6, 6, 6, 6, 6, 6, 6, 6, 6, 6, 6, 6, 6, 6, 6, 6, 6, 6, 6, 6, 6, 6, 6, 6, 6, 6, 6, 6, 6, 6, 6, 6, 7, 7, 7, 7, 7, 7, 7, 7, 7, 7, 7, 7, 7, 7, 7, 7, 7, 7, 7, 7, 7, 7, 7, 7, 7, 7, 7, 7, 7, 7, 7, 7, 7, 7, 7, 7, 7, 7, 7, 7, 7, 7, 7, 7, 7, 7, 7, 7, 7, 7, 7, 7, 7, 7, 7, 7, 7, 7, 7, 7, 7, 7, 7, 7, 8, 8, 8, 8, 8, 8, 8, 8, 8, 8, 8, 8, 8, 8, 8, 8, 8, 8, 8, 8, 8, 8, 8, 8, 8, 8, 8, 8, 8, 8, 8, 8, 8, 8, 8, 8, 8, 8, 8, 8, 8, 8, 8, 8, 8, 8, 8, 8, 8, 8, 8, 8, 8, 8, 8, 8, 8, 8, 8, 8, 8, 8, 8, 8, 8, 8, 8, 8, 8, 8, 8, 8, 8, 8, 8, 8, 8, 8, 8, 8, 8, 8, 8, 8, 8, 8, 8, 8, 8, 8, 8, 8, 8, 8, 8, 8, 8, 8, 8, 8, 8, 8, 8, 8, 8, 8, 8, 8, 8, 8, 8, 8, 8, 8, 8, 8, 8, 8, 8, 8, 8, 8, 8, 8, 8, 8, 8, 8]⟩ : ByteArray)).size : Nat) ∧ Lt (bAt (⟨#[0, 1, 2, 2, 3, 3, 3, 3, 4, 4, 4, 4, 4, 4, 4, 4, 5, 5, 5, 5, 5, 5, 5, 5, 5, 5, 5, 5, 5, 5, 5, 5, 6, 6, 6, 6, 6, 6, 6, 6, 6, 6, 6, 6, 6, 6, 6, 6, 6, 6, 6, 6, 6, 6, 6, 6, 6, 6, 6, 6, 6, 6, 6, 6, 7, 7, 7, 7, 7, 7, 7, 7, 7, 7, 7, 7, 7, 7, 7, 7, 7, 7, 7, 7, 7, 7, 7, 7, 7, 7, 7, 7, 7, 7, 7, 7, 7, 7, 7, 7, 7, 7, 7, 7, 7, 7, 7, 7, 7, 7, 7, 7, 7, 7, 7, 7, 7, 7, 7, 7, 7, 7, 7, 7, 7, 7, 7, 7, 8, 8, 8, 8, 8, 8, 8, 8, 8, 8, 8, 8, 8, 8, 8, 8, 8, 8, 8, 8, 8, 8, 8, 8, 8, 8, 8, 8, 8, 8, 8, 8, 8, 8, 8, 8, 8, 8, 8, 8, 8, 8, 8, 8, 8, 8, 8, 8, 8, 8, 8, 8, 8, 8, 8, 8, 8, 8, 8, 8, 8, 8, 8, 8, 8, 8, 8, 8, 8, 8, 8, 8, 8, 8, 8, 8, 8, 8, 8, 8, 8, 8, 8, 8, 8, 8, 8, 8, 8, 8, 8, 8, 8, 8, 8, 8, 8, 8, 8, 8, 8, 8, 8, 8, 8, 8, 8, 8, 8, 8, 8, 8, 8, 8, 8, 8, 8, 8, 8, 8, 8, 8, 8, 8, 8, 8, 8, 8]⟩ : ByteArray) (IntKind.u8.wrap s2.1)) fun (x8 : Int) =>
      R (IntKind.i64.wrap (s2.2 + (IntKind.i64.wrap x8))) vw3))
/-- math/bits.Len64 -/
def S99 (x1 : Int) (w : World) (R : Int → World → Prop) : Prop :=
  Join (S99J1 R) fun (vJ9 : (Int × Int) → World → Prop) =>
    Br (decide (x1 ≥ 4294967296)) (vJ9 (Int.fdiv x1 (2 ^ 32), 32) w) (vJ9 (x1, 0) w)
def pl99 : Plan := (.seq (.reg .seq) (.join [(0, (.one (.int .u64))), (2, (.one (.int .i64)))] [] (.seq (.reg .seq) (.cond (.seq (.reg .seq) (.reg .seq)) .leaf)) (.seq (.seq (.reg .seq) (.cond (.seq (.reg .seq) (.reg .seq)) .leaf)) (.seq (.seq (.reg .seq) (.cond (.seq (.reg .seq) (.reg .seq)) .leaf)) (.seq (.reg .seq) .leaf)))))
set_option maxRecDepth 100000 in
theorem T99 (x1 : Int) (w : World) (R : Int → World → Prop) (h : S99 x1 w R) : C99 x1 w R := by
  have e : fnT Try.prog ⟨FF, MAY, (fun _ _ => False)⟩ pl99 Try.f99 [.int .u64 x1] w [(.one (.int .i64))] (fun s w => R s w) = S99 x1 w R := by kernel_rfl
  exact (fn_calls okF okM Try.func99 (by kernel_rfl) (by kernel_rfl) (e.mpr h)).mono fun _ _ ⟨s, he, hR⟩ => ⟨s, he, hR⟩

/-- math/bits.Len -/
def S84 (x1 : Int) (w : World) (R : Int → World → Prop) : Prop :=
  C99 x1 w fun r2 vw3 =>
    R r2 vw3
def pl84 : Plan := (.seq (.reg .seq) (.seq (.cond (.seq (.reg .seq) .leaf) .leaf) (.seq (.reg .seq) .leaf)))
set_option maxRecDepth 100000 in
theorem T84 (x1 : Int) (w : World) (R : Int → World → Prop) (h : S84 x1 w R) : C84 x1 w R := by
  have e : fnT Try.prog ⟨FF, MAY, (fun _ _ => False)⟩ pl84 Try.f84 [.int .u64 x1] w [(.one (.int .i64))] (fun s w => R s w) = S84 x1 w R := by kernel_rfl
  exact (fn_calls okF okM Try.func84 (by kernel_rfl) (by kernel_rfl) (e.mpr h)).mono fun _ _ ⟨s, he, hR⟩ => ⟨s, he, hR⟩

/-- foliant/hint.Need -/
def S43 (n1 : Int) (w : World) (R : Int → World → Prop) : Prop :=
  Br (decide (n1 < 0)) (R 0 w) (C84 (IntKind.u64.wrap n1) w fun r2 vw3 =>
      R r2 vw3)
def pl43 : Plan := (.seq (.reg .seq) (.seq (.seq (.reg .seq) (.cond (.seq (.reg .seq) .leaf) .leaf)) (.seq (.reg .seq) .leaf)))
set_option maxRecDepth 100000 in
theorem T43 (n1 : Int) (w : World) (R : Int → World → Prop) (h : S43 n1 w R) : C43 n1 w R := by
  have e : fnT Try.prog ⟨FF, MAY, (fun _ _ => False)⟩ pl43 Try.f43 [.int .i64 n1] w [(.one (.int .i64))] (fun s w => R s w) = S43 n1 w R := by kernel_rfl
  exact (fn_calls okF okM Try.func43 (by kernel_rfl) (by kernel_rfl) (e.mpr h)).mono fun _ _ ⟨s, he, hR⟩ => ⟨s, he, hR⟩

def S67L1 (l1 : Slc) (c2 : Int) (R : Int → Int → World → Prop) (I30 : (Int × Int × Int) → World → Prop) (s28 : Int × Int × Int) (vw29 : World) : Prop :=
  Br (decide (s28.2.2 < ((l1.len : Nat) : Int))) (0 ≤ s28.2.2 ∧ s28.2.2 < (l1.len : Nat) ∧ Nn l1.p fun a31 =>
    0 ≤ s28.2.2 ∧ s28.2.2 < (l1.len : Nat) ∧ Nn l1.p fun a32 =>
    C68 (some (a31.add ((s28.2.2).toNat * 3))) c2 vw29.drew fun r33 vw34 =>
      ∃ vS35 : World → Prop, vS35 vw34 ∧ Nn r33 fun a36 =>
      LdS vS35 a36 (Value.int .i64) fun (x37 : Int) =>
      C68 (some (a32.add ((s28.2.2).toNat * 3))) c2 vw34 fun r38 vw39 =>
        vS35 vw39 ∧ Nn r38 fun a40 =>
        LdS vS35 a40 (Value.int .i64) fun (x41 : Int) =>
        I30 ((if x37 < s28.1 then x37 else s28.1), (if x41 > s28.2.1 then x41 else s28.2.1), IntKind.i64.wrap (s28.2.2 + 1)) vw39) (C43 (IntKind.i64.wrap (s28.2.1 - s28.1)) vw29 fun r42 vw43 =>
      R s28.1 r42 vw43)
/-- foliant/hint.spread -/
def S67 (l1 : Slc) (c2 : Int) (w : World) (R : Int → Int → World → Prop) : Prop :=
  0 ≤ (0 : Int) ∧ (0 : Int) < (l1.len : Nat) ∧ Nn l1.p fun a3 =>
  0 ≤ (0 : Int) ∧ (0 : Int) < (l1.len : Nat) ∧ Nn l1.p fun a4 =>
  C68 (some (a3.add (((0 : Int)).toNat * 3))) c2 w.drew fun r5 vw6 =>
    ∃ vS7 : World → Prop, vS7 vw6 ∧ Nn r5 fun a8 =>
    LdS vS7 a8 (Value.int .i64) fun (x9 : Int) =>
    C68 (some (a4.add (((0 : Int)).toNat * 3))) c2 vw6 fun r10 vw11 =>
      vS7 vw11 ∧ Nn r10 fun a12 =>
      LdS vS7 a12 (Value.int .i64) fun (x13 : Int) =>
      Lp (σ := Int × Int × Int) (S67L1 l1 c2 R) (x9, x13, 0) vw11
def pl67 : Plan := (.seq (.reg .seq) (.seq (.reg (.held [3] (.take 0 (.take 1 (.take 2 (.take 6 (.take 7 (.take 8 (.eff 3 (some []) (.take 4 (.take 5 (.eff 9 none (.take 10 (.take 11 (.take 12 (.take 13 .done)))))))))))))))) (.seq (.seq (.reg .seq) (.block (.loop [(4, (.one (.int .i64))), (6, (.one (.int .i64))), (22, (.one (.int .i64)))] [0, 1, 21] (.seq (.reg .seq) (.seq (.cond .leaf .leaf) (.seq (.block (.seq (.reg .seq) (.reg (.held [5] (.take 0 (.take 1 (.take 2 (.take 3 (.take 4 (.take 9 (.take 10 (.take 11 (.take 12 (.take 13 (.eff 5 (some []) (.take 6 (.take 7 (.take 8 (.eff 14 none (.take 15 (.take 16 (.take 17 (.take 18 (.take 19 .done)))))))))))))))))))))))) (.reg .seq))))))) (.seq (.reg .seq) .leaf))))
set_option maxRecDepth 100000 in
theorem T67 (l1 : Slc) (c2 : Int) (w : World) (R : Int → Int → World → Prop) (h : S67 l1 c2 w R) : C67 l1 c2 w R := by
  have e : fnT Try.prog ⟨FF, MAY, (fun _ _ => False)⟩ pl67 Try.f67 [Slc.v l1, .int .i64 c2] w [(.one (.int .i64)), (.one (.int .i64))] (fun s w => R s.1 s.2 w) = S67 l1 c2 w R := by kernel_rfl
  exact (fn_calls okF okM Try.func67 (by kernel_rfl) (by kernel_rfl) (e.mpr h)).mono fun _ _ ⟨s, he, hR⟩ => ⟨s.1, s.2, he, hR⟩

def S38L1 (r6 : Slc) (vw9 : World) (s65 : Int) (I67 : Int → World → Prop) (r68 : Int) (r69 : Int) (I73 : Int → World → Prop) (s71 : Int) (vw72 : World) : Prop :=
  Br (decide (s71 < ((r6.len : Nat) : Int))) (∃ vS74 : World → Prop, vS74 vw72.drew ∧ LdS vS74 (⟨vw9.heap.size, 0, none⟩ : Addr) Value.pointer fun (x75 : Option Addr) =>
    0 ≤ s71 ∧ s71 < (r6.len : Nat) ∧ Nn r6.p fun a76 =>
    C68 (some (a76.add ((s71).toNat * 3))) s65 vw72.drew fun r77 vw78 =>
      vS74 vw78 ∧ Nn r77 fun a79 =>
      LdS vS74 a79 (Value.int .i64) fun (x80 : Int) =>
      C66 x75 (IntKind.i64.wrap (x80 - r68)) r69 vw78 fun vw81 =>
        I73 (IntKind.i64.wrap (s71 + 1)) vw81) (Ld vw72 (⟨vw9.heap.size, 0, none⟩ : Addr) Value.pointer fun (x82 : Option Addr) =>
    C69 x82 vw72 fun vw83 =>
      I67 (IntKind.i64.wrap (s65 + 1)) vw83)
def S38L2 (r6 : Slc) (vw9 : World) (R : ByteArray → Int → World → Prop) (I67 : Int → World → Prop) (s65 : Int) (vw66 : World) : Prop :=
  Br (decide (s65 < 3)) (C67 r6 s65 vw66 fun r68 r69 vw70 =>
      Lp (σ := Int) (S38L1 r6 vw9 s65 I67 r68 r69) 0 vw70) (Ld vw66 (⟨vw9.heap.size, 0, none⟩ : Addr) Value.pointer fun (x84 : Option Addr) =>
    C70 x84 vw66 fun r85 vw86 =>
      R r85 0 vw86)
def S38L3 (r6 : Slc) (vw9 : World) (R : ByteArray → Int → World → Prop) (I40 : Int → World → Prop) (s38 : Int) (vw39 : World) : Prop :=
  Br (decide (s38 < 3)) (C67 r6 s38 vw39 fun r41 r42 vw43 =>
      Ld vw43 (⟨vw9.heap.size, 0, none⟩ : Addr) Value.pointer fun (x44 : Option Addr) =>
      C66 x44 r42 16 vw43 fun vw45 =>
        I40 (IntKind.i64.wrap (s38 + 1)) vw45) (Lp (σ := Int) (S38L2 r6 vw9 R) 0 vw39)
def S38L4 (r6 : Slc) (vw9 : World) (R : ByteArray → Int → World → Prop) (I24 : Int → World → Prop) (s22 : Int) (vw23 : World) : Prop :=
  Br (decide (s22 < 3)) (C67 r6 s22 vw23 fun r25 r26 vw27 =>
      Ld vw27 (⟨vw9.heap.size, 0, none⟩ : Addr) Value.pointer fun (x28 : Option Addr) =>
      C66 x28 r25 32 vw27 fun vw29 =>
        I24 (IntKind.i64.wrap (s22 + 1)) vw29) (Lp (σ := Int) (S38L3 r6 vw9 R) 0 vw23)
/-- foliant/hint.Text -/
def S38 (l1 : Slc) (w : World) (R : ByteArray → Int → World → Prop) : Prop :=
  C63 l1 w fun r4 vw5 =>
    Br (r4 != 0) (R (⟨#[]⟩ : ByteArray) r4 vw5) (C64 l1 vw5 fun r6 vw7 =>
        C65 vw7 fun r8 vw9 =>
          Nw vw9 (.cells #[.pointer none] 96) fun vw10 =>
          St vw10 (⟨vw9.heap.size, 0, none⟩ : Addr) (.pointer r8) fun vw11 =>
          Ld vw11 (⟨vw9.heap.size, 0, none⟩ : Addr) Value.pointer fun (x12 : Option Addr) =>
          C66 x12 ((r6.len : Nat) : Int) 32 vw11 fun vw13 =>
            Lp (σ := Int) (S38L4 r6 vw9 R) 0 vw13)
def pl38 : Plan := (.seq (.reg .seq) (.seq (.seq (.reg .seq) (.seq (.reg .seq) (.cond (.seq (.reg .seq) .leaf) .leaf))) (.seq (.reg .seq) (.seq (.reg .seq) (.seq (.reg .seq) (.seq (.seq (.reg .seq) (.block (.loop [(29, (.one (.int .i64)))] [0, 5] (.seq (.reg .seq) (.seq (.cond .leaf .leaf) (.seq (.block (.seq (.reg .seq) (.seq (.reg .seq) (.reg .seq)))) (.reg .seq))))))) (.seq (.seq (.reg .seq) (.block (.loop [(42, (.one (.int .i64)))] [0, 5] (.seq (.reg .seq) (.seq (.cond .leaf .leaf) (.seq (.block (.seq (.reg .seq) (.seq (.reg .seq) (.reg .seq)))) (.reg .seq))))))) (.seq (.seq (.reg .seq) (.block (.loop [(55, (.one (.int .i64)))] [0, 5] (.seq (.reg .seq) (.seq (.cond .leaf .leaf) (.seq (.block (.seq (.reg .seq) (.seq (.reg .seq) (.seq (.seq (.reg .seq) (.block (.loop [(66, (.one (.int .i64)))] [0, 5, 12, 13, 14, 55, 65] (.seq (.reg .seq) (.seq (.cond .leaf .leaf) (.seq (.block (.seq (.reg .seq) (.reg (.held [11] (.take 0 (.take 1 (.take 2 (.take 3 (.take 4 (.take 8 (.take 10 (.eff 5 none (.take 6 (.take 7 (.take 9 (.eff 11 (some []) .done)))))))))))))))) (.reg .seq))))))) (.reg .seq))))) (.reg .seq))))))) (.seq (.reg .seq) .leaf)))))))))
set_option maxRecDepth 100000 in
theorem T38 (l1 : Slc) (w : World) (R : ByteArray → Int → World → Prop) (h : S38 l1 w R) : C38 l1 w R := by
  have e : fnT Try.prog ⟨FF, MAY, (fun _ _ => False)⟩ pl38 Try.f38 [Slc.v l1] w [(.one .str), (.one (.int .i64))] (fun s w => R s.1 s.2 w) = S38 l1 w R := by kernel_rfl
  exact (fn_calls okF okM Try.func38 (by kernel_rfl) (by kernel_rfl) (e.mpr h)).mono fun _ _ ⟨s, he, hR⟩ => ⟨s.1, s.2, he, hR⟩

def S44L1 (R : Int → World → Prop) (I4 : (Int × Int) → World → Prop) (s2 : Int × Int) (vw3 : World) : Prop :=
  Br (decide (s2.1 > 0)) (I4 (IntKind.i64.wrap (Int.tdiv s2.1 2), IntKind.i64.wrap (s2.2 + 1)) vw3) (R s2.2 vw3)
/-- foliant/foliantref32.Need -/
def S44 (n1 : Int) (w : World) (R : Int → World → Prop) : Prop :=
  Lp (σ := Int × Int) (S44L1 R) (n1, 0) w
def pl44 : Plan := (.seq (.reg .seq) (.seq (.reg .seq) (.seq (.block (.loop [(0, (.one (.int .i64))), (3, (.one (.int .i64)))] [] (.seq (.seq (.reg .seq) (.cond .leaf .leaf)) (.block (.seq (.reg .seq) (.reg .seq)))))) (.seq (.reg .seq) .leaf))))
set_option maxRecDepth 100000 in
theorem T44 (n1 : Int) (w : World) (R : Int → World → Prop) (h : S44 n1 w R) : C44 n1 w R := by
  have e : fnT Try.prog ⟨FF, MAY, (fun _ _ => False)⟩ pl44 Try.f44 [.int .i64 n1] w [(.one (.int .i64))] (fun s w => R s w) = S44 n1 w R := by kernel_rfl
  exact (fn_calls okF okM Try.func44 (by kernel_rfl) (by kernel_rfl) (e.mpr h)).mono fun _ _ ⟨s, he, hR⟩ => ⟨s, he, hR⟩

def S71L1 (l1 : Slc) (R : Int → World → Prop) (I4 : Int → World → Prop) (s2 : Int) (vw3 : World) : Prop :=
  Br (decide (s2 < ((l1.len : Nat) : Int))) (0 ≤ s2 ∧ s2 < (l1.len : Nat) ∧ Nn l1.p fun a5 =>
    Ld vw3 (a5.add ((s2).toNat * 3)) (Value.int .i64) fun (x6 : Int) =>
    Ld vw3 ((a5.add ((s2).toNat * 3)).add 1) (Value.int .i64) fun (x7 : Int) =>
    Ld vw3 ((a5.add ((s2).toNat * 3)).add 2) (Value.int .i64) fun (x8 : Int) =>
    Nw vw3 (.cells #[.int .i64 0, .int .i64 0, .int .i64 0] 70) fun vw9 =>
    St vw9 (⟨vw3.heap.size, 0, none⟩ : Addr) (.int .i64 x6) fun vw10 =>
    St vw10 ((⟨vw3.heap.size, 0, none⟩ : Addr).add 1) (.int .i64 x7) fun vw11 =>
    St vw11 ((⟨vw3.heap.size, 0, none⟩ : Addr).add 2) (.int .i64 x8) fun vw12 =>
    Ld vw12 (⟨vw3.heap.size, 0, none⟩ : Addr) (Value.int .i64) fun (x13 : Int) =>
    Br (decide (x13 < 0)) (R 2 vw12) (Ld vw12 (⟨vw3.heap.size, 0, none⟩ : Addr) (Value.int .i64) fun (x14 : Int) =>
      Br (decide (x14 > 8191)) (R 2 vw12) (Ld vw12 ((⟨vw3.heap.size, 0, none⟩ : Addr).add 1) (Value.int .i64) fun (x15 : Int) =>
        Br (decide (x15 < 0)) (R 2 vw12) (Ld vw12 ((⟨vw3.heap.size, 0, none⟩ : Addr).add 1) (Value.int .i64) fun (x16 : Int) =>
          Br (decide (x16 > 1048576)) (R 2 vw12) (Ld vw12 ((⟨vw3.heap.size, 0, none⟩ : Addr).add 2) (Value.int .i64) fun (x17 : Int) =>
            Br (decide (x17 < 0)) (R 2 vw12) (Ld vw12 ((⟨vw3.heap.size, 0, none⟩ : Addr).add 2) (Value.int .i64) fun (x18 : Int) =>
              Br (decide (x18 > 1048576)) (R 2 vw12) (I4 (IntKind.i64.wrap (s2 + 1)) vw12))))))) (R 0 vw3)
/-- foliant/foliantref32.Why -/
def S71 (l1 : Slc) (w : World) (R : Int → World → Prop) : Prop :=
  Br (((l1.len : Nat) : Int) == 0) (R 1 w) (Br (decide (((l1.len : Nat) : Int) > 2048)) (R 6 w) (Lp (σ := Int) (S71L1 l1 R) 0 w))
def pl71 : Plan := (.seq (.reg .seq) (.seq (.seq (.reg .seq) (.cond (.seq (.reg .seq) .leaf) .leaf)) (.seq (.seq (.reg .seq) (.cond (.seq (.reg .seq) .leaf) .leaf)) (.seq (.seq (.reg .seq) (.block (.loop [(13, (.one (.int .i64)))] [11, 12] (.seq (.reg .seq) (.seq (.cond .leaf .leaf) (.seq (.block (.seq (.reg .seq) (.seq (.reg .seq) (.cond (.seq (.reg .seq) .leaf) .leaf)))) (.reg .seq))))))) (.seq (.reg .seq) .leaf)))))
set_option maxRecDepth 100000 in
theorem T71 (l1 : Slc) (w : World) (R : Int → World → Prop) (h : S71 l1 w R) : C71 l1 w R := by
  have e : fnT Try.prog ⟨FF, MAY, (fun _ _ => False)⟩ pl71 Try.f71 [Slc.v l1] w [(.one (.int .i64))] (fun s w => R s w) = S71 l1 w R := by kernel_rfl
  exact (fn_calls okF okM Try.func71 (by kernel_rfl) (by kernel_rfl) (e.mpr h)).mono fun _ _ ⟨s, he, hR⟩ => ⟨s, he, hR⟩

/-- foliant/foliantref32.part -/
def S76 (h1 : Int × Int × Int) (k2 : Int) (w : World) (R : Int → World → Prop) : Prop :=
  Nw w (.cells #[.int .i64 (h1.1), .int .i64 (h1.2.1), .int .i64 (h1.2.2)] 70) fun vw3 =>
  Br (k2 == 0) (Ld vw3 (⟨w.heap.size, 0, none⟩ : Addr) (Value.int .i64) fun (x5 : Int) =>
    R x5 vw3) (Br (k2 == 1) (Ld vw3 ((⟨w.heap.size, 0, none⟩ : Addr).add 1) (Value.int .i64) fun (x6 : Int) =>
      R x6 vw3) (Ld vw3 ((⟨w.heap.size, 0, none⟩ : Addr).add 2) (Value.int .i64) fun (x7 : Int) =>
      R x7 vw3))
def pl76 : Plan := (.seq (.reg .seq) (.seq (.seq (.reg .seq) (.cond (.seq (.reg .seq) .leaf) .leaf)) (.seq (.seq (.reg .seq) (.cond (.seq (.reg .seq) .leaf) .leaf)) (.seq (.reg .seq) .leaf))))
set_option maxRecDepth 100000 in
theorem T76 (h1 : Int × Int × Int) (k2 : Int) (w : World) (R : Int → World → Prop) (h : S76 h1 k2 w R) : C76 (h1.1, h1.2.1, h1.2.2) k2 w R := by
  have e : fnT Try.prog ⟨FF, MAY, (fun _ _ => False)⟩ pl76 Try.f76 [.agg #[.int .i64 (h1.1), .int .i64 (h1.2.1), .int .i64 (h1.2.2)], .int .i64 k2] w [(.one (.int .i64))] (fun s w => R s w) = S76 h1 k2 w R := by kernel_rfl
  exact (fn_calls okF okM Try.func76 (by kernel_rfl) (by kernel_rfl) (e.mpr h)).mono fun _ _ ⟨s, he, hR⟩ => ⟨s, he, hR⟩

def S74L1 (l1 : Slc) (k2 : Int) (R : Int → Int → World → Prop) (I18 : (Int × Int × Int) → World → Prop) (s16 : Int × Int × Int) (vw17 : World) : Prop :=
  Br (decide (s16.2.2 < ((l1.len : Nat) : Int))) (0 ≤ s16.2.2 ∧ s16.2.2 < (l1.len : Nat) ∧ Nn l1.p fun a19 =>
    Ld vw17 (a19.add ((s16.2.2).toNat * 3)) (Value.int .i64) fun (x20 : Int) =>
    Ld vw17 ((a19.add ((s16.2.2).toNat * 3)).add 1) (Value.int .i64) fun (x21 : Int) =>
    Ld vw17 ((a19.add ((s16.2.2).toNat * 3)).add 2) (Value.int .i64) fun (x22 : Int) =>
    Nw vw17 (.cells #[.int .i64 0, .int .i64 0, .int .i64 0] 70) fun vw23 =>
    St vw23 (⟨vw17.heap.size, 0, none⟩ : Addr) (.int .i64 x20) fun vw24 =>
    St vw24 ((⟨vw17.heap.size, 0, none⟩ : Addr).add 1) (.int .i64 x21) fun vw25 =>
    St vw25 ((⟨vw17.heap.size, 0, none⟩ : Addr).add 2) (.int .i64 x22) fun vw26 =>
    ∃ vS27 : World → Prop, vS27 vw26.drew ∧ LdS vS27 (⟨vw17.heap.size, 0, none⟩ : Addr) (Value.int .i64) fun (x28 : Int) =>
    LdS vS27 ((⟨vw17.heap.size, 0, none⟩ : Addr).add 1) (Value.int .i64) fun (x29 : Int) =>
    LdS vS27 ((⟨vw17.heap.size, 0, none⟩ : Addr).add 2) (Value.int .i64) fun (x30 : Int) =>
    LdS vS27 (⟨vw17.heap.size, 0, none⟩ : Addr) (Value.int .i64) fun (x31 : Int) =>
    LdS vS27 ((⟨vw17.heap.size, 0, none⟩ : Addr).add 1) (Value.int .i64) fun (x32 : Int) =>
    LdS vS27 ((⟨vw17.heap.size, 0, none⟩ : Addr).add 2) (Value.int .i64) fun (x33 : Int) =>
    C76 (x28, x29, x30) k2 vw26.drew fun r34 vw35 =>
      vS27 vw35 ∧ C76 (x31, x32, x33) k2 vw35 fun r36 vw37 =>
        I18 ((if r34 < s16.1 then r34 else s16.1), (if r36 > s16.2.1 then r36 else s16.2.1), IntKind.i64.wrap (s16.2.2 + 1)) vw37) (R s16.1 s16.2.1 vw17)
/-- foliant/foliantref32.bounds -/
def S74 (l1 : Slc) (k2 : Int) (w : World) (R : Int → Int → World → Prop) : Prop :=
  ∃ vS3 : World → Prop, vS3 w.drew ∧ 0 ≤ (0 : Int) ∧ (0 : Int) < (l1.len : Nat) ∧ Nn l1.p fun a4 =>
  LdS vS3 (a4.add (((0 : Int)).toNat * 3)) (Value.int .i64) fun (x5 : Int) =>
  LdS vS3 ((a4.add (((0 : Int)).toNat * 3)).add 1) (Value.int .i64) fun (x6 : Int) =>
  LdS vS3 ((a4.add (((0 : Int)).toNat * 3)).add 2) (Value.int .i64) fun (x7 : Int) =>
  0 ≤ (0 : Int) ∧ (0 : Int) < (l1.len : Nat) ∧ Nn l1.p fun a8 =>
  LdS vS3 (a8.add (((0 : Int)).toNat * 3)) (Value.int .i64) fun (x9 : Int) =>
  LdS vS3 ((a8.add (((0 : Int)).toNat * 3)).add 1) (Value.int .i64) fun (x10 : Int) =>
  LdS vS3 ((a8.add (((0 : Int)).toNat * 3)).add 2) (Value.int .i64) fun (x11 : Int) =>
  C76 (x5, x6, x7) k2 w.drew fun r12 vw13 =>
    vS3 vw13 ∧ C76 (x9, x10, x11) k2 vw13 fun r14 vw15 =>
      Lp (σ := Int × Int × Int) (S74L1 l1 k2 R) (r12, r14, 0) vw15
def pl74 : Plan := (.seq (.reg .seq) (.seq (.reg (.held [9] (.take 0 (.take 1 (.take 2 (.take 3 (.take 5 (.take 6 (.take 7 (.take 8 (.eff 4 none (.eff 9 (some []) (.take 10 (.take 11 .done)))))))))))))) (.seq (.seq (.reg .seq) (.block (.loop [(6, (.one (.int .i64))), (7, (.one (.int .i64))), (22, (.one (.int .i64)))] [1, 20, 21] (.seq (.reg .seq) (.seq (.cond .leaf .leaf) (.seq (.block (.seq (.reg .seq) (.reg (.held [8] (.take 0 (.take 1 (.take 2 (.take 5 (.take 6 (.take 7 (.eff 3 none (.take 4 (.eff 8 (some []) (.take 9 (.take 10 (.take 11 .done)))))))))))))))) (.reg .seq))))))) (.seq (.reg .seq) .leaf))))
set_option maxRecDepth 100000 in
theorem T74 (l1 : Slc) (k2 : Int) (w : World) (R : Int → Int → World → Prop) (h : S74 l1 k2 w R) : C74 l1 k2 w R := by
  have e : fnT Try.prog ⟨FF, MAY, (fun _ _ => False)⟩ pl74 Try.f74 [Slc.v l1, .int .i64 k2] w [(.one (.int .i64)), (.one (.int .i64))] (fun s w => R s.1 s.2 w) = S74 l1 k2 w R := by kernel_rfl
  exact (fn_calls okF okM Try.func74 (by kernel_rfl) (by kernel_rfl) (e.mpr h)).mono fun _ _ ⟨s, he, hR⟩ => ⟨s.1, s.2, he, hR⟩

def S39L1 (l1 : Slc) (r6 : Option Addr) (s79 : Int) (I81 : Int → World → Prop) (r82 : Int) (r83 : Int) (I88 : Int → World → Prop) (s86 : Int) (vw87 : World) : Prop :=
  Br (decide (s86 < ((l1.len : Nat) : Int))) (0 ≤ s86 ∧ s86 < (l1.len : Nat) ∧ Nn l1.p fun a89 =>
    Ld vw87 (a89.add ((s86).toNat * 3)) (Value.int .i64) fun (x90 : Int) =>
    Ld vw87 ((a89.add ((s86).toNat * 3)).add 1) (Value.int .i64) fun (x91 : Int) =>
    Ld vw87 ((a89.add ((s86).toNat * 3)).add 2) (Value.int .i64) fun (x92 : Int) =>
    Nw vw87 (.cells #[.int .i64 0, .int .i64 0, .int .i64 0] 70) fun vw93 =>
    St vw93 (⟨vw87.heap.size, 0, none⟩ : Addr) (.int .i64 x90) fun vw94 =>
    St vw94 ((⟨vw87.heap.size, 0, none⟩ : Addr).add 1) (.int .i64 x91) fun vw95 =>
    St vw95 ((⟨vw87.heap.size, 0, none⟩ : Addr).add 2) (.int .i64 x92) fun vw96 =>
    Ld vw96 (⟨vw87.heap.size, 0, none⟩ : Addr) (Value.int .i64) fun (x97 : Int) =>
    Ld vw96 ((⟨vw87.heap.size, 0, none⟩ : Addr).add 1) (Value.int .i64) fun (x98 : Int) =>
    Ld vw96 ((⟨vw87.heap.size, 0, none⟩ : Addr).add 2) (Value.int .i64) fun (x99 : Int) =>
    C76 (x97, x98, x99) s79 vw96 fun r100 vw101 =>
      C44 (IntKind.i64.wrap (r83 - r82)) vw101 fun r102 vw103 =>
        C73 r6 (IntKind.i64.wrap (r100 - r82)) r102 vw103 fun r104 vw105 =>
          I88 (IntKind.i64.wrap (s86 + 1)) vw105) (I81 (IntKind.i64.wrap (s79 + 1)) vw87)
def S39L2 (l1 : Slc) (r6 : Option Addr) (R : ByteArray → Int → World → Prop) (I81 : Int → World → Prop) (s79 : Int) (vw80 : World) : Prop :=
  Br (decide (s79 < 3)) (C74 l1 s79 vw80 fun r82 r83 vw84 =>
      C75 r6 vw84 fun vw85 =>
        Lp (σ := Int) (S39L1 l1 r6 s79 I81 r82 r83) 0 vw85) (C75 r6 vw80 fun vw106 =>
      C77 r6 vw106 fun r107 vw108 =>
        R r107 0 vw108)
def S39L3 (l1 : Slc) (r6 : Option Addr) (R : ByteArray → Int → World → Prop) (I44 : Int → World → Prop) (s42 : Int) (vw43 : World) : Prop :=
  Br (decide (s42 < 3)) (C74 l1 s42 vw43 fun r45 r46 vw47 =>
      C44 (IntKind.i64.wrap (r46 - r45)) vw47 fun r48 vw49 =>
        C73 r6 r48 16 vw49 fun r50 vw51 =>
          I44 (IntKind.i64.wrap (s42 + 1)) vw51) (Lp (σ := Int) (S39L2 l1 r6 R) 0 vw43)
def S39L4 (l1 : Slc) (r6 : Option Addr) (R : ByteArray → Int → World → Prop) (I24 : Int → World → Prop) (s22 : Int) (vw23 : World) : Prop :=
  Br (decide (s22 < 3)) (C74 l1 s22 vw23 fun r25 r26 vw27 =>
      C73 r6 (IntKind.i64.wrap (Int.tdiv r25 65536)) 16 vw27 fun r28 vw29 =>
        C73 r6 (Int.tmod r25 65536) 16 vw29 fun r30 vw31 =>
          I24 (IntKind.i64.wrap (s22 + 1)) vw31) (Lp (σ := Int) (S39L3 l1 r6 R) 0 vw23)
/-- foliant/foliantref32.Text -/
def S39 (l1 : Slc) (w : World) (R : ByteArray → Int → World → Prop) : Prop :=
  C71 l1 w fun r4 vw5 =>
    Br (r4 != 0) (R (⟨#[]⟩ : ByteArray) r4 vw5) (C72 vw5 fun r6 vw7 =>
        C73 r6 0 16 vw7 fun r8 vw9 =>
          C73 r6 ((l1.len : Nat) : Int) 16 vw9 fun r10 vw11 =>
            Lp (σ := Int) (S39L4 l1 r6 R) 0 vw11)
def pl39 : Plan := (.seq (.reg .seq) (.seq (.seq (.reg .seq) (.seq (.reg .seq) (.cond (.seq (.reg .seq) .leaf) .leaf))) (.seq (.reg .seq) (.seq (.reg .seq) (.seq (.reg .seq) (.seq (.seq (.reg .seq) (.block (.loop [(6, (.one (.int .i64)))] [0, 5] (.seq (.seq (.reg .seq) (.cond .leaf .leaf)) (.seq (.block (.seq (.reg .seq) (.seq (.reg .seq) (.reg .seq)))) (.reg .seq)))))) (.seq (.seq (.reg .seq) (.block (.loop [(9, (.one (.int .i64)))] [0, 5] (.seq (.seq (.reg .seq) (.cond .leaf .leaf)) (.seq (.block (.seq (.reg .seq) (.reg .seq))) (.reg .seq)))))) (.seq (.seq (.reg .seq) (.block (.loop [(12, (.one (.int .i64)))] [0, 5] (.seq (.seq (.reg .seq) (.cond .leaf .leaf)) (.seq (.block (.seq (.reg .seq) (.seq (.reg .seq) (.seq (.reg .seq) (.block (.loop [(77, (.one (.int .i64)))] [0, 5, 12, 13, 14, 75, 76] (.seq (.reg .seq) (.seq (.cond .leaf .leaf) (.seq (.block (.seq (.reg .seq) (.reg .seq))) (.reg .seq)))))))))) (.reg .seq)))))) (.seq (.reg .seq) (.seq (.reg .seq) .leaf))))))))))
set_option maxRecDepth 100000 in
theorem T39 (l1 : Slc) (w : World) (R : ByteArray → Int → World → Prop) (h : S39 l1 w R) : C39 l1 w R := by
  have e : fnT Try.prog ⟨FF, MAY, (fun _ _ => False)⟩ pl39 Try.f39 [Slc.v l1] w [(.one .str), (.one (.int .i64))] (fun s w => R s.1 s.2 w) = S39 l1 w R := by kernel_rfl
  exact (fn_calls okF okM Try.func39 (by kernel_rfl) (by kernel_rfl) (e.mpr h)).mono fun _ _ ⟨s, he, hR⟩ => ⟨s.1, s.2, he, hR⟩

/-- foliant/hint.Read$1 -/
def S78_nil (c1 : Addr) (c2 : Addr) (w : World) (R : World → Prop) : Prop :=
  R w
def pl78_nil : Plan := (.block (.seq (.reg .seq) (.cond (.reg .seq) (.seq (.reg .seq) (.cond (.seq (.reg .seq) (.reg .seq)) (.seq (.reg .seq) (.reg .seq)))))))
set_option maxRecDepth 100000 in
theorem T78_nil (c1 : Addr) (c2 : Addr) (w : World) (R : World → Prop) (h : S78_nil c1 c2 w R) : CD78 c1 c2 none w R := by
  have e : fnTS Try.prog FF MAY pl78_nil Try.f78 [.pointer (some c1), .pointer (some c2)] none w R = S78_nil c1 c2 w R := by kernel_rfl
  exact fnS_calls okF okM Try.func78 (by kernel_rfl) (by kernel_rfl) (e.mpr h)

/-- foliant/hint.Read$1 -/
def S78_T109 (c1 : Addr) (c2 : Addr) (u3 : Unit) (w : World) (R : World → Prop) : Prop :=
  Nw w (.cells #[] 109) fun vw4 =>
  St vw4 c1 (Slc.v ((⟨none, 0, 0⟩ : Slc))) fun vw5 =>
  St vw5 c2 (.int .i64 32) fun vw6 =>
  R vw6
def pl78_T109 : Plan := (.block (.seq (.reg .seq) (.cond (.reg .seq) (.seq (.reg .seq) (.cond (.seq (.reg .seq) (.reg .seq)) (.seq (.reg .seq) (.reg .seq)))))))
set_option maxRecDepth 100000 in
theorem T78_T109 (c1 : Addr) (c2 : Addr) (u3 : Unit) (w : World) (R : World → Prop) (h : S78_T109 c1 c2 u3 w R) : CD78 c1 c2 (some (.iface 109 (.agg #[]))) w R := by
  have e : fnTS Try.prog FF MAY pl78_T109 Try.f78 [.pointer (some c1), .pointer (some c2)] (some (.iface 109 (.agg #[]))) w R = S78_T109 c1 c2 u3 w R := by kernel_rfl
  exact fnS_calls okF okM Try.func78 (by kernel_rfl) (by kernel_rfl) (e.mpr h)

def S95L1 (w : World) (most3 : Int) (R : Int → World → Prop) (PR : Value → World → Prop) (I15 : (Int × Int) → World → Prop) (s13 : Int × Int) (vw14 : World) : Prop :=
  Br (decide (s13.1 > 0)) (Ld vw14 (⟨w.heap.size, 0, none⟩ : Addr) Value.pointer fun (x16 : Option Addr) =>
    C107 x16 (if 16 < s13.1 then 16 else s13.1) vw14 fun r17 r18 vw19 =>
      Br (r18 != 0) (PR (.iface 109 (.agg #[])) vw19) (0 ≤ (if 16 < s13.1 then 16 else s13.1) ∧ Lt (ior .i64 (IntKind.i64.wrap (s13.2 * 2 ^ (min ((if 16 < s13.1 then 16 else s13.1)).toNat 64))) r17) fun (x20 : Int) =>
        I15 (IntKind.i64.wrap (s13.1 - (if 16 < s13.1 then 16 else s13.1)), x20) vw19)) (Br (decide (s13.2 > most3)) (PR (.iface 109 (.agg #[])) vw14) (R s13.2 vw14))
/-- (foliant/hint.eye).num -/
def S95 (ve1 : Option Addr) (wide2 : Int) (most3 : Int) (w : World) (R : Int → World → Prop) (PR : Value → World → Prop) : Prop :=
  Nw w (.cells #[.pointer ve1] 113) fun vw4 =>
  Lp (σ := Int × Int) (S95L1 w most3 R PR) (wide2, 0) vw4
def pl95 : Plan := (.seq (.reg .seq) (.seq (.reg .seq) (.seq (.block (.loop [(1, (.one (.int .i64))), (7, (.one (.int .i64)))] [2, 3] (.seq (.seq (.reg .seq) (.cond .leaf .leaf)) (.block (.seq (.reg .seq) (.seq (.reg .seq) (.seq (.seq (.reg .seq) (.cond (.reg .seq) .leaf)) (.reg .seq)))))))) (.seq (.seq (.reg .seq) (.cond (.reg .seq) .leaf)) (.seq (.reg .seq) .leaf)))))
set_option maxRecDepth 100000 in
theorem T95 (ve1 : Option Addr) (wide2 : Int) (most3 : Int) (w : World) (R : Int → World → Prop) (PR : Value → World → Prop) (h : S95 ve1 wide2 most3 w R PR) : C95 ve1 wide2 most3 w R PR := by
  have e : fnT Try.prog ⟨FF, MAY, PR⟩ pl95 Try.f95 [.agg #[.pointer ve1], .int .i64 wide2, .int .i64 most3] w [(.one (.int .i64))] (fun s w => R s w) = S95 ve1 wide2 most3 w R PR := by kernel_rfl
  exact (fn_callsP okF okM Try.func95 (by kernel_rfl) (by kernel_rfl) (e.mpr h)).mono fun _ _ he => he.elim (fun ⟨s, he, hR⟩ => .inl ⟨s, he, hR⟩) .inr

def S80L1 (w : World) (x6 : Slc) (vw7 : World) (vw8 : World) (s44 : Int) (I46 : Int → World → Prop) (PR : Value → World → Prop) (I49 : Int → World → Prop) (s47 : Int) (vw48 : World) : Prop :=
  Br (decide (s47 < ((x6.len : Nat) : Int))) (∃ vS50 : World → Prop, vS50 vw48.drew ∧ 0 ≤ s47 ∧ s47 < (x6.len : Nat) ∧ Nn x6.p fun a51 =>
    0 ≤ s44 ∧ s44 < (3 : Nat) ∧ LdS vS50 ((⟨vw7.heap.size, 0, none⟩ : Addr).add ((s44).toNat * 1)) (Value.int .i64) fun (x52 : Int) =>
    LdS vS50 (⟨w.heap.size, 0, none⟩ : Addr) Value.pointer fun (x53 : Option Addr) =>
    0 ≤ s44 ∧ s44 < (3 : Nat) ∧ LdS vS50 ((⟨vw8.heap.size, 0, none⟩ : Addr).add ((s44).toNat * 1)) (Value.int .i64) fun (x54 : Int) =>
    C68 (some (a51.add ((s47).toNat * 3))) s44 vw48.drew fun r55 vw56 =>
      vS50 vw56 ∧ C91 s44 vw56 fun r57 vw58 =>
        vS50 vw58 ∧ C95 x53 x54 r57 vw58 (fun r59 vw60 =>
          vS50 vw60 ∧ Nn r55 fun a61 =>
          St vw60 a61 (.int .i64 (IntKind.i64.wrap (x52 + r59))) fun vw62 =>
          I49 (IntKind.i64.wrap (s47 + 1)) vw62) PR) (Ld vw48 (⟨w.heap.size, 0, none⟩ : Addr) Value.pointer fun (x63 : Option Addr) =>
    C96 x63 vw48 fun vw64 =>
      I46 (IntKind.i64.wrap (s44 + 1)) vw64)
def S80L2 (w : World) (x6 : Slc) (vw7 : World) (vw8 : World) (R : Slc → World → Prop) (PR : Value → World → Prop) (I46 : Int → World → Prop) (s44 : Int) (vw45 : World) : Prop :=
  Br (decide (s44 < 3)) (Lp (σ := Int) (S80L1 w x6 vw7 vw8 s44 I46 PR) 0 vw45) (R x6 vw45)
def S80L3 (w : World) (x6 : Slc) (vw7 : World) (vw8 : World) (R : Slc → World → Prop) (PR : Value → World → Prop) (I39 : Int → World → Prop) (s37 : Int) (vw38 : World) : Prop :=
  Br (decide (s37 < 3)) (Ld vw38 (⟨w.heap.size, 0, none⟩ : Addr) Value.pointer fun (x40 : Option Addr) =>
    C95 x40 16 24 vw38 (fun r41 vw42 =>
      0 ≤ s37 ∧ s37 < (3 : Nat) ∧ St vw42 ((⟨vw8.heap.size, 0, none⟩ : Addr).add ((s37).toNat * 1)) (.int .i64 r41) fun vw43 =>
      I39 (IntKind.i64.wrap (s37 + 1)) vw43) PR) (Lp (σ := Int) (S80L2 w x6 vw7 vw8 R PR) 0 vw38)
def S80L4 (w : World) (x6 : Slc) (vw7 : World) (vw8 : World) (R : Slc → World → Prop) (PR : Value → World → Prop) (I22 : Int → World → Prop) (s20 : Int) (vw21 : World) : Prop :=
  Br (decide (s20 < 3)) (∃ vS23 : World → Prop, vS23 vw21.drew ∧ LdS vS23 (⟨w.heap.size, 0, none⟩ : Addr) Value.pointer fun (x24 : Option Addr) =>
    C91 s20 vw21.drew fun r25 vw26 =>
      vS23 vw26 ∧ C95 x24 32 r25 vw26 (fun r27 vw28 =>
        0 ≤ s20 ∧ s20 < (3 : Nat) ∧ St vw28 ((⟨vw7.heap.size, 0, none⟩ : Addr).add ((s20).toNat * 1)) (.int .i64 r27) fun vw29 =>
        I22 (IntKind.i64.wrap (s20 + 1)) vw29) PR) (Lp (σ := Int) (S80L3 w x6 vw7 vw8 R PR) 0 vw21)
/-- (foliant/hint.eye).read -/
def S80 (ve1 : Option Addr) (w : World) (R : Slc → World → Prop) (PR : Value → World → Prop) : Prop :=
  Nw w (.cells #[.pointer ve1] 113) fun vw2 =>
  Ld vw2 (⟨w.heap.size, 0, none⟩ : Addr) Value.pointer fun (x3 : Option Addr) =>
  C95 x3 32 2048 vw2 (fun r4 vw5 =>
    Rn Try.prog (Instr.makeSlice 59 (.int .i64 r4) (.int .i64 r4)) vw5 Slc.v fun (x6 : Slc) vw7 =>
    Nw vw7 (.cells #[.int .i64 0, .int .i64 0, .int .i64 0] 138) fun vw8 =>
    Nw vw8 (.cells #[.int .i64 0, .int .i64 0, .int .i64 0] 138) fun vw9 =>
    Lp (σ := Int) (S80L4 w x6 vw7 vw8 R PR) 0 vw9) PR
def pl80 : Plan := (.seq (.reg .seq) (.seq (.reg .seq) (.seq (.reg .seq) (.seq (.seq (.reg .seq) (.block (.loop [(13, (.one (.int .i64)))] [1, 3, 4, 5] (.seq (.reg .seq) (.seq (.cond .leaf .leaf) (.seq (.block (.seq (.reg .seq) (.reg (.held [4] (.take 0 (.take 1 (.take 2 (.eff 3 none (.eff 4 (some [6]) (.take 5 (.eff 6 (some []) .done))))))))))) (.reg .seq))))))) (.seq (.seq (.reg .seq) (.block (.loop [(23, (.one (.int .i64)))] [1, 3, 4, 5] (.seq (.reg .seq) (.seq (.cond .leaf .leaf) (.seq (.block (.seq (.reg .seq) (.reg .seq))) (.reg .seq))))))) (.seq (.seq (.reg .seq) (.block (.loop [(31, (.one (.int .i64)))] [1, 3, 4, 5] (.seq (.reg .seq) (.seq (.cond .leaf .leaf) (.seq (.block (.seq (.reg .seq) (.seq (.seq (.reg .seq) (.block (.loop [(36, (.one (.int .i64)))] [1, 3, 4, 5, 8, 31, 35] (.seq (.reg .seq) (.seq (.cond .leaf .leaf) (.seq (.block (.seq (.reg .seq) (.reg (.held [17] (.take 0 (.take 1 (.take 2 (.take 3 (.take 5 (.take 6 (.take 7 (.take 8 (.take 9 (.take 10 (.take 11 (.take 12 (.eff 4 none (.eff 13 none (.eff 14 none (.take 15 (.take 16 (.eff 17 (some []) .done)))))))))))))))))))))) (.reg .seq))))))) (.reg .seq)))) (.reg .seq))))))) (.seq (.reg .seq) .leaf)))))))
set_option maxRecDepth 100000 in
theorem T80 (ve1 : Option Addr) (w : World) (R : Slc → World → Prop) (PR : Value → World → Prop) (h : S80 ve1 w R PR) : C80 ve1 w R PR := by
  have e : fnT Try.prog ⟨FF, MAY, PR⟩ pl80 Try.f80 [.agg #[.pointer ve1]] w [(.one .slc)] (fun s w => R s w) = S80 ve1 w R PR := by kernel_rfl
  exact (fn_callsP okF okM Try.func80 (by kernel_rfl) (by kernel_rfl) (e.mpr h)).mono fun _ _ he => he.elim (fun ⟨s, he, hR⟩ => .inl ⟨s, he, hR⟩) .inr

def S40P (w : World) (vw2 : World) (R : Slc → Int → World → Prop) (x5 : Value) (vw4 : World) : Prop :=
  CD78 (⟨w.heap.size, 0, none⟩ : Addr) (⟨vw2.heap.size, 0, none⟩ : Addr) (some x5) vw4 fun vw6 =>
    Ld vw6 (⟨w.heap.size, 0, none⟩ : Addr) Slc.v fun (x7 : Slc) =>
    Ld vw6 (⟨vw2.heap.size, 0, none⟩ : Addr) (Value.int .i64) fun (x8 : Int) =>
    R x7 x8 vw6
/-- foliant/hint.Read -/
def S40 (s1 : ByteArray) (w : World) (R : Slc → Int → World → Prop) : Prop :=
  Nw w (.cells #[Slc.v ((⟨none, 0, 0⟩ : Slc))] 59) fun vw2 =>
  Nw vw2 (.cells #[.int .i64 0] 34) fun vw3 =>
  C79 s1 vw3 fun r9 vw10 =>
    C80 r9 vw10 (fun r11 vw12 =>
      St vw12 (⟨w.heap.size, 0, none⟩ : Addr) (Slc.v r11) fun vw13 =>
      Ld vw13 (⟨w.heap.size, 0, none⟩ : Addr) Slc.v fun (x14 : Slc) =>
      C38 x14 vw13 fun r15 r16 vw17 =>
        Br (r16 != 0) ((S40P w vw2 R) (.iface 109 (.agg #[])) vw17) (Br (!(r15.toList == s1.toList)) ((S40P w vw2 R) (.iface 109 (.agg #[])) vw17) (Ld vw17 (⟨w.heap.size, 0, none⟩ : Addr) Slc.v fun (x18 : Slc) =>
            St vw17 (⟨w.heap.size, 0, none⟩ : Addr) (Slc.v x18) fun vw19 =>
            St vw19 (⟨vw2.heap.size, 0, none⟩ : Addr) (.int .i64 0) fun vw20 =>
            CD78 (⟨w.heap.size, 0, none⟩ : Addr) (⟨vw2.heap.size, 0, none⟩ : Addr) none vw20 fun vw21 =>
              Ld vw21 (⟨w.heap.size, 0, none⟩ : Addr) Slc.v fun (x22 : Slc) =>
              Ld vw21 (⟨vw2.heap.size, 0, none⟩ : Addr) (Value.int .i64) fun (x23 : Int) =>
              R x22 x23 vw21))) (S40P w vw2 R)
def pl40 : DPlan := (.pre (.reg .seq) (.here [2, 3] (.seq (.reg .seq) (.seq (.seq (.reg .seq) (.seq (.reg .seq) (.cond (.reg .seq) .leaf))) (.seq (.reg .seq) .leaf)))))
set_option maxRecDepth 100000 in
theorem T40 (s1 : ByteArray) (w : World) (R : Slc → Int → World → Prop) (h : S40 s1 w R) : C40 s1 w R := by
  have e : fnTD Try.prog FF MAY (fun _ _ => False) pl40 Try.f40 [.string s1] w [(.one .slc), (.one (.int .i64))] (fun s w => R s.1 s.2 w) = S40 s1 w R := by kernel_rfl
  exact (fnD_calls okF okM Try.func40 (by kernel_rfl) (by kernel_rfl) (e.mpr h)).mono fun _ _ ⟨s, he, hR⟩ => ⟨s.1, s.2, he, hR⟩

/-- foliant/foliantref32.number -/
def S82 (r1 : Option Addr) (n2 : Int) (w : World) (R : Int → World → Prop) : Prop :=
  Br (decide (n2 > 24)) (C82 r1 (IntKind.i64.wrap (n2 - 16)) w fun r7 vw8 =>
      C82 r1 16 vw8 fun r9 vw10 =>
        R (IntKind.i64.wrap ((IntKind.i64.wrap (65536 * r7)) + r9)) vw10) (C97 r1 n2 w fun r11 r12 vw13 =>
      R r11 vw13)
def pl82 : Plan := (.seq (.reg .seq) (.seq (.seq (.reg .seq) (.cond (.seq (.reg .seq) .leaf) .leaf)) (.seq (.reg .seq) (.seq (.reg .seq) .leaf))))
set_option maxRecDepth 100000 in
theorem T82 (r1 : Option Addr) (n2 : Int) (w : World) (R : Int → World → Prop) (h : S82 r1 n2 w R) : C82 r1 n2 w R := by
  have e : fnT Try.prog ⟨FF, MAY, (fun _ _ => False)⟩ pl82 Try.f82 [.pointer r1, .int .i64 n2] w [(.one (.int .i64))] (fun s w => R s w) = S82 r1 n2 w R := by kernel_rfl
  exact (fn_calls okF okM Try.func82 (by kernel_rfl) (by kernel_rfl) (e.mpr h)).mono fun _ _ ⟨s, he, hR⟩ => ⟨s, he, hR⟩

def S41L1 (s1 : ByteArray) (r2 : Option Addr) (r10 : Int) (r16 : Int) (x18 : Slc) (R : Slc → Int → World → Prop) (I60 : Int → World → Prop) (s58 : Int) (vw59 : World) : Prop :=
  Br (decide (s58 < ((x18.len : Nat) : Int))) (C82 r2 r16 vw59 fun r61 vw62 =>
      0 ≤ s58 ∧ s58 < (x18.len : Nat) ∧ Nn x18.p fun a63 =>
      St vw62 ((a63.add ((s58).toNat * 3)).add 2) (.int .i64 (IntKind.i64.wrap (r10 + r61))) fun vw64 =>
      I60 (IntKind.i64.wrap (s58 + 1)) vw64) (C39 x18 vw59 fun r65 r66 vw67 =>
      Br (r66 != 0) (R (⟨none, 0, 0⟩ : Slc) 32 vw67) (Br (!(r65.toList == s1.toList)) (R (⟨none, 0, 0⟩ : Slc) 32 vw67) (R x18 0 vw67)))
def S41L2 (s1 : ByteArray) (r2 : Option Addr) (r8 : Int) (r10 : Int) (r14 : Int) (r16 : Int) (x18 : Slc) (R : Slc → Int → World → Prop) (I45 : Int → World → Prop) (s43 : Int) (vw44 : World) : Prop :=
  Br (decide (s43 < ((x18.len : Nat) : Int))) (C82 r2 r14 vw44 fun r46 vw47 =>
      0 ≤ s43 ∧ s43 < (x18.len : Nat) ∧ Nn x18.p fun a48 =>
      St vw47 ((a48.add ((s43).toNat * 3)).add 1) (.int .i64 (IntKind.i64.wrap (r8 + r46))) fun vw49 =>
      I45 (IntKind.i64.wrap (s43 + 1)) vw49) (C83 r2 vw44 fun vw50 =>
      Lp (σ := Int) (S41L1 s1 r2 r10 r16 x18 R) 0 vw50)
def S41L3 (s1 : ByteArray) (r2 : Option Addr) (r6 : Int) (r8 : Int) (r10 : Int) (r12 : Int) (r14 : Int) (r16 : Int) (x18 : Slc) (R : Slc → Int → World → Prop) (I30 : Int → World → Prop) (s28 : Int) (vw29 : World) : Prop :=
  Br (decide (s28 < ((x18.len : Nat) : Int))) (C82 r2 r12 vw29 fun r31 vw32 =>
      0 ≤ s28 ∧ s28 < (x18.len : Nat) ∧ Nn x18.p fun a33 =>
      St vw32 (a33.add ((s28).toNat * 3)) (.int .i64 (IntKind.i64.wrap (r6 + r31))) fun vw34 =>
      I30 (IntKind.i64.wrap (s28 + 1)) vw34) (C83 r2 vw29 fun vw35 =>
      Lp (σ := Int) (S41L2 s1 r2 r8 r10 r14 r16 x18 R) 0 vw35)
/-- foliant/foliantref32.Read -/
def S41 (s1 : ByteArray) (w : World) (R : Slc → Int → World → Prop) : Prop :=
  C81 s1 w fun r2 vw3 =>
    C82 r2 32 vw3 fun r4 vw5 =>
      C82 r2 32 vw5 fun r6 vw7 =>
        C82 r2 32 vw7 fun r8 vw9 =>
          C82 r2 32 vw9 fun r10 vw11 =>
            C82 r2 16 vw11 fun r12 vw13 =>
              C82 r2 16 vw13 fun r14 vw15 =>
                C82 r2 16 vw15 fun r16 vw17 =>
                  Br (decide (r4 < 1)) (R (⟨none, 0, 0⟩ : Slc) 32 vw17) (Br (decide (r4 > 2048)) (R (⟨none, 0, 0⟩ : Slc) 32 vw17) (Br (decide (r12 > 24)) (R (⟨none, 0, 0⟩ : Slc) 32 vw17) (Br (decide (r14 > 24)) (R (⟨none, 0, 0⟩ : Slc) 32 vw17) (Br (decide (r16 > 24)) (R (⟨none, 0, 0⟩ : Slc) 32 vw17) (Rn Try.prog (Instr.makeSlice 59 (.int .i64 r4) (.int .i64 r4)) vw17 Slc.v fun (x18 : Slc) vw19 =>
                            C83 r2 vw19 fun vw20 =>
                              Lp (σ := Int) (S41L3 s1 r2 r6 r8 r10 r12 r14 r16 x18 R) 0 vw20)))))
def pl41 : Plan := (.seq (.reg .seq) (.seq (.reg .seq) (.seq (.reg .seq) (.seq (.reg .seq) (.seq (.reg .seq) (.seq (.seq (.reg .seq) (.cond (.seq (.reg .seq) .leaf) .leaf)) (.seq (.reg .seq) (.seq (.reg .seq) (.seq (.seq (.reg .seq) (.block (.loop [(58, (.one (.int .i64)))] [0, 4, 6, 7, 8, 9, 10, 11, 12, 57] (.seq (.reg .seq) (.seq (.cond .leaf .leaf) (.seq (.block (.seq (.reg .seq) (.reg .seq))) (.reg .seq))))))) (.seq (.reg .seq) (.seq (.seq (.reg .seq) (.block (.loop [(75, (.one (.int .i64)))] [0, 4, 7, 8, 10, 11, 12, 74] (.seq (.reg .seq) (.seq (.cond .leaf .leaf) (.seq (.block (.seq (.reg .seq) (.reg .seq))) (.reg .seq))))))) (.seq (.reg .seq) (.seq (.seq (.reg .seq) (.block (.loop [(92, (.one (.int .i64)))] [0, 4, 8, 11, 12, 91] (.seq (.reg .seq) (.seq (.cond .leaf .leaf) (.seq (.block (.seq (.reg .seq) (.reg .seq))) (.reg .seq))))))) (.seq (.reg .seq) (.seq (.seq (.reg .seq) (.cond (.seq (.reg .seq) .leaf) .leaf)) (.seq (.reg .seq) .leaf))))))))))))))))
set_option maxRecDepth 100000 in
theorem T41 (s1 : ByteArray) (w : World) (R : Slc → Int → World → Prop) (h : S41 s1 w R) : C41 s1 w R := by
  have e : fnT Try.prog ⟨FF, MAY, (fun _ _ => False)⟩ pl41 Try.f41 [.string s1] w [(.one .slc), (.one (.int .i64))] (fun s w => R s.1 s.2 w) = S41 s1 w R := by kernel_rfl
  exact (fn_calls okF okM Try.func41 (by kernel_rfl) (by kernel_rfl) (e.mpr h)).mono fun _ _ ⟨s, he, hR⟩ => ⟨s.1, s.2, he, hR⟩

def S42L1 (a1 : Slc) (b2 : Slc) (R : Bool → World → Prop) (I5 : Int → World → Prop) (s3 : Int) (vw4 : World) : Prop :=
  Br (decide (s3 < ((a1.len : Nat) : Int))) (0 ≤ s3 ∧ s3 < (a1.len : Nat) ∧ Nn a1.p fun a6 =>
    Ld vw4.drew (a6.add ((s3).toNat * 3)) (Value.int .i64) fun (x7 : Int) =>
    Ld vw4.drew ((a6.add ((s3).toNat * 3)).add 1) (Value.int .i64) fun (x8 : Int) =>
    Ld vw4.drew ((a6.add ((s3).toNat * 3)).add 2) (Value.int .i64) fun (x9 : Int) =>
    0 ≤ s3 ∧ s3 < (b2.len : Nat) ∧ Nn b2.p fun a10 =>
    Ld vw4.drew (a10.add ((s3).toNat * 3)) (Value.int .i64) fun (x11 : Int) =>
    Ld vw4.drew ((a10.add ((s3).toNat * 3)).add 1) (Value.int .i64) fun (x12 : Int) =>
    Ld vw4.drew ((a10.add ((s3).toNat * 3)).add 2) (Value.int .i64) fun (x13 : Int) =>
    Br (!((x7 == x11) && ((x8 == x12) && ((x9 == x13) && true)))) (R false vw4.drew) (I5 (IntKind.i64.wrap (s3 + 1)) vw4.drew)) (R true vw4)
/-- foliant/foliantref32.Same -/
def S42 (a1 : Slc) (b2 : Slc) (w : World) (R : Bool → World → Prop) : Prop :=
  Br (((a1.len : Nat) : Int) != ((b2.len : Nat) : Int)) (R false w) (Lp (σ := Int) (S42L1 a1 b2 R) 0 w)
def pl42 : Plan := (.seq (.reg .seq) (.seq (.seq (.reg .seq) (.cond (.seq (.reg .seq) .leaf) .leaf)) (.seq (.seq (.reg .seq) (.block (.loop [(13, (.one (.int .i64)))] [0, 1, 12] (.seq (.reg .seq) (.seq (.cond .leaf .leaf) (.seq (.block (.seq (.reg .seq) (.seq (.reg .still) (.cond (.seq (.reg .seq) .leaf) .leaf)))) (.reg .seq))))))) (.seq (.reg .seq) .leaf))))
set_option maxRecDepth 100000 in
theorem T42 (a1 : Slc) (b2 : Slc) (w : World) (R : Bool → World → Prop) (h : S42 a1 b2 w R) : C42 a1 b2 w R := by
  have e : fnT Try.prog ⟨FF, MAY, (fun _ _ => False)⟩ pl42 Try.f42 [Slc.v a1, Slc.v b2] w [(.one .bool)] (fun s w => R s w) = S42 a1 b2 w R := by kernel_rfl
  exact (fn_calls okF okM Try.func42 (by kernel_rfl) (by kernel_rfl) (e.mpr h)).mono fun _ _ ⟨s, he, hR⟩ => ⟨s, he, hR⟩

end Go.Proofs.Ytjlaijhmnlkpiaa
