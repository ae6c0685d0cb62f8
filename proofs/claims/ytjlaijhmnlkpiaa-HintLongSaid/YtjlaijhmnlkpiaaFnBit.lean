/- The formulas of 25 functions of the program, written by program (gen.py); the kernel checks each. No condition. -/
import Derived.Test.YtjlaijhmnlkpiaaFn
namespace Go.Proofs.Ytjlaijhmnlkpiaa
open Sh
set_option linter.unusedVariables false
set_option maxRecDepth 100000

def C65 (w : World) (R : Option Addr → World → Prop) : Prop :=
  Calls Try.prog 65 #[] w fun e w' => ∃ r0 : Option Addr, e = .returned (.pointer r0) ∧ R r0 w'
theorem C65.mono {w : World} {R R' : Option Addr → World → Prop} (h : C65 w R) (hr : ∀ r0 w', R r0 w' → R' r0 w') : C65 w R' :=
  Calls.mono h fun _ _ ⟨r0, he, hR⟩ => ⟨r0, he, hr _ _ hR⟩
def C69 (vw1 : Option Addr) (w : World) (R : World → Prop) : Prop :=
  Calls Try.prog 69 #[.pointer vw1] w fun e w' => e = .returned (.tuple #[]) ∧ R w'
theorem C69.mono {vw1 : Option Addr} {w : World} {R R' : World → Prop} (h : C69 vw1 w R) (hr : ∀ w', R w' → R' w') : C69 vw1 w R' :=
  Calls.mono h fun _ _ ⟨he, hR⟩ => ⟨he, hr _ hR⟩
def C93 (s1 : Slc) (w : World) (R : Slc → World → Prop) : Prop :=
  Calls Try.prog 93 #[Slc.v s1] w fun e w' => ∃ r0 : Slc, e = .returned (Slc.v r0) ∧ R r0 w'
theorem C93.mono {s1 : Slc} {w : World} {R R' : Slc → World → Prop} (h : C93 s1 w R) (hr : ∀ r0 w', R r0 w' → R' r0 w') : C93 s1 w R' :=
  Calls.mono h fun _ _ ⟨r0, he, hR⟩ => ⟨r0, he, hr _ _ hR⟩
def C70 (vw1 : Option Addr) (w : World) (R : ByteArray → World → Prop) : Prop :=
  Calls Try.prog 70 #[.pointer vw1] w fun e w' => ∃ r0 : ByteArray, e = .returned (.string r0) ∧ R r0 w'
theorem C70.mono {vw1 : Option Addr} {w : World} {R R' : ByteArray → World → Prop} (h : C70 vw1 w R) (hr : ∀ r0 w', R r0 w' → R' r0 w') : C70 vw1 w R' :=
  Calls.mono h fun _ _ ⟨r0, he, hR⟩ => ⟨r0, he, hr _ _ hR⟩
def C111 (x1 : Option Addr) (way2 : Int) (w : World) (R : Bool → World → Prop) : Prop :=
  Calls Try.prog 111 #[.pointer x1, .int .i64 way2] w fun e w' => ∃ r0 : Bool, e = .returned (.bool r0) ∧ R r0 w'
theorem C111.mono {x1 : Option Addr} {way2 : Int} {w : World} {R R' : Bool → World → Prop} (h : C111 x1 way2 w R) (hr : ∀ r0 w', R r0 w' → R' r0 w') : C111 x1 way2 w R' :=
  Calls.mono h fun _ _ ⟨r0, he, hR⟩ => ⟨r0, he, hr _ _ hR⟩
def C115 (x1 : Option Addr) (way2 : Int) (w : World) (R : Int → World → Prop) : Prop :=
  Calls Try.prog 115 #[.pointer x1, .int .i64 way2] w fun e w' => ∃ r0 : Int, e = .returned (.int .i64 r0) ∧ R r0 w'
theorem C115.mono {x1 : Option Addr} {way2 : Int} {w : World} {R R' : Int → World → Prop} (h : C115 x1 way2 w R) (hr : ∀ r0 w', R r0 w' → R' r0 w') : C115 x1 way2 w R' :=
  Calls.mono h fun _ _ ⟨r0, he, hR⟩ => ⟨r0, he, hr _ _ hR⟩
def C112 (vw1 : Option Addr) (b2 : Int) (way3 : Int) (w : World) (R : World → Prop) : Prop :=
  Calls Try.prog 112 #[.pointer vw1, .int .i64 b2, .int .i64 way3] w fun e w' => e = .returned (.tuple #[]) ∧ R w'
theorem C112.mono {vw1 : Option Addr} {b2 : Int} {way3 : Int} {w : World} {R R' : World → Prop} (h : C112 vw1 b2 way3 w R) (hr : ∀ w', R w' → R' w') : C112 vw1 b2 way3 w R' :=
  Calls.mono h fun _ _ ⟨he, hR⟩ => ⟨he, hr _ hR⟩
def C106 (vw1 : Option Addr) (v2 : Int) (n3 : Int) (way4 : Int) (w : World) (R : Int → World → Prop) : Prop :=
  Calls Try.prog 106 #[.pointer vw1, .int .i64 v2, .int .i64 n3, .int .i64 way4] w fun e w' => ∃ r0 : Int, e = .returned (.int .i64 r0) ∧ R r0 w'
theorem C106.mono {vw1 : Option Addr} {v2 : Int} {n3 : Int} {way4 : Int} {w : World} {R R' : Int → World → Prop} (h : C106 vw1 v2 n3 way4 w R) (hr : ∀ r0 w', R r0 w' → R' r0 w') : C106 vw1 v2 n3 way4 w R' :=
  Calls.mono h fun _ _ ⟨r0, he, hR⟩ => ⟨r0, he, hr _ _ hR⟩
def C92 (vw1 : Option Addr) (v2 : Int) (n3 : Int) (w : World) (R : Int → World → Prop) : Prop :=
  Calls Try.prog 92 #[.pointer vw1, .int .i64 v2, .int .i64 n3] w fun e w' => ∃ r0 : Int, e = .returned (.int .i64 r0) ∧ R r0 w'
theorem C92.mono {vw1 : Option Addr} {v2 : Int} {n3 : Int} {w : World} {R R' : Int → World → Prop} (h : C92 vw1 v2 n3 w R) (hr : ∀ r0 w', R r0 w' → R' r0 w') : C92 vw1 v2 n3 w R' :=
  Calls.mono h fun _ _ ⟨r0, he, hR⟩ => ⟨r0, he, hr _ _ hR⟩
def C72 (w : World) (R : Option Addr → World → Prop) : Prop :=
  Calls Try.prog 72 #[] w fun e w' => ∃ r0 : Option Addr, e = .returned (.pointer r0) ∧ R r0 w'
theorem C72.mono {w : World} {R R' : Option Addr → World → Prop} (h : C72 w R) (hr : ∀ r0 w', R r0 w' → R' r0 w') : C72 w R' :=
  Calls.mono h fun _ _ ⟨r0, he, hR⟩ => ⟨r0, he, hr _ _ hR⟩
def C94 (vw1 : Option Addr) (v2 : Int) (n3 : Int) (way4 : Int) (w : World) (R : Int → World → Prop) : Prop :=
  Calls Try.prog 94 #[.pointer vw1, .int .i64 v2, .int .i64 n3, .int .i64 way4] w fun e w' => ∃ r0 : Int, e = .returned (.int .i64 r0) ∧ R r0 w'
theorem C94.mono {vw1 : Option Addr} {v2 : Int} {n3 : Int} {way4 : Int} {w : World} {R R' : Int → World → Prop} (h : C94 vw1 v2 n3 way4 w R) (hr : ∀ r0 w', R r0 w' → R' r0 w') : C94 vw1 v2 n3 way4 w R' :=
  Calls.mono h fun _ _ ⟨r0, he, hR⟩ => ⟨r0, he, hr _ _ hR⟩
def C73 (vw1 : Option Addr) (v2 : Int) (n3 : Int) (w : World) (R : Int → World → Prop) : Prop :=
  Calls Try.prog 73 #[.pointer vw1, .int .i64 v2, .int .i64 n3] w fun e w' => ∃ r0 : Int, e = .returned (.int .i64 r0) ∧ R r0 w'
theorem C73.mono {vw1 : Option Addr} {v2 : Int} {n3 : Int} {w : World} {R R' : Int → World → Prop} (h : C73 vw1 v2 n3 w R) (hr : ∀ r0 w', R r0 w' → R' r0 w') : C73 vw1 v2 n3 w R' :=
  Calls.mono h fun _ _ ⟨r0, he, hR⟩ => ⟨r0, he, hr _ _ hR⟩
def C75 (vw1 : Option Addr) (w : World) (R : World → Prop) : Prop :=
  Calls Try.prog 75 #[.pointer vw1] w fun e w' => e = .returned (.tuple #[]) ∧ R w'
theorem C75.mono {vw1 : Option Addr} {w : World} {R R' : World → Prop} (h : C75 vw1 w R) (hr : ∀ w', R w' → R' w') : C75 vw1 w R' :=
  Calls.mono h fun _ _ ⟨he, hR⟩ => ⟨he, hr _ hR⟩
def C77 (vw1 : Option Addr) (w : World) (R : ByteArray → World → Prop) : Prop :=
  Calls Try.prog 77 #[.pointer vw1] w fun e w' => ∃ r0 : ByteArray, e = .returned (.string r0) ∧ R r0 w'
theorem C77.mono {vw1 : Option Addr} {w : World} {R R' : ByteArray → World → Prop} (h : C77 vw1 w R) (hr : ∀ r0 w', R r0 w' → R' r0 w') : C77 vw1 w R' :=
  Calls.mono h fun _ _ ⟨r0, he, hR⟩ => ⟨r0, he, hr _ _ hR⟩
def C79 (s1 : ByteArray) (w : World) (R : Option Addr → World → Prop) : Prop :=
  Calls Try.prog 79 #[.string s1] w fun e w' => ∃ r0 : Option Addr, e = .returned (.pointer r0) ∧ R r0 w'
theorem C79.mono {s1 : ByteArray} {w : World} {R R' : Option Addr → World → Prop} (h : C79 s1 w R) (hr : ∀ r0 w', R r0 w' → R' r0 w') : C79 s1 w R' :=
  Calls.mono h fun _ _ ⟨r0, he, hR⟩ => ⟨r0, he, hr _ _ hR⟩
def C116 (r1 : Option Addr) (w : World) (R : Int → World → Prop) : Prop :=
  Calls Try.prog 116 #[.pointer r1] w fun e w' => ∃ r0 : Int, e = .returned (.int .i64 r0) ∧ R r0 w'
theorem C116.mono {r1 : Option Addr} {w : World} {R R' : Int → World → Prop} (h : C116 r1 w R) (hr : ∀ r0 w', R r0 w' → R' r0 w') : C116 r1 w R' :=
  Calls.mono h fun _ _ ⟨r0, he, hR⟩ => ⟨r0, he, hr _ _ hR⟩
def C117 (r1 : Option Addr) (way2 : Int) (w : World) (R : Int → World → Prop) : Prop :=
  Calls Try.prog 117 #[.pointer r1, .int .i64 way2] w fun e w' => ∃ r0 : Int, e = .returned (.int .i64 r0) ∧ R r0 w'
theorem C117.mono {r1 : Option Addr} {way2 : Int} {w : World} {R R' : Int → World → Prop} (h : C117 r1 way2 w R) (hr : ∀ r0 w', R r0 w' → R' r0 w') : C117 r1 way2 w R' :=
  Calls.mono h fun _ _ ⟨r0, he, hR⟩ => ⟨r0, he, hr _ _ hR⟩
def C113 (r1 : Option Addr) (n2 : Int) (way3 : Int) (w : World) (R : Int → Int → World → Prop) : Prop :=
  Calls Try.prog 113 #[.pointer r1, .int .i64 n2, .int .i64 way3] w fun e w' => ∃ r0 : Int, ∃ r1 : Int, e = .returned (.tuple #[.int .i64 r0, .int .i64 r1]) ∧ R r0 r1 w'
theorem C113.mono {r1 : Option Addr} {n2 : Int} {way3 : Int} {w : World} {R R' : Int → Int → World → Prop} (h : C113 r1 n2 way3 w R) (hr : ∀ r0 r1 w', R r0 r1 w' → R' r0 r1 w') : C113 r1 n2 way3 w R' :=
  Calls.mono h fun _ _ ⟨r0, r1, he, hR⟩ => ⟨r0, r1, he, hr _ _ _ hR⟩
def C107 (r1 : Option Addr) (n2 : Int) (w : World) (R : Int → Int → World → Prop) : Prop :=
  Calls Try.prog 107 #[.pointer r1, .int .i64 n2] w fun e w' => ∃ r0 : Int, ∃ r1 : Int, e = .returned (.tuple #[.int .i64 r0, .int .i64 r1]) ∧ R r0 r1 w'
theorem C107.mono {r1 : Option Addr} {n2 : Int} {w : World} {R R' : Int → Int → World → Prop} (h : C107 r1 n2 w R) (hr : ∀ r0 r1 w', R r0 r1 w' → R' r0 r1 w') : C107 r1 n2 w R' :=
  Calls.mono h fun _ _ ⟨r0, r1, he, hR⟩ => ⟨r0, r1, he, hr _ _ _ hR⟩
def C96 (r1 : Option Addr) (w : World) (R : World → Prop) : Prop :=
  Calls Try.prog 96 #[.pointer r1] w fun e w' => e = .returned (.tuple #[]) ∧ R w'
theorem C96.mono {r1 : Option Addr} {w : World} {R R' : World → Prop} (h : C96 r1 w R) (hr : ∀ w', R w' → R' w') : C96 r1 w R' :=
  Calls.mono h fun _ _ ⟨he, hR⟩ => ⟨he, hr _ hR⟩
def C81 (s1 : ByteArray) (w : World) (R : Option Addr → World → Prop) : Prop :=
  Calls Try.prog 81 #[.string s1] w fun e w' => ∃ r0 : Option Addr, e = .returned (.pointer r0) ∧ R r0 w'
theorem C81.mono {s1 : ByteArray} {w : World} {R R' : Option Addr → World → Prop} (h : C81 s1 w R) (hr : ∀ r0 w', R r0 w' → R' r0 w') : C81 s1 w R' :=
  Calls.mono h fun _ _ ⟨r0, he, hR⟩ => ⟨r0, he, hr _ _ hR⟩
def C114 (r1 : Option Addr) (w : World) (R : Int → World → Prop) : Prop :=
  Calls Try.prog 114 #[.pointer r1] w fun e w' => ∃ r0 : Int, e = .returned (.int .i64 r0) ∧ R r0 w'
theorem C114.mono {r1 : Option Addr} {w : World} {R R' : Int → World → Prop} (h : C114 r1 w R) (hr : ∀ r0 w', R r0 w' → R' r0 w') : C114 r1 w R' :=
  Calls.mono h fun _ _ ⟨r0, he, hR⟩ => ⟨r0, he, hr _ _ hR⟩
def C108 (r1 : Option Addr) (n2 : Int) (way3 : Int) (w : World) (R : Int → Int → World → Prop) : Prop :=
  Calls Try.prog 108 #[.pointer r1, .int .i64 n2, .int .i64 way3] w fun e w' => ∃ r0 : Int, ∃ r1 : Int, e = .returned (.tuple #[.int .i64 r0, .int .i64 r1]) ∧ R r0 r1 w'
theorem C108.mono {r1 : Option Addr} {n2 : Int} {way3 : Int} {w : World} {R R' : Int → Int → World → Prop} (h : C108 r1 n2 way3 w R) (hr : ∀ r0 r1 w', R r0 r1 w' → R' r0 r1 w') : C108 r1 n2 way3 w R' :=
  Calls.mono h fun _ _ ⟨r0, r1, he, hR⟩ => ⟨r0, r1, he, hr _ _ _ hR⟩
def C97 (r1 : Option Addr) (n2 : Int) (w : World) (R : Int → Int → World → Prop) : Prop :=
  Calls Try.prog 97 #[.pointer r1, .int .i64 n2] w fun e w' => ∃ r0 : Int, ∃ r1 : Int, e = .returned (.tuple #[.int .i64 r0, .int .i64 r1]) ∧ R r0 r1 w'
theorem C97.mono {r1 : Option Addr} {n2 : Int} {w : World} {R R' : Int → Int → World → Prop} (h : C97 r1 n2 w R) (hr : ∀ r0 r1 w', R r0 r1 w' → R' r0 r1 w') : C97 r1 n2 w R' :=
  Calls.mono h fun _ _ ⟨r0, r1, he, hR⟩ => ⟨r0, r1, he, hr _ _ _ hR⟩
def C83 (r1 : Option Addr) (w : World) (R : World → Prop) : Prop :=
  Calls Try.prog 83 #[.pointer r1] w fun e w' => e = .returned (.tuple #[]) ∧ R w'
theorem C83.mono {r1 : Option Addr} {w : World} {R R' : World → Prop} (h : C83 r1 w R) (hr : ∀ w', R w' → R' w') : C83 r1 w R' :=
  Calls.mono h fun _ _ ⟨he, hR⟩ => ⟨he, hr _ hR⟩

/-- foliant/bit.New -/
def S65 (w : World) (R : Option Addr → World → Prop) : Prop :=
  Nw w (.cells #[.int .i64 0, .int .i64 0, Slc.v ((⟨none, 0, 0⟩ : Slc))] 130) fun vw1 =>
  R (some (⟨w.heap.size, 0, none⟩ : Addr)) vw1
def pl65 : Plan := (.seq (.reg .seq) (.seq (.reg .seq) .leaf))
set_option maxRecDepth 100000 in
theorem T65 (w : World) (R : Option Addr → World → Prop) (h : S65 w R) : C65 w R := by
  have e : fnT Try.prog ⟨FF, MAY, (fun _ _ => False)⟩ pl65 Try.f65 [] w [(.one .ptr)] (fun s w => R s w) = S65 w R := by kernel_rfl
  exact (fn_calls okF okM Try.func65 (by kernel_rfl) (by kernel_rfl) (e.mpr h)).mono fun _ _ ⟨s, he, hR⟩ => ⟨s, he, hR⟩

/-- (*foliant/bit.Writer).Align -/
def S69 (vw1 : Option Addr) (w : World) (R : World → Prop) : Prop :=
  Br (!(vw1.isNone)) (Nn vw1 fun a2 =>
    St w a2 (.int .i64 0) fun vw3 =>
    St vw3 (a2.add 1) (.int .i64 0) fun vw4 =>
    R vw4) (R w)
def pl69 : Plan := (.seq (.reg .seq) (.cond (.reg .seq) .leaf))
set_option maxRecDepth 100000 in
theorem T69 (vw1 : Option Addr) (w : World) (R : World → Prop) (h : S69 vw1 w R) : C69 vw1 w R := by
  have e : fnT Try.prog ⟨FF, MAY, (fun _ _ => False)⟩ pl69 Try.f69 [.pointer vw1] w [] (fun _ w => R w) = S69 vw1 w R := by kernel_rfl
  exact (fn_calls okF okM Try.func69 (by kernel_rfl) (by kernel_rfl) (e.mpr h)).mono fun _ _ ⟨_, he, hR⟩ => ⟨he, hR⟩

/-- slices.Clone[[]byte,byte] -/
def S93 (s1 : Slc) (w : World) (R : Slc → World → Prop) : Prop :=
  Br s1.p.isNone (R (⟨none, 0, 0⟩ : Slc) w) (Nw w (.cells #[] 5) fun vw2 =>
    Rn Try.prog (Builtin.append_ #[128, 128] 128 #[Slc.v ((⟨some ⟨w.heap.size, 0, none⟩, 0, 0⟩ : Slc)), Slc.v s1]) vw2 Slc.v fun (x3 : Slc) vw4 =>
    R x3 vw4)
def pl93 : Plan := (.seq (.reg .seq) (.seq (.seq (.reg .seq) (.cond (.seq (.reg .seq) .leaf) .leaf)) (.seq (.reg .seq) .leaf)))
set_option maxRecDepth 100000 in
theorem T93 (s1 : Slc) (w : World) (R : Slc → World → Prop) (h : S93 s1 w R) : C93 s1 w R := by
  have e : fnT Try.prog ⟨FF, MAY, (fun _ _ => False)⟩ pl93 Try.f93 [Slc.v s1] w [(.one .slc)] (fun s w => R s w) = S93 s1 w R := by kernel_rfl
  exact (fn_calls okF okM Try.func93 (by kernel_rfl) (by kernel_rfl) (e.mpr h)).mono fun _ _ ⟨s, he, hR⟩ => ⟨s, he, hR⟩

/-- (*foliant/bit.Writer).Text -/
def S70 (vw1 : Option Addr) (w : World) (R : ByteArray → World → Prop) : Prop :=
  Br vw1.isNone (R (⟨#[]⟩ : ByteArray) w) (Nn vw1 fun a2 =>
    Ld w (a2.add 2) Slc.v fun (x3 : Slc) =>
    C93 x3 w fun r4 vw5 =>
      Rn Try.prog (convert 128 9 (Slc.v r4)) vw5 Value.string fun (x6 : ByteArray) vw7 =>
      R x6 vw7)
def pl70 : Plan := (.seq (.reg .seq) (.seq (.seq (.reg .seq) (.cond (.seq (.reg .seq) .leaf) .leaf)) (.seq (.reg .seq) .leaf)))
set_option maxRecDepth 100000 in
theorem T70 (vw1 : Option Addr) (w : World) (R : ByteArray → World → Prop) (h : S70 vw1 w R) : C70 vw1 w R := by
  have e : fnT Try.prog ⟨FF, MAY, (fun _ _ => False)⟩ pl70 Try.f70 [.pointer vw1] w [(.one .str)] (fun s w => R s w) = S70 vw1 w R := by kernel_rfl
  exact (fn_calls okF okM Try.func70 (by kernel_rfl) (by kernel_rfl) (e.mpr h)).mono fun _ _ ⟨s, he, hR⟩ => ⟨s, he, hR⟩

/-- (*foliant/bit.side).other -/
def S111 (x1 : Option Addr) (way2 : Int) (w : World) (R : Bool → World → Prop) : Prop :=
  Nn x1 fun a3 =>
  Ld w a3 (Value.int .i64) fun (x4 : Int) =>
  Br (x4 != 0) (Nn x1 fun a5 =>
    Ld w a5 (Value.int .i64) fun (x6 : Int) =>
    R (x6 != way2) w) (R false w)
def pl111 : Plan := (.seq (.reg .seq) (.seq (.reg .seq) .leaf))
set_option maxRecDepth 100000 in
theorem T111 (x1 : Option Addr) (way2 : Int) (w : World) (R : Bool → World → Prop) (h : S111 x1 way2 w R) : C111 x1 way2 w R := by
  have e : fnT Try.prog ⟨FF, MAY, (fun _ _ => False)⟩ pl111 Try.f111 [.pointer x1, .int .i64 way2] w [(.one .bool)] (fun s w => R s w) = S111 x1 way2 w R := by kernel_rfl
  exact (fn_calls okF okM Try.func111 (by kernel_rfl) (by kernel_rfl) (e.mpr h)).mono fun _ _ ⟨s, he, hR⟩ => ⟨s, he, hR⟩

/-- (*foliant/bit.side).place -/
def S115 (x1 : Option Addr) (way2 : Int) (w : World) (R : Int → World → Prop) : Prop :=
  Br (way2 == 1) (Nn x1 fun a5 =>
    Ld w (a5.add 1) (Value.int .i64) fun (x6 : Int) =>
    R x6 w) (Nn x1 fun a7 =>
    Ld w (a7.add 1) (Value.int .i64) fun (x8 : Int) =>
    R (IntKind.i64.wrap (7 - x8)) w)
def pl115 : Plan := (.seq (.reg .seq) (.seq (.seq (.reg .seq) (.cond (.seq (.reg .seq) .leaf) .leaf)) (.seq (.reg .seq) .leaf)))
set_option maxRecDepth 100000 in
theorem T115 (x1 : Option Addr) (way2 : Int) (w : World) (R : Int → World → Prop) (h : S115 x1 way2 w R) : C115 x1 way2 w R := by
  have e : fnT Try.prog ⟨FF, MAY, (fun _ _ => False)⟩ pl115 Try.f115 [.pointer x1, .int .i64 way2] w [(.one (.int .i64))] (fun s w => R s w) = S115 x1 way2 w R := by kernel_rfl
  exact (fn_calls okF okM Try.func115 (by kernel_rfl) (by kernel_rfl) (e.mpr h)).mono fun _ _ ⟨s, he, hR⟩ => ⟨s, he, hR⟩

/-- (*foliant/bit.Writer).one -/
def S112 (vw1 : Option Addr) (b2 : Int) (way3 : Int) (w : World) (R : World → Prop) : Prop :=
  Nn vw1 fun a13 =>
  Ld w (a13.add 1) (Value.int .i64) fun (x14 : Int) =>
  Br (x14 == 0) (Nn vw1 fun a15 =>
    Ld w (a15.add 2) Slc.v fun (x16 : Slc) =>
    Nw w (.cells #[.int .u8 0] 5) fun vw17 =>
    Rn Try.prog (Builtin.append_ #[128, 128] 128 #[Slc.v x16, Slc.v ((⟨some ⟨w.heap.size, 0, none⟩, 1, 1⟩ : Slc))]) vw17 Slc.v fun (x18 : Slc) vw19 =>
    Nn vw1 fun a20 =>
    St vw19 (a20.add 2) (Slc.v x18) fun vw21 =>
    ∃ vS22 : World → Prop, vS22 vw21.drew ∧ Nn vw1 fun a23 =>
    LdS vS22 (a23.add 2) Slc.v fun (x24 : Slc) =>
    Nn vw1 fun a25 =>
    LdS vS22 (a25.add 2) Slc.v fun (x26 : Slc) =>
    0 ≤ (IntKind.i64.wrap (((x26.len : Nat) : Int) - 1)) ∧ (IntKind.i64.wrap (((x26.len : Nat) : Int) - 1)) < (x24.len : Nat) ∧ Nn x24.p fun a27 =>
    LdS vS22 (a27.add ((IntKind.i64.wrap (((x26.len : Nat) : Int) - 1)).toNat * 1)) (Value.int .u8) fun (x28 : Int) =>
    Nn vw1 fun a29 =>
    C115 (some a29) way3 vw21.drew fun r30 vw31 =>
      vS22 vw31 ∧ 0 ≤ r30 ∧ 0 ≤ (IntKind.i64.wrap (((x26.len : Nat) : Int) - 1)) ∧ (IntKind.i64.wrap (((x26.len : Nat) : Int) - 1)) < (x24.len : Nat) ∧ Nn x24.p fun a32 =>
      St vw31 (a32.add ((IntKind.i64.wrap (((x26.len : Nat) : Int) - 1)).toNat * 1)) (.int .u8 (ior .u8 x28 (IntKind.u8.wrap (IntKind.i64.wrap (b2 * 2 ^ (min (r30).toNat 64)))))) fun vw33 =>
      Nn vw1 fun a34 =>
      Ld vw33 (a34.add 1) (Value.int .i64) fun (x35 : Int) =>
      Nn vw1 fun a36 =>
      St vw33 (a36.add 1) (.int .i64 (Int.tmod (IntKind.i64.wrap (x35 + 1)) 8)) fun vw37 =>
      R vw37) (∃ vS38 : World → Prop, vS38 w.drew ∧ Nn vw1 fun a39 =>
    LdS vS38 (a39.add 2) Slc.v fun (x40 : Slc) =>
    Nn vw1 fun a41 =>
    LdS vS38 (a41.add 2) Slc.v fun (x42 : Slc) =>
    0 ≤ (IntKind.i64.wrap (((x42.len : Nat) : Int) - 1)) ∧ (IntKind.i64.wrap (((x42.len : Nat) : Int) - 1)) < (x40.len : Nat) ∧ Nn x40.p fun a43 =>
    LdS vS38 (a43.add ((IntKind.i64.wrap (((x42.len : Nat) : Int) - 1)).toNat * 1)) (Value.int .u8) fun (x44 : Int) =>
    Nn vw1 fun a45 =>
    C115 (some a45) way3 w.drew fun r46 vw47 =>
      vS38 vw47 ∧ 0 ≤ r46 ∧ 0 ≤ (IntKind.i64.wrap (((x42.len : Nat) : Int) - 1)) ∧ (IntKind.i64.wrap (((x42.len : Nat) : Int) - 1)) < (x40.len : Nat) ∧ Nn x40.p fun a48 =>
      St vw47 (a48.add ((IntKind.i64.wrap (((x42.len : Nat) : Int) - 1)).toNat * 1)) (.int .u8 (ior .u8 x44 (IntKind.u8.wrap (IntKind.i64.wrap (b2 * 2 ^ (min (r46).toNat 64)))))) fun vw49 =>
      Nn vw1 fun a50 =>
      Ld vw49 (a50.add 1) (Value.int .i64) fun (x51 : Int) =>
      Nn vw1 fun a52 =>
      St vw49 (a52.add 1) (.int .i64 (Int.tmod (IntKind.i64.wrap (x51 + 1)) 8)) fun vw53 =>
      R vw53)
def pl112 : Plan := (.seq (.seq (.reg .seq) (.cond (.reg .seq) .leaf)) (.seq (.reg (.held [22] (.take 0 (.take 1 (.take 2 (.take 3 (.take 4 (.take 5 (.take 6 (.take 7 (.take 8 (.take 9 (.take 10 (.take 11 (.take 12 (.take 13 (.take 14 (.take 15 (.take 16 (.eff 17 none (.take 18 (.take 19 (.take 20 (.take 21 (.eff 22 (some []) .done))))))))))))))))))))))))) (.reg .seq)))
set_option maxRecDepth 100000 in
theorem T112 (vw1 : Option Addr) (b2 : Int) (way3 : Int) (w : World) (R : World → Prop) (h : S112 vw1 b2 way3 w R) : C112 vw1 b2 way3 w R := by
  have e : fnT Try.prog ⟨FF, MAY, (fun _ _ => False)⟩ pl112 Try.f112 [.pointer vw1, .int .i64 b2, .int .i64 way3] w [] (fun _ w => R w) = S112 vw1 b2 way3 w R := by kernel_rfl
  exact (fn_calls okF okM Try.func112 (by kernel_rfl) (by kernel_rfl) (e.mpr h)).mono fun _ _ ⟨_, he, hR⟩ => ⟨he, hR⟩

def S106L1 (vw1 : Option Addr) (v2 : Int) (n3 : Int) (way4 : Int) (R : Int → World → Prop) (I19 : Int → World → Prop) (s17 : Int) (vw18 : World) : Prop :=
  Br (decide (s17 < n3)) (Br (way4 == 2) (0 ≤ (IntKind.i64.wrap ((IntKind.i64.wrap (n3 - 1)) - s17)) ∧ Lt (iand .i64 (Int.fdiv v2 (2 ^ (min (IntKind.i64.wrap ((IntKind.i64.wrap (n3 - 1)) - s17)).toNat 64))) 1) fun (x20 : Int) =>
      C112 vw1 x20 way4 vw18 fun vw21 =>
        I19 (IntKind.i64.wrap (s17 + 1)) vw21) (0 ≤ s17 ∧ C112 vw1 (iand .i64 (Int.fdiv v2 (2 ^ (min (s17).toNat 64))) 1) way4 vw18 fun vw22 =>
        I19 (IntKind.i64.wrap (s17 + 1)) vw22)) (Br (decide (n3 > 0)) (Nn vw1 fun a23 =>
      St vw18 a23 (.int .i64 way4) fun vw24 =>
      R 0 vw24) (R 0 vw18))
/-- (*foliant/bit.Writer).put -/
def S106 (vw1 : Option Addr) (v2 : Int) (n3 : Int) (way4 : Int) (w : World) (R : Int → World → Prop) : Prop :=
  Br vw1.isNone (R 1 w) (Br (decide (n3 < 0)) (R 1 w) (Br (decide (n3 > 24)) (R 1 w) (Br (decide (v2 < 0)) (R 1 w) (0 ≤ n3 ∧ Br (decide (v2 ≥ (IntKind.i64.wrap (1 * 2 ^ (min (n3).toNat 64))))) (R 1 w) (Nn vw1 fun a8 =>
            C111 (some a8) way4 w fun r9 vw10 =>
              Br r9 (R 1 vw10) (Lp (σ := Int) (S106L1 vw1 v2 n3 way4 R) 0 vw10))))))
def pl106 : Plan := (.seq (.reg .seq) (.seq (.seq (.reg .seq) (.cond (.seq (.reg .seq) .leaf) .leaf)) (.seq (.seq (.reg .seq) (.block (.loop [(38, (.one (.int .i64)))] [0, 1, 2, 3, 37] (.seq (.reg .seq) (.seq (.cond .leaf .leaf) (.seq (.block (.seq (.reg .seq) (.seq (.seq (.reg .seq) (.cond (.reg .seq) .leaf)) (.reg .seq)))) (.reg .seq))))))) (.seq (.seq (.reg .seq) (.cond (.reg .seq) .leaf)) (.seq (.reg .seq) .leaf)))))
set_option maxRecDepth 100000 in
theorem T106 (vw1 : Option Addr) (v2 : Int) (n3 : Int) (way4 : Int) (w : World) (R : Int → World → Prop) (h : S106 vw1 v2 n3 way4 w R) : C106 vw1 v2 n3 way4 w R := by
  have e : fnT Try.prog ⟨FF, MAY, (fun _ _ => False)⟩ pl106 Try.f106 [.pointer vw1, .int .i64 v2, .int .i64 n3, .int .i64 way4] w [(.one (.int .i64))] (fun s w => R s w) = S106 vw1 v2 n3 way4 w R := by kernel_rfl
  exact (fn_calls okF okM Try.func106 (by kernel_rfl) (by kernel_rfl) (e.mpr h)).mono fun _ _ ⟨s, he, hR⟩ => ⟨s, he, hR⟩

/-- (*foliant/bit.Writer).High -/
def S92 (vw1 : Option Addr) (v2 : Int) (n3 : Int) (w : World) (R : Int → World → Prop) : Prop :=
  C106 vw1 v2 n3 2 w fun r4 vw5 =>
    R r4 vw5
def pl92 : Plan := (.seq (.reg .seq) (.seq (.reg .seq) .leaf))
set_option maxRecDepth 100000 in
theorem T92 (vw1 : Option Addr) (v2 : Int) (n3 : Int) (w : World) (R : Int → World → Prop) (h : S92 vw1 v2 n3 w R) : C92 vw1 v2 n3 w R := by
  have e : fnT Try.prog ⟨FF, MAY, (fun _ _ => False)⟩ pl92 Try.f92 [.pointer vw1, .int .i64 v2, .int .i64 n3] w [(.one (.int .i64))] (fun s w => R s w) = S92 vw1 v2 n3 w R := by kernel_rfl
  exact (fn_calls okF okM Try.func92 (by kernel_rfl) (by kernel_rfl) (e.mpr h)).mono fun _ _ ⟨s, he, hR⟩ => ⟨s, he, hR⟩

/-- foliant/foliantref09.New -/
def S72 (w : World) (R : Option Addr → World → Prop) : Prop :=
  Nw w (.cells #[Slc.v ((⟨none, 0, 0⟩ : Slc)), .int .i64 0, .int .i64 0] 133) fun vw1 =>
  R (some (⟨w.heap.size, 0, none⟩ : Addr)) vw1
def pl72 : Plan := (.seq (.reg .seq) (.seq (.reg .seq) .leaf))
set_option maxRecDepth 100000 in
theorem T72 (w : World) (R : Option Addr → World → Prop) (h : S72 w R) : C72 w R := by
  have e : fnT Try.prog ⟨FF, MAY, (fun _ _ => False)⟩ pl72 Try.f72 [] w [(.one .ptr)] (fun s w => R s w) = S72 w R := by kernel_rfl
  exact (fn_calls okF okM Try.func72 (by kernel_rfl) (by kernel_rfl) (e.mpr h)).mono fun _ _ ⟨s, he, hR⟩ => ⟨s, he, hR⟩

def S94J1 (vw1 : Option Addr) (v2 : Int) (n3 : Int) (way4 : Int) (s11 : Int) (I13 : Int → World → Prop) (s23 : Unit) (vw24 : World) : Prop :=
  Nn vw1 fun a25 =>
  Ld vw24 a25 Slc.v fun (x26 : Slc) =>
  Br (way4 == 1) (Nn vw1 fun a50 =>
    Ld vw24.drew a50 Slc.v fun (x51 : Slc) =>
    Nn vw1 fun a52 =>
    Ld vw24.drew a52 Slc.v fun (x53 : Slc) =>
    0 ≤ (IntKind.i64.wrap (((x26.len : Nat) : Int) - 1)) ∧ (IntKind.i64.wrap (((x26.len : Nat) : Int) - 1)) < (x53.len : Nat) ∧ Nn x53.p fun a54 =>
    Ld vw24.drew (a54.add ((IntKind.i64.wrap (((x26.len : Nat) : Int) - 1)).toNat * 1)) (Value.int .u8) fun (x55 : Int) =>
    0 ≤ s11 ∧ Nn vw1 fun a56 =>
    Ld vw24.drew (a56.add 1) (Value.int .i64) fun (x57 : Int) =>
    0 ≤ x57 ∧ Lt (IntKind.i64.wrap ((Int.tmod (Int.fdiv v2 (2 ^ (min (s11).toNat 64))) 2) * 2 ^ (min (x57).toNat 64))) fun (x58 : Int) =>
    0 ≤ (IntKind.i64.wrap (((x26.len : Nat) : Int) - 1)) ∧ (IntKind.i64.wrap (((x26.len : Nat) : Int) - 1)) < (x51.len : Nat) ∧ Nn x51.p fun a59 =>
    St vw24.drew (a59.add ((IntKind.i64.wrap (((x26.len : Nat) : Int) - 1)).toNat * 1)) (.int .u8 (IntKind.u8.wrap (x55 + (IntKind.u8.wrap x58)))) fun vw60 =>
    Nn vw1 fun a61 =>
    Ld vw60 (a61.add 1) (Value.int .i64) fun (x62 : Int) =>
    Nn vw1 fun a63 =>
    St vw60 (a63.add 1) (.int .i64 (Int.tmod (IntKind.i64.wrap (x62 + 1)) 8)) fun vw64 =>
    Nn vw1 fun a65 =>
    St vw64 (a65.add 2) (.int .i64 way4) fun vw66 =>
    I13 (IntKind.i64.wrap (s11 + 1)) vw66) (Nn vw1 fun a67 =>
    Ld vw24.drew a67 Slc.v fun (x68 : Slc) =>
    Nn vw1 fun a69 =>
    Ld vw24.drew a69 Slc.v fun (x70 : Slc) =>
    0 ≤ (IntKind.i64.wrap (((x26.len : Nat) : Int) - 1)) ∧ (IntKind.i64.wrap (((x26.len : Nat) : Int) - 1)) < (x70.len : Nat) ∧ Nn x70.p fun a71 =>
    Ld vw24.drew (a71.add ((IntKind.i64.wrap (((x26.len : Nat) : Int) - 1)).toNat * 1)) (Value.int .u8) fun (x72 : Int) =>
    0 ≤ (IntKind.i64.wrap ((IntKind.i64.wrap (n3 - 1)) - s11)) ∧ Lt (Int.tmod (Int.fdiv v2 (2 ^ (min (IntKind.i64.wrap ((IntKind.i64.wrap (n3 - 1)) - s11)).toNat 64))) 2) fun (x73 : Int) =>
    Nn vw1 fun a74 =>
    Ld vw24.drew (a74.add 1) (Value.int .i64) fun (x75 : Int) =>
    0 ≤ (IntKind.i64.wrap (7 - x75)) ∧ Lt (IntKind.u8.wrap (x72 + (IntKind.u8.wrap (IntKind.i64.wrap (x73 * 2 ^ (min (IntKind.i64.wrap (7 - x75)).toNat 64)))))) fun (x76 : Int) =>
    0 ≤ (IntKind.i64.wrap (((x26.len : Nat) : Int) - 1)) ∧ (IntKind.i64.wrap (((x26.len : Nat) : Int) - 1)) < (x68.len : Nat) ∧ Nn x68.p fun a77 =>
    St vw24.drew (a77.add ((IntKind.i64.wrap (((x26.len : Nat) : Int) - 1)).toNat * 1)) (.int .u8 x76) fun vw78 =>
    Nn vw1 fun a79 =>
    Ld vw78 (a79.add 1) (Value.int .i64) fun (x80 : Int) =>
    Nn vw1 fun a81 =>
    St vw78 (a81.add 1) (.int .i64 (Int.tmod (IntKind.i64.wrap (x80 + 1)) 8)) fun vw82 =>
    Nn vw1 fun a83 =>
    St vw82 (a83.add 2) (.int .i64 way4) fun vw84 =>
    I13 (IntKind.i64.wrap (s11 + 1)) vw84)
def S94L1 (vw1 : Option Addr) (v2 : Int) (n3 : Int) (way4 : Int) (R : Int → World → Prop) (I13 : Int → World → Prop) (s11 : Int) (vw12 : World) : Prop :=
  Br (decide (s11 < n3)) (Join (S94J1 vw1 v2 n3 way4 s11 I13) fun (vJ85 : Unit → World → Prop) =>
      Nn vw1 fun a86 =>
      Ld vw12 (a86.add 1) (Value.int .i64) fun (x87 : Int) =>
      Br (x87 == 0) (Nn vw1 fun a88 =>
        Ld vw12 a88 Slc.v fun (x89 : Slc) =>
        Nw vw12 (.cells #[.int .u8 0] 5) fun vw90 =>
        Rn Try.prog (Builtin.append_ #[128, 128] 128 #[Slc.v x89, Slc.v ((⟨some ⟨vw12.heap.size, 0, none⟩, 1, 1⟩ : Slc))]) vw90 Slc.v fun (x91 : Slc) vw92 =>
        Nn vw1 fun a93 =>
        St vw92 a93 (Slc.v x91) fun vw94 =>
        vJ85 () vw94) (vJ85 () vw12)) (R 0 vw12)
def S94J2 (vw1 : Option Addr) (v2 : Int) (n3 : Int) (way4 : Int) (R : Int → World → Prop) (s9 : Unit) (vw10 : World) : Prop :=
  Lp (σ := Int) (S94L1 vw1 v2 n3 way4 R) 0 vw10
/-- (*foliant/foliantref09.Writer).put -/
def S94 (vw1 : Option Addr) (v2 : Int) (n3 : Int) (way4 : Int) (w : World) (R : Int → World → Prop) : Prop :=
  Join (S94J2 vw1 v2 n3 way4 R) fun (vJ95 : Unit → World → Prop) =>
    Br vw1.isNone (R 1 w) (Br (decide (n3 < 0)) (R 1 w) (Br (decide (n3 > 24)) (R 1 w) (Br (decide (v2 < 0)) (R 1 w) (0 ≤ n3 ∧ Br (decide (v2 ≥ (IntKind.i64.wrap (1 * 2 ^ (min (n3).toNat 64))))) (R 1 w) (Nn vw1 fun a96 =>
              Ld w (a96.add 2) (Value.int .i64) fun (x97 : Int) =>
              Br (x97 != 0) (Nn vw1 fun a98 =>
                Ld w (a98.add 2) (Value.int .i64) fun (x99 : Int) =>
                Br (x99 != way4) (R 1 w) (vJ95 () w)) (vJ95 () w))))))
def pl94 : Plan := (.seq (.reg .seq) (.join [] [0, 1, 2, 3] (.seq (.reg .seq) (.cond (.seq (.reg .seq) .leaf) .leaf)) (.seq (.seq (.reg .seq) (.block (.loop [(9, (.one (.int .i64)))] [0, 1, 2, 3] (.seq (.seq (.reg .seq) (.cond .leaf .leaf)) (.seq (.block (.join [] [0, 1, 2, 3, 9] (.seq (.reg .seq) (.cond (.reg .seq) .leaf)) (.seq (.reg .seq) (.seq (.seq (.reg .seq) (.cond (.reg (.tail 24)) (.reg (.tail 28)))) (.seq (.reg .seq) (.reg .seq)))))) (.reg .seq)))))) (.seq (.reg .seq) .leaf))))
set_option maxRecDepth 100000 in
theorem T94 (vw1 : Option Addr) (v2 : Int) (n3 : Int) (way4 : Int) (w : World) (R : Int → World → Prop) (h : S94 vw1 v2 n3 way4 w R) : C94 vw1 v2 n3 way4 w R := by
  have e : fnT Try.prog ⟨FF, MAY, (fun _ _ => False)⟩ pl94 Try.f94 [.pointer vw1, .int .i64 v2, .int .i64 n3, .int .i64 way4] w [(.one (.int .i64))] (fun s w => R s w) = S94 vw1 v2 n3 way4 w R := by kernel_rfl
  exact (fn_calls okF okM Try.func94 (by kernel_rfl) (by kernel_rfl) (e.mpr h)).mono fun _ _ ⟨s, he, hR⟩ => ⟨s, he, hR⟩

/-- (*foliant/foliantref09.Writer).High -/
def S73 (vw1 : Option Addr) (v2 : Int) (n3 : Int) (w : World) (R : Int → World → Prop) : Prop :=
  C94 vw1 v2 n3 2 w fun r4 vw5 =>
    R r4 vw5
def pl73 : Plan := (.seq (.reg .seq) (.seq (.reg .seq) .leaf))
set_option maxRecDepth 100000 in
theorem T73 (vw1 : Option Addr) (v2 : Int) (n3 : Int) (w : World) (R : Int → World → Prop) (h : S73 vw1 v2 n3 w R) : C73 vw1 v2 n3 w R := by
  have e : fnT Try.prog ⟨FF, MAY, (fun _ _ => False)⟩ pl73 Try.f73 [.pointer vw1, .int .i64 v2, .int .i64 n3] w [(.one (.int .i64))] (fun s w => R s w) = S73 vw1 v2 n3 w R := by kernel_rfl
  exact (fn_calls okF okM Try.func73 (by kernel_rfl) (by kernel_rfl) (e.mpr h)).mono fun _ _ ⟨s, he, hR⟩ => ⟨s, he, hR⟩

/-- (*foliant/foliantref09.Writer).Align -/
def S75 (vw1 : Option Addr) (w : World) (R : World → Prop) : Prop :=
  Br (!(vw1.isNone)) (Nn vw1 fun a2 =>
    St w (a2.add 1) (.int .i64 0) fun vw3 =>
    Nn vw1 fun a4 =>
    St vw3 (a4.add 2) (.int .i64 0) fun vw5 =>
    R vw5) (R w)
def pl75 : Plan := (.seq (.reg .seq) (.cond (.seq (.reg .seq) (.reg .seq)) .leaf))
set_option maxRecDepth 100000 in
theorem T75 (vw1 : Option Addr) (w : World) (R : World → Prop) (h : S75 vw1 w R) : C75 vw1 w R := by
  have e : fnT Try.prog ⟨FF, MAY, (fun _ _ => False)⟩ pl75 Try.f75 [.pointer vw1] w [] (fun _ w => R w) = S75 vw1 w R := by kernel_rfl
  exact (fn_calls okF okM Try.func75 (by kernel_rfl) (by kernel_rfl) (e.mpr h)).mono fun _ _ ⟨_, he, hR⟩ => ⟨he, hR⟩

/-- (*foliant/foliantref09.Writer).Text -/
def S77 (vw1 : Option Addr) (w : World) (R : ByteArray → World → Prop) : Prop :=
  Br vw1.isNone (R (⟨#[]⟩ : ByteArray) w) (Nn vw1 fun a2 =>
    Ld w a2 Slc.v fun (x3 : Slc) =>
    Rn Try.prog (convert 128 9 (Slc.v x3)) w Value.string fun (x4 : ByteArray) vw5 =>
    R x4 vw5)
def pl77 : Plan := (.seq (.reg .seq) (.seq (.seq (.reg .seq) (.cond (.seq (.reg .seq) .leaf) .leaf)) (.seq (.reg .seq) .leaf)))
set_option maxRecDepth 100000 in
theorem T77 (vw1 : Option Addr) (w : World) (R : ByteArray → World → Prop) (h : S77 vw1 w R) : C77 vw1 w R := by
  have e : fnT Try.prog ⟨FF, MAY, (fun _ _ => False)⟩ pl77 Try.f77 [.pointer vw1] w [(.one .str)] (fun s w => R s w) = S77 vw1 w R := by kernel_rfl
  exact (fn_calls okF okM Try.func77 (by kernel_rfl) (by kernel_rfl) (e.mpr h)).mono fun _ _ ⟨s, he, hR⟩ => ⟨s, he, hR⟩

/-- foliant/bit.From -/
def S79 (s1 : ByteArray) (w : World) (R : Option Addr → World → Prop) : Prop :=
  Nw w (.cells #[.int .i64 0, .int .i64 0, .string s1, .int .i64 0] 136) fun vw2 =>
  R (some (⟨w.heap.size, 0, none⟩ : Addr)) vw2
def pl79 : Plan := (.seq (.reg .seq) (.seq (.reg .seq) .leaf))
set_option maxRecDepth 100000 in
theorem T79 (s1 : ByteArray) (w : World) (R : Option Addr → World → Prop) (h : S79 s1 w R) : C79 s1 w R := by
  have e : fnT Try.prog ⟨FF, MAY, (fun _ _ => False)⟩ pl79 Try.f79 [.string s1] w [(.one .ptr)] (fun s w => R s w) = S79 s1 w R := by kernel_rfl
  exact (fn_calls okF okM Try.func79 (by kernel_rfl) (by kernel_rfl) (e.mpr h)).mono fun _ _ ⟨s, he, hR⟩ => ⟨s, he, hR⟩

/-- (*foliant/bit.Reader).Left -/
def S116 (r1 : Option Addr) (w : World) (R : Int → World → Prop) : Prop :=
  Br r1.isNone (R 0 w) (Nn r1 fun a2 =>
    Ld w.drew (a2.add 2) Value.string fun (x3 : ByteArray) =>
    Nn r1 fun a4 =>
    Ld w.drew (a4.add 3) (Value.int .i64) fun (x5 : Int) =>
    Nn r1 fun a6 =>
    Ld w.drew (a6.add 1) (Value.int .i64) fun (x7 : Int) =>
    Lt (IntKind.i64.wrap ((IntKind.i64.wrap (8 * (IntKind.i64.wrap ((((x3).size : Nat) : Int) - x5)))) - x7)) fun (x8 : Int) =>
    R x8 w.drew)
def pl116 : Plan := (.seq (.reg .seq) (.seq (.seq (.reg .seq) (.cond (.seq (.reg .seq) .leaf) .leaf)) (.seq (.reg .still) .leaf)))
set_option maxRecDepth 100000 in
theorem T116 (r1 : Option Addr) (w : World) (R : Int → World → Prop) (h : S116 r1 w R) : C116 r1 w R := by
  have e : fnT Try.prog ⟨FF, MAY, (fun _ _ => False)⟩ pl116 Try.f116 [.pointer r1] w [(.one (.int .i64))] (fun s w => R s w) = S116 r1 w R := by kernel_rfl
  exact (fn_calls okF okM Try.func116 (by kernel_rfl) (by kernel_rfl) (e.mpr h)).mono fun _ _ ⟨s, he, hR⟩ => ⟨s, he, hR⟩

/-- (*foliant/bit.Reader).one -/
def S117 (r1 : Option Addr) (way2 : Int) (w : World) (R : Int → World → Prop) : Prop :=
  ∃ vS3 : World → Prop, vS3 w.drew ∧ Nn r1 fun a4 =>
  LdS vS3 (a4.add 2) Value.string fun (x5 : ByteArray) =>
  Nn r1 fun a6 =>
  LdS vS3 (a6.add 3) (Value.int .i64) fun (x7 : Int) =>
  0 ≤ x7 ∧ x7 < ((x5).size : Nat) ∧ Nn r1 fun a8 =>
  C115 (some a8) way2 w.drew fun r9 vw10 =>
    vS3 vw10 ∧ 0 ≤ r9 ∧ Nn r1 fun a11 =>
    Ld vw10 (a11.add 1) (Value.int .i64) fun (x12 : Int) =>
    Nn r1 fun a13 =>
    St vw10 (a13.add 1) (.int .i64 (IntKind.i64.wrap (x12 + 1))) fun vw14 =>
    Nn r1 fun a15 =>
    Ld vw14 (a15.add 1) (Value.int .i64) fun (x16 : Int) =>
    Br (x16 == 8) (Nn r1 fun a17 =>
      St vw14 (a17.add 1) (.int .i64 0) fun vw18 =>
      Nn r1 fun a19 =>
      Ld vw18 (a19.add 3) (Value.int .i64) fun (x20 : Int) =>
      Nn r1 fun a21 =>
      St vw18 (a21.add 3) (.int .i64 (IntKind.i64.wrap (x20 + 1))) fun vw22 =>
      R (iand .i64 (Int.fdiv (IntKind.i64.wrap (bAt x5 x7)) (2 ^ (min (r9).toNat 64))) 1) vw22) (R (iand .i64 (Int.fdiv (IntKind.i64.wrap (bAt x5 x7)) (2 ^ (min (r9).toNat 64))) 1) vw14)
def pl117 : Plan := (.seq (.reg .seq) (.seq (.reg (.held [] (.take 0 (.take 1 (.take 2 (.take 3 (.take 4 (.take 5 (.take 6 (.take 7 (.take 8 (.take 9 (.take 10 (.take 11 (.take 12 (.take 13 (.eff 14 none (.take 15 (.take 16 (.take 17 .done)))))))))))))))))))) (.seq (.seq (.reg .seq) (.seq (.reg .seq) (.cond (.seq (.reg .seq) (.reg .seq)) .leaf))) (.seq (.reg .seq) .leaf))))
set_option maxRecDepth 100000 in
theorem T117 (r1 : Option Addr) (way2 : Int) (w : World) (R : Int → World → Prop) (h : S117 r1 way2 w R) : C117 r1 way2 w R := by
  have e : fnT Try.prog ⟨FF, MAY, (fun _ _ => False)⟩ pl117 Try.f117 [.pointer r1, .int .i64 way2] w [(.one (.int .i64))] (fun s w => R s w) = S117 r1 way2 w R := by kernel_rfl
  exact (fn_calls okF okM Try.func117 (by kernel_rfl) (by kernel_rfl) (e.mpr h)).mono fun _ _ ⟨s, he, hR⟩ => ⟨s, he, hR⟩

def S113L1 (r1 : Option Addr) (n2 : Int) (way3 : Int) (R : Int → Int → World → Prop) (I21 : (Int × Int) → World → Prop) (s19 : Int × Int) (vw20 : World) : Prop :=
  Br (decide (s19.2 < n2)) (C117 r1 way3 vw20 fun r22 vw23 =>
      Br (way3 == 1) (0 ≤ s19.2 ∧ I21 (ior .i64 s19.1 (IntKind.i64.wrap (r22 * 2 ^ (min (s19.2).toNat 64))), IntKind.i64.wrap (s19.2 + 1)) vw23) (I21 (ior .i64 (IntKind.i64.wrap (s19.1 * 2 ^ 1)) r22, IntKind.i64.wrap (s19.2 + 1)) vw23)) (Br (decide (n2 > 0)) (Nn r1 fun a24 =>
      St vw20 a24 (.int .i64 way3) fun vw25 =>
      R s19.1 0 vw25) (R s19.1 0 vw20))
/-- (*foliant/bit.Reader).take -/
def S113 (r1 : Option Addr) (n2 : Int) (way3 : Int) (w : World) (R : Int → Int → World → Prop) : Prop :=
  Br r1.isNone (R 0 1 w) (Br (decide (n2 < 0)) (R 0 1 w) (Br (decide (n2 > 24)) (R 0 1 w) (Nn r1 fun a9 =>
        C111 (some a9) way3 w fun r10 vw11 =>
          Br r10 (R 0 1 vw11) (C116 r1 vw11 fun r12 vw13 =>
              Br (decide (n2 > r12)) (R 0 4 vw13) (Lp (σ := Int × Int) (S113L1 r1 n2 way3 R) (0, 0) vw13)))))
def pl113 : Plan := (.seq (.reg .seq) (.seq (.block (.seq (.reg .seq) (.cond (.seq (.reg .seq) .leaf) (.seq (.reg .seq) (.cond (.seq (.reg .seq) .leaf) .leaf))))) (.seq (.reg .seq) (.seq (.seq (.reg .seq) (.block (.loop [(8, (.one (.int .i64))), (35, (.one (.int .i64)))] [0, 1, 2, 34] (.seq (.reg .seq) (.seq (.cond .leaf .leaf) (.seq (.block (.seq (.reg .seq) (.seq (.reg .seq) (.seq (.reg .seq) (.cond (.reg .seq) (.reg .seq)))))) (.reg .seq))))))) (.seq (.seq (.reg .seq) (.cond (.reg .seq) .leaf)) (.seq (.reg .seq) .leaf))))))
set_option maxRecDepth 100000 in
theorem T113 (r1 : Option Addr) (n2 : Int) (way3 : Int) (w : World) (R : Int → Int → World → Prop) (h : S113 r1 n2 way3 w R) : C113 r1 n2 way3 w R := by
  have e : fnT Try.prog ⟨FF, MAY, (fun _ _ => False)⟩ pl113 Try.f113 [.pointer r1, .int .i64 n2, .int .i64 way3] w [(.one (.int .i64)), (.one (.int .i64))] (fun s w => R s.1 s.2 w) = S113 r1 n2 way3 w R := by kernel_rfl
  exact (fn_calls okF okM Try.func113 (by kernel_rfl) (by kernel_rfl) (e.mpr h)).mono fun _ _ ⟨s, he, hR⟩ => ⟨s.1, s.2, he, hR⟩

/-- (*foliant/bit.Reader).High -/
def S107 (r1 : Option Addr) (n2 : Int) (w : World) (R : Int → Int → World → Prop) : Prop :=
  C113 r1 n2 2 w fun r3 r4 vw5 =>
    R r3 r4 vw5
def pl107 : Plan := (.seq (.reg .seq) (.seq (.reg .seq) .leaf))
set_option maxRecDepth 100000 in
theorem T107 (r1 : Option Addr) (n2 : Int) (w : World) (R : Int → Int → World → Prop) (h : S107 r1 n2 w R) : C107 r1 n2 w R := by
  have e : fnT Try.prog ⟨FF, MAY, (fun _ _ => False)⟩ pl107 Try.f107 [.pointer r1, .int .i64 n2] w [(.one (.int .i64)), (.one (.int .i64))] (fun s w => R s.1 s.2 w) = S107 r1 n2 w R := by kernel_rfl
  exact (fn_calls okF okM Try.func107 (by kernel_rfl) (by kernel_rfl) (e.mpr h)).mono fun _ _ ⟨s, he, hR⟩ => ⟨s.1, s.2, he, hR⟩

/-- (*foliant/bit.Reader).Align -/
def S96 (r1 : Option Addr) (w : World) (R : World → Prop) : Prop :=
  Br r1.isNone (R w) (Nn r1 fun a2 =>
    Ld w (a2.add 1) (Value.int .i64) fun (x3 : Int) =>
    Br (decide (x3 > 0)) (Nn r1 fun a4 =>
      Ld w (a4.add 3) (Value.int .i64) fun (x5 : Int) =>
      Nn r1 fun a6 =>
      St w (a6.add 3) (.int .i64 (IntKind.i64.wrap (x5 + 1))) fun vw7 =>
      Nn r1 fun a8 =>
      St vw7 a8 (.int .i64 0) fun vw9 =>
      St vw9 (a8.add 1) (.int .i64 0) fun vw10 =>
      R vw10) (Nn r1 fun a11 =>
      St w a11 (.int .i64 0) fun vw12 =>
      St vw12 (a11.add 1) (.int .i64 0) fun vw13 =>
      R vw13))
def pl96 : Plan := (.seq (.seq (.reg .seq) (.cond .leaf .leaf)) (.seq (.seq (.reg .seq) (.cond (.reg .seq) .leaf)) (.reg .seq)))
set_option maxRecDepth 100000 in
theorem T96 (r1 : Option Addr) (w : World) (R : World → Prop) (h : S96 r1 w R) : C96 r1 w R := by
  have e : fnT Try.prog ⟨FF, MAY, (fun _ _ => False)⟩ pl96 Try.f96 [.pointer r1] w [] (fun _ w => R w) = S96 r1 w R := by kernel_rfl
  exact (fn_calls okF okM Try.func96 (by kernel_rfl) (by kernel_rfl) (e.mpr h)).mono fun _ _ ⟨_, he, hR⟩ => ⟨he, hR⟩

/-- foliant/foliantref09.From -/
def S81 (s1 : ByteArray) (w : World) (R : Option Addr → World → Prop) : Prop :=
  Nw w (.cells #[.string s1, .int .i64 0, .int .i64 0] 140) fun vw2 =>
  R (some (⟨w.heap.size, 0, none⟩ : Addr)) vw2
def pl81 : Plan := (.seq (.reg .seq) (.seq (.reg .seq) .leaf))
set_option maxRecDepth 100000 in
theorem T81 (s1 : ByteArray) (w : World) (R : Option Addr → World → Prop) (h : S81 s1 w R) : C81 s1 w R := by
  have e : fnT Try.prog ⟨FF, MAY, (fun _ _ => False)⟩ pl81 Try.f81 [.string s1] w [(.one .ptr)] (fun s w => R s w) = S81 s1 w R := by kernel_rfl
  exact (fn_calls okF okM Try.func81 (by kernel_rfl) (by kernel_rfl) (e.mpr h)).mono fun _ _ ⟨s, he, hR⟩ => ⟨s, he, hR⟩

/-- (*foliant/foliantref09.Reader).Left -/
def S114 (r1 : Option Addr) (w : World) (R : Int → World → Prop) : Prop :=
  Br r1.isNone (R 0 w) (Nn r1 fun a2 =>
    Ld w.drew a2 Value.string fun (x3 : ByteArray) =>
    Nn r1 fun a4 =>
    Ld w.drew (a4.add 1) (Value.int .i64) fun (x5 : Int) =>
    R (IntKind.i64.wrap ((IntKind.i64.wrap (8 * (((x3).size : Nat) : Int))) - x5)) w.drew)
def pl114 : Plan := (.seq (.reg .seq) (.seq (.seq (.reg .seq) (.cond (.seq (.reg .seq) .leaf) .leaf)) (.seq (.reg .still) .leaf)))
set_option maxRecDepth 100000 in
theorem T114 (r1 : Option Addr) (w : World) (R : Int → World → Prop) (h : S114 r1 w R) : C114 r1 w R := by
  have e : fnT Try.prog ⟨FF, MAY, (fun _ _ => False)⟩ pl114 Try.f114 [.pointer r1] w [(.one (.int .i64))] (fun s w => R s w) = S114 r1 w R := by kernel_rfl
  exact (fn_calls okF okM Try.func114 (by kernel_rfl) (by kernel_rfl) (e.mpr h)).mono fun _ _ ⟨s, he, hR⟩ => ⟨s, he, hR⟩

def S108L1 (r1 : Option Addr) (n2 : Int) (way3 : Int) (R : Int → Int → World → Prop) (I16 : (Int × Int) → World → Prop) (s14 : Int × Int) (vw15 : World) : Prop :=
  Br (decide (s14.2 < n2)) (Nn r1 fun a17 =>
    Ld vw15.drew a17 Value.string fun (x18 : ByteArray) =>
    Nn r1 fun a19 =>
    Ld vw15.drew (a19.add 1) (Value.int .i64) fun (x20 : Int) =>
    0 ≤ (IntKind.i64.wrap (Int.tdiv x20 8)) ∧ (IntKind.i64.wrap (Int.tdiv x20 8)) < ((x18).size : Nat) ∧ Nn r1 fun a21 =>
    Ld vw15.drew (a21.add 1) (Value.int .i64) fun (x22 : Int) =>
    Br (way3 == 1) (0 ≤ (Int.tmod x22 8) ∧ Lt (Int.fdiv (IntKind.i64.wrap (bAt x18 (IntKind.i64.wrap (Int.tdiv x20 8)))) (2 ^ (min (Int.tmod x22 8).toNat 64))) fun (x26 : Int) =>
      0 ≤ s14.2 ∧ Lt (IntKind.i64.wrap (s14.1 + (IntKind.i64.wrap ((Int.tmod x26 2) * 2 ^ (min (s14.2).toNat 64))))) fun (x27 : Int) =>
      Nn r1 fun a28 =>
      Ld vw15.drew (a28.add 1) (Value.int .i64) fun (x29 : Int) =>
      Nn r1 fun a30 =>
      St vw15.drew (a30.add 1) (.int .i64 (IntKind.i64.wrap (x29 + 1))) fun vw31 =>
      Nn r1 fun a32 =>
      St vw31 (a32.add 2) (.int .i64 way3) fun vw33 =>
      I16 (x27, IntKind.i64.wrap (s14.2 + 1)) vw33) (0 ≤ (IntKind.i64.wrap (7 - (Int.tmod x22 8))) ∧ Lt (Int.fdiv (IntKind.i64.wrap (bAt x18 (IntKind.i64.wrap (Int.tdiv x20 8)))) (2 ^ (min (IntKind.i64.wrap (7 - (Int.tmod x22 8))).toNat 64))) fun (x34 : Int) =>
      Nn r1 fun a35 =>
      Ld vw15.drew (a35.add 1) (Value.int .i64) fun (x36 : Int) =>
      Nn r1 fun a37 =>
      St vw15.drew (a37.add 1) (.int .i64 (IntKind.i64.wrap (x36 + 1))) fun vw38 =>
      Nn r1 fun a39 =>
      St vw38 (a39.add 2) (.int .i64 way3) fun vw40 =>
      I16 (IntKind.i64.wrap ((IntKind.i64.wrap (2 * s14.1)) + (Int.tmod x34 2)), IntKind.i64.wrap (s14.2 + 1)) vw40)) (R s14.1 0 vw15)
def S108J1 (r1 : Option Addr) (n2 : Int) (way3 : Int) (R : Int → Int → World → Prop) (s8 : Unit) (vw9 : World) : Prop :=
  C114 r1 vw9 fun r12 vw13 =>
    Br (decide (n2 > r12)) (R 0 4 vw13) (Lp (σ := Int × Int) (S108L1 r1 n2 way3 R) (0, 0) vw13)
/-- (*foliant/foliantref09.Reader).take -/
def S108 (r1 : Option Addr) (n2 : Int) (way3 : Int) (w : World) (R : Int → Int → World → Prop) : Prop :=
  Join (S108J1 r1 n2 way3 R) fun (vJ41 : Unit → World → Prop) =>
    Br r1.isNone (R 0 1 w) (Br (decide (n2 < 0)) (R 0 1 w) (Br (decide (n2 > 24)) (R 0 1 w) (Nn r1 fun a42 =>
          Ld w (a42.add 2) (Value.int .i64) fun (x43 : Int) =>
          Br (x43 != 0) (Nn r1 fun a44 =>
            Ld w (a44.add 2) (Value.int .i64) fun (x45 : Int) =>
            Br (x45 != way3) (R 0 1 w) (vJ41 () w)) (vJ41 () w))))
def pl108 : Plan := (.seq (.reg .seq) (.join [] [0, 1, 2] (.seq (.reg .seq) (.cond (.seq (.reg .seq) .leaf) .leaf)) (.seq (.seq (.reg .seq) (.cond (.seq (.reg .seq) .leaf) .leaf)) (.seq (.reg .seq) (.seq (.seq (.reg .seq) (.block (.loop [(8, (.one (.int .i64))), (9, (.one (.int .i64)))] [0, 1, 2] (.seq (.seq (.reg .seq) (.cond .leaf .leaf)) (.seq (.block (.seq (.reg .still) (.seq (.seq (.reg .seq) (.cond (.reg .seq) (.reg .seq))) (.seq (.reg .seq) (.reg .seq))))) (.reg .seq)))))) (.seq (.reg .seq) .leaf))))))
set_option maxRecDepth 100000 in
theorem T108 (r1 : Option Addr) (n2 : Int) (way3 : Int) (w : World) (R : Int → Int → World → Prop) (h : S108 r1 n2 way3 w R) : C108 r1 n2 way3 w R := by
  have e : fnT Try.prog ⟨FF, MAY, (fun _ _ => False)⟩ pl108 Try.f108 [.pointer r1, .int .i64 n2, .int .i64 way3] w [(.one (.int .i64)), (.one (.int .i64))] (fun s w => R s.1 s.2 w) = S108 r1 n2 way3 w R := by kernel_rfl
  exact (fn_calls okF okM Try.func108 (by kernel_rfl) (by kernel_rfl) (e.mpr h)).mono fun _ _ ⟨s, he, hR⟩ => ⟨s.1, s.2, he, hR⟩

/-- (*foliant/foliantref09.Reader).High -/
def S97 (r1 : Option Addr) (n2 : Int) (w : World) (R : Int → Int → World → Prop) : Prop :=
  C108 r1 n2 2 w fun r3 r4 vw5 =>
    R r3 r4 vw5
def pl97 : Plan := (.seq (.reg .seq) (.seq (.reg .seq) .leaf))
set_option maxRecDepth 100000 in
theorem T97 (r1 : Option Addr) (n2 : Int) (w : World) (R : Int → Int → World → Prop) (h : S97 r1 n2 w R) : C97 r1 n2 w R := by
  have e : fnT Try.prog ⟨FF, MAY, (fun _ _ => False)⟩ pl97 Try.f97 [.pointer r1, .int .i64 n2] w [(.one (.int .i64)), (.one (.int .i64))] (fun s w => R s.1 s.2 w) = S97 r1 n2 w R := by kernel_rfl
  exact (fn_calls okF okM Try.func97 (by kernel_rfl) (by kernel_rfl) (e.mpr h)).mono fun _ _ ⟨s, he, hR⟩ => ⟨s.1, s.2, he, hR⟩

/-- (*foliant/foliantref09.Reader).Align -/
def S83 (r1 : Option Addr) (w : World) (R : World → Prop) : Prop :=
  Br (!(r1.isNone)) (Nn r1 fun a2 =>
    Ld w (a2.add 1) (Value.int .i64) fun (x3 : Int) =>
    Nn r1 fun a4 =>
    St w (a4.add 1) (.int .i64 (IntKind.i64.wrap ((IntKind.i64.wrap (Int.tdiv (IntKind.i64.wrap (x3 + 7)) 8)) * 8))) fun vw5 =>
    Nn r1 fun a6 =>
    St vw5 (a6.add 2) (.int .i64 0) fun vw7 =>
    R vw7) (R w)
def pl83 : Plan := (.seq (.reg .seq) (.cond (.seq (.reg .seq) (.reg .seq)) .leaf))
set_option maxRecDepth 100000 in
theorem T83 (r1 : Option Addr) (w : World) (R : World → Prop) (h : S83 r1 w R) : C83 r1 w R := by
  have e : fnT Try.prog ⟨FF, MAY, (fun _ _ => False)⟩ pl83 Try.f83 [.pointer r1] w [] (fun _ w => R w) = S83 r1 w R := by kernel_rfl
  exact (fn_calls okF okM Try.func83 (by kernel_rfl) (by kernel_rfl) (e.mpr h)).mono fun _ _ ⟨_, he, hR⟩ => ⟨he, hR⟩

end Go.Proofs.Ytjlaijhmnlkpiaa
