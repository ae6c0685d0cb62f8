/- The formulas of 15 functions of the program, written by program (gen.py); the kernel checks each. No condition. -/
import Derived.Test.YtcblpehnkogfdaaGreatDoorFn
import Derived.Test.YtcblpehnkogfdaaGreatDoorFnFix
import Derived.Test.YtcblpehnkogfdaaGreatDoorFnMat
import Derived.Test.YtcblpehnkogfdaaGreatDoorFnFont
import Derived.Test.YtcblpehnkogfdaaGreatDoorFnShow
import Derived.Test.YtcblpehnkogfdaaGreatDoorFnObj
import Derived.Test.YtcblpehnkogfdaaGreatDoorFnOps
namespace Go.Proofs.YtcblpehnkogfdaaGreatDoor
open Sh
set_option linter.unusedVariables false
set_option maxRecDepth 100000

def CD38 (c1 : Addr) (c2 : Addr) (u : Option Value) (w : World) (R : World → Prop) : Prop := CallD Tryz.prog 38 #[.pointer (some c1), .pointer (some c2)] u w R
theorem CD38.mono {c1 : Addr} {c2 : Addr} {u : Option Value} {w : World} {R R' : World → Prop} (h : CD38 c1 c2 u w R) (hr : ∀ w', R w' → R' w') : CD38 c1 c2 u w R' :=
  CallsD.mono h fun _ _ _ ⟨h1, h2, h3⟩ => ⟨h1, h2, hr _ h3⟩
def C40 (name1 : ByteArray) (w : World) (R : Bool → World → Prop) : Prop :=
  Calls Tryz.prog 40 #[.string name1] w fun e w' => ∃ r0 : Bool, e = .returned (.bool r0) ∧ R r0 w'
theorem C40.mono {name1 : ByteArray} {w : World} {R R' : Bool → World → Prop} (h : C40 name1 w R) (hr : ∀ r0 w', R r0 w' → R' r0 w') : C40 name1 w R' :=
  Calls.mono h fun _ _ ⟨r0, he, hR⟩ => ⟨r0, he, hr _ _ hR⟩
def C41 (x1 : ByteArray × Slc × ByteArray) (why2 : Int) (w : World) (R : (ByteArray × Slc × ByteArray) → World → Prop) (PR : Value → World → Prop) : Prop :=
  Calls Tryz.prog 41 #[.agg #[.string x1.1, Slc.v x1.2.1, .string x1.2.2], .int .i64 why2] w fun e w' => (∃ r0 : ByteArray × Slc × ByteArray, e = .returned (.agg #[.string r0.1, Slc.v r0.2.1, .string r0.2.2]) ∧ R r0 w') ∨ ∃ v, e = .panicked (onePanic v) ∧ PR v w'
theorem C41.mono {x1 : ByteArray × Slc × ByteArray} {why2 : Int} {w : World} {R R' : (ByteArray × Slc × ByteArray) → World → Prop} {PR PR' : Value → World → Prop} (h : C41 x1 why2 w R PR) (hr : ∀ r0 w', R r0 w' → R' r0 w') (hp : ∀ v w', PR v w' → PR' v w') : C41 x1 why2 w R' PR' :=
  Calls.mono h fun _ _ he => he.elim (fun ⟨r0, he, hR⟩ => .inl ⟨r0, he, hr _ _ hR⟩) fun ⟨v, he, hP⟩ => .inr ⟨v, he, hp _ _ hP⟩
def C75 (x1 : Slc) (why2 : Int) (w : World) (R : Slc → World → Prop) (PR : Value → World → Prop) : Prop :=
  Calls Tryz.prog 75 #[Slc.v x1, .int .i64 why2] w fun e w' => (∃ r0 : Slc, e = .returned (Slc.v r0) ∧ R r0 w') ∨ ∃ v, e = .panicked (onePanic v) ∧ PR v w'
theorem C75.mono {x1 : Slc} {why2 : Int} {w : World} {R R' : Slc → World → Prop} {PR PR' : Value → World → Prop} (h : C75 x1 why2 w R PR) (hr : ∀ r0 w', R r0 w' → R' r0 w') (hp : ∀ v w', PR v w' → PR' v w') : C75 x1 why2 w R' PR' :=
  Calls.mono h fun _ _ he => he.elim (fun ⟨r0, he, hR⟩ => .inl ⟨r0, he, hr _ _ hR⟩) fun ⟨v, he, hP⟩ => .inr ⟨v, he, hp _ _ hP⟩
def C43 (o1 : ByteArray × Slc × ByteArray) (w : World) (R : Slc → World → Prop) (PR : Value → World → Prop) : Prop :=
  Calls Tryz.prog 43 #[.agg #[.string o1.1, Slc.v o1.2.1, .string o1.2.2]] w fun e w' => (∃ r0 : Slc, e = .returned (Slc.v r0) ∧ R r0 w') ∨ ∃ v, e = .panicked (onePanic v) ∧ PR v w'
theorem C43.mono {o1 : ByteArray × Slc × ByteArray} {w : World} {R R' : Slc → World → Prop} {PR PR' : Value → World → Prop} (h : C43 o1 w R PR) (hr : ∀ r0 w', R r0 w' → R' r0 w') (hp : ∀ v w', PR v w' → PR' v w') : C43 o1 w R' PR' :=
  Calls.mono h fun _ _ he => he.elim (fun ⟨r0, he, hR⟩ => .inl ⟨r0, he, hr _ _ hR⟩) fun ⟨v, he, hP⟩ => .inr ⟨v, he, hp _ _ hP⟩
def C7 (w : World) (R : Option Addr → World → Prop) : Prop :=
  Calls Tryz.prog 7 #[] w fun e w' => ∃ r0 : Option Addr, e = .returned (.pointer r0) ∧ R r0 w'
theorem C7.mono {w : World} {R R' : Option Addr → World → Prop} (h : C7 w R) (hr : ∀ r0 w', R r0 w' → R' r0 w') : C7 w R' :=
  Calls.mono h fun _ _ ⟨r0, he, hR⟩ => ⟨r0, he, hr _ _ hR⟩
def C77 (t1 : Option Addr) (x2 : Int) (y3 : Int) (w : World) (R : World → Prop) (PR : Value → World → Prop) : Prop :=
  Calls Tryz.prog 77 #[.pointer t1, .int .i64 x2, .int .i64 y3] w fun e w' => (e = .returned (.tuple #[]) ∧ R w') ∨ ∃ v, e = .panicked (onePanic v) ∧ PR v w'
theorem C77.mono {t1 : Option Addr} {x2 : Int} {y3 : Int} {w : World} {R R' : World → Prop} {PR PR' : Value → World → Prop} (h : C77 t1 x2 y3 w R PR) (hr : ∀ w', R w' → R' w') (hp : ∀ v w', PR v w' → PR' v w') : C77 t1 x2 y3 w R' PR' :=
  Calls.mono h fun _ _ he => he.elim (fun ⟨he, hR⟩ => .inl ⟨he, hr _ hR⟩) fun ⟨v, he, hP⟩ => .inr ⟨v, he, hp _ _ hP⟩
def C78 (t1 : Option Addr) (w : World) (R : World → Prop) (PR : Value → World → Prop) : Prop :=
  Calls Tryz.prog 78 #[.pointer t1] w fun e w' => (e = .returned (.tuple #[]) ∧ R w') ∨ ∃ v, e = .panicked (onePanic v) ∧ PR v w'
theorem C78.mono {t1 : Option Addr} {w : World} {R R' : World → Prop} {PR PR' : Value → World → Prop} (h : C78 t1 w R PR) (hr : ∀ w', R w' → R' w') (hp : ∀ v w', PR v w' → PR' v w') : C78 t1 w R' PR' :=
  Calls.mono h fun _ _ he => he.elim (fun ⟨he, hR⟩ => .inl ⟨he, hr _ hR⟩) fun ⟨v, he, hP⟩ => .inr ⟨v, he, hp _ _ hP⟩
def C79 (t1 : Option Addr) (w : World) (R : World → Prop) (PR : Value → World → Prop) : Prop :=
  Calls Tryz.prog 79 #[.pointer t1] w fun e w' => (e = .returned (.tuple #[]) ∧ R w') ∨ ∃ v, e = .panicked (onePanic v) ∧ PR v w'
theorem C79.mono {t1 : Option Addr} {w : World} {R R' : World → Prop} {PR PR' : Value → World → Prop} (h : C79 t1 w R PR) (hr : ∀ w', R w' → R' w') (hp : ∀ v w', PR v w' → PR' v w') : C79 t1 w R' PR' :=
  Calls.mono h fun _ _ he => he.elim (fun ⟨he, hR⟩ => .inl ⟨he, hr _ hR⟩) fun ⟨v, he, hP⟩ => .inr ⟨v, he, hp _ _ hP⟩
def C80 (t1 : Option Addr) (s2 : ByteArray) (w : World) (R : World → Prop) (PR : Value → World → Prop) : Prop :=
  Calls Tryz.prog 80 #[.pointer t1, .string s2] w fun e w' => (e = .returned (.tuple #[]) ∧ R w') ∨ ∃ v, e = .panicked (onePanic v) ∧ PR v w'
theorem C80.mono {t1 : Option Addr} {s2 : ByteArray} {w : World} {R R' : World → Prop} {PR PR' : Value → World → Prop} (h : C80 t1 s2 w R PR) (hr : ∀ w', R w' → R' w') (hp : ∀ v w', PR v w' → PR' v w') : C80 t1 s2 w R' PR' :=
  Calls.mono h fun _ _ he => he.elim (fun ⟨he, hR⟩ => .inl ⟨he, hr _ hR⟩) fun ⟨v, he, hP⟩ => .inr ⟨v, he, hp _ _ hP⟩
def C81 (t1 : Option Addr) (w : World) (R : World → Prop) (PR : Value → World → Prop) : Prop :=
  Calls Tryz.prog 81 #[.pointer t1] w fun e w' => (e = .returned (.tuple #[]) ∧ R w') ∨ ∃ v, e = .panicked (onePanic v) ∧ PR v w'
theorem C81.mono {t1 : Option Addr} {w : World} {R R' : World → Prop} {PR PR' : Value → World → Prop} (h : C81 t1 w R PR) (hr : ∀ w', R w' → R' w') (hp : ∀ v w', PR v w' → PR' v w') : C81 t1 w R' PR' :=
  Calls.mono h fun _ _ he => he.elim (fun ⟨he, hR⟩ => .inl ⟨he, hr _ hR⟩) fun ⟨v, he, hP⟩ => .inr ⟨v, he, hp _ _ hP⟩
def C44 (t1 : Option Addr) (w : World) (R : World → Prop) (PR : Value → World → Prop) : Prop :=
  Calls Tryz.prog 44 #[.pointer t1] w fun e w' => (e = .returned (.tuple #[]) ∧ R w') ∨ ∃ v, e = .panicked (onePanic v) ∧ PR v w'
theorem C44.mono {t1 : Option Addr} {w : World} {R R' : World → Prop} {PR PR' : Value → World → Prop} (h : C44 t1 w R PR) (hr : ∀ w', R w' → R' w') (hp : ∀ v w', PR v w' → PR' v w') : C44 t1 w R' PR' :=
  Calls.mono h fun _ _ he => he.elim (fun ⟨he, hR⟩ => .inl ⟨he, hr _ hR⟩) fun ⟨v, he, hP⟩ => .inr ⟨v, he, hp _ _ hP⟩
def C13 (x1 : Option Addr) (o2 : ByteArray × Slc × ByteArray) (g3 : TyA30) (f4 : TyA34) (w : World) (R : Slc → Int → World → Prop) : Prop :=
  Calls Tryz.prog 13 #[.pointer x1, .agg #[.string o2.1, Slc.v o2.2.1, .string o2.2.2], .agg (Sig.cells LiA30 g3).toArray, .agg (Sig.cells LiA34 f4).toArray] w fun e w' => ∃ r0 : Slc, ∃ r1 : Int, e = .returned (.tuple #[Slc.v r0, .int .i64 r1]) ∧ R r0 r1 w'
theorem C13.mono {x1 : Option Addr} {o2 : ByteArray × Slc × ByteArray} {g3 : TyA30} {f4 : TyA34} {w : World} {R R' : Slc → Int → World → Prop} (h : C13 x1 o2 g3 f4 w R) (hr : ∀ r0 r1 w', R r0 r1 w' → R' r0 r1 w') : C13 x1 o2 g3 f4 w R' :=
  Calls.mono h fun _ _ ⟨r0, r1, he, hR⟩ => ⟨r0, r1, he, hr _ _ _ hR⟩
def C16 (x1 : Option Addr) (w : World) (R : Bool → World → Prop) : Prop :=
  Calls Tryz.prog 16 #[.pointer x1] w fun e w' => ∃ r0 : Bool, e = .returned (.bool r0) ∧ R r0 w'
theorem C16.mono {x1 : Option Addr} {w : World} {R R' : Bool → World → Prop} (h : C16 x1 w R) (hr : ∀ r0 w', R r0 w' → R' r0 w') : C16 x1 w R' :=
  Calls.mono h fun _ _ ⟨r0, he, hR⟩ => ⟨r0, he, hr _ _ hR⟩
def C17 (x1 : Option Addr) (w : World) (R : (Int × Int × Int × Int × Int × Int) → World → Prop) : Prop :=
  Calls Tryz.prog 17 #[.pointer x1] w fun e w' => ∃ r0 : Int × Int × Int × Int × Int × Int, e = .returned (.agg #[.int .i64 (r0.1), .int .i64 (r0.2.1), .int .i64 (r0.2.2.1), .int .i64 (r0.2.2.2.1), .int .i64 (r0.2.2.2.2.1), .int .i64 (r0.2.2.2.2.2)]) ∧ R r0 w'
theorem C17.mono {x1 : Option Addr} {w : World} {R R' : (Int × Int × Int × Int × Int × Int) → World → Prop} (h : C17 x1 w R) (hr : ∀ r0 w', R r0 w' → R' r0 w') : C17 x1 w R' :=
  Calls.mono h fun _ _ ⟨r0, he, hR⟩ => ⟨r0, he, hr _ _ hR⟩

/-- (*foliant/show.Machine).Do$1 -/
def S38_nil (c1 : Addr) (c2 : Addr) (w : World) (R : World → Prop) : Prop :=
  C30 Value.nilIface (some c1) w (fun vw3 =>
    Ld vw3 c1 (Value.int .i64) fun (x4 : Int) =>
    Br (x4 != 0) (St vw3 c2 (Slc.v ((⟨none, 0, 0⟩ : Slc))) fun vw5 =>
      R vw5) (R vw3)) (fun _ _ => False)
def pl38_nil : Plan := (.seq (.reg .seq) (.cond (.reg .seq) .leaf))
set_option maxRecDepth 100000 in
theorem T38_nil (c1 : Addr) (c2 : Addr) (w : World) (R : World → Prop) (h : S38_nil c1 c2 w R) : CD38 c1 c2 none w R := by
  have e : fnTS Tryz.prog FF MAY pl38_nil Tryz.f38 [.pointer (some c1), .pointer (some c2)] none w R = S38_nil c1 c2 w R := by kernel_rfl
  exact fnS_calls okF okM Tryz.func38 (by kernel_rfl) (by kernel_rfl) (e.mpr h)

/-- (*foliant/show.Machine).Do$1 -/
def S38_T106 (c1 : Addr) (c2 : Addr) (u3 : Int) (w : World) (R : World → Prop) : Prop :=
  C30 (.iface 106 (.agg #[.int .i64 u3])) (some c1) w (fun vw4 =>
    Ld vw4 c1 (Value.int .i64) fun (x5 : Int) =>
    Br (x5 != 0) (St vw4 c2 (Slc.v ((⟨none, 0, 0⟩ : Slc))) fun vw6 =>
      R vw6) (R vw4)) (fun _ _ => False)
def pl38_T106 : Plan := (.seq (.reg .seq) (.cond (.reg .seq) .leaf))
set_option maxRecDepth 100000 in
theorem T38_T106 (c1 : Addr) (c2 : Addr) (u3 : Int) (w : World) (R : World → Prop) (h : S38_T106 c1 c2 u3 w R) : CD38 c1 c2 (some (.iface 106 (.agg #[.int .i64 u3]))) w R := by
  have e : fnTS Tryz.prog FF MAY pl38_T106 Tryz.f38 [.pointer (some c1), .pointer (some c2)] (some (.iface 106 (.agg #[.int .i64 u3]))) w R = S38_T106 c1 c2 u3 w R := by kernel_rfl
  exact fnS_calls okF okM Tryz.func38 (by kernel_rfl) (by kernel_rfl) (e.mpr h)

/-- foliant/show.knows -/
def S40 (name1 : ByteArray) (w : World) (R : Bool → World → Prop) : Prop :=
  Nw w (.cells #[.string ((⟨#[66, 84]⟩ : ByteArray)), .string ((⟨#[69, 84]⟩ : ByteArray)), .string ((⟨#[84, 100]⟩ : ByteArray)), .string ((⟨#[84, 68]⟩ : ByteArray)), .string ((⟨#[84, 42]⟩ : ByteArray)), .string ((⟨#[84, 109]⟩ : ByteArray)), .string ((⟨#[84, 106]⟩ : ByteArray)), .string ((⟨#[39]⟩ : ByteArray)), .string ((⟨#[34]⟩ : ByteArray)), .string ((⟨#[84, 74]⟩ : ByteArray))] 9) fun vw2 =>
  C72 (⟨some ⟨w.heap.size, 0, none⟩, 10, 10⟩ : Slc) name1 vw2 fun r3 vw4 =>
    R r3 vw4
def pl40 : Plan := (.seq (.reg .seq) (.seq (.reg .seq) .leaf))
set_option maxRecDepth 100000 in
theorem T40 (name1 : ByteArray) (w : World) (R : Bool → World → Prop) (h : S40 name1 w R) : C40 name1 w R := by
  have e : fnT Tryz.prog ⟨FF, MAY, (fun _ _ => False)⟩ pl40 Tryz.f40 [.string name1] w [(.one .bool)] (fun s w => R s w) = S40 name1 w R := by kernel_rfl
  exact (fn_calls okF okM Tryz.func40 (by kernel_rfl) (by kernel_rfl) (e.mpr h)).mono fun _ _ ⟨s, he, hR⟩ => ⟨s, he, hR⟩

/-- foliant/show.must[foliant/api.Op] -/
def S41 (x1 : ByteArray × Slc × ByteArray) (why2 : Int) (w : World) (R : (ByteArray × Slc × ByteArray) → World → Prop) (PR : Value → World → Prop) : Prop :=
  Nw w (.cells #[.string x1.1, Slc.v x1.2.1, .string x1.2.2] 48) fun vw3 =>
  Nw vw3 (.cells #[.string ((⟨#[]⟩ : ByteArray)), Slc.v ((⟨none, 0, 0⟩ : Slc)), .string ((⟨#[]⟩ : ByteArray))] 48) fun vw4 =>
  C39 (why2 == 0) why2 vw4 (fun vw5 =>
    Ld vw5 (⟨w.heap.size, 0, none⟩ : Addr) Value.string fun (x6 : ByteArray) =>
    Ld vw5 ((⟨w.heap.size, 0, none⟩ : Addr).add 1) Slc.v fun (x7 : Slc) =>
    Ld vw5 ((⟨w.heap.size, 0, none⟩ : Addr).add 2) Value.string fun (x8 : ByteArray) =>
    St vw5 (⟨vw3.heap.size, 0, none⟩ : Addr) (.string x6) fun vw9 =>
    St vw9 ((⟨vw3.heap.size, 0, none⟩ : Addr).add 1) (Slc.v x7) fun vw10 =>
    St vw10 ((⟨vw3.heap.size, 0, none⟩ : Addr).add 2) (.string x8) fun vw11 =>
    Ld vw11 (⟨vw3.heap.size, 0, none⟩ : Addr) Value.string fun (x12 : ByteArray) =>
    Ld vw11 ((⟨vw3.heap.size, 0, none⟩ : Addr).add 1) Slc.v fun (x13 : Slc) =>
    Ld vw11 ((⟨vw3.heap.size, 0, none⟩ : Addr).add 2) Value.string fun (x14 : ByteArray) =>
    R (x12, x13, x14) vw11) PR
def pl41 : Plan := (.seq (.reg .seq) (.seq (.reg .seq) (.seq (.reg .seq) .leaf)))
set_option maxRecDepth 100000 in
theorem T41 (x1 : ByteArray × Slc × ByteArray) (why2 : Int) (w : World) (R : (ByteArray × Slc × ByteArray) → World → Prop) (PR : Value → World → Prop) (h : S41 x1 why2 w R PR) : C41 (x1.1, x1.2.1, x1.2.2) why2 w R PR := by
  have e : fnT Tryz.prog ⟨FF, MAY, PR⟩ pl41 Tryz.f41 [.agg #[.string x1.1, Slc.v x1.2.1, .string x1.2.2], .int .i64 why2] w [(.agg [.str, .slc, .str])] (fun s w => R s w) = S41 x1 why2 w R PR := by kernel_rfl
  exact (fn_callsP okF okM Tryz.func41 (by kernel_rfl) (by kernel_rfl) (e.mpr h)).mono fun _ _ he => he.elim (fun ⟨s, he, hR⟩ => .inl ⟨s, he, hR⟩) .inr

/-- foliant/show.must[[]int64] -/
def S75 (x1 : Slc) (why2 : Int) (w : World) (R : Slc → World → Prop) (PR : Value → World → Prop) : Prop :=
  C39 (why2 == 0) why2 w (fun vw3 =>
    R x1 vw3) PR
def pl75 : Plan := (.seq (.reg .seq) (.seq (.reg .seq) (.seq (.reg .seq) .leaf)))
set_option maxRecDepth 100000 in
theorem T75 (x1 : Slc) (why2 : Int) (w : World) (R : Slc → World → Prop) (PR : Value → World → Prop) (h : S75 x1 why2 w R PR) : C75 x1 why2 w R PR := by
  have e : fnT Tryz.prog ⟨FF, MAY, PR⟩ pl75 Tryz.f75 [Slc.v x1, .int .i64 why2] w [(.one .slc)] (fun s w => R s w) = S75 x1 why2 w R PR := by kernel_rfl
  exact (fn_callsP okF okM Tryz.func75 (by kernel_rfl) (by kernel_rfl) (e.mpr h)).mono fun _ _ he => he.elim (fun ⟨s, he, hR⟩ => .inl ⟨s, he, hR⟩) .inr

def S43L1 (r4 : ByteArray) (vw5 : World) (x40 : Slc) (R : Slc → World → Prop) (PR : Value → World → Prop) (I43 : Int → World → Prop) (s41 : Int) (vw42 : World) : Prop :=
  Br (decide (s41 < ((x40.len : Nat) : Int))) (0 ≤ s41 ∧ s41 < (x40.len : Nat) ∧ Nn x40.p fun a44 =>
    Ld vw42 (a44.add ((s41).toNat * 6)) (Value.int .i64) fun (x45 : Int) =>
    Ld vw42 ((a44.add ((s41).toNat * 6)).add 1) (Value.int .i64) fun (x46 : Int) =>
    Ld vw42 ((a44.add ((s41).toNat * 6)).add 2) (Value.int .i64) fun (x47 : Int) =>
    Ld vw42 ((a44.add ((s41).toNat * 6)).add 3) Value.string fun (x48 : ByteArray) =>
    Ld vw42 ((a44.add ((s41).toNat * 6)).add 4) Slc.v fun (x49 : Slc) =>
    Ld vw42 ((a44.add ((s41).toNat * 6)).add 5) Slc.v fun (x50 : Slc) =>
    Nw vw42 (.cells #[.int .i64 0, .int .i64 0, .int .i64 0, .string ((⟨#[]⟩ : ByteArray)), Slc.v ((⟨none, 0, 0⟩ : Slc)), Slc.v ((⟨none, 0, 0⟩ : Slc))] 61) fun vw51 =>
    St vw51 (⟨vw42.heap.size, 0, none⟩ : Addr) (.int .i64 x45) fun vw52 =>
    St vw52 ((⟨vw42.heap.size, 0, none⟩ : Addr).add 1) (.int .i64 x46) fun vw53 =>
    St vw53 ((⟨vw42.heap.size, 0, none⟩ : Addr).add 2) (.int .i64 x47) fun vw54 =>
    St vw54 ((⟨vw42.heap.size, 0, none⟩ : Addr).add 3) (.string x48) fun vw55 =>
    St vw55 ((⟨vw42.heap.size, 0, none⟩ : Addr).add 4) (Slc.v x49) fun vw56 =>
    St vw56 ((⟨vw42.heap.size, 0, none⟩ : Addr).add 5) (Slc.v x50) fun vw57 =>
    0 ≤ s41 ∧ s41 < ((r4).size : Nat) ∧ Br ((bAt r4 s41) == 110) (Ld vw57 ((⟨vw5.heap.size, 0, none⟩ : Addr).add 1) Slc.v fun (x58 : Slc) =>
      Ld vw57 (⟨vw42.heap.size, 0, none⟩ : Addr) (Value.int .i64) fun (x59 : Int) =>
      Ld vw57 ((⟨vw42.heap.size, 0, none⟩ : Addr).add 1) (Value.int .i64) fun (x60 : Int) =>
      Ld vw57 ((⟨vw42.heap.size, 0, none⟩ : Addr).add 2) (Value.int .i64) fun (x61 : Int) =>
      Ld vw57 ((⟨vw42.heap.size, 0, none⟩ : Addr).add 3) Value.string fun (x62 : ByteArray) =>
      Ld vw57 ((⟨vw42.heap.size, 0, none⟩ : Addr).add 4) Slc.v fun (x63 : Slc) =>
      Ld vw57 ((⟨vw42.heap.size, 0, none⟩ : Addr).add 5) Slc.v fun (x64 : Slc) =>
      Nw vw57 (.cells #[.int .i64 x59, .int .i64 x60, .int .i64 x61, .string x62, Slc.v x63, Slc.v x64] 61) fun vw65 =>
      Rn Tryz.prog (Builtin.append_ #[46, 46] 46 #[Slc.v x58, Slc.v ((⟨some ⟨vw57.heap.size, 0, none⟩, 1, 1⟩ : Slc))]) vw65 Slc.v fun (x66 : Slc) vw67 =>
      St vw67 ((⟨vw5.heap.size, 0, none⟩ : Addr).add 1) (Slc.v x66) fun vw68 =>
      I43 (IntKind.i64.wrap (s41 + 1)) vw68) (I43 (IntKind.i64.wrap (s41 + 1)) vw57)) (Ld vw42 (⟨vw5.heap.size, 0, none⟩ : Addr) Value.string fun (x69 : ByteArray) =>
    Ld vw42 ((⟨vw5.heap.size, 0, none⟩ : Addr).add 1) Slc.v fun (x70 : Slc) =>
    Ld vw42 ((⟨vw5.heap.size, 0, none⟩ : Addr).add 2) Value.string fun (x71 : ByteArray) =>
    C76 (x69, x70, x71) vw42 fun r72 r73 vw74 =>
      C75 r72 r73 vw74 (fun r75 vw76 =>
        R r75 vw76) PR)
/-- foliant/show.numbers -/
def S43 (o1 : ByteArray × Slc × ByteArray) (w : World) (R : Slc → World → Prop) (PR : Value → World → Prop) : Prop :=
  Nw w (.cells #[.string o1.1, Slc.v o1.2.1, .string o1.2.2] 48) fun vw2 =>
  Ld vw2 (⟨w.heap.size, 0, none⟩ : Addr) Value.string fun (x3 : ByteArray) =>
  C73 x3 vw2 fun r4 vw5 =>
    Ld vw5 (⟨w.heap.size, 0, none⟩ : Addr) Value.string fun (x6 : ByteArray) =>
    Nw vw5 (.cells #[.string ((⟨#[]⟩ : ByteArray)), Slc.v ((⟨none, 0, 0⟩ : Slc)), .string ((⟨#[]⟩ : ByteArray))] 48) fun vw7 =>
    St vw7 (⟨vw5.heap.size, 0, none⟩ : Addr) (.string x6) fun vw8 =>
    St vw8 ((⟨vw5.heap.size, 0, none⟩ : Addr).add 1) (Slc.v ((⟨none, 0, 0⟩ : Slc))) fun vw9 =>
    St vw9 ((⟨vw5.heap.size, 0, none⟩ : Addr).add 2) (.string ((⟨#[]⟩ : ByteArray))) fun vw10 =>
    Ld vw10 ((⟨w.heap.size, 0, none⟩ : Addr).add 1) Slc.v fun (x40 : Slc) =>
    Lp (σ := Int) (S43L1 r4 vw5 x40 R PR) 0 vw10
def pl43 : Plan := (.seq (.reg .seq) (.seq (.reg .seq) (.seq (.reg .seq) (.seq (.seq (.reg .seq) (.block (.loop [(16, (.one (.int .i64)))] [3, 4, 14, 15] (.seq (.reg .seq) (.seq (.cond .leaf .leaf) (.seq (.block (.seq (.reg .seq) (.seq (.reg .seq) (.cond (.reg .seq) .leaf)))) (.reg .seq))))))) (.seq (.reg .seq) .leaf)))))
set_option maxRecDepth 100000 in
theorem T43 (o1 : ByteArray × Slc × ByteArray) (w : World) (R : Slc → World → Prop) (PR : Value → World → Prop) (h : S43 o1 w R PR) : C43 (o1.1, o1.2.1, o1.2.2) w R PR := by
  have e : fnT Tryz.prog ⟨FF, MAY, PR⟩ pl43 Tryz.f43 [.agg #[.string o1.1, Slc.v o1.2.1, .string o1.2.2]] w [(.one .slc)] (fun s w => R s w) = S43 o1 w R PR := by kernel_rfl
  exact (fn_callsP okF okM Tryz.func43 (by kernel_rfl) (by kernel_rfl) (e.mpr h)).mono fun _ _ he => he.elim (fun ⟨s, he, hR⟩ => .inl ⟨s, he, hR⟩) .inr

/-- foliant/show.New -/
def S7 (w : World) (R : Option Addr → World → Prop) : Prop :=
  C24 w fun r1 vw2 =>
    C24 vw2 fun r3 vw4 =>
      Nw vw4 (.cells #[.bool false, .int .i64 (r1.1), .int .i64 (r1.2.1), .int .i64 (r1.2.2.1), .int .i64 (r1.2.2.2.1), .int .i64 (r1.2.2.2.2.1), .int .i64 (r1.2.2.2.2.2), .int .i64 (r3.1), .int .i64 (r3.2.1), .int .i64 (r3.2.2.1), .int .i64 (r3.2.2.2.1), .int .i64 (r3.2.2.2.2.1), .int .i64 (r3.2.2.2.2.2)] 73) fun vw5 =>
      R (some (⟨vw4.heap.size, 0, none⟩ : Addr)) vw5
def pl7 : Plan := (.seq (.reg .seq) (.seq (.reg .seq) .leaf))
set_option maxRecDepth 100000 in
theorem T7 (w : World) (R : Option Addr → World → Prop) (h : S7 w R) : C7 w R := by
  have e : fnT Tryz.prog ⟨FF, MAY, (fun _ _ => False)⟩ pl7 Tryz.f7 [] w [(.one .ptr)] (fun s w => R s w) = S7 w R := by kernel_rfl
  exact (fn_calls okF okM Tryz.func7 (by kernel_rfl) (by kernel_rfl) (e.mpr h)).mono fun _ _ ⟨s, he, hR⟩ => ⟨s, he, hR⟩

/-- (*foliant/show.turn).move -/
def S77 (t1 : Option Addr) (x2 : Int) (y3 : Int) (w : World) (R : World → Prop) (PR : Value → World → Prop) : Prop :=
  ∃ vS4 : World → Prop, vS4 w.drew ∧ Nn t1 fun a5 =>
  LdS vS4 (a5.add 7) (Value.int .i64) fun (x6 : Int) =>
  LdS vS4 ((a5.add 7).add 1) (Value.int .i64) fun (x7 : Int) =>
  LdS vS4 ((a5.add 7).add 2) (Value.int .i64) fun (x8 : Int) =>
  LdS vS4 ((a5.add 7).add 3) (Value.int .i64) fun (x9 : Int) =>
  LdS vS4 ((a5.add 7).add 4) (Value.int .i64) fun (x10 : Int) =>
  LdS vS4 ((a5.add 7).add 5) (Value.int .i64) fun (x11 : Int) =>
  C116 x2 y3 w.drew fun r12 vw13 =>
    vS4 vw13 ∧ C115 (r12.1, r12.2.1, r12.2.2.1, r12.2.2.2.1, r12.2.2.2.2.1, r12.2.2.2.2.2) (x6, x7, x8, x9, x10, x11) vw13 fun r14 r15 vw16 =>
      C89 (r14.1, r14.2.1, r14.2.2.1, r14.2.2.2.1, r14.2.2.2.2.1, r14.2.2.2.2.2) r15 vw16 (fun r17 vw18 =>
        Nn t1 fun a19 =>
        St vw18 (a19.add 7) (.int .i64 (r17.1)) fun vw20 =>
        St vw20 ((a19.add 7).add 1) (.int .i64 (r17.2.1)) fun vw21 =>
        St vw21 ((a19.add 7).add 2) (.int .i64 (r17.2.2.1)) fun vw22 =>
        St vw22 ((a19.add 7).add 3) (.int .i64 (r17.2.2.2.1)) fun vw23 =>
        St vw23 ((a19.add 7).add 4) (.int .i64 (r17.2.2.2.2.1)) fun vw24 =>
        St vw24 ((a19.add 7).add 5) (.int .i64 (r17.2.2.2.2.2)) fun vw25 =>
        Nn t1 fun a26 =>
        Ld vw25 (a26.add 7) (Value.int .i64) fun (x27 : Int) =>
        Ld vw25 ((a26.add 7).add 1) (Value.int .i64) fun (x28 : Int) =>
        Ld vw25 ((a26.add 7).add 2) (Value.int .i64) fun (x29 : Int) =>
        Ld vw25 ((a26.add 7).add 3) (Value.int .i64) fun (x30 : Int) =>
        Ld vw25 ((a26.add 7).add 4) (Value.int .i64) fun (x31 : Int) =>
        Ld vw25 ((a26.add 7).add 5) (Value.int .i64) fun (x32 : Int) =>
        Nn t1 fun a33 =>
        St vw25 (a33.add 1) (.int .i64 x27) fun vw34 =>
        St vw34 ((a33.add 1).add 1) (.int .i64 x28) fun vw35 =>
        St vw35 ((a33.add 1).add 2) (.int .i64 x29) fun vw36 =>
        St vw36 ((a33.add 1).add 3) (.int .i64 x30) fun vw37 =>
        St vw37 ((a33.add 1).add 4) (.int .i64 x31) fun vw38 =>
        St vw38 ((a33.add 1).add 5) (.int .i64 x32) fun vw39 =>
        R vw39) PR
def pl77 : Plan := (.seq (.reg (.held [9] (.take 0 (.take 1 (.take 2 (.take 4 (.take 5 (.take 6 (.take 7 (.take 8 (.eff 3 none (.eff 9 (some [12]) (.take 10 (.take 11 (.eff 12 (some [16]) (.take 13 (.take 14 (.take 15 (.eff 16 (some []) .done))))))))))))))))))) (.reg .seq))
set_option maxRecDepth 100000 in
theorem T77 (t1 : Option Addr) (x2 : Int) (y3 : Int) (w : World) (R : World → Prop) (PR : Value → World → Prop) (h : S77 t1 x2 y3 w R PR) : C77 t1 x2 y3 w R PR := by
  have e : fnT Tryz.prog ⟨FF, MAY, PR⟩ pl77 Tryz.f77 [.pointer t1, .int .i64 x2, .int .i64 y3] w [] (fun _ w => R w) = S77 t1 x2 y3 w R PR := by kernel_rfl
  exact (fn_callsP okF okM Tryz.func77 (by kernel_rfl) (by kernel_rfl) (e.mpr h)).mono fun _ _ he => he.elim (fun ⟨_, he, hR⟩ => .inl ⟨he, hR⟩) .inr

/-- (*foliant/show.turn).next -/
def S78 (t1 : Option Addr) (w : World) (R : World → Prop) (PR : Value → World → Prop) : Prop :=
  Nn t1 fun a2 =>
  LdT w (a2.add 13) 0 LiA30 fun (x3 : TyA30) =>
  C31 x3 w (fun vw4 =>
    Nn t1 fun a5 =>
    Ld vw4 (((a5.add 13).add 22).add 3) (Value.int .i64) fun (x6 : Int) =>
    C77 t1 0 (IntKind.i64.wrap (0 - x6)) vw4 (fun vw7 =>
      R vw7) PR) PR
def pl78 : Plan := (.seq (.reg .seq) (.reg .seq))
set_option maxRecDepth 100000 in
theorem T78 (t1 : Option Addr) (w : World) (R : World → Prop) (PR : Value → World → Prop) (h : S78 t1 w R PR) : C78 t1 w R PR := by
  have e : fnT Tryz.prog ⟨FF, MAY, PR⟩ pl78 Tryz.f78 [.pointer t1] w [] (fun _ w => R w) = S78 t1 w R PR := by kernel_rfl
  exact (fn_callsP okF okM Tryz.func78 (by kernel_rfl) (by kernel_rfl) (e.mpr h)).mono fun _ _ he => he.elim (fun ⟨_, he, hR⟩ => .inl ⟨he, hR⟩) .inr

/-- (*foliant/show.turn).set -/
def S79 (t1 : Option Addr) (w : World) (R : World → Prop) (PR : Value → World → Prop) : Prop :=
  Nn t1 fun a2 =>
  Ld w (a2.add 53) Slc.v fun (x3 : Slc) =>
  ∃ vS4 : World → Prop, vS4 w.drew ∧ 0 ≤ (0 : Int) ∧ (0 : Int) < (x3.len : Nat) ∧ Nn x3.p fun a5 =>
  LdS vS4 (a5.add (((0 : Int)).toNat * 1)) (Value.int .i64) fun (x6 : Int) =>
  0 ≤ (1 : Int) ∧ (1 : Int) < (x3.len : Nat) ∧ Nn x3.p fun a7 =>
  LdS vS4 (a7.add (((1 : Int)).toNat * 1)) (Value.int .i64) fun (x8 : Int) =>
  0 ≤ (2 : Int) ∧ (2 : Int) < (x3.len : Nat) ∧ Nn x3.p fun a9 =>
  LdS vS4 (a9.add (((2 : Int)).toNat * 1)) (Value.int .i64) fun (x10 : Int) =>
  0 ≤ (3 : Int) ∧ (3 : Int) < (x3.len : Nat) ∧ Nn x3.p fun a11 =>
  LdS vS4 (a11.add (((3 : Int)).toNat * 1)) (Value.int .i64) fun (x12 : Int) =>
  0 ≤ (4 : Int) ∧ (4 : Int) < (x3.len : Nat) ∧ Nn x3.p fun a13 =>
  LdS vS4 (a13.add (((4 : Int)).toNat * 1)) (Value.int .i64) fun (x14 : Int) =>
  0 ≤ (5 : Int) ∧ (5 : Int) < (x3.len : Nat) ∧ Nn x3.p fun a15 =>
  LdS vS4 (a15.add (((5 : Int)).toNat * 1)) (Value.int .i64) fun (x16 : Int) =>
  Nw w.drew (.cells #[.int .i64 0, .int .i64 0, .int .i64 0, .int .i64 0, .int .i64 0, .int .i64 0] 24) fun vw17 =>
  vS4 vw17 ∧ St vw17 (⟨w.drew.heap.size, 0, none⟩ : Addr) (.int .i64 x6) fun vw18 =>
  St vw18 ((⟨w.drew.heap.size, 0, none⟩ : Addr).add 1) (.int .i64 x8) fun vw19 =>
  St vw19 ((⟨w.drew.heap.size, 0, none⟩ : Addr).add 2) (.int .i64 x10) fun vw20 =>
  St vw20 ((⟨w.drew.heap.size, 0, none⟩ : Addr).add 3) (.int .i64 x12) fun vw21 =>
  St vw21 ((⟨w.drew.heap.size, 0, none⟩ : Addr).add 4) (.int .i64 x14) fun vw22 =>
  St vw22 ((⟨w.drew.heap.size, 0, none⟩ : Addr).add 5) (.int .i64 x16) fun vw23 =>
  ∃ vS24 : World → Prop, vS24 vw23.drew ∧ LdS vS24 (⟨w.drew.heap.size, 0, none⟩ : Addr) (Value.int .i64) fun (x25 : Int) =>
  LdS vS24 ((⟨w.drew.heap.size, 0, none⟩ : Addr).add 1) (Value.int .i64) fun (x26 : Int) =>
  LdS vS24 ((⟨w.drew.heap.size, 0, none⟩ : Addr).add 2) (Value.int .i64) fun (x27 : Int) =>
  LdS vS24 ((⟨w.drew.heap.size, 0, none⟩ : Addr).add 3) (Value.int .i64) fun (x28 : Int) =>
  LdS vS24 ((⟨w.drew.heap.size, 0, none⟩ : Addr).add 4) (Value.int .i64) fun (x29 : Int) =>
  LdS vS24 ((⟨w.drew.heap.size, 0, none⟩ : Addr).add 5) (Value.int .i64) fun (x30 : Int) =>
  LdS vS24 (⟨w.drew.heap.size, 0, none⟩ : Addr) (Value.int .i64) fun (x31 : Int) =>
  LdS vS24 ((⟨w.drew.heap.size, 0, none⟩ : Addr).add 1) (Value.int .i64) fun (x32 : Int) =>
  LdS vS24 ((⟨w.drew.heap.size, 0, none⟩ : Addr).add 2) (Value.int .i64) fun (x33 : Int) =>
  LdS vS24 ((⟨w.drew.heap.size, 0, none⟩ : Addr).add 3) (Value.int .i64) fun (x34 : Int) =>
  LdS vS24 ((⟨w.drew.heap.size, 0, none⟩ : Addr).add 4) (Value.int .i64) fun (x35 : Int) =>
  LdS vS24 ((⟨w.drew.heap.size, 0, none⟩ : Addr).add 5) (Value.int .i64) fun (x36 : Int) =>
  C57 (x31, x32, x33, x34, x35, x36) vw23.drew fun r37 vw38 =>
    vS24 vw38 ∧ C89 (x25, x26, x27, x28, x29, x30) r37 vw38 (fun r39 vw40 =>
      ∃ vS41 : World → Prop, vS41 vw40.drew ∧ LdS vS41 (⟨w.drew.heap.size, 0, none⟩ : Addr) (Value.int .i64) fun (x42 : Int) =>
      LdS vS41 ((⟨w.drew.heap.size, 0, none⟩ : Addr).add 1) (Value.int .i64) fun (x43 : Int) =>
      LdS vS41 ((⟨w.drew.heap.size, 0, none⟩ : Addr).add 2) (Value.int .i64) fun (x44 : Int) =>
      LdS vS41 ((⟨w.drew.heap.size, 0, none⟩ : Addr).add 3) (Value.int .i64) fun (x45 : Int) =>
      LdS vS41 ((⟨w.drew.heap.size, 0, none⟩ : Addr).add 4) (Value.int .i64) fun (x46 : Int) =>
      LdS vS41 ((⟨w.drew.heap.size, 0, none⟩ : Addr).add 5) (Value.int .i64) fun (x47 : Int) =>
      LdS vS41 (⟨w.drew.heap.size, 0, none⟩ : Addr) (Value.int .i64) fun (x48 : Int) =>
      LdS vS41 ((⟨w.drew.heap.size, 0, none⟩ : Addr).add 1) (Value.int .i64) fun (x49 : Int) =>
      LdS vS41 ((⟨w.drew.heap.size, 0, none⟩ : Addr).add 2) (Value.int .i64) fun (x50 : Int) =>
      LdS vS41 ((⟨w.drew.heap.size, 0, none⟩ : Addr).add 3) (Value.int .i64) fun (x51 : Int) =>
      LdS vS41 ((⟨w.drew.heap.size, 0, none⟩ : Addr).add 4) (Value.int .i64) fun (x52 : Int) =>
      LdS vS41 ((⟨w.drew.heap.size, 0, none⟩ : Addr).add 5) (Value.int .i64) fun (x53 : Int) =>
      Nn t1 fun a54 =>
      St vw40.drew (a54.add 1) (.int .i64 x42) fun vw55 =>
      St vw55 ((a54.add 1).add 1) (.int .i64 x43) fun vw56 =>
      St vw56 ((a54.add 1).add 2) (.int .i64 x44) fun vw57 =>
      St vw57 ((a54.add 1).add 3) (.int .i64 x45) fun vw58 =>
      St vw58 ((a54.add 1).add 4) (.int .i64 x46) fun vw59 =>
      St vw59 ((a54.add 1).add 5) (.int .i64 x47) fun vw60 =>
      vS41 vw60 ∧ Nn t1 fun a61 =>
      St vw60 (a61.add 7) (.int .i64 x48) fun vw62 =>
      St vw62 ((a61.add 7).add 1) (.int .i64 x49) fun vw63 =>
      St vw63 ((a61.add 7).add 2) (.int .i64 x50) fun vw64 =>
      St vw64 ((a61.add 7).add 3) (.int .i64 x51) fun vw65 =>
      St vw65 ((a61.add 7).add 4) (.int .i64 x52) fun vw66 =>
      St vw66 ((a61.add 7).add 5) (.int .i64 x53) fun vw67 =>
      R vw67) PR
def pl79 : Plan := (.seq (.reg .seq) (.seq (.reg (.held [20] (.take 0 (.take 1 (.take 2 (.take 3 (.take 4 (.take 5 (.take 6 (.take 7 (.take 8 (.take 9 (.take 10 (.take 11 (.take 12 (.take 13 (.take 14 (.take 15 (.take 16 (.take 17 (.take 18 (.eff 19 none (.eff 20 (some []) .done))))))))))))))))))))))) (.seq (.reg (.held [3] (.take 0 (.take 1 (.eff 2 none (.eff 3 (some []) .done)))))) (.reg (.held [11] (.take 0 (.take 1 (.take 2 (.take 3 (.take 4 (.take 5 (.take 6 (.eff 7 none (.take 8 (.take 9 (.take 10 (.eff 11 (some []) .done)))))))))))))))))
set_option maxRecDepth 100000 in
theorem T79 (t1 : Option Addr) (w : World) (R : World → Prop) (PR : Value → World → Prop) (h : S79 t1 w R PR) : C79 t1 w R PR := by
  have e : fnT Tryz.prog ⟨FF, MAY, PR⟩ pl79 Tryz.f79 [.pointer t1] w [] (fun _ w => R w) = S79 t1 w R PR := by kernel_rfl
  exact (fn_callsP okF okM Tryz.func79 (by kernel_rfl) (by kernel_rfl) (e.mpr h)).mono fun _ _ he => he.elim (fun ⟨_, he, hR⟩ => .inl ⟨he, hR⟩) .inr

/-- (*foliant/show.turn).show -/
def S80 (t1 : Option Addr) (s2 : ByteArray) (w : World) (R : World → Prop) (PR : Value → World → Prop) : Prop :=
  ∃ vS33 : World → Prop, vS33 w.drew ∧ Nn t1 fun a34 =>
  LdST vS33 (a34.add 13) 0 LiA83 fun (x35 : TyA83) =>
  Nn t1 fun a36 =>
  LdS vS33 (a36.add 1) (Value.int .i64) fun (x37 : Int) =>
  LdS vS33 ((a36.add 1).add 1) (Value.int .i64) fun (x38 : Int) =>
  LdS vS33 ((a36.add 1).add 2) (Value.int .i64) fun (x39 : Int) =>
  LdS vS33 ((a36.add 1).add 3) (Value.int .i64) fun (x40 : Int) =>
  LdS vS33 ((a36.add 1).add 4) (Value.int .i64) fun (x41 : Int) =>
  LdS vS33 ((a36.add 1).add 5) (Value.int .i64) fun (x42 : Int) =>
  (C55 x35 (x37, x38, x39, x40, x41, x42) s2 w.drew (fun r43 r44 vw45 =>
      Nw vw45 (.cells #[.int .i64 0, .int .i64 0, .int .i64 0, .int .i64 0, .int .i64 0, .int .i64 0] 24) fun vw46 =>
      St vw46 (⟨vw45.heap.size, 0, none⟩ : Addr) (.int .i64 (r44.1)) fun vw47 =>
      St vw47 ((⟨vw45.heap.size, 0, none⟩ : Addr).add 1) (.int .i64 (r44.2.1)) fun vw48 =>
      St vw48 ((⟨vw45.heap.size, 0, none⟩ : Addr).add 2) (.int .i64 (r44.2.2.1)) fun vw49 =>
      St vw49 ((⟨vw45.heap.size, 0, none⟩ : Addr).add 3) (.int .i64 (r44.2.2.2.1)) fun vw50 =>
      St vw50 ((⟨vw45.heap.size, 0, none⟩ : Addr).add 4) (.int .i64 (r44.2.2.2.2.1)) fun vw51 =>
      St vw51 ((⟨vw45.heap.size, 0, none⟩ : Addr).add 5) (.int .i64 (r44.2.2.2.2.2)) fun vw52 =>
      Nn t1 fun a53 =>
      Ld vw52 (a53.add 54) Slc.v fun (x54 : Slc) =>
      C39 (decide ((IntKind.i64.wrap (((x54.len : Nat) : Int) + ((r43.len : Nat) : Int))) ≤ 16384)) 6 vw52 (fun vw55 =>
        Nn t1 fun a56 =>
        Ld vw55 (a56.add 54) Slc.v fun (x57 : Slc) =>
        Rn Tryz.prog (Builtin.append_ #[49, 49] 49 #[Slc.v x57, Slc.v r43]) vw55 Slc.v fun (x58 : Slc) vw59 =>
        Nn t1 fun a60 =>
        St vw59 (a60.add 54) (Slc.v x58) fun vw61 =>
        Ld vw61 (⟨vw45.heap.size, 0, none⟩ : Addr) (Value.int .i64) fun (x62 : Int) =>
        Ld vw61 ((⟨vw45.heap.size, 0, none⟩ : Addr).add 1) (Value.int .i64) fun (x63 : Int) =>
        Ld vw61 ((⟨vw45.heap.size, 0, none⟩ : Addr).add 2) (Value.int .i64) fun (x64 : Int) =>
        Ld vw61 ((⟨vw45.heap.size, 0, none⟩ : Addr).add 3) (Value.int .i64) fun (x65 : Int) =>
        Ld vw61 ((⟨vw45.heap.size, 0, none⟩ : Addr).add 4) (Value.int .i64) fun (x66 : Int) =>
        Ld vw61 ((⟨vw45.heap.size, 0, none⟩ : Addr).add 5) (Value.int .i64) fun (x67 : Int) =>
        Nn t1 fun a68 =>
        St vw61 (a68.add 1) (.int .i64 x62) fun vw69 =>
        St vw69 ((a68.add 1).add 1) (.int .i64 x63) fun vw70 =>
        St vw70 ((a68.add 1).add 2) (.int .i64 x64) fun vw71 =>
        St vw71 ((a68.add 1).add 3) (.int .i64 x65) fun vw72 =>
        St vw72 ((a68.add 1).add 4) (.int .i64 x66) fun vw73 =>
        St vw73 ((a68.add 1).add 5) (.int .i64 x67) fun vw74 =>
        R vw74) PR) PR) ∧
  (Nw w.drew (.cells #[.int .i64 0, .int .i64 0, .int .i64 0, .int .i64 0, .int .i64 0, .int .i64 0] 24) fun vw75 =>
    vS33 vw75 ∧ C55 x35 (x37, x38, x39, x40, x41, x42) s2 vw75 (fun r76 r77 vw78 =>
      St vw78 (⟨w.drew.heap.size, 0, none⟩ : Addr) (.int .i64 (r77.1)) fun vw79 =>
      St vw79 ((⟨w.drew.heap.size, 0, none⟩ : Addr).add 1) (.int .i64 (r77.2.1)) fun vw80 =>
      St vw80 ((⟨w.drew.heap.size, 0, none⟩ : Addr).add 2) (.int .i64 (r77.2.2.1)) fun vw81 =>
      St vw81 ((⟨w.drew.heap.size, 0, none⟩ : Addr).add 3) (.int .i64 (r77.2.2.2.1)) fun vw82 =>
      St vw82 ((⟨w.drew.heap.size, 0, none⟩ : Addr).add 4) (.int .i64 (r77.2.2.2.2.1)) fun vw83 =>
      St vw83 ((⟨w.drew.heap.size, 0, none⟩ : Addr).add 5) (.int .i64 (r77.2.2.2.2.2)) fun vw84 =>
      Nn t1 fun a85 =>
      Ld vw84 (a85.add 54) Slc.v fun (x86 : Slc) =>
      C39 (decide ((IntKind.i64.wrap (((x86.len : Nat) : Int) + ((r76.len : Nat) : Int))) ≤ 16384)) 6 vw84 (fun vw87 =>
        Nn t1 fun a88 =>
        Ld vw87 (a88.add 54) Slc.v fun (x89 : Slc) =>
        Rn Tryz.prog (Builtin.append_ #[49, 49] 49 #[Slc.v x89, Slc.v r76]) vw87 Slc.v fun (x90 : Slc) vw91 =>
        Nn t1 fun a92 =>
        St vw91 (a92.add 54) (Slc.v x90) fun vw93 =>
        Ld vw93 (⟨w.drew.heap.size, 0, none⟩ : Addr) (Value.int .i64) fun (x94 : Int) =>
        Ld vw93 ((⟨w.drew.heap.size, 0, none⟩ : Addr).add 1) (Value.int .i64) fun (x95 : Int) =>
        Ld vw93 ((⟨w.drew.heap.size, 0, none⟩ : Addr).add 2) (Value.int .i64) fun (x96 : Int) =>
        Ld vw93 ((⟨w.drew.heap.size, 0, none⟩ : Addr).add 3) (Value.int .i64) fun (x97 : Int) =>
        Ld vw93 ((⟨w.drew.heap.size, 0, none⟩ : Addr).add 4) (Value.int .i64) fun (x98 : Int) =>
        Ld vw93 ((⟨w.drew.heap.size, 0, none⟩ : Addr).add 5) (Value.int .i64) fun (x99 : Int) =>
        Nn t1 fun a100 =>
        St vw93 (a100.add 1) (.int .i64 x94) fun vw101 =>
        St vw101 ((a100.add 1).add 1) (.int .i64 x95) fun vw102 =>
        St vw102 ((a100.add 1).add 2) (.int .i64 x96) fun vw103 =>
        St vw103 ((a100.add 1).add 3) (.int .i64 x97) fun vw104 =>
        St vw104 ((a100.add 1).add 4) (.int .i64 x98) fun vw105 =>
        St vw105 ((a100.add 1).add 5) (.int .i64 x99) fun vw106 =>
        R vw106) PR) PR)
def pl80 : Plan := (.seq (.reg (.held [10] (.take 0 (.take 1 (.take 2 (.take 3 (.take 4 (.take 5 (.take 6 (.take 7 (.take 8 (.take 9 (.effs 10 (some [14]) (.take 11 (.take 12 (.take 13 (.eff 14 (some [16]) (.take 15 (.eff 16 (some []) .done)))))) (.eff 14 none (.eff 10 (some [16]) (.take 11 (.take 12 (.take 13 (.take 15 (.eff 16 (some []) .done)))))))))))))))))))) (.seq (.reg .seq) (.seq (.reg .seq) (.reg .seq))))
set_option maxRecDepth 100000 in
theorem T80 (t1 : Option Addr) (s2 : ByteArray) (w : World) (R : World → Prop) (PR : Value → World → Prop) (h : S80 t1 s2 w R PR) : C80 t1 s2 w R PR := by
  have e : fnT Tryz.prog ⟨FF, MAY, PR⟩ pl80 Tryz.f80 [.pointer t1, .string s2] w [] (fun _ w => R w) = S80 t1 s2 w R PR := by kernel_rfl
  exact (fn_callsP okF okM Tryz.func80 (by kernel_rfl) (by kernel_rfl) (e.mpr h)).mono fun _ _ he => he.elim (fun ⟨_, he, hR⟩ => .inl ⟨he, hR⟩) .inr

def S81L1 (t1 : Option Addr) (x5 : Slc) (R : World → Prop) (PR : Value → World → Prop) (I66 : Int → World → Prop) (s64 : Int) (vw65 : World) : Prop :=
  Br (decide (s64 < ((x5.len : Nat) : Int))) (0 ≤ s64 ∧ s64 < (x5.len : Nat) ∧ Nn x5.p fun a67 =>
    Ld vw65 (a67.add ((s64).toNat * 6)) (Value.int .i64) fun (x68 : Int) =>
    Ld vw65 ((a67.add ((s64).toNat * 6)).add 1) (Value.int .i64) fun (x69 : Int) =>
    Ld vw65 ((a67.add ((s64).toNat * 6)).add 2) (Value.int .i64) fun (x70 : Int) =>
    Ld vw65 ((a67.add ((s64).toNat * 6)).add 3) Value.string fun (x71 : ByteArray) =>
    Ld vw65 ((a67.add ((s64).toNat * 6)).add 4) Slc.v fun (x72 : Slc) =>
    Ld vw65 ((a67.add ((s64).toNat * 6)).add 5) Slc.v fun (x73 : Slc) =>
    Nw vw65 (.cells #[.int .i64 0, .int .i64 0, .int .i64 0, .string ((⟨#[]⟩ : ByteArray)), Slc.v ((⟨none, 0, 0⟩ : Slc)), Slc.v ((⟨none, 0, 0⟩ : Slc))] 61) fun vw74 =>
    St vw74 (⟨vw65.heap.size, 0, none⟩ : Addr) (.int .i64 x68) fun vw75 =>
    St vw75 ((⟨vw65.heap.size, 0, none⟩ : Addr).add 1) (.int .i64 x69) fun vw76 =>
    St vw76 ((⟨vw65.heap.size, 0, none⟩ : Addr).add 2) (.int .i64 x70) fun vw77 =>
    St vw77 ((⟨vw65.heap.size, 0, none⟩ : Addr).add 3) (.string x71) fun vw78 =>
    St vw78 ((⟨vw65.heap.size, 0, none⟩ : Addr).add 4) (Slc.v x72) fun vw79 =>
    St vw79 ((⟨vw65.heap.size, 0, none⟩ : Addr).add 5) (Slc.v x73) fun vw80 =>
    Ld vw80 (⟨vw65.heap.size, 0, none⟩ : Addr) (Value.int .i64) fun (x84 : Int) =>
    Br (x84 == 4) (Ld vw80 ((⟨vw65.heap.size, 0, none⟩ : Addr).add 3) Value.string fun (x85 : ByteArray) =>
      C80 t1 x85 vw80 (fun vw86 =>
        I66 (IntKind.i64.wrap (s64 + 1)) vw86) PR) (Nn t1 fun a87 =>
      LdT vw80 (a87.add 13) 0 LiA30 fun (x88 : TyA30) =>
      C31 x88 vw80 (fun vw89 =>
        Ld vw89 (⟨vw65.heap.size, 0, none⟩ : Addr) (Value.int .i64) fun (x90 : Int) =>
        Ld vw89 ((⟨vw65.heap.size, 0, none⟩ : Addr).add 1) (Value.int .i64) fun (x91 : Int) =>
        Ld vw89 ((⟨vw65.heap.size, 0, none⟩ : Addr).add 2) (Value.int .i64) fun (x92 : Int) =>
        Ld vw89 ((⟨vw65.heap.size, 0, none⟩ : Addr).add 3) Value.string fun (x93 : ByteArray) =>
        Ld vw89 ((⟨vw65.heap.size, 0, none⟩ : Addr).add 4) Slc.v fun (x94 : Slc) =>
        Ld vw89 ((⟨vw65.heap.size, 0, none⟩ : Addr).add 5) Slc.v fun (x95 : Slc) =>
        C114 (x90, x91, x92, x93, x94, x95) vw89 fun r96 r97 vw98 =>
          ∃ vS99 : World → Prop, vS99 vw98.drew ∧ Nn t1 fun a100 =>
          LdS vS99 (((a100.add 13).add 22).add 4) (Value.int .i64) fun (x101 : Int) =>
          C100 r96 1000 vw98.drew fun r102 r103 vw104 =>
            vS99 vw104 ∧ C62 r102 r103 vw104 (fun r105 vw106 =>
              vS99 vw106 ∧ C64 r105 x101 vw106 fun r107 r108 vw109 =>
                C62 r107 r108 vw109 (fun r110 vw111 =>
                  ∃ vS112 : World → Prop, vS112 vw111.drew ∧ Nn t1 fun a113 =>
                  LdST vS112 (a113.add 13) 0 LiA83 fun (x114 : TyA83) =>
                  Nn t1 fun a115 =>
                  LdS vS112 (a115.add 1) (Value.int .i64) fun (x116 : Int) =>
                  LdS vS112 ((a115.add 1).add 1) (Value.int .i64) fun (x117 : Int) =>
                  LdS vS112 ((a115.add 1).add 2) (Value.int .i64) fun (x118 : Int) =>
                  LdS vS112 ((a115.add 1).add 3) (Value.int .i64) fun (x119 : Int) =>
                  LdS vS112 ((a115.add 1).add 4) (Value.int .i64) fun (x120 : Int) =>
                  LdS vS112 ((a115.add 1).add 5) (Value.int .i64) fun (x121 : Int) =>
                  C61 x114 r110 vw111.drew (fun r122 vw123 =>
                    vS112 vw123 ∧ C58 (IntKind.i64.wrap (0 - r122)) vw123 (fun r124 vw125 =>
                      vS112 vw125 ∧ C116 r124 0 vw125 fun r126 vw127 =>
                        vS112 vw127 ∧ C115 (r126.1, r126.2.1, r126.2.2.1, r126.2.2.2.1, r126.2.2.2.2.1, r126.2.2.2.2.2) (x116, x117, x118, x119, x120, x121) vw127 fun r128 r129 vw130 =>
                          C89 (r128.1, r128.2.1, r128.2.2.1, r128.2.2.2.1, r128.2.2.2.2.1, r128.2.2.2.2.2) r129 vw130 (fun r131 vw132 =>
                            Nn t1 fun a133 =>
                            St vw132 (a133.add 1) (.int .i64 (r131.1)) fun vw134 =>
                            St vw134 ((a133.add 1).add 1) (.int .i64 (r131.2.1)) fun vw135 =>
                            St vw135 ((a133.add 1).add 2) (.int .i64 (r131.2.2.1)) fun vw136 =>
                            St vw136 ((a133.add 1).add 3) (.int .i64 (r131.2.2.2.1)) fun vw137 =>
                            St vw137 ((a133.add 1).add 4) (.int .i64 (r131.2.2.2.2.1)) fun vw138 =>
                            St vw138 ((a133.add 1).add 5) (.int .i64 (r131.2.2.2.2.2)) fun vw139 =>
                            I66 (IntKind.i64.wrap (s64 + 1)) vw139) PR) PR) PR) PR) PR) PR)) (R vw65)
def S81L2 (t1 : Option Addr) (x5 : Slc) (R : World → Prop) (PR : Value → World → Prop) (I37 : Int → World → Prop) (s35 : Int) (vw36 : World) : Prop :=
  Br (decide (s35 < ((x5.len : Nat) : Int))) (0 ≤ s35 ∧ s35 < (x5.len : Nat) ∧ Nn x5.p fun a38 =>
    Ld vw36 (a38.add ((s35).toNat * 6)) (Value.int .i64) fun (x39 : Int) =>
    Ld vw36 ((a38.add ((s35).toNat * 6)).add 1) (Value.int .i64) fun (x40 : Int) =>
    Ld vw36 ((a38.add ((s35).toNat * 6)).add 2) (Value.int .i64) fun (x41 : Int) =>
    Ld vw36 ((a38.add ((s35).toNat * 6)).add 3) Value.string fun (x42 : ByteArray) =>
    Ld vw36 ((a38.add ((s35).toNat * 6)).add 4) Slc.v fun (x43 : Slc) =>
    Ld vw36 ((a38.add ((s35).toNat * 6)).add 5) Slc.v fun (x44 : Slc) =>
    Nw vw36 (.cells #[.int .i64 0, .int .i64 0, .int .i64 0, .string ((⟨#[]⟩ : ByteArray)), Slc.v ((⟨none, 0, 0⟩ : Slc)), Slc.v ((⟨none, 0, 0⟩ : Slc))] 61) fun vw45 =>
    St vw45 (⟨vw36.heap.size, 0, none⟩ : Addr) (.int .i64 x39) fun vw46 =>
    St vw46 ((⟨vw36.heap.size, 0, none⟩ : Addr).add 1) (.int .i64 x40) fun vw47 =>
    St vw47 ((⟨vw36.heap.size, 0, none⟩ : Addr).add 2) (.int .i64 x41) fun vw48 =>
    St vw48 ((⟨vw36.heap.size, 0, none⟩ : Addr).add 3) (.string x42) fun vw49 =>
    St vw49 ((⟨vw36.heap.size, 0, none⟩ : Addr).add 4) (Slc.v x43) fun vw50 =>
    St vw50 ((⟨vw36.heap.size, 0, none⟩ : Addr).add 5) (Slc.v x44) fun vw51 =>
    Ld vw51 (⟨vw36.heap.size, 0, none⟩ : Addr) (Value.int .i64) fun (x52 : Int) =>
    Ld vw51 ((⟨vw36.heap.size, 0, none⟩ : Addr).add 1) (Value.int .i64) fun (x53 : Int) =>
    Ld vw51 ((⟨vw36.heap.size, 0, none⟩ : Addr).add 2) (Value.int .i64) fun (x54 : Int) =>
    Ld vw51 ((⟨vw36.heap.size, 0, none⟩ : Addr).add 3) Value.string fun (x55 : ByteArray) =>
    Ld vw51 ((⟨vw36.heap.size, 0, none⟩ : Addr).add 4) Slc.v fun (x56 : Slc) =>
    Ld vw51 ((⟨vw36.heap.size, 0, none⟩ : Addr).add 5) Slc.v fun (x57 : Slc) =>
    C114 (x52, x53, x54, x55, x56, x57) vw51 fun r58 r59 vw60 =>
      Br r59 (C39 true 28 vw60 (fun vw61 =>
          I37 (IntKind.i64.wrap (s35 + 1)) vw61) PR) (Ld vw60 (⟨vw36.heap.size, 0, none⟩ : Addr) (Value.int .i64) fun (x62 : Int) =>
        C39 (x62 == 4) 28 vw60 (fun vw63 =>
          I37 (IntKind.i64.wrap (s35 + 1)) vw63) PR)) (Lp (σ := Int) (S81L1 t1 x5 R PR) 0 vw36)
/-- (*foliant/show.turn).row -/
def S81 (t1 : Option Addr) (w : World) (R : World → Prop) (PR : Value → World → Prop) : Prop :=
  Nn t1 fun a2 =>
  Ld w ((a2.add 50).add 1) Slc.v fun (x3 : Slc) =>
  0 ≤ (0 : Int) ∧ (0 : Int) < (x3.len : Nat) ∧ Nn x3.p fun a4 =>
  Ld w ((a4.add (((0 : Int)).toNat * 6)).add 5) Slc.v fun (x5 : Slc) =>
  Lp (σ := Int) (S81L2 t1 x5 R PR) 0 w
def pl81 : Plan := (.seq (.reg .seq) (.seq (.seq (.reg .seq) (.block (.loop [(22, (.one (.int .i64)))] [0, 2, 20, 21] (.seq (.reg .seq) (.seq (.cond .leaf .leaf) (.seq (.block (.seq (.reg .seq) (.seq (.reg .seq) (.reg .seq)))) (.reg .seq))))))) (.seq (.reg .seq) (.block (.loop [(41, (.one (.int .i64)))] [0, 39, 40] (.seq (.reg .seq) (.seq (.cond .leaf .leaf) (.seq (.block (.seq (.reg .seq) (.seq (.seq (.reg .seq) (.cond (.seq (.reg .seq) .leaf) .leaf)) (.seq (.reg .seq) (.seq (.reg .seq) (.seq (.reg (.held [12] (.take 0 (.take 5 (.take 6 (.take 7 (.take 8 (.take 9 (.take 10 (.take 11 (.eff 1 none (.take 2 (.take 3 (.eff 4 none (.eff 12 (some [15]) (.take 13 (.take 14 (.eff 15 (some []) (.take 16 .done))))))))))))))))))) (.reg (.held [15] (.take 0 (.take 1 (.take 2 (.take 3 (.take 4 (.take 5 (.take 10 (.take 11 (.take 12 (.take 13 (.take 14 (.eff 6 none (.take 7 (.eff 8 none (.eff 9 none (.eff 15 (some [18]) (.take 16 (.take 17 (.eff 18 (some [22]) (.take 19 (.take 20 (.take 21 (.eff 22 (some []) .done))))))))))))))))))))))))))))))) (.reg .seq)))))))))
set_option maxRecDepth 100000 in
theorem T81 (t1 : Option Addr) (w : World) (R : World → Prop) (PR : Value → World → Prop) (h : S81 t1 w R PR) : C81 t1 w R PR := by
  have e : fnT Tryz.prog ⟨FF, MAY, PR⟩ pl81 Tryz.f81 [.pointer t1] w [] (fun _ w => R w) = S81 t1 w R PR := by kernel_rfl
  exact (fn_callsP okF okM Tryz.func81 (by kernel_rfl) (by kernel_rfl) (e.mpr h)).mono fun _ _ he => he.elim (fun ⟨_, he, hR⟩ => .inl ⟨he, hR⟩) .inr

def S44J1 (t1 : Option Addr) (x3 : ByteArray) (R : World → Prop) (PR : Value → World → Prop) (s16 : Bool) (vw17 : World) : Prop :=
  Br s16 (Nn t1 fun a18 =>
    Ld vw17.drew (a18.add 53) Slc.v fun (x19 : Slc) =>
    0 ≤ (0 : Int) ∧ (0 : Int) < (x19.len : Nat) ∧ Nn x19.p fun a20 =>
    Ld vw17.drew (a20.add (((0 : Int)).toNat * 1)) (Value.int .i64) fun (x21 : Int) =>
    Nn t1 fun a22 =>
    Ld vw17.drew (a22.add 53) Slc.v fun (x23 : Slc) =>
    0 ≤ (1 : Int) ∧ (1 : Int) < (x23.len : Nat) ∧ Nn x23.p fun a24 =>
    Ld vw17.drew (a24.add (((1 : Int)).toNat * 1)) (Value.int .i64) fun (x25 : Int) =>
    C77 t1 x21 x25 vw17.drew (fun vw26 =>
      R vw26) PR) (Br (x3.toList == (⟨#[84, 42]⟩ : ByteArray).toList) (C78 t1 vw17 (fun vw27 =>
        R vw27) PR) (Br (x3.toList == (⟨#[84, 109]⟩ : ByteArray).toList) (C79 t1 vw17 (fun vw28 =>
          R vw28) PR) (Br (x3.toList == (⟨#[84, 106]⟩ : ByteArray).toList) (Nn t1 fun a29 =>
          Ld vw17 ((a29.add 50).add 1) Slc.v fun (x30 : Slc) =>
          0 ≤ (0 : Int) ∧ (0 : Int) < (x30.len : Nat) ∧ Nn x30.p fun a31 =>
          Ld vw17 ((a31.add (((0 : Int)).toNat * 6)).add 3) Value.string fun (x32 : ByteArray) =>
          C80 t1 x32 vw17 (fun vw33 =>
            R vw33) PR) (Br (x3.toList == (⟨#[39]⟩ : ByteArray).toList) (C78 t1 vw17 (fun vw34 =>
              Nn t1 fun a35 =>
              Ld vw34 ((a35.add 50).add 1) Slc.v fun (x36 : Slc) =>
              0 ≤ (0 : Int) ∧ (0 : Int) < (x36.len : Nat) ∧ Nn x36.p fun a37 =>
              Ld vw34 ((a37.add (((0 : Int)).toNat * 6)).add 3) Value.string fun (x38 : ByteArray) =>
              C80 t1 x38 vw34 (fun vw39 =>
                R vw39) PR) PR) (Br (x3.toList == (⟨#[34]⟩ : ByteArray).toList) (∃ vS40 : World → Prop, vS40 vw17.drew ∧ Nn t1 fun a41 =>
              LdS vS40 (a41.add 53) Slc.v fun (x42 : Slc) =>
              0 ≤ (0 : Int) ∧ (0 : Int) < (x42.len : Nat) ∧ Nn x42.p fun a43 =>
              LdS vS40 (a43.add (((0 : Int)).toNat * 1)) (Value.int .i64) fun (x44 : Int) =>
              Nn t1 fun a45 =>
              LdS vS40 (a45.add 53) Slc.v fun (x46 : Slc) =>
              0 ≤ (1 : Int) ∧ (1 : Int) < (x46.len : Nat) ∧ Nn x46.p fun a47 =>
              LdS vS40 (a47.add (((1 : Int)).toNat * 1)) (Value.int .i64) fun (x48 : Int) =>
              Nn t1 fun a49 =>
              St vw17.drew (((a49.add 13).add 22).add 1) (.int .i64 x44) fun vw50 =>
              Nn t1 fun a51 =>
              St vw50 ((a51.add 13).add 22) (.int .i64 x48) fun vw52 =>
              C78 t1 vw52 (fun vw53 =>
                Nn t1 fun a54 =>
                Ld vw53 ((a54.add 50).add 1) Slc.v fun (x55 : Slc) =>
                0 ≤ (2 : Int) ∧ (2 : Int) < (x55.len : Nat) ∧ Nn x55.p fun a56 =>
                Ld vw53 ((a56.add (((2 : Int)).toNat * 6)).add 3) Value.string fun (x57 : ByteArray) =>
                C80 t1 x57 vw53 (fun vw58 =>
                  R vw58) PR) PR) (Br (x3.toList == (⟨#[84, 74]⟩ : ByteArray).toList) (C81 t1 vw17 (fun vw59 =>
                  R vw59) PR) (R vw17)))))))
/-- (*foliant/show.turn).do -/
def S44 (t1 : Option Addr) (w : World) (R : World → Prop) (PR : Value → World → Prop) : Prop :=
  Nn t1 fun a2 =>
  Ld w (a2.add 50) Value.string fun (x3 : ByteArray) =>
  Br (x3.toList == (⟨#[66, 84]⟩ : ByteArray).toList) (C24 w fun r4 vw5 =>
      C24 vw5 fun r6 vw7 =>
        Nn t1 fun a8 =>
        StT a8 0 LiA38 ((true, r4.1, r4.2.1, r4.2.2.1, r4.2.2.2.1, r4.2.2.2.2.1, r4.2.2.2.2.2, r6.1, r6.2.1, r6.2.2.1, r6.2.2.2.1, r6.2.2.2.2.1, r6.2.2.2.2.2) : TyA38) vw7 fun vw9 =>
        R vw9) (Br (x3.toList == (⟨#[69, 84]⟩ : ByteArray).toList) (C7 w fun r10 vw11 =>
        Nn r10 fun a12 =>
        LdT vw11 a12 0 LiA38 fun (x13 : TyA38) =>
        Nn t1 fun a14 =>
        StT a14 0 LiA38 x13 vw11 fun vw15 =>
        R vw15) (Join (S44J1 t1 x3 R PR) fun (vJ60 : Bool → World → Prop) =>
        Br (x3.toList == (⟨#[84, 100]⟩ : ByteArray).toList) (vJ60 (x3.toList == (⟨#[84, 100]⟩ : ByteArray).toList) w) (vJ60 (x3.toList == (⟨#[84, 68]⟩ : ByteArray).toList) w)))
def pl44 : Plan := (.seq (.reg .seq) (.block (.seq (.reg .seq) (.cond (.reg .seq) (.seq (.reg .seq) (.cond (.reg .seq) (.join [(23, (.one .bool))] [0, 6] (.seq (.reg .seq) (.cond .leaf (.reg .seq))) (.cond (.reg (.tail 13)) (.seq (.reg .seq) (.cond (.reg .seq) (.seq (.reg .seq) (.cond (.reg .seq) (.seq (.reg .seq) (.cond (.reg .seq) (.seq (.reg .seq) (.cond (.seq (.reg .seq) (.reg .seq)) (.seq (.reg .seq) (.cond (.seq (.reg (.held [19] (.take 0 (.take 1 (.take 2 (.take 3 (.take 4 (.take 5 (.take 6 (.take 7 (.take 8 (.take 9 (.take 10 (.take 11 (.take 12 (.take 13 (.take 14 (.take 15 (.take 16 (.take 17 (.take 18 (.eff 19 (some [25]) (.take 20 (.take 21 (.take 22 (.take 23 (.take 24 (.eff 25 (some []) .done)))))))))))))))))))))))))))) (.seq (.reg .seq) (.reg .seq))) (.seq (.reg .seq) (.cond (.reg .seq) .leaf))))))))))))))))))))
set_option maxRecDepth 100000 in
theorem T44 (t1 : Option Addr) (w : World) (R : World → Prop) (PR : Value → World → Prop) (h : S44 t1 w R PR) : C44 t1 w R PR := by
  have e : fnT Tryz.prog ⟨FF, MAY, PR⟩ pl44 Tryz.f44 [.pointer t1] w [] (fun _ w => R w) = S44 t1 w R PR := by kernel_rfl
  exact (fn_callsP okF okM Tryz.func44 (by kernel_rfl) (by kernel_rfl) (e.mpr h)).mono fun _ _ he => he.elim (fun ⟨_, he, hR⟩ => .inl ⟨he, hR⟩) .inr

def S13P (vw7 : World) (vw8 : World) (R : Slc → Int → World → Prop) (x11 : Value) (vw10 : World) : Prop :=
  CD38 (⟨vw8.heap.size, 0, none⟩ : Addr) (⟨vw7.heap.size, 0, none⟩ : Addr) (some x11) vw10 fun vw12 =>
    Ld vw12 (⟨vw7.heap.size, 0, none⟩ : Addr) Slc.v fun (x13 : Slc) =>
    Ld vw12 (⟨vw8.heap.size, 0, none⟩ : Addr) (Value.int .i64) fun (x14 : Int) =>
    R x13 x14 vw12
/-- (*foliant/show.Machine).Do -/
def S13 (x1 : Option Addr) (o2 : ByteArray × Slc × ByteArray) (g3 : TyA30) (f4 : TyA34) (w : World) (R : Slc → Int → World → Prop) : Prop :=
  Nw w (.cells #[.string o2.1, Slc.v o2.2.1, .string o2.2.2] 48) fun vw5 =>
  Nw vw5 (.cells (Sig.cells LiA30 g3).toArray 31) fun vw6 =>
  Nw vw6 (.cells (Sig.cells LiA34 f4).toArray 35) fun vw7 =>
  Nw vw7 (.cells #[Slc.v ((⟨none, 0, 0⟩ : Slc))] 49) fun vw8 =>
  Nw vw8 (.cells #[.int .i64 0] 43) fun vw9 =>
  C39 (!(x1.isNone)) 1 vw9 (fun vw15 =>
    Ld vw15 (⟨w.heap.size, 0, none⟩ : Addr) Value.string fun (x16 : ByteArray) =>
    C40 x16 vw15 fun r17 vw18 =>
      C39 r17 8 vw18 (fun vw19 =>
        ∃ vS20 : World → Prop, vS20 vw19.drew ∧ LdS vS20 (⟨w.heap.size, 0, none⟩ : Addr) Value.string fun (x21 : ByteArray) =>
        LdS vS20 ((⟨w.heap.size, 0, none⟩ : Addr).add 1) Slc.v fun (x22 : Slc) =>
        LdS vS20 ((⟨w.heap.size, 0, none⟩ : Addr).add 2) Value.string fun (x23 : ByteArray) =>
        LdS vS20 (⟨w.heap.size, 0, none⟩ : Addr) Value.string fun (x24 : ByteArray) =>
        LdS vS20 ((⟨w.heap.size, 0, none⟩ : Addr).add 1) Slc.v fun (x25 : Slc) =>
        LdS vS20 ((⟨w.heap.size, 0, none⟩ : Addr).add 2) Value.string fun (x26 : ByteArray) =>
        C42 (x24, x25, x26) vw19.drew fun r27 vw28 =>
          vS20 vw28 ∧ C41 (x21, x22, x23) r27 vw28 (fun r29 vw30 =>
            Nn x1 fun a31 =>
            Ld vw30.drew a31 Value.bool fun (x32 : Bool) =>
            Ld vw30.drew (⟨w.heap.size, 0, none⟩ : Addr) Value.string fun (x33 : ByteArray) =>
            C39 (x32 == (!(x33.toList == (⟨#[66, 84]⟩ : ByteArray).toList))) 29 vw30.drew (fun vw34 =>
              ∃ vS35 : World → Prop, vS35 vw34.drew ∧ Nn x1 fun a36 =>
              LdST vS35 a36 0 LiA38 fun (x37 : TyA38) =>
              LdST vS35 (⟨vw5.heap.size, 0, none⟩ : Addr) 0 LiA30 fun (x38 : TyA30) =>
              LdST vS35 (⟨vw6.heap.size, 0, none⟩ : Addr) 0 LiA34 fun (x39 : TyA34) =>
              LdS vS35 (⟨w.heap.size, 0, none⟩ : Addr) Value.string fun (x40 : ByteArray) =>
              LdS vS35 ((⟨w.heap.size, 0, none⟩ : Addr).add 1) Slc.v fun (x41 : Slc) =>
              LdS vS35 ((⟨w.heap.size, 0, none⟩ : Addr).add 2) Value.string fun (x42 : ByteArray) =>
              LdS vS35 (⟨w.heap.size, 0, none⟩ : Addr) Value.string fun (x43 : ByteArray) =>
              LdS vS35 ((⟨w.heap.size, 0, none⟩ : Addr).add 1) Slc.v fun (x44 : Slc) =>
              LdS vS35 ((⟨w.heap.size, 0, none⟩ : Addr).add 2) Value.string fun (x45 : ByteArray) =>
              C43 (x43, x44, x45) vw34.drew (fun r46 vw47 =>
                vS35 vw47 ∧ Nw vw47 (.cells #[.bool x37.1, .int .i64 (x37.2.1), .int .i64 (x37.2.2.1), .int .i64 (x37.2.2.2.1), .int .i64 (x37.2.2.2.2.1), .int .i64 (x37.2.2.2.2.2.1), .int .i64 (x37.2.2.2.2.2.2.1), .int .i64 (x37.2.2.2.2.2.2.2.1), .int .i64 (x37.2.2.2.2.2.2.2.2.1), .int .i64 (x37.2.2.2.2.2.2.2.2.2.1), .int .i64 (x37.2.2.2.2.2.2.2.2.2.2.1), .int .i64 (x37.2.2.2.2.2.2.2.2.2.2.2.1), .int .i64 (x37.2.2.2.2.2.2.2.2.2.2.2.2), .int .i64 (x38.1), .int .i64 (x38.2.1), .int .i64 (x38.2.2.1), .int .i64 (x38.2.2.2.1), .int .i64 (x38.2.2.2.2.1), .int .i64 (x38.2.2.2.2.2.1), .int .i64 (x38.2.2.2.2.2.2.1), .int .i64 (x38.2.2.2.2.2.2.2.1), .int .i64 (x38.2.2.2.2.2.2.2.2.1), .int .i64 (x38.2.2.2.2.2.2.2.2.2.1), Slc.v x38.2.2.2.2.2.2.2.2.2.2.1, .int .i64 (x38.2.2.2.2.2.2.2.2.2.2.2.1), .int .i64 (x38.2.2.2.2.2.2.2.2.2.2.2.2.1), .int .i64 (x38.2.2.2.2.2.2.2.2.2.2.2.2.2.1), .int .i64 (x38.2.2.2.2.2.2.2.2.2.2.2.2.2.2.1), .int .i64 (x38.2.2.2.2.2.2.2.2.2.2.2.2.2.2.2.1), .int .i64 (x38.2.2.2.2.2.2.2.2.2.2.2.2.2.2.2.2.1), .int .i64 (x38.2.2.2.2.2.2.2.2.2.2.2.2.2.2.2.2.2.1), .int .i64 (x38.2.2.2.2.2.2.2.2.2.2.2.2.2.2.2.2.2.2.1), .int .i64 (x38.2.2.2.2.2.2.2.2.2.2.2.2.2.2.2.2.2.2.2.1), .int .i64 (x38.2.2.2.2.2.2.2.2.2.2.2.2.2.2.2.2.2.2.2.2.1), .int .i64 (x38.2.2.2.2.2.2.2.2.2.2.2.2.2.2.2.2.2.2.2.2.2.1), .int .i64 (x38.2.2.2.2.2.2.2.2.2.2.2.2.2.2.2.2.2.2.2.2.2.2.1), .int .i64 (x38.2.2.2.2.2.2.2.2.2.2.2.2.2.2.2.2.2.2.2.2.2.2.2.1), .int .i64 (x38.2.2.2.2.2.2.2.2.2.2.2.2.2.2.2.2.2.2.2.2.2.2.2.2.1), .int .i64 (x38.2.2.2.2.2.2.2.2.2.2.2.2.2.2.2.2.2.2.2.2.2.2.2.2.2.1), .int .i64 (x38.2.2.2.2.2.2.2.2.2.2.2.2.2.2.2.2.2.2.2.2.2.2.2.2.2.2.1), .int .i64 (x38.2.2.2.2.2.2.2.2.2.2.2.2.2.2.2.2.2.2.2.2.2.2.2.2.2.2.2.1), .string x38.2.2.2.2.2.2.2.2.2.2.2.2.2.2.2.2.2.2.2.2.2.2.2.2.2.2.2.2.1, .int .i64 (x38.2.2.2.2.2.2.2.2.2.2.2.2.2.2.2.2.2.2.2.2.2.2.2.2.2.2.2.2.2), .string x39.1, .bool x39.2.1, .int .i64 (x39.2.2.1), Slc.v x39.2.2.2.1, .int .i64 (x39.2.2.2.2.1), Slc.v x39.2.2.2.2.2.1, Slc.v x39.2.2.2.2.2.2, .string x40, Slc.v x41, .string x42, Slc.v r46, Slc.v ((⟨none, 0, 0⟩ : Slc))] 94) fun vw48 =>
                C44 (some (⟨vw47.heap.size, 0, none⟩ : Addr)) vw48 (fun vw49 =>
                  Nn (some (⟨vw47.heap.size, 0, none⟩ : Addr)) fun a50 =>
                  LdT vw49 a50 0 LiA38 fun (x51 : TyA38) =>
                  Nn x1 fun a52 =>
                  StT a52 0 LiA38 x51 vw49 fun vw53 =>
                  Nn (some (⟨vw47.heap.size, 0, none⟩ : Addr)) fun a54 =>
                  Ld vw53 (a54.add 54) Slc.v fun (x55 : Slc) =>
                  St vw53 (⟨vw7.heap.size, 0, none⟩ : Addr) (Slc.v x55) fun vw56 =>
                  St vw56 (⟨vw8.heap.size, 0, none⟩ : Addr) (.int .i64 0) fun vw57 =>
                  CD38 (⟨vw8.heap.size, 0, none⟩ : Addr) (⟨vw7.heap.size, 0, none⟩ : Addr) none vw57 fun vw58 =>
                    Ld vw58 (⟨vw7.heap.size, 0, none⟩ : Addr) Slc.v fun (x59 : Slc) =>
                    Ld vw58 (⟨vw8.heap.size, 0, none⟩ : Addr) (Value.int .i64) fun (x60 : Int) =>
                    R x59 x60 vw58) (S13P vw7 vw8 R)) (S13P vw7 vw8 R)) (S13P vw7 vw8 R)) (S13P vw7 vw8 R)) (S13P vw7 vw8 R)) (S13P vw7 vw8 R)
def pl13 : DPlan := (.pre (.reg .seq) (.here [8, 9] (.seq (.reg .seq) (.seq (.reg .seq) (.seq (.reg (.held [3] (.take 0 (.take 1 (.eff 2 none (.eff 3 (some []) .done)))))) (.seq (.reg (.tail 8)) (.seq (.reg (.held [10] (.take 0 (.take 1 (.take 2 (.take 3 (.take 4 (.take 5 (.take 6 (.take 7 (.eff 8 none (.take 9 (.eff 10 (some []) (.take 11 .done)))))))))))))) (.seq (.reg .seq) (.seq (.reg .seq) (.seq (.reg .seq) .leaf))))))))))
set_option maxRecDepth 100000 in
theorem T13 (x1 : Option Addr) (o2 : ByteArray × Slc × ByteArray) (g3 : TyA30) (f4 : TyA34) (w : World) (R : Slc → Int → World → Prop) (h : S13 x1 o2 g3 f4 w R) : C13 x1 (o2.1, o2.2.1, o2.2.2) g3 f4 w R := by
  have e : fnTD Tryz.prog FF MAY (fun _ _ => False) pl13 Tryz.f13 [.pointer x1, .agg #[.string o2.1, Slc.v o2.2.1, .string o2.2.2], .agg (Sig.cells LiA30 g3).toArray, .agg (Sig.cells LiA34 f4).toArray] w [(.one .slc), (.one (.int .i64))] (fun s w => R s.1 s.2 w) = S13 x1 o2 g3 f4 w R := by kernel_rfl
  exact (fnD_calls okF okM Tryz.func13 (by kernel_rfl) (by kernel_rfl) (e.mpr h)).mono fun _ _ ⟨s, he, hR⟩ => ⟨s.1, s.2, he, hR⟩

/-- (*foliant/show.Machine).On -/
def S16 (x1 : Option Addr) (w : World) (R : Bool → World → Prop) : Prop :=
  Br (!(x1.isNone)) (Nn x1 fun a2 =>
    Ld w a2 Value.bool fun (x3 : Bool) =>
    R x3 w) (R false w)
def pl16 : Plan := (.seq (.reg .seq) (.seq (.reg .seq) .leaf))
set_option maxRecDepth 100000 in
theorem T16 (x1 : Option Addr) (w : World) (R : Bool → World → Prop) (h : S16 x1 w R) : C16 x1 w R := by
  have e : fnT Tryz.prog ⟨FF, MAY, (fun _ _ => False)⟩ pl16 Tryz.f16 [.pointer x1] w [(.one .bool)] (fun s w => R s w) = S16 x1 w R := by kernel_rfl
  exact (fn_calls okF okM Tryz.func16 (by kernel_rfl) (by kernel_rfl) (e.mpr h)).mono fun _ _ ⟨s, he, hR⟩ => ⟨s, he, hR⟩

/-- (*foliant/show.Machine).Matrix -/
def S17 (x1 : Option Addr) (w : World) (R : (Int × Int × Int × Int × Int × Int) → World → Prop) : Prop :=
  Nw w (.cells #[.int .i64 0, .int .i64 0, .int .i64 0, .int .i64 0, .int .i64 0, .int .i64 0] 24) fun vw2 =>
  Br x1.isNone (C24 vw2 fun r11 vw12 =>
      St vw12 (⟨w.heap.size, 0, none⟩ : Addr) (.int .i64 (r11.1)) fun vw13 =>
      St vw13 ((⟨w.heap.size, 0, none⟩ : Addr).add 1) (.int .i64 (r11.2.1)) fun vw14 =>
      St vw14 ((⟨w.heap.size, 0, none⟩ : Addr).add 2) (.int .i64 (r11.2.2.1)) fun vw15 =>
      St vw15 ((⟨w.heap.size, 0, none⟩ : Addr).add 3) (.int .i64 (r11.2.2.2.1)) fun vw16 =>
      St vw16 ((⟨w.heap.size, 0, none⟩ : Addr).add 4) (.int .i64 (r11.2.2.2.2.1)) fun vw17 =>
      St vw17 ((⟨w.heap.size, 0, none⟩ : Addr).add 5) (.int .i64 (r11.2.2.2.2.2)) fun vw18 =>
      Ld vw18 (⟨w.heap.size, 0, none⟩ : Addr) (Value.int .i64) fun (x19 : Int) =>
      Ld vw18 ((⟨w.heap.size, 0, none⟩ : Addr).add 1) (Value.int .i64) fun (x20 : Int) =>
      Ld vw18 ((⟨w.heap.size, 0, none⟩ : Addr).add 2) (Value.int .i64) fun (x21 : Int) =>
      Ld vw18 ((⟨w.heap.size, 0, none⟩ : Addr).add 3) (Value.int .i64) fun (x22 : Int) =>
      Ld vw18 ((⟨w.heap.size, 0, none⟩ : Addr).add 4) (Value.int .i64) fun (x23 : Int) =>
      Ld vw18 ((⟨w.heap.size, 0, none⟩ : Addr).add 5) (Value.int .i64) fun (x24 : Int) =>
      R (x19, x20, x21, x22, x23, x24) vw18) (Nn x1 fun a25 =>
    Ld vw2 (a25.add 1) (Value.int .i64) fun (x26 : Int) =>
    Ld vw2 ((a25.add 1).add 1) (Value.int .i64) fun (x27 : Int) =>
    Ld vw2 ((a25.add 1).add 2) (Value.int .i64) fun (x28 : Int) =>
    Ld vw2 ((a25.add 1).add 3) (Value.int .i64) fun (x29 : Int) =>
    Ld vw2 ((a25.add 1).add 4) (Value.int .i64) fun (x30 : Int) =>
    Ld vw2 ((a25.add 1).add 5) (Value.int .i64) fun (x31 : Int) =>
    St vw2 (⟨w.heap.size, 0, none⟩ : Addr) (.int .i64 x26) fun vw32 =>
    St vw32 ((⟨w.heap.size, 0, none⟩ : Addr).add 1) (.int .i64 x27) fun vw33 =>
    St vw33 ((⟨w.heap.size, 0, none⟩ : Addr).add 2) (.int .i64 x28) fun vw34 =>
    St vw34 ((⟨w.heap.size, 0, none⟩ : Addr).add 3) (.int .i64 x29) fun vw35 =>
    St vw35 ((⟨w.heap.size, 0, none⟩ : Addr).add 4) (.int .i64 x30) fun vw36 =>
    St vw36 ((⟨w.heap.size, 0, none⟩ : Addr).add 5) (.int .i64 x31) fun vw37 =>
    Ld vw37 (⟨w.heap.size, 0, none⟩ : Addr) (Value.int .i64) fun (x38 : Int) =>
    Ld vw37 ((⟨w.heap.size, 0, none⟩ : Addr).add 1) (Value.int .i64) fun (x39 : Int) =>
    Ld vw37 ((⟨w.heap.size, 0, none⟩ : Addr).add 2) (Value.int .i64) fun (x40 : Int) =>
    Ld vw37 ((⟨w.heap.size, 0, none⟩ : Addr).add 3) (Value.int .i64) fun (x41 : Int) =>
    Ld vw37 ((⟨w.heap.size, 0, none⟩ : Addr).add 4) (Value.int .i64) fun (x42 : Int) =>
    Ld vw37 ((⟨w.heap.size, 0, none⟩ : Addr).add 5) (Value.int .i64) fun (x43 : Int) =>
    R (x38, x39, x40, x41, x42, x43) vw37)
def pl17 : Plan := (.seq (.reg .seq) (.seq (.seq (.reg .seq) (.cond (.seq (.reg .seq) .leaf) .leaf)) (.seq (.reg .seq) .leaf)))
set_option maxRecDepth 100000 in
theorem T17 (x1 : Option Addr) (w : World) (R : (Int × Int × Int × Int × Int × Int) → World → Prop) (h : S17 x1 w R) : C17 x1 w R := by
  have e : fnT Tryz.prog ⟨FF, MAY, (fun _ _ => False)⟩ pl17 Tryz.f17 [.pointer x1] w [(.agg [(.int .i64), (.int .i64), (.int .i64), (.int .i64), (.int .i64), (.int .i64)])] (fun s w => R s w) = S17 x1 w R := by kernel_rfl
  exact (fn_calls okF okM Tryz.func17 (by kernel_rfl) (by kernel_rfl) (e.mpr h)).mono fun _ _ ⟨s, he, hR⟩ => ⟨s, he, hR⟩

end Go.Proofs.YtcblpehnkogfdaaGreatDoor
