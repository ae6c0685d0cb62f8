/- The formulas of 19 functions of the program, written by program (gen.py); the kernel checks each. No condition. -/
import Derived.Test.YtcblpehnkogfdaaGreatDoorFn
import Derived.Test.YtcblpehnkogfdaaGreatDoorFnFix
import Derived.Test.YtcblpehnkogfdaaGreatDoorFnMat
import Derived.Test.YtcblpehnkogfdaaGreatDoorFnFont
namespace Go.Proofs.YtcblpehnkogfdaaGreatDoor
open Sh
set_option linter.unusedVariables false
set_option maxRecDepth 100000

def C30 (x1 : Value) (why2 : Option Addr) (w : World) (R : World → Prop) (PR : Value → World → Prop) : Prop :=
  Calls Tryz.prog 30 #[x1, .pointer why2] w fun e w' => (e = .returned (.tuple #[]) ∧ R w') ∨ ∃ v, e = .panicked (onePanic v) ∧ PR v w'
theorem C30.mono {x1 : Value} {why2 : Option Addr} {w : World} {R R' : World → Prop} {PR PR' : Value → World → Prop} (h : C30 x1 why2 w R PR) (hr : ∀ w', R w' → R' w') (hp : ∀ v w', PR v w' → PR' v w') : C30 x1 why2 w R' PR' :=
  Calls.mono h fun _ _ he => he.elim (fun ⟨he, hR⟩ => .inl ⟨he, hr _ hR⟩) fun ⟨v, he, hP⟩ => .inr ⟨v, he, hp _ _ hP⟩
def CD54 (c1 : Addr) (c2 : Addr) (c3 : Addr) (u : Option Value) (w : World) (R : World → Prop) : Prop := CallD Tryz.prog 54 #[.pointer (some c1), .pointer (some c2), .pointer (some c3)] u w R
theorem CD54.mono {c1 : Addr} {c2 : Addr} {c3 : Addr} {u : Option Value} {w : World} {R R' : World → Prop} (h : CD54 c1 c2 c3 u w R) (hr : ∀ w', R w' → R' w') : CD54 c1 c2 c3 u w R' :=
  CallsD.mono h fun _ _ _ ⟨h1, h2, h3⟩ => ⟨h1, h2, hr _ h3⟩
def C39 (holds1 : Bool) (why2 : Int) (w : World) (R : World → Prop) (PR : Value → World → Prop) : Prop :=
  Calls Tryz.prog 39 #[.bool holds1, .int .i64 why2] w fun e w' => (e = .returned (.tuple #[]) ∧ R w') ∨ ∃ v, e = .panicked (onePanic v) ∧ PR v w'
theorem C39.mono {holds1 : Bool} {why2 : Int} {w : World} {R R' : World → Prop} {PR PR' : Value → World → Prop} (h : C39 holds1 why2 w R PR) (hr : ∀ w', R w' → R' w') (hp : ∀ v w', PR v w' → PR' v w') : C39 holds1 why2 w R' PR' :=
  Calls.mono h fun _ _ he => he.elim (fun ⟨he, hR⟩ => .inl ⟨he, hr _ hR⟩) fun ⟨v, he, hP⟩ => .inr ⟨v, he, hp _ _ hP⟩
def C56 (x1 : TyA30) (why2 : Int) (w : World) (R : (TyA30) → World → Prop) (PR : Value → World → Prop) : Prop :=
  Calls Tryz.prog 56 #[.agg (Sig.cells LiA30 x1).toArray, .int .i64 why2] w fun e w' => (∃ r0 : TyA30, e = .returned (.agg (Sig.cells LiA30 r0).toArray) ∧ R r0 w') ∨ ∃ v, e = .panicked (onePanic v) ∧ PR v w'
theorem C56.mono {x1 : TyA30} {why2 : Int} {w : World} {R R' : (TyA30) → World → Prop} {PR PR' : Value → World → Prop} (h : C56 x1 why2 w R PR) (hr : ∀ r0 w', R r0 w' → R' r0 w') (hp : ∀ v w', PR v w' → PR' v w') : C56 x1 why2 w R' PR' :=
  Calls.mono h fun _ _ he => he.elim (fun ⟨r0, he, hR⟩ => .inl ⟨r0, he, hr _ _ hR⟩) fun ⟨v, he, hP⟩ => .inr ⟨v, he, hp _ _ hP⟩
def C58 (n1 : Int) (w : World) (R : Int → World → Prop) (PR : Value → World → Prop) : Prop :=
  Calls Tryz.prog 58 #[.int .i64 n1] w fun e w' => (∃ r0 : Int, e = .returned (.int .i64 r0) ∧ R r0 w') ∨ ∃ v, e = .panicked (onePanic v) ∧ PR v w'
theorem C58.mono {n1 : Int} {w : World} {R R' : Int → World → Prop} {PR PR' : Value → World → Prop} (h : C58 n1 w R PR) (hr : ∀ r0 w', R r0 w' → R' r0 w') (hp : ∀ v w', PR v w' → PR' v w') : C58 n1 w R' PR' :=
  Calls.mono h fun _ _ he => he.elim (fun ⟨r0, he, hR⟩ => .inl ⟨r0, he, hr _ _ hR⟩) fun ⟨v, he, hP⟩ => .inr ⟨v, he, hp _ _ hP⟩
def C31 (g1 : TyA30) (w : World) (R : World → Prop) (PR : Value → World → Prop) : Prop :=
  Calls Tryz.prog 31 #[.agg (Sig.cells LiA30 g1).toArray] w fun e w' => (e = .returned (.tuple #[]) ∧ R w') ∨ ∃ v, e = .panicked (onePanic v) ∧ PR v w'
theorem C31.mono {g1 : TyA30} {w : World} {R R' : World → Prop} {PR PR' : Value → World → Prop} (h : C31 g1 w R PR) (hr : ∀ w', R w' → R' w') (hp : ∀ v w', PR v w' → PR' v w') : C31 g1 w R' PR' :=
  Calls.mono h fun _ _ he => he.elim (fun ⟨he, hR⟩ => .inl ⟨he, hr _ hR⟩) fun ⟨v, he, hP⟩ => .inr ⟨v, he, hp _ _ hP⟩
def C32 (x1 : TyA34) (why2 : Int) (w : World) (R : (TyA34) → World → Prop) (PR : Value → World → Prop) : Prop :=
  Calls Tryz.prog 32 #[.agg (Sig.cells LiA34 x1).toArray, .int .i64 why2] w fun e w' => (∃ r0 : TyA34, e = .returned (.agg (Sig.cells LiA34 r0).toArray) ∧ R r0 w') ∨ ∃ v, e = .panicked (onePanic v) ∧ PR v w'
theorem C32.mono {x1 : TyA34} {why2 : Int} {w : World} {R R' : (TyA34) → World → Prop} {PR PR' : Value → World → Prop} (h : C32 x1 why2 w R PR) (hr : ∀ r0 w', R r0 w' → R' r0 w') (hp : ∀ v w', PR v w' → PR' v w') : C32 x1 why2 w R' PR' :=
  Calls.mono h fun _ _ he => he.elim (fun ⟨r0, he, hR⟩ => .inl ⟨r0, he, hr _ _ hR⟩) fun ⟨v, he, hP⟩ => .inr ⟨v, he, hp _ _ hP⟩
def C89 (x1 : Int × Int × Int × Int × Int × Int) (why2 : Int) (w : World) (R : (Int × Int × Int × Int × Int × Int) → World → Prop) (PR : Value → World → Prop) : Prop :=
  Calls Tryz.prog 89 #[.agg #[.int .i64 (x1.1), .int .i64 (x1.2.1), .int .i64 (x1.2.2.1), .int .i64 (x1.2.2.2.1), .int .i64 (x1.2.2.2.2.1), .int .i64 (x1.2.2.2.2.2)], .int .i64 why2] w fun e w' => (∃ r0 : Int × Int × Int × Int × Int × Int, e = .returned (.agg #[.int .i64 (r0.1), .int .i64 (r0.2.1), .int .i64 (r0.2.2.1), .int .i64 (r0.2.2.2.1), .int .i64 (r0.2.2.2.2.1), .int .i64 (r0.2.2.2.2.2)]) ∧ R r0 w') ∨ ∃ v, e = .panicked (onePanic v) ∧ PR v w'
theorem C89.mono {x1 : Int × Int × Int × Int × Int × Int} {why2 : Int} {w : World} {R R' : (Int × Int × Int × Int × Int × Int) → World → Prop} {PR PR' : Value → World → Prop} (h : C89 x1 why2 w R PR) (hr : ∀ r0 w', R r0 w' → R' r0 w') (hp : ∀ v w', PR v w' → PR' v w') : C89 x1 why2 w R' PR' :=
  Calls.mono h fun _ _ he => he.elim (fun ⟨r0, he, hR⟩ => .inl ⟨r0, he, hr _ _ hR⟩) fun ⟨v, he, hP⟩ => .inr ⟨v, he, hp _ _ hP⟩
def C90 (x1 : Slc) (why2 : Int) (w : World) (R : Slc → World → Prop) (PR : Value → World → Prop) : Prop :=
  Calls Tryz.prog 90 #[Slc.v x1, .int .i64 why2] w fun e w' => (∃ r0 : Slc, e = .returned (Slc.v r0) ∧ R r0 w') ∨ ∃ v, e = .panicked (onePanic v) ∧ PR v w'
theorem C90.mono {x1 : Slc} {why2 : Int} {w : World} {R R' : Slc → World → Prop} {PR PR' : Value → World → Prop} (h : C90 x1 why2 w R PR) (hr : ∀ r0 w', R r0 w' → R' r0 w') (hp : ∀ v w', PR v w' → PR' v w') : C90 x1 why2 w R' PR' :=
  Calls.mono h fun _ _ he => he.elim (fun ⟨r0, he, hR⟩ => .inl ⟨r0, he, hr _ _ hR⟩) fun ⟨v, he, hP⟩ => .inr ⟨v, he, hp _ _ hP⟩
def C62 (x1 : Int) (why2 : Int) (w : World) (R : Int → World → Prop) (PR : Value → World → Prop) : Prop :=
  Calls Tryz.prog 62 #[.int .i64 x1, .int .i64 why2] w fun e w' => (∃ r0 : Int, e = .returned (.int .i64 r0) ∧ R r0 w') ∨ ∃ v, e = .panicked (onePanic v) ∧ PR v w'
theorem C62.mono {x1 : Int} {why2 : Int} {w : World} {R R' : Int → World → Prop} {PR PR' : Value → World → Prop} (h : C62 x1 why2 w R PR) (hr : ∀ r0 w', R r0 w' → R' r0 w') (hp : ∀ v w', PR v w' → PR' v w') : C62 x1 why2 w R' PR' :=
  Calls.mono h fun _ _ he => he.elim (fun ⟨r0, he, hR⟩ => .inl ⟨r0, he, hr _ _ hR⟩) fun ⟨v, he, hP⟩ => .inr ⟨v, he, hp _ _ hP⟩
def C61 (h1 : TyA83) (n2 : Int) (w : World) (R : Int → World → Prop) (PR : Value → World → Prop) : Prop :=
  Calls Tryz.prog 61 #[.agg (Sig.cells LiA83 h1).toArray, .int .i64 n2] w fun e w' => (∃ r0 : Int, e = .returned (.int .i64 r0) ∧ R r0 w') ∨ ∃ v, e = .panicked (onePanic v) ∧ PR v w'
theorem C61.mono {h1 : TyA83} {n2 : Int} {w : World} {R R' : Int → World → Prop} {PR PR' : Value → World → Prop} (h : C61 h1 n2 w R PR) (hr : ∀ r0 w', R r0 w' → R' r0 w') (hp : ∀ v w', PR v w' → PR' v w') : C61 h1 n2 w R' PR' :=
  Calls.mono h fun _ _ he => he.elim (fun ⟨r0, he, hR⟩ => .inl ⟨r0, he, hr _ _ hR⟩) fun ⟨v, he, hP⟩ => .inr ⟨v, he, hp _ _ hP⟩
def C34 (h1 : TyA83) (code2 : Int) (vw3 : Int) (w : World) (R : Int → World → Prop) (PR : Value → World → Prop) : Prop :=
  Calls Tryz.prog 34 #[.agg (Sig.cells LiA83 h1).toArray, .int .i64 code2, .int .i64 vw3] w fun e w' => (∃ r0 : Int, e = .returned (.int .i64 r0) ∧ R r0 w') ∨ ∃ v, e = .panicked (onePanic v) ∧ PR v w'
theorem C34.mono {h1 : TyA83} {code2 : Int} {vw3 : Int} {w : World} {R R' : Int → World → Prop} {PR PR' : Value → World → Prop} (h : C34 h1 code2 vw3 w R PR) (hr : ∀ r0 w', R r0 w' → R' r0 w') (hp : ∀ v w', PR v w' → PR' v w') : C34 h1 code2 vw3 w R' PR' :=
  Calls.mono h fun _ _ he => he.elim (fun ⟨r0, he, hR⟩ => .inl ⟨r0, he, hr _ _ hR⟩) fun ⟨v, he, hP⟩ => .inr ⟨v, he, hp _ _ hP⟩
def C35 (h1 : TyA83) (code2 : Int) (w : World) (R : Int → World → Prop) (PR : Value → World → Prop) : Prop :=
  Calls Tryz.prog 35 #[.agg (Sig.cells LiA83 h1).toArray, .int .i64 code2] w fun e w' => (∃ r0 : Int, e = .returned (.int .i64 r0) ∧ R r0 w') ∨ ∃ v, e = .panicked (onePanic v) ∧ PR v w'
theorem C35.mono {h1 : TyA83} {code2 : Int} {w : World} {R R' : Int → World → Prop} {PR PR' : Value → World → Prop} (h : C35 h1 code2 w R PR) (hr : ∀ r0 w', R r0 w' → R' r0 w') (hp : ∀ v w', PR v w' → PR' v w') : C35 h1 code2 w R' PR' :=
  Calls.mono h fun _ _ he => he.elim (fun ⟨r0, he, hR⟩ => .inl ⟨r0, he, hr _ _ hR⟩) fun ⟨v, he, hP⟩ => .inr ⟨v, he, hp _ _ hP⟩
def C121 (x1 : Int × Int) (why2 : Int) (w : World) (R : (Int × Int) → World → Prop) (PR : Value → World → Prop) : Prop :=
  Calls Tryz.prog 121 #[.agg #[.int .i64 (x1.1), .int .i64 (x1.2)], .int .i64 why2] w fun e w' => (∃ r0 : Int × Int, e = .returned (.agg #[.int .i64 (r0.1), .int .i64 (r0.2)]) ∧ R r0 w') ∨ ∃ v, e = .panicked (onePanic v) ∧ PR v w'
theorem C121.mono {x1 : Int × Int} {why2 : Int} {w : World} {R R' : (Int × Int) → World → Prop} {PR PR' : Value → World → Prop} (h : C121 x1 why2 w R PR) (hr : ∀ r0 w', R r0 w' → R' r0 w') (hp : ∀ v w', PR v w' → PR' v w') : C121 x1 why2 w R' PR' :=
  Calls.mono h fun _ _ he => he.elim (fun ⟨r0, he, hR⟩ => .inl ⟨r0, he, hr _ _ hR⟩) fun ⟨v, he, hP⟩ => .inr ⟨v, he, hp _ _ hP⟩
def C92 (h1 : TyA83) (m2 : Int × Int × Int × Int × Int × Int) (code3 : Int) (w : World) (R : (TyA69) → (Int × Int × Int × Int × Int × Int) → World → Prop) (PR : Value → World → Prop) : Prop :=
  Calls Tryz.prog 92 #[.agg (Sig.cells LiA83 h1).toArray, .agg #[.int .i64 (m2.1), .int .i64 (m2.2.1), .int .i64 (m2.2.2.1), .int .i64 (m2.2.2.2.1), .int .i64 (m2.2.2.2.2.1), .int .i64 (m2.2.2.2.2.2)], .int .i64 code3] w fun e w' => (∃ r0 : TyA69, ∃ r1 : Int × Int × Int × Int × Int × Int, e = .returned (.tuple #[.agg (Sig.cells LiA69 r0).toArray, .agg #[.int .i64 (r1.1), .int .i64 (r1.2.1), .int .i64 (r1.2.2.1), .int .i64 (r1.2.2.2.1), .int .i64 (r1.2.2.2.2.1), .int .i64 (r1.2.2.2.2.2)]]) ∧ R r0 r1 w') ∨ ∃ v, e = .panicked (onePanic v) ∧ PR v w'
theorem C92.mono {h1 : TyA83} {m2 : Int × Int × Int × Int × Int × Int} {code3 : Int} {w : World} {R R' : (TyA69) → (Int × Int × Int × Int × Int × Int) → World → Prop} {PR PR' : Value → World → Prop} (h : C92 h1 m2 code3 w R PR) (hr : ∀ r0 r1 w', R r0 r1 w' → R' r0 r1 w') (hp : ∀ v w', PR v w' → PR' v w') : C92 h1 m2 code3 w R' PR' :=
  Calls.mono h fun _ _ he => he.elim (fun ⟨r0, r1, he, hR⟩ => .inl ⟨r0, r1, he, hr _ _ _ hR⟩) fun ⟨v, he, hP⟩ => .inr ⟨v, he, hp _ _ hP⟩
def C55 (h1 : TyA83) (m2 : Int × Int × Int × Int × Int × Int) (s3 : ByteArray) (w : World) (R : Slc → (Int × Int × Int × Int × Int × Int) → World → Prop) (PR : Value → World → Prop) : Prop :=
  Calls Tryz.prog 55 #[.agg (Sig.cells LiA83 h1).toArray, .agg #[.int .i64 (m2.1), .int .i64 (m2.2.1), .int .i64 (m2.2.2.1), .int .i64 (m2.2.2.2.1), .int .i64 (m2.2.2.2.2.1), .int .i64 (m2.2.2.2.2.2)], .string s3] w fun e w' => (∃ r0 : Slc, ∃ r1 : Int × Int × Int × Int × Int × Int, e = .returned (.tuple #[Slc.v r0, .agg #[.int .i64 (r1.1), .int .i64 (r1.2.1), .int .i64 (r1.2.2.1), .int .i64 (r1.2.2.2.1), .int .i64 (r1.2.2.2.2.1), .int .i64 (r1.2.2.2.2.2)]]) ∧ R r0 r1 w') ∨ ∃ v, e = .panicked (onePanic v) ∧ PR v w'
theorem C55.mono {h1 : TyA83} {m2 : Int × Int × Int × Int × Int × Int} {s3 : ByteArray} {w : World} {R R' : Slc → (Int × Int × Int × Int × Int × Int) → World → Prop} {PR PR' : Value → World → Prop} (h : C55 h1 m2 s3 w R PR) (hr : ∀ r0 r1 w', R r0 r1 w' → R' r0 r1 w') (hp : ∀ v w', PR v w' → PR' v w') : C55 h1 m2 s3 w R' PR' :=
  Calls.mono h fun _ _ he => he.elim (fun ⟨r0, r1, he, hR⟩ => .inl ⟨r0, r1, he, hr _ _ _ hR⟩) fun ⟨v, he, hP⟩ => .inr ⟨v, he, hp _ _ hP⟩
def C23 (g1 : TyA30) (m2 : Int × Int × Int × Int × Int × Int) (f3 : TyA34) (s4 : ByteArray) (w : World) (R : Slc → (Int × Int × Int × Int × Int × Int) → Int → World → Prop) : Prop :=
  Calls Tryz.prog 23 #[.agg (Sig.cells LiA30 g1).toArray, .agg #[.int .i64 (m2.1), .int .i64 (m2.2.1), .int .i64 (m2.2.2.1), .int .i64 (m2.2.2.2.1), .int .i64 (m2.2.2.2.2.1), .int .i64 (m2.2.2.2.2.2)], .agg (Sig.cells LiA34 f3).toArray, .string s4] w fun e w' => ∃ r0 : Slc, ∃ r1 : Int × Int × Int × Int × Int × Int, ∃ r2 : Int, e = .returned (.tuple #[Slc.v r0, .agg #[.int .i64 (r1.1), .int .i64 (r1.2.1), .int .i64 (r1.2.2.1), .int .i64 (r1.2.2.2.1), .int .i64 (r1.2.2.2.2.1), .int .i64 (r1.2.2.2.2.2)], .int .i64 r2]) ∧ R r0 r1 r2 w'
theorem C23.mono {g1 : TyA30} {m2 : Int × Int × Int × Int × Int × Int} {f3 : TyA34} {s4 : ByteArray} {w : World} {R R' : Slc → (Int × Int × Int × Int × Int × Int) → Int → World → Prop} (h : C23 g1 m2 f3 s4 w R) (hr : ∀ r0 r1 r2 w', R r0 r1 r2 w' → R' r0 r1 r2 w') : C23 g1 m2 f3 s4 w R' :=
  Calls.mono h fun _ _ ⟨r0, r1, r2, he, hR⟩ => ⟨r0, r1, r2, he, hr _ _ _ _ hR⟩
def CD29 (c1 : Addr) (c2 : Addr) (u : Option Value) (w : World) (R : World → Prop) : Prop := CallD Tryz.prog 29 #[.pointer (some c1), .pointer (some c2)] u w R
theorem CD29.mono {c1 : Addr} {c2 : Addr} {u : Option Value} {w : World} {R R' : World → Prop} (h : CD29 c1 c2 u w R) (hr : ∀ w', R w' → R' w') : CD29 c1 c2 u w R' :=
  CallsD.mono h fun _ _ _ ⟨h1, h2, h3⟩ => ⟨h1, h2, hr _ h3⟩
def C11 (g1 : TyA30) (f2 : TyA34) (code3 : Int) (w : World) (R : Int → Int → World → Prop) : Prop :=
  Calls Tryz.prog 11 #[.agg (Sig.cells LiA30 g1).toArray, .agg (Sig.cells LiA34 f2).toArray, .int .i64 code3] w fun e w' => ∃ r0 : Int, ∃ r1 : Int, e = .returned (.tuple #[.int .i64 r0, .int .i64 r1]) ∧ R r0 r1 w'
theorem C11.mono {g1 : TyA30} {f2 : TyA34} {code3 : Int} {w : World} {R R' : Int → Int → World → Prop} (h : C11 g1 f2 code3 w R) (hr : ∀ r0 r1 w', R r0 r1 w' → R' r0 r1 w') : C11 g1 f2 code3 w R' :=
  Calls.mono h fun _ _ ⟨r0, r1, he, hR⟩ => ⟨r0, r1, he, hr _ _ _ hR⟩

/-- foliant/show.caught -/
def S30_nil (why2 : Option Addr) (w : World) (R : World → Prop) (PR : Value → World → Prop) : Prop :=
  R w
def pl30_nil : Plan := (.seq (.reg .seq) (.block (.seq (.reg .seq) (.cond (.reg .seq) (.seq (.reg .seq) (.cond (.seq (.reg .seq) (.reg .seq)) (.seq (.reg .seq) (.reg .seq))))))))
set_option maxRecDepth 100000 in
theorem T30_nil (why2 : Option Addr) (w : World) (R : World → Prop) (PR : Value → World → Prop) (h : S30_nil why2 w R PR) : C30 Value.nilIface why2 w R PR := by
  have e : fnT Tryz.prog ⟨FF, MAY, PR⟩ pl30_nil Tryz.f30 [Value.nilIface, .pointer why2] w [] (fun _ w => R w) = S30_nil why2 w R PR := by kernel_rfl
  exact (fn_callsP okF okM Tryz.func30 (by kernel_rfl) (by kernel_rfl) (e.mpr h)).mono fun _ _ he => he.elim (fun ⟨_, he, hR⟩ => .inl ⟨he, hR⟩) .inr

/-- foliant/show.caught -/
def S30_T106 (x2 : Int) (why3 : Option Addr) (w : World) (R : World → Prop) (PR : Value → World → Prop) : Prop :=
  Nw w (.cells #[.int .i64 0] 106) fun vw4 =>
  St vw4 (⟨w.heap.size, 0, none⟩ : Addr) (.int .i64 x2) fun vw5 =>
  Ld vw5 (⟨w.heap.size, 0, none⟩ : Addr) (Value.int .i64) fun (x6 : Int) =>
  Nn why3 fun a7 =>
  St vw5 a7 (.int .i64 x6) fun vw8 =>
  R vw8
def pl30_T106 : Plan := (.seq (.reg .seq) (.block (.seq (.reg .seq) (.cond (.reg .seq) (.seq (.reg .seq) (.cond (.seq (.reg .seq) (.reg .seq)) (.seq (.reg .seq) (.reg .seq))))))))
set_option maxRecDepth 100000 in
theorem T30_T106 (x2 : Int) (why3 : Option Addr) (w : World) (R : World → Prop) (PR : Value → World → Prop) (h : S30_T106 x2 why3 w R PR) : C30 (.iface 106 (.agg #[.int .i64 x2])) why3 w R PR := by
  have e : fnT Tryz.prog ⟨FF, MAY, PR⟩ pl30_T106 Tryz.f30 [.iface 106 (.agg #[.int .i64 x2]), .pointer why3] w [] (fun _ w => R w) = S30_T106 x2 why3 w R PR := by kernel_rfl
  exact (fn_callsP okF okM Tryz.func30 (by kernel_rfl) (by kernel_rfl) (e.mpr h)).mono fun _ _ he => he.elim (fun ⟨_, he, hR⟩ => .inl ⟨he, hR⟩) .inr

/-- foliant/show.String$1 -/
def S54_nil (c1 : Addr) (c2 : Addr) (c3 : Addr) (w : World) (R : World → Prop) : Prop :=
  C30 Value.nilIface (some c1) w (fun vw4 =>
    Ld vw4 c1 (Value.int .i64) fun (x5 : Int) =>
    Br (x5 != 0) (St vw4 c2 (Slc.v ((⟨none, 0, 0⟩ : Slc))) fun vw6 =>
      St vw6 c3 (.int .i64 0) fun vw7 =>
      St vw7 (c3.add 1) (.int .i64 0) fun vw8 =>
      St vw8 (c3.add 2) (.int .i64 0) fun vw9 =>
      St vw9 (c3.add 3) (.int .i64 0) fun vw10 =>
      St vw10 (c3.add 4) (.int .i64 0) fun vw11 =>
      St vw11 (c3.add 5) (.int .i64 0) fun vw12 =>
      R vw12) (R vw4)) (fun _ _ => False)
def pl54_nil : Plan := (.seq (.reg .seq) (.cond (.reg .seq) .leaf))
set_option maxRecDepth 100000 in
theorem T54_nil (c1 : Addr) (c2 : Addr) (c3 : Addr) (w : World) (R : World → Prop) (h : S54_nil c1 c2 c3 w R) : CD54 c1 c2 c3 none w R := by
  have e : fnTS Tryz.prog FF MAY pl54_nil Tryz.f54 [.pointer (some c1), .pointer (some c2), .pointer (some c3)] none w R = S54_nil c1 c2 c3 w R := by kernel_rfl
  exact fnS_calls okF okM Tryz.func54 (by kernel_rfl) (by kernel_rfl) (e.mpr h)

/-- foliant/show.String$1 -/
def S54_T106 (c1 : Addr) (c2 : Addr) (c3 : Addr) (u4 : Int) (w : World) (R : World → Prop) : Prop :=
  C30 (.iface 106 (.agg #[.int .i64 u4])) (some c1) w (fun vw5 =>
    Ld vw5 c1 (Value.int .i64) fun (x6 : Int) =>
    Br (x6 != 0) (St vw5 c2 (Slc.v ((⟨none, 0, 0⟩ : Slc))) fun vw7 =>
      St vw7 c3 (.int .i64 0) fun vw8 =>
      St vw8 (c3.add 1) (.int .i64 0) fun vw9 =>
      St vw9 (c3.add 2) (.int .i64 0) fun vw10 =>
      St vw10 (c3.add 3) (.int .i64 0) fun vw11 =>
      St vw11 (c3.add 4) (.int .i64 0) fun vw12 =>
      St vw12 (c3.add 5) (.int .i64 0) fun vw13 =>
      R vw13) (R vw5)) (fun _ _ => False)
def pl54_T106 : Plan := (.seq (.reg .seq) (.cond (.reg .seq) .leaf))
set_option maxRecDepth 100000 in
theorem T54_T106 (c1 : Addr) (c2 : Addr) (c3 : Addr) (u4 : Int) (w : World) (R : World → Prop) (h : S54_T106 c1 c2 c3 u4 w R) : CD54 c1 c2 c3 (some (.iface 106 (.agg #[.int .i64 u4]))) w R := by
  have e : fnTS Tryz.prog FF MAY pl54_T106 Tryz.f54 [.pointer (some c1), .pointer (some c2), .pointer (some c3)] (some (.iface 106 (.agg #[.int .i64 u4]))) w R = S54_T106 c1 c2 c3 u4 w R := by kernel_rfl
  exact fnS_calls okF okM Tryz.func54 (by kernel_rfl) (by kernel_rfl) (e.mpr h)

/-- foliant/show.need -/
def S39 (holds1 : Bool) (why2 : Int) (w : World) (R : World → Prop) (PR : Value → World → Prop) : Prop :=
  Br (!holds1) (PR (.iface 106 (.agg #[.int .i64 why2])) w) (R w)
def pl39 : Plan := (.seq (.reg .seq) (.cond (.reg .seq) .leaf))
set_option maxRecDepth 100000 in
theorem T39 (holds1 : Bool) (why2 : Int) (w : World) (R : World → Prop) (PR : Value → World → Prop) (h : S39 holds1 why2 w R PR) : C39 holds1 why2 w R PR := by
  have e : fnT Tryz.prog ⟨FF, MAY, PR⟩ pl39 Tryz.f39 [.bool holds1, .int .i64 why2] w [] (fun _ w => R w) = S39 holds1 why2 w R PR := by kernel_rfl
  exact (fn_callsP okF okM Tryz.func39 (by kernel_rfl) (by kernel_rfl) (e.mpr h)).mono fun _ _ he => he.elim (fun ⟨_, he, hR⟩ => .inl ⟨he, hR⟩) .inr

/-- foliant/show.must[foliant/api.Graphics] -/
def S56 (x1 : TyA30) (why2 : Int) (w : World) (R : (TyA30) → World → Prop) (PR : Value → World → Prop) : Prop :=
  Nw w (.cells (Sig.cells LiA30 x1).toArray 31) fun vw3 =>
  Nw vw3 (.cells #[.int .i64 0, .int .i64 0, .int .i64 0, .int .i64 0, .int .i64 0, .int .i64 0, .int .i64 0, .int .i64 0, .int .i64 0, .int .i64 0, Slc.v ((⟨none, 0, 0⟩ : Slc)), .int .i64 0, .int .i64 0, .int .i64 0, .int .i64 0, .int .i64 0, .int .i64 0, .int .i64 0, .int .i64 0, .int .i64 0, .int .i64 0, .int .i64 0, .int .i64 0, .int .i64 0, .int .i64 0, .int .i64 0, .int .i64 0, .int .i64 0, .string ((⟨#[]⟩ : ByteArray)), .int .i64 0] 31) fun vw4 =>
  C39 (why2 == 0) why2 vw4 (fun vw5 =>
    LdT vw5 (⟨w.heap.size, 0, none⟩ : Addr) 0 LiA30 fun (x6 : TyA30) =>
    StT (⟨vw3.heap.size, 0, none⟩ : Addr) 0 LiA30 x6 vw5 fun vw7 =>
    LdT vw7 (⟨vw3.heap.size, 0, none⟩ : Addr) 0 LiA30 fun (x8 : TyA30) =>
    R x8 vw7) PR
def pl56 : Plan := (.seq (.reg .seq) (.seq (.reg .seq) (.seq (.reg .seq) .leaf)))
set_option maxRecDepth 100000 in
theorem T56 (x1 : TyA30) (why2 : Int) (w : World) (R : (TyA30) → World → Prop) (PR : Value → World → Prop) (h : S56 x1 why2 w R PR) : C56 x1 why2 w R PR := by
  have e : fnT Tryz.prog ⟨FF, MAY, PR⟩ pl56 Tryz.f56 [.agg (Sig.cells LiA30 x1).toArray, .int .i64 why2] w [(.agg [(.int .i64), (.int .i64), (.int .i64), (.int .i64), (.int .i64), (.int .i64), (.int .i64), (.int .i64), (.int .i64), (.int .i64), .slc, (.int .i64), (.int .i64), (.int .i64), (.int .i64), (.int .i64), (.int .i64), (.int .i64), (.int .i64), (.int .i64), (.int .i64), (.int .i64), (.int .i64), (.int .i64), (.int .i64), (.int .i64), (.int .i64), (.int .i64), .str, (.int .i64)])] (fun s w => R s w) = S56 x1 why2 w R PR := by kernel_rfl
  exact (fn_callsP okF okM Tryz.func56 (by kernel_rfl) (by kernel_rfl) (e.mpr h)).mono fun _ _ he => he.elim (fun ⟨s, he, hR⟩ => .inl ⟨s, he, hR⟩) .inr

/-- foliant/show.fits -/
def S58 (n1 : Int) (w : World) (R : Int → World → Prop) (PR : Value → World → Prop) : Prop :=
  Br (decide (n1 ≥ (-1073741824))) (C39 (decide (n1 ≤ 1073741824)) 2 w (fun vw2 =>
      R n1 vw2) PR) (C39 false 2 w (fun vw3 =>
      R n1 vw3) PR)
def pl58 : Plan := (.seq (.reg .seq) (.seq (.reg .seq) (.seq (.reg .seq) .leaf)))
set_option maxRecDepth 100000 in
theorem T58 (n1 : Int) (w : World) (R : Int → World → Prop) (PR : Value → World → Prop) (h : S58 n1 w R PR) : C58 n1 w R PR := by
  have e : fnT Tryz.prog ⟨FF, MAY, PR⟩ pl58 Tryz.f58 [.int .i64 n1] w [(.one (.int .i64))] (fun s w => R s w) = S58 n1 w R PR := by kernel_rfl
  exact (fn_callsP okF okM Tryz.func58 (by kernel_rfl) (by kernel_rfl) (e.mpr h)).mono fun _ _ he => he.elim (fun ⟨s, he, hR⟩ => .inl ⟨s, he, hR⟩) .inr

def S31L1 (x18 : Int) (x19 : Int) (x20 : Int) (x21 : Int) (x22 : Int) (x23 : Int) (R : World → Prop) (PR : Value → World → Prop) (I26 : Int → World → Prop) (s24 : Int) (vw25 : World) : Prop :=
  Br (decide (s24 < 6)) (0 ≤ s24 ∧ s24 < (6 : Nat) ∧ ∃ x27 : Int, (#[.int .i64 x18, .int .i64 x19, .int .i64 x20, .int .i64 x21, .int .i64 x22, .int .i64 x23] : Array Value)[(s24).toNat * 1]? = some (.int .i64 x27) ∧ C58 x27 vw25 (fun r28 vw29 =>
      I26 (IntKind.i64.wrap (s24 + 1)) vw29) PR) (R vw25)
/-- foliant/show.use -/
def S31 (g1 : TyA30) (w : World) (R : World → Prop) (PR : Value → World → Prop) : Prop :=
  Nw w (.cells (Sig.cells LiA30 g1).toArray 31) fun vw2 =>
  ∃ vS3 : World → Prop, vS3 vw2.drew ∧ LdST vS3 (⟨w.heap.size, 0, none⟩ : Addr) 0 LiA30 fun (x4 : TyA30) =>
  LdS vS3 (⟨w.heap.size, 0, none⟩ : Addr) (Value.int .i64) fun (x5 : Int) =>
  LdS vS3 ((⟨w.heap.size, 0, none⟩ : Addr).add 1) (Value.int .i64) fun (x6 : Int) =>
  LdS vS3 ((⟨w.heap.size, 0, none⟩ : Addr).add 2) (Value.int .i64) fun (x7 : Int) =>
  LdS vS3 ((⟨w.heap.size, 0, none⟩ : Addr).add 3) (Value.int .i64) fun (x8 : Int) =>
  LdS vS3 ((⟨w.heap.size, 0, none⟩ : Addr).add 4) (Value.int .i64) fun (x9 : Int) =>
  LdS vS3 ((⟨w.heap.size, 0, none⟩ : Addr).add 5) (Value.int .i64) fun (x10 : Int) =>
  C57 (x5, x6, x7, x8, x9, x10) vw2.drew fun r11 vw12 =>
    vS3 vw12 ∧ C56 x4 r11 vw12 (fun r13 vw14 =>
      LdT vw14 ((⟨w.heap.size, 0, none⟩ : Addr).add 22) 0 LiA28 fun (x15 : TyA28) =>
      Nw vw14 (.cells #[.int .i64 0, .int .i64 0, .int .i64 0, .int .i64 0, .int .i64 0, .int .i64 0, .string ((⟨#[]⟩ : ByteArray)), .int .i64 0] 29) fun vw16 =>
      StT (⟨vw14.heap.size, 0, none⟩ : Addr) 0 LiA28 x15 vw16 fun vw17 =>
      Ld vw17 (⟨vw14.heap.size, 0, none⟩ : Addr) (Value.int .i64) fun (x18 : Int) =>
      Ld vw17 ((⟨vw14.heap.size, 0, none⟩ : Addr).add 1) (Value.int .i64) fun (x19 : Int) =>
      Ld vw17 ((⟨vw14.heap.size, 0, none⟩ : Addr).add 2) (Value.int .i64) fun (x20 : Int) =>
      Ld vw17 ((⟨vw14.heap.size, 0, none⟩ : Addr).add 3) (Value.int .i64) fun (x21 : Int) =>
      Ld vw17 ((⟨vw14.heap.size, 0, none⟩ : Addr).add 4) (Value.int .i64) fun (x22 : Int) =>
      Ld vw17 ((⟨vw14.heap.size, 0, none⟩ : Addr).add 5) (Value.int .i64) fun (x23 : Int) =>
      Lp (σ := Int) (S31L1 x18 x19 x20 x21 x22 x23 R PR) 0 vw17) PR
def pl31 : Plan := (.seq (.reg .seq) (.seq (.reg (.held [4] (.take 0 (.take 1 (.take 2 (.eff 3 none (.eff 4 (some []) .done))))))) (.seq (.reg .seq) (.seq (.reg .seq) (.block (.loop [(25, (.one (.int .i64)))] [24] (.seq (.reg .seq) (.seq (.cond .leaf .leaf) (.seq (.block (.seq (.reg .seq) (.reg .seq))) (.reg .seq))))))))))
set_option maxRecDepth 100000 in
theorem T31 (g1 : TyA30) (w : World) (R : World → Prop) (PR : Value → World → Prop) (h : S31 g1 w R PR) : C31 g1 w R PR := by
  have e : fnT Tryz.prog ⟨FF, MAY, PR⟩ pl31 Tryz.f31 [.agg (Sig.cells LiA30 g1).toArray] w [] (fun _ w => R w) = S31 g1 w R PR := by kernel_rfl
  exact (fn_callsP okF okM Tryz.func31 (by kernel_rfl) (by kernel_rfl) (e.mpr h)).mono fun _ _ he => he.elim (fun ⟨_, he, hR⟩ => .inl ⟨he, hR⟩) .inr

/-- foliant/show.must[foliant/api.Font] -/
def S32 (x1 : TyA34) (why2 : Int) (w : World) (R : (TyA34) → World → Prop) (PR : Value → World → Prop) : Prop :=
  Nw w (.cells (Sig.cells LiA34 x1).toArray 35) fun vw3 =>
  Nw vw3 (.cells #[.string ((⟨#[]⟩ : ByteArray)), .bool false, .int .i64 0, Slc.v ((⟨none, 0, 0⟩ : Slc)), .int .i64 0, Slc.v ((⟨none, 0, 0⟩ : Slc)), Slc.v ((⟨none, 0, 0⟩ : Slc))] 35) fun vw4 =>
  C39 (why2 == 0) why2 vw4 (fun vw5 =>
    LdT vw5 (⟨w.heap.size, 0, none⟩ : Addr) 0 LiA34 fun (x6 : TyA34) =>
    StT (⟨vw3.heap.size, 0, none⟩ : Addr) 0 LiA34 x6 vw5 fun vw7 =>
    LdT vw7 (⟨vw3.heap.size, 0, none⟩ : Addr) 0 LiA34 fun (x8 : TyA34) =>
    R x8 vw7) PR
def pl32 : Plan := (.seq (.reg .seq) (.seq (.reg .seq) (.seq (.reg .seq) .leaf)))
set_option maxRecDepth 100000 in
theorem T32 (x1 : TyA34) (why2 : Int) (w : World) (R : (TyA34) → World → Prop) (PR : Value → World → Prop) (h : S32 x1 why2 w R PR) : C32 x1 why2 w R PR := by
  have e : fnT Tryz.prog ⟨FF, MAY, PR⟩ pl32 Tryz.f32 [.agg (Sig.cells LiA34 x1).toArray, .int .i64 why2] w [(.agg [.str, .bool, (.int .i64), .slc, (.int .i64), .slc, .slc])] (fun s w => R s w) = S32 x1 why2 w R PR := by kernel_rfl
  exact (fn_callsP okF okM Tryz.func32 (by kernel_rfl) (by kernel_rfl) (e.mpr h)).mono fun _ _ he => he.elim (fun ⟨s, he, hR⟩ => .inl ⟨s, he, hR⟩) .inr

/-- foliant/show.must[foliant/api.Matrix] -/
def S89 (x1 : Int × Int × Int × Int × Int × Int) (why2 : Int) (w : World) (R : (Int × Int × Int × Int × Int × Int) → World → Prop) (PR : Value → World → Prop) : Prop :=
  Nw w (.cells #[.int .i64 (x1.1), .int .i64 (x1.2.1), .int .i64 (x1.2.2.1), .int .i64 (x1.2.2.2.1), .int .i64 (x1.2.2.2.2.1), .int .i64 (x1.2.2.2.2.2)] 24) fun vw3 =>
  Nw vw3 (.cells #[.int .i64 0, .int .i64 0, .int .i64 0, .int .i64 0, .int .i64 0, .int .i64 0] 24) fun vw4 =>
  C39 (why2 == 0) why2 vw4 (fun vw5 =>
    Ld vw5 (⟨w.heap.size, 0, none⟩ : Addr) (Value.int .i64) fun (x6 : Int) =>
    Ld vw5 ((⟨w.heap.size, 0, none⟩ : Addr).add 1) (Value.int .i64) fun (x7 : Int) =>
    Ld vw5 ((⟨w.heap.size, 0, none⟩ : Addr).add 2) (Value.int .i64) fun (x8 : Int) =>
    Ld vw5 ((⟨w.heap.size, 0, none⟩ : Addr).add 3) (Value.int .i64) fun (x9 : Int) =>
    Ld vw5 ((⟨w.heap.size, 0, none⟩ : Addr).add 4) (Value.int .i64) fun (x10 : Int) =>
    Ld vw5 ((⟨w.heap.size, 0, none⟩ : Addr).add 5) (Value.int .i64) fun (x11 : Int) =>
    St vw5 (⟨vw3.heap.size, 0, none⟩ : Addr) (.int .i64 x6) fun vw12 =>
    St vw12 ((⟨vw3.heap.size, 0, none⟩ : Addr).add 1) (.int .i64 x7) fun vw13 =>
    St vw13 ((⟨vw3.heap.size, 0, none⟩ : Addr).add 2) (.int .i64 x8) fun vw14 =>
    St vw14 ((⟨vw3.heap.size, 0, none⟩ : Addr).add 3) (.int .i64 x9) fun vw15 =>
    St vw15 ((⟨vw3.heap.size, 0, none⟩ : Addr).add 4) (.int .i64 x10) fun vw16 =>
    St vw16 ((⟨vw3.heap.size, 0, none⟩ : Addr).add 5) (.int .i64 x11) fun vw17 =>
    Ld vw17 (⟨vw3.heap.size, 0, none⟩ : Addr) (Value.int .i64) fun (x18 : Int) =>
    Ld vw17 ((⟨vw3.heap.size, 0, none⟩ : Addr).add 1) (Value.int .i64) fun (x19 : Int) =>
    Ld vw17 ((⟨vw3.heap.size, 0, none⟩ : Addr).add 2) (Value.int .i64) fun (x20 : Int) =>
    Ld vw17 ((⟨vw3.heap.size, 0, none⟩ : Addr).add 3) (Value.int .i64) fun (x21 : Int) =>
    Ld vw17 ((⟨vw3.heap.size, 0, none⟩ : Addr).add 4) (Value.int .i64) fun (x22 : Int) =>
    Ld vw17 ((⟨vw3.heap.size, 0, none⟩ : Addr).add 5) (Value.int .i64) fun (x23 : Int) =>
    R (x18, x19, x20, x21, x22, x23) vw17) PR
def pl89 : Plan := (.seq (.reg .seq) (.seq (.reg .seq) (.seq (.reg .seq) .leaf)))
set_option maxRecDepth 100000 in
theorem T89 (x1 : Int × Int × Int × Int × Int × Int) (why2 : Int) (w : World) (R : (Int × Int × Int × Int × Int × Int) → World → Prop) (PR : Value → World → Prop) (h : S89 x1 why2 w R PR) : C89 (x1.1, x1.2.1, x1.2.2.1, x1.2.2.2.1, x1.2.2.2.2.1, x1.2.2.2.2.2) why2 w R PR := by
  have e : fnT Tryz.prog ⟨FF, MAY, PR⟩ pl89 Tryz.f89 [.agg #[.int .i64 (x1.1), .int .i64 (x1.2.1), .int .i64 (x1.2.2.1), .int .i64 (x1.2.2.2.1), .int .i64 (x1.2.2.2.2.1), .int .i64 (x1.2.2.2.2.2)], .int .i64 why2] w [(.agg [(.int .i64), (.int .i64), (.int .i64), (.int .i64), (.int .i64), (.int .i64)])] (fun s w => R s w) = S89 x1 why2 w R PR := by kernel_rfl
  exact (fn_callsP okF okM Tryz.func89 (by kernel_rfl) (by kernel_rfl) (e.mpr h)).mono fun _ _ he => he.elim (fun ⟨s, he, hR⟩ => .inl ⟨s, he, hR⟩) .inr

/-- foliant/show.must[[]int] -/
def S90 (x1 : Slc) (why2 : Int) (w : World) (R : Slc → World → Prop) (PR : Value → World → Prop) : Prop :=
  C39 (why2 == 0) why2 w (fun vw3 =>
    R x1 vw3) PR
def pl90 : Plan := (.seq (.reg .seq) (.seq (.reg .seq) (.seq (.reg .seq) .leaf)))
set_option maxRecDepth 100000 in
theorem T90 (x1 : Slc) (why2 : Int) (w : World) (R : Slc → World → Prop) (PR : Value → World → Prop) (h : S90 x1 why2 w R PR) : C90 x1 why2 w R PR := by
  have e : fnT Tryz.prog ⟨FF, MAY, PR⟩ pl90 Tryz.f90 [Slc.v x1, .int .i64 why2] w [(.one .slc)] (fun s w => R s w) = S90 x1 why2 w R PR := by kernel_rfl
  exact (fn_callsP okF okM Tryz.func90 (by kernel_rfl) (by kernel_rfl) (e.mpr h)).mono fun _ _ he => he.elim (fun ⟨s, he, hR⟩ => .inl ⟨s, he, hR⟩) .inr

/-- foliant/show.must[int64] -/
def S62 (x1 : Int) (why2 : Int) (w : World) (R : Int → World → Prop) (PR : Value → World → Prop) : Prop :=
  C39 (why2 == 0) why2 w (fun vw3 =>
    R x1 vw3) PR
def pl62 : Plan := (.seq (.reg .seq) (.seq (.reg .seq) (.seq (.reg .seq) .leaf)))
set_option maxRecDepth 100000 in
theorem T62 (x1 : Int) (why2 : Int) (w : World) (R : Int → World → Prop) (PR : Value → World → Prop) (h : S62 x1 why2 w R PR) : C62 x1 why2 w R PR := by
  have e : fnT Tryz.prog ⟨FF, MAY, PR⟩ pl62 Tryz.f62 [.int .i64 x1, .int .i64 why2] w [(.one (.int .i64))] (fun s w => R s w) = S62 x1 why2 w R PR := by kernel_rfl
  exact (fn_callsP okF okM Tryz.func62 (by kernel_rfl) (by kernel_rfl) (e.mpr h)).mono fun _ _ he => he.elim (fun ⟨s, he, hR⟩ => .inl ⟨s, he, hR⟩) .inr

/-- (foliant/show.hand).scaled -/
def S61 (h1 : TyA83) (n2 : Int) (w : World) (R : Int → World → Prop) (PR : Value → World → Prop) : Prop :=
  Nw w (.cells (Sig.cells LiA83 h1).toArray 84) fun vw3 =>
  Ld vw3 (((⟨w.heap.size, 0, none⟩ : Addr).add 22).add 2) (Value.int .i64) fun (x4 : Int) =>
  C100 (IntKind.i64.wrap (n2 * x4)) 1000000 vw3 fun r5 r6 vw7 =>
    C62 r5 r6 vw7 (fun r8 vw9 =>
      C58 r8 vw9 (fun r10 vw11 =>
        R r10 vw11) PR) PR
def pl61 : Plan := (.seq (.reg .seq) (.seq (.reg .seq) .leaf))
set_option maxRecDepth 100000 in
theorem T61 (h1 : TyA83) (n2 : Int) (w : World) (R : Int → World → Prop) (PR : Value → World → Prop) (h : S61 h1 n2 w R PR) : C61 h1 n2 w R PR := by
  have e : fnT Tryz.prog ⟨FF, MAY, PR⟩ pl61 Tryz.f61 [.agg (Sig.cells LiA83 h1).toArray, .int .i64 n2] w [(.one (.int .i64))] (fun s w => R s w) = S61 h1 n2 w R PR := by kernel_rfl
  exact (fn_callsP okF okM Tryz.func61 (by kernel_rfl) (by kernel_rfl) (e.mpr h)).mono fun _ _ he => he.elim (fun ⟨s, he, hR⟩ => .inl ⟨s, he, hR⟩) .inr

/-- (foliant/show.hand).step -/
def S34 (h1 : TyA83) (code2 : Int) (vw3 : Int) (w : World) (R : Int → World → Prop) (PR : Value → World → Prop) : Prop :=
  Nw w (.cells (Sig.cells LiA83 h1).toArray 84) fun vw4 =>
  Ld vw4 ((⟨w.heap.size, 0, none⟩ : Addr).add 22) (Value.int .i64) fun (x5 : Int) =>
  Nw vw4 (.cells #[.int .i64 vw3, .int .i64 x5] 2) fun vw6 =>
  Br (code2 == 32) (Ld vw6 (((⟨w.heap.size, 0, none⟩ : Addr).add 30).add 1) Value.bool fun (x12 : Bool) =>
    Br (!x12) (Ld vw6 (((⟨w.heap.size, 0, none⟩ : Addr).add 22).add 1) (Value.int .i64) fun (x13 : Int) =>
      Nw vw6 (.cells #[.int .i64 x13] 2) fun vw14 =>
      Rn Tryz.prog (Builtin.append_ #[25, 25] 25 #[Slc.v ((⟨some ⟨vw4.heap.size, 0, none⟩, 2, 2⟩ : Slc)), Slc.v ((⟨some ⟨vw6.heap.size, 0, none⟩, 1, 1⟩ : Slc))]) vw14 Slc.v fun (x15 : Slc) vw16 =>
      ∃ vS17 : World → Prop, vS17 vw16.drew ∧ LdST vS17 (⟨w.heap.size, 0, none⟩ : Addr) 0 LiA83 fun (x18 : TyA83) =>
      C63 x15 vw16.drew fun r19 r20 vw21 =>
        vS17 vw21 ∧ C62 r19 r20 vw21 (fun r22 vw23 =>
          vS17 vw23 ∧ C61 x18 r22 vw23 (fun r24 vw25 =>
            R r24 vw25) PR) PR) (∃ vS26 : World → Prop, vS26 vw6.drew ∧ LdST vS26 (⟨w.heap.size, 0, none⟩ : Addr) 0 LiA83 fun (x27 : TyA83) =>
      C63 (⟨some ⟨vw4.heap.size, 0, none⟩, 2, 2⟩ : Slc) vw6.drew fun r28 r29 vw30 =>
        vS26 vw30 ∧ C62 r28 r29 vw30 (fun r31 vw32 =>
          vS26 vw32 ∧ C61 x27 r31 vw32 (fun r33 vw34 =>
            R r33 vw34) PR) PR)) (∃ vS35 : World → Prop, vS35 vw6.drew ∧ LdST vS35 (⟨w.heap.size, 0, none⟩ : Addr) 0 LiA83 fun (x36 : TyA83) =>
    C63 (⟨some ⟨vw4.heap.size, 0, none⟩, 2, 2⟩ : Slc) vw6.drew fun r37 r38 vw39 =>
      vS35 vw39 ∧ C62 r37 r38 vw39 (fun r40 vw41 =>
        vS35 vw41 ∧ C61 x36 r40 vw41 (fun r42 vw43 =>
          R r42 vw43) PR) PR)
def pl34 : Plan := (.seq (.reg .seq) (.seq (.reg .seq) (.seq (.seq (.reg .seq) (.cond (.reg .seq) .leaf)) (.seq (.reg (.held [6] (.take 0 (.take 1 (.eff 2 none (.take 3 (.take 4 (.eff 5 none (.eff 6 (some []) (.take 7 .done)))))))))) .leaf))))
set_option maxRecDepth 100000 in
theorem T34 (h1 : TyA83) (code2 : Int) (vw3 : Int) (w : World) (R : Int → World → Prop) (PR : Value → World → Prop) (h : S34 h1 code2 vw3 w R PR) : C34 h1 code2 vw3 w R PR := by
  have e : fnT Tryz.prog ⟨FF, MAY, PR⟩ pl34 Tryz.f34 [.agg (Sig.cells LiA83 h1).toArray, .int .i64 code2, .int .i64 vw3] w [(.one (.int .i64))] (fun s w => R s w) = S34 h1 code2 vw3 w R PR := by kernel_rfl
  exact (fn_callsP okF okM Tryz.func34 (by kernel_rfl) (by kernel_rfl) (e.mpr h)).mono fun _ _ he => he.elim (fun ⟨s, he, hR⟩ => .inl ⟨s, he, hR⟩) .inr

/-- (foliant/show.hand).width -/
def S35 (h1 : TyA83) (code2 : Int) (w : World) (R : Int → World → Prop) (PR : Value → World → Prop) : Prop :=
  Nw w (.cells (Sig.cells LiA83 h1).toArray 84) fun vw3 =>
  ∃ vS4 : World → Prop, vS4 vw3.drew ∧ LdS vS4 (((⟨w.heap.size, 0, none⟩ : Addr).add 22).add 4) (Value.int .i64) fun (x5 : Int) =>
  LdST vS4 ((⟨w.heap.size, 0, none⟩ : Addr).add 30) 0 LiA34 fun (x6 : TyA34) =>
  C65 x6 code2 vw3.drew fun r7 vw8 =>
    vS4 vw8 ∧ C64 x5 (IntKind.i64.wrap (10 * r7)) vw8 fun r9 r10 vw11 =>
      C62 r9 r10 vw11 (fun r12 vw13 =>
        R r12 vw13) PR
def pl35 : Plan := (.seq (.reg .seq) (.seq (.reg (.held [9] (.take 0 (.take 1 (.take 2 (.take 3 (.take 4 (.take 5 (.take 6 (.eff 7 none (.take 8 (.eff 9 (some [12]) (.take 10 (.take 11 (.eff 12 (some []) (.take 13 .done)))))))))))))))) .leaf))
set_option maxRecDepth 100000 in
theorem T35 (h1 : TyA83) (code2 : Int) (w : World) (R : Int → World → Prop) (PR : Value → World → Prop) (h : S35 h1 code2 w R PR) : C35 h1 code2 w R PR := by
  have e : fnT Tryz.prog ⟨FF, MAY, PR⟩ pl35 Tryz.f35 [.agg (Sig.cells LiA83 h1).toArray, .int .i64 code2] w [(.one (.int .i64))] (fun s w => R s w) = S35 h1 code2 w R PR := by kernel_rfl
  exact (fn_callsP okF okM Tryz.func35 (by kernel_rfl) (by kernel_rfl) (e.mpr h)).mono fun _ _ he => he.elim (fun ⟨s, he, hR⟩ => .inl ⟨s, he, hR⟩) .inr

/-- foliant/show.must[foliant/api.Point] -/
def S121 (x1 : Int × Int) (why2 : Int) (w : World) (R : (Int × Int) → World → Prop) (PR : Value → World → Prop) : Prop :=
  Nw w (.cells #[.int .i64 (x1.1), .int .i64 (x1.2)] 68) fun vw3 =>
  Nw vw3 (.cells #[.int .i64 0, .int .i64 0] 68) fun vw4 =>
  C39 (why2 == 0) why2 vw4 (fun vw5 =>
    Ld vw5 (⟨w.heap.size, 0, none⟩ : Addr) (Value.int .i64) fun (x6 : Int) =>
    Ld vw5 ((⟨w.heap.size, 0, none⟩ : Addr).add 1) (Value.int .i64) fun (x7 : Int) =>
    St vw5 (⟨vw3.heap.size, 0, none⟩ : Addr) (.int .i64 x6) fun vw8 =>
    St vw8 ((⟨vw3.heap.size, 0, none⟩ : Addr).add 1) (.int .i64 x7) fun vw9 =>
    Ld vw9 (⟨vw3.heap.size, 0, none⟩ : Addr) (Value.int .i64) fun (x10 : Int) =>
    Ld vw9 ((⟨vw3.heap.size, 0, none⟩ : Addr).add 1) (Value.int .i64) fun (x11 : Int) =>
    R (x10, x11) vw9) PR
def pl121 : Plan := (.seq (.reg .seq) (.seq (.reg .seq) (.seq (.reg .seq) .leaf)))
set_option maxRecDepth 100000 in
theorem T121 (x1 : Int × Int) (why2 : Int) (w : World) (R : (Int × Int) → World → Prop) (PR : Value → World → Prop) (h : S121 x1 why2 w R PR) : C121 (x1.1, x1.2) why2 w R PR := by
  have e : fnT Tryz.prog ⟨FF, MAY, PR⟩ pl121 Tryz.f121 [.agg #[.int .i64 (x1.1), .int .i64 (x1.2)], .int .i64 why2] w [(.agg [(.int .i64), (.int .i64)])] (fun s w => R s w) = S121 x1 why2 w R PR := by kernel_rfl
  exact (fn_callsP okF okM Tryz.func121 (by kernel_rfl) (by kernel_rfl) (e.mpr h)).mono fun _ _ he => he.elim (fun ⟨s, he, hR⟩ => .inl ⟨s, he, hR⟩) .inr

def S92J1 (w : World) (code3 : Int) (vw4 : World) (vw5 : World) (vw6 : World) (r36 : Int) (R : (TyA69) → (Int × Int × Int × Int × Int × Int) → World → Prop) (PR : Value → World → Prop) (s167 : Addr) (vw168 : World) : Prop :=
  ∃ vS169 : World → Prop, vS169 vw168.drew ∧ LdST vS169 s167 0 LiA69 fun (x170 : TyA69) =>
  LdST vS169 (⟨w.heap.size, 0, none⟩ : Addr) 0 LiA83 fun (x171 : TyA83) =>
  LdS vS169 (⟨vw4.heap.size, 0, none⟩ : Addr) (Value.int .i64) fun (x172 : Int) =>
  LdS vS169 ((⟨vw4.heap.size, 0, none⟩ : Addr).add 1) (Value.int .i64) fun (x173 : Int) =>
  LdS vS169 ((⟨vw4.heap.size, 0, none⟩ : Addr).add 2) (Value.int .i64) fun (x174 : Int) =>
  LdS vS169 ((⟨vw4.heap.size, 0, none⟩ : Addr).add 3) (Value.int .i64) fun (x175 : Int) =>
  LdS vS169 ((⟨vw4.heap.size, 0, none⟩ : Addr).add 4) (Value.int .i64) fun (x176 : Int) =>
  LdS vS169 ((⟨vw4.heap.size, 0, none⟩ : Addr).add 5) (Value.int .i64) fun (x177 : Int) =>
  C34 x171 code3 r36 vw168.drew (fun r178 vw179 =>
    vS169 vw179 ∧ C116 r178 0 vw179 fun r180 vw181 =>
      vS169 vw181 ∧ C115 (r180.1, r180.2.1, r180.2.2.1, r180.2.2.2.1, r180.2.2.2.2.1, r180.2.2.2.2.2) (x172, x173, x174, x175, x176, x177) vw181 fun r182 r183 vw184 =>
        vS169 vw184 ∧ C89 (r182.1, r182.2.1, r182.2.2.1, r182.2.2.2.1, r182.2.2.2.2.1, r182.2.2.2.2.2) r183 vw184 (fun r185 vw186 =>
          vS169 vw186 ∧ StT (⟨vw5.heap.size, 0, none⟩ : Addr) 0 LiA69 x170 vw186 fun vw187 =>
          St vw187 (⟨vw6.heap.size, 0, none⟩ : Addr) (.int .i64 (r185.1)) fun vw188 =>
          St vw188 ((⟨vw6.heap.size, 0, none⟩ : Addr).add 1) (.int .i64 (r185.2.1)) fun vw189 =>
          St vw189 ((⟨vw6.heap.size, 0, none⟩ : Addr).add 2) (.int .i64 (r185.2.2.1)) fun vw190 =>
          St vw190 ((⟨vw6.heap.size, 0, none⟩ : Addr).add 3) (.int .i64 (r185.2.2.2.1)) fun vw191 =>
          St vw191 ((⟨vw6.heap.size, 0, none⟩ : Addr).add 4) (.int .i64 (r185.2.2.2.2.1)) fun vw192 =>
          St vw192 ((⟨vw6.heap.size, 0, none⟩ : Addr).add 5) (.int .i64 (r185.2.2.2.2.2)) fun vw193 =>
          LdT vw193 (⟨vw5.heap.size, 0, none⟩ : Addr) 0 LiA69 fun (x194 : TyA69) =>
          Ld vw193 (⟨vw6.heap.size, 0, none⟩ : Addr) (Value.int .i64) fun (x195 : Int) =>
          Ld vw193 ((⟨vw6.heap.size, 0, none⟩ : Addr).add 1) (Value.int .i64) fun (x196 : Int) =>
          Ld vw193 ((⟨vw6.heap.size, 0, none⟩ : Addr).add 2) (Value.int .i64) fun (x197 : Int) =>
          Ld vw193 ((⟨vw6.heap.size, 0, none⟩ : Addr).add 3) (Value.int .i64) fun (x198 : Int) =>
          Ld vw193 ((⟨vw6.heap.size, 0, none⟩ : Addr).add 4) (Value.int .i64) fun (x199 : Int) =>
          Ld vw193 ((⟨vw6.heap.size, 0, none⟩ : Addr).add 5) (Value.int .i64) fun (x200 : Int) =>
          R x194 (x195, x196, x197, x198, x199, x200) vw193) PR) PR
/-- (foliant/show.hand).sign -/
def S92 (h1 : TyA83) (m2 : Int × Int × Int × Int × Int × Int) (code3 : Int) (w : World) (R : (TyA69) → (Int × Int × Int × Int × Int × Int) → World → Prop) (PR : Value → World → Prop) : Prop :=
  Nw w (.cells (Sig.cells LiA83 h1).toArray 84) fun vw4 =>
  Nw vw4 (.cells #[.int .i64 (m2.1), .int .i64 (m2.2.1), .int .i64 (m2.2.2.1), .int .i64 (m2.2.2.2.1), .int .i64 (m2.2.2.2.2.1), .int .i64 (m2.2.2.2.2.2)] 24) fun vw5 =>
  Nw vw5 (.cells #[.int .i64 0, .string ((⟨#[]⟩ : ByteArray)), .int .i64 0, .int .i64 0, .int .i64 0, .int .i64 0, .int .i64 0, .string ((⟨#[]⟩ : ByteArray)), .int .i64 0] 70) fun vw6 =>
  Nw vw6 (.cells #[.int .i64 0, .int .i64 0, .int .i64 0, .int .i64 0, .int .i64 0, .int .i64 0] 24) fun vw7 =>
  LdT vw7 ((⟨w.heap.size, 0, none⟩ : Addr).add 22) 0 LiA28 fun (x8 : TyA28) =>
  Nw vw7 (.cells #[.int .i64 0, .int .i64 0, .int .i64 0, .int .i64 0, .int .i64 0, .int .i64 0, .string ((⟨#[]⟩ : ByteArray)), .int .i64 0] 29) fun vw9 =>
  StT (⟨vw7.heap.size, 0, none⟩ : Addr) 0 LiA28 x8 vw9 fun vw10 =>
  Ld vw10 (⟨vw4.heap.size, 0, none⟩ : Addr) (Value.int .i64) fun (x11 : Int) =>
  Ld vw10 ((⟨vw4.heap.size, 0, none⟩ : Addr).add 1) (Value.int .i64) fun (x12 : Int) =>
  Ld vw10 ((⟨vw4.heap.size, 0, none⟩ : Addr).add 2) (Value.int .i64) fun (x13 : Int) =>
  Ld vw10 ((⟨vw4.heap.size, 0, none⟩ : Addr).add 3) (Value.int .i64) fun (x14 : Int) =>
  Ld vw10 ((⟨vw4.heap.size, 0, none⟩ : Addr).add 4) (Value.int .i64) fun (x15 : Int) =>
  Ld vw10 ((⟨vw4.heap.size, 0, none⟩ : Addr).add 5) (Value.int .i64) fun (x16 : Int) =>
  Ld vw10 (⟨w.heap.size, 0, none⟩ : Addr) (Value.int .i64) fun (x17 : Int) =>
  Ld vw10 ((⟨w.heap.size, 0, none⟩ : Addr).add 1) (Value.int .i64) fun (x18 : Int) =>
  Ld vw10 ((⟨w.heap.size, 0, none⟩ : Addr).add 2) (Value.int .i64) fun (x19 : Int) =>
  Ld vw10 ((⟨w.heap.size, 0, none⟩ : Addr).add 3) (Value.int .i64) fun (x20 : Int) =>
  Ld vw10 ((⟨w.heap.size, 0, none⟩ : Addr).add 4) (Value.int .i64) fun (x21 : Int) =>
  Ld vw10 ((⟨w.heap.size, 0, none⟩ : Addr).add 5) (Value.int .i64) fun (x22 : Int) =>
  C115 (x11, x12, x13, x14, x15, x16) (x17, x18, x19, x20, x21, x22) vw10 fun r23 r24 vw25 =>
    C89 (r23.1, r23.2.1, r23.2.2.1, r23.2.2.2.1, r23.2.2.2.2.1, r23.2.2.2.2.2) r24 vw25 (fun r26 vw27 =>
      Nw vw27 (.cells #[.int .i64 0, .int .i64 0, .int .i64 0, .int .i64 0, .int .i64 0, .int .i64 0] 24) fun vw28 =>
      St vw28 (⟨vw27.heap.size, 0, none⟩ : Addr) (.int .i64 (r26.1)) fun vw29 =>
      St vw29 ((⟨vw27.heap.size, 0, none⟩ : Addr).add 1) (.int .i64 (r26.2.1)) fun vw30 =>
      St vw30 ((⟨vw27.heap.size, 0, none⟩ : Addr).add 2) (.int .i64 (r26.2.2.1)) fun vw31 =>
      St vw31 ((⟨vw27.heap.size, 0, none⟩ : Addr).add 3) (.int .i64 (r26.2.2.2.1)) fun vw32 =>
      St vw32 ((⟨vw27.heap.size, 0, none⟩ : Addr).add 4) (.int .i64 (r26.2.2.2.2.1)) fun vw33 =>
      St vw33 ((⟨vw27.heap.size, 0, none⟩ : Addr).add 5) (.int .i64 (r26.2.2.2.2.2)) fun vw34 =>
      LdT vw34 (⟨w.heap.size, 0, none⟩ : Addr) 0 LiA83 fun (x35 : TyA83) =>
      C35 x35 code3 vw34 (fun r36 vw37 =>
        LdT vw37 (⟨w.heap.size, 0, none⟩ : Addr) 0 LiA83 fun (x38 : TyA83) =>
        C61 x38 r36 vw37 (fun r39 vw40 =>
          Join (S92J1 w code3 vw4 vw5 vw6 r36 R PR) fun (vJ201 : Addr → World → Prop) =>
            ∃ vS202 : World → Prop, vS202 vw40.drew ∧ LdST vS202 ((⟨w.heap.size, 0, none⟩ : Addr).add 30) 0 LiA34 fun (x203 : TyA34) =>
            LdS vS202 (⟨vw27.heap.size, 0, none⟩ : Addr) (Value.int .i64) fun (x204 : Int) =>
            LdS vS202 ((⟨vw27.heap.size, 0, none⟩ : Addr).add 1) (Value.int .i64) fun (x205 : Int) =>
            LdS vS202 ((⟨vw27.heap.size, 0, none⟩ : Addr).add 2) (Value.int .i64) fun (x206 : Int) =>
            LdS vS202 ((⟨vw27.heap.size, 0, none⟩ : Addr).add 3) (Value.int .i64) fun (x207 : Int) =>
            LdS vS202 ((⟨vw27.heap.size, 0, none⟩ : Addr).add 4) (Value.int .i64) fun (x208 : Int) =>
            LdS vS202 ((⟨vw27.heap.size, 0, none⟩ : Addr).add 5) (Value.int .i64) fun (x209 : Int) =>
            LdS vS202 ((⟨vw7.heap.size, 0, none⟩ : Addr).add 5) (Value.int .i64) fun (x210 : Int) =>
            LdS vS202 (⟨vw27.heap.size, 0, none⟩ : Addr) (Value.int .i64) fun (x211 : Int) =>
            LdS vS202 ((⟨vw27.heap.size, 0, none⟩ : Addr).add 1) (Value.int .i64) fun (x212 : Int) =>
            LdS vS202 ((⟨vw27.heap.size, 0, none⟩ : Addr).add 2) (Value.int .i64) fun (x213 : Int) =>
            LdS vS202 ((⟨vw27.heap.size, 0, none⟩ : Addr).add 3) (Value.int .i64) fun (x214 : Int) =>
            LdS vS202 ((⟨vw27.heap.size, 0, none⟩ : Addr).add 4) (Value.int .i64) fun (x215 : Int) =>
            LdS vS202 ((⟨vw27.heap.size, 0, none⟩ : Addr).add 5) (Value.int .i64) fun (x216 : Int) =>
            LdS vS202 ((⟨vw7.heap.size, 0, none⟩ : Addr).add 5) (Value.int .i64) fun (x217 : Int) =>
            LdS vS202 (⟨vw27.heap.size, 0, none⟩ : Addr) (Value.int .i64) fun (x218 : Int) =>
            LdS vS202 ((⟨vw27.heap.size, 0, none⟩ : Addr).add 1) (Value.int .i64) fun (x219 : Int) =>
            LdS vS202 ((⟨vw27.heap.size, 0, none⟩ : Addr).add 2) (Value.int .i64) fun (x220 : Int) =>
            LdS vS202 ((⟨vw27.heap.size, 0, none⟩ : Addr).add 3) (Value.int .i64) fun (x221 : Int) =>
            LdS vS202 ((⟨vw27.heap.size, 0, none⟩ : Addr).add 4) (Value.int .i64) fun (x222 : Int) =>
            LdS vS202 ((⟨vw27.heap.size, 0, none⟩ : Addr).add 5) (Value.int .i64) fun (x223 : Int) =>
            LdS vS202 ((⟨vw7.heap.size, 0, none⟩ : Addr).add 4) (Value.int .i64) fun (x224 : Int) =>
            LdS vS202 ((⟨vw7.heap.size, 0, none⟩ : Addr).add 6) Value.string fun (x225 : ByteArray) =>
            LdS vS202 ((⟨vw7.heap.size, 0, none⟩ : Addr).add 7) (Value.int .i64) fun (x226 : Int) =>
            (C120 x203 code3 vw40.drew fun r227 vw228 =>
                vS202 vw228 ∧ (C122 (x204, x205, x206, x207, x208, x209) (0, x210) vw228 fun r229 r230 vw231 =>
                    vS202 vw231 ∧ (C121 (r229.1, r229.2) r230 vw231 (fun r232 vw233 =>
                        vS202 vw233 ∧ (C122 (x211, x212, x213, x214, x215, x216) (r39, x217) vw233 fun r234 r235 vw236 =>
                            vS202 vw236 ∧ (C121 (r234.1, r234.2) r235 vw236 (fun r237 vw238 =>
                                vS202 vw238 ∧ (C123 (x218, x219, x220, x221, x222, x223) (0, x224) vw238 fun r239 r240 vw241 =>
                                    vS202 vw241 ∧ (C62 r239 r240 vw241 (fun r242 vw243 =>
                                        vS202 vw243 ∧ Nw vw243 (.cells #[.int .i64 0, .string ((⟨#[]⟩ : ByteArray)), .int .i64 0, .int .i64 0, .int .i64 0, .int .i64 0, .int .i64 0, .string ((⟨#[]⟩ : ByteArray)), .int .i64 0] 70) fun vw244 =>
                                        vS202 vw244 ∧ StT (⟨vw243.heap.size, 0, none⟩ : Addr) 0 LiA69 ((code3, r227, r232.1, r232.2, r237.1, r237.2, r242, x225, x226) : TyA69) vw244 fun vw245 =>
                                        vJ201 (⟨vw243.heap.size, 0, none⟩ : Addr) vw245) PR) ∧
                                    (Nw vw241 (.cells #[.int .i64 0, .string ((⟨#[]⟩ : ByteArray)), .int .i64 0, .int .i64 0, .int .i64 0, .int .i64 0, .int .i64 0, .string ((⟨#[]⟩ : ByteArray)), .int .i64 0] 70) fun vw246 =>
                                      vS202 vw246 ∧ C62 r239 r240 vw246 (fun r247 vw248 =>
                                        vS202 vw248 ∧ StT (⟨vw241.heap.size, 0, none⟩ : Addr) 0 LiA69 ((code3, r227, r232.1, r232.2, r237.1, r237.2, r247, x225, x226) : TyA69) vw248 fun vw249 =>
                                        vJ201 (⟨vw241.heap.size, 0, none⟩ : Addr) vw249) PR)) ∧
                                (Nw vw238 (.cells #[.int .i64 0, .string ((⟨#[]⟩ : ByteArray)), .int .i64 0, .int .i64 0, .int .i64 0, .int .i64 0, .int .i64 0, .string ((⟨#[]⟩ : ByteArray)), .int .i64 0] 70) fun vw250 =>
                                  vS202 vw250 ∧ C123 (x218, x219, x220, x221, x222, x223) (0, x224) vw250 fun r251 r252 vw253 =>
                                    vS202 vw253 ∧ C62 r251 r252 vw253 (fun r254 vw255 =>
                                      vS202 vw255 ∧ StT (⟨vw238.heap.size, 0, none⟩ : Addr) 0 LiA69 ((code3, r227, r232.1, r232.2, r237.1, r237.2, r254, x225, x226) : TyA69) vw255 fun vw256 =>
                                      vJ201 (⟨vw238.heap.size, 0, none⟩ : Addr) vw256) PR)) PR) ∧
                            (Nw vw236 (.cells #[.int .i64 0, .string ((⟨#[]⟩ : ByteArray)), .int .i64 0, .int .i64 0, .int .i64 0, .int .i64 0, .int .i64 0, .string ((⟨#[]⟩ : ByteArray)), .int .i64 0] 70) fun vw257 =>
                              vS202 vw257 ∧ C121 (r234.1, r234.2) r235 vw257 (fun r258 vw259 =>
                                vS202 vw259 ∧ C123 (x218, x219, x220, x221, x222, x223) (0, x224) vw259 fun r260 r261 vw262 =>
                                  vS202 vw262 ∧ C62 r260 r261 vw262 (fun r263 vw264 =>
                                    vS202 vw264 ∧ StT (⟨vw236.heap.size, 0, none⟩ : Addr) 0 LiA69 ((code3, r227, r232.1, r232.2, r258.1, r258.2, r263, x225, x226) : TyA69) vw264 fun vw265 =>
                                    vJ201 (⟨vw236.heap.size, 0, none⟩ : Addr) vw265) PR) PR)) ∧
                        (Nw vw233 (.cells #[.int .i64 0, .string ((⟨#[]⟩ : ByteArray)), .int .i64 0, .int .i64 0, .int .i64 0, .int .i64 0, .int .i64 0, .string ((⟨#[]⟩ : ByteArray)), .int .i64 0] 70) fun vw266 =>
                          vS202 vw266 ∧ C122 (x211, x212, x213, x214, x215, x216) (r39, x217) vw266 fun r267 r268 vw269 =>
                            vS202 vw269 ∧ C121 (r267.1, r267.2) r268 vw269 (fun r270 vw271 =>
                              vS202 vw271 ∧ C123 (x218, x219, x220, x221, x222, x223) (0, x224) vw271 fun r272 r273 vw274 =>
                                vS202 vw274 ∧ C62 r272 r273 vw274 (fun r275 vw276 =>
                                  vS202 vw276 ∧ StT (⟨vw233.heap.size, 0, none⟩ : Addr) 0 LiA69 ((code3, r227, r232.1, r232.2, r270.1, r270.2, r275, x225, x226) : TyA69) vw276 fun vw277 =>
                                  vJ201 (⟨vw233.heap.size, 0, none⟩ : Addr) vw277) PR) PR)) PR) ∧
                    (Nw vw231 (.cells #[.int .i64 0, .string ((⟨#[]⟩ : ByteArray)), .int .i64 0, .int .i64 0, .int .i64 0, .int .i64 0, .int .i64 0, .string ((⟨#[]⟩ : ByteArray)), .int .i64 0] 70) fun vw278 =>
                      vS202 vw278 ∧ C121 (r229.1, r229.2) r230 vw278 (fun r279 vw280 =>
                        vS202 vw280 ∧ C122 (x211, x212, x213, x214, x215, x216) (r39, x217) vw280 fun r281 r282 vw283 =>
                          vS202 vw283 ∧ C121 (r281.1, r281.2) r282 vw283 (fun r284 vw285 =>
                            vS202 vw285 ∧ C123 (x218, x219, x220, x221, x222, x223) (0, x224) vw285 fun r286 r287 vw288 =>
                              vS202 vw288 ∧ C62 r286 r287 vw288 (fun r289 vw290 =>
                                vS202 vw290 ∧ StT (⟨vw231.heap.size, 0, none⟩ : Addr) 0 LiA69 ((code3, r227, r279.1, r279.2, r284.1, r284.2, r289, x225, x226) : TyA69) vw290 fun vw291 =>
                                vJ201 (⟨vw231.heap.size, 0, none⟩ : Addr) vw291) PR) PR) PR)) ∧
                (Nw vw228 (.cells #[.int .i64 0, .string ((⟨#[]⟩ : ByteArray)), .int .i64 0, .int .i64 0, .int .i64 0, .int .i64 0, .int .i64 0, .string ((⟨#[]⟩ : ByteArray)), .int .i64 0] 70) fun vw292 =>
                  vS202 vw292 ∧ C122 (x204, x205, x206, x207, x208, x209) (0, x210) vw292 fun r293 r294 vw295 =>
                    vS202 vw295 ∧ C121 (r293.1, r293.2) r294 vw295 (fun r296 vw297 =>
                      vS202 vw297 ∧ C122 (x211, x212, x213, x214, x215, x216) (r39, x217) vw297 fun r298 r299 vw300 =>
                        vS202 vw300 ∧ C121 (r298.1, r298.2) r299 vw300 (fun r301 vw302 =>
                          vS202 vw302 ∧ C123 (x218, x219, x220, x221, x222, x223) (0, x224) vw302 fun r303 r304 vw305 =>
                            vS202 vw305 ∧ C62 r303 r304 vw305 (fun r306 vw307 =>
                              vS202 vw307 ∧ StT (⟨vw228.heap.size, 0, none⟩ : Addr) 0 LiA69 ((code3, r227, r296.1, r296.2, r301.1, r301.2, r306, x225, x226) : TyA69) vw307 fun vw308 =>
                              vJ201 (⟨vw228.heap.size, 0, none⟩ : Addr) vw308) PR) PR) PR)) ∧
            (Nw vw40.drew (.cells #[.int .i64 0, .string ((⟨#[]⟩ : ByteArray)), .int .i64 0, .int .i64 0, .int .i64 0, .int .i64 0, .int .i64 0, .string ((⟨#[]⟩ : ByteArray)), .int .i64 0] 70) fun vw309 =>
              vS202 vw309 ∧ C120 x203 code3 vw309 fun r310 vw311 =>
                vS202 vw311 ∧ C122 (x204, x205, x206, x207, x208, x209) (0, x210) vw311 fun r312 r313 vw314 =>
                  vS202 vw314 ∧ C121 (r312.1, r312.2) r313 vw314 (fun r315 vw316 =>
                    vS202 vw316 ∧ C122 (x211, x212, x213, x214, x215, x216) (r39, x217) vw316 fun r317 r318 vw319 =>
                      vS202 vw319 ∧ C121 (r317.1, r317.2) r318 vw319 (fun r320 vw321 =>
                        vS202 vw321 ∧ C123 (x218, x219, x220, x221, x222, x223) (0, x224) vw321 fun r322 r323 vw324 =>
                          vS202 vw324 ∧ C62 r322 r323 vw324 (fun r325 vw326 =>
                            vS202 vw326 ∧ StT (⟨vw40.drew.heap.size, 0, none⟩ : Addr) 0 LiA69 ((code3, r310, r315.1, r315.2, r320.1, r320.2, r325, x225, x226) : TyA69) vw326 fun vw327 =>
                            vJ201 (⟨vw40.drew.heap.size, 0, none⟩ : Addr) vw327) PR) PR) PR)) PR) PR) PR
def pl92 : Plan := (.seq (.reg .seq) (.seq (.reg .seq) (.seq (.reg .seq) (.seq (.reg .seq) (.seq (.reg .seq) (.join [(12, (.one .addr))] [2, 3, 4, 6, 7, 10] (.reg (.held [36] (.take 0 (.take 1 (.take 2 (.take 3 (.take 5 (.take 6 (.take 7 (.take 8 (.take 13 (.take 14 (.take 15 (.take 16 (.take 17 (.take 22 (.take 23 (.take 24 (.take 25 (.take 30 (.take 31 (.take 32 (.take 33 (.effs 4 none (.effs 9 none (.take 10 (.take 11 (.effs 12 none (.effs 18 none (.take 19 (.take 20 (.effs 21 none (.effs 26 none (.take 27 (.take 28 (.effs 29 none (.take 34 (.eff 35 none (.eff 36 (some []) .done))) (.eff 35 none (.eff 29 none (.take 34 (.eff 36 (some []) .done))))))) (.eff 35 none (.eff 26 none (.take 27 (.take 28 (.eff 29 none (.take 34 (.eff 36 (some []) .done)))))))) (.eff 35 none (.eff 21 none (.eff 26 none (.take 27 (.take 28 (.eff 29 none (.take 34 (.eff 36 (some []) .done))))))))))) (.eff 35 none (.eff 18 none (.take 19 (.take 20 (.eff 21 none (.eff 26 none (.take 27 (.take 28 (.eff 29 none (.take 34 (.eff 36 (some []) .done)))))))))))) (.eff 35 none (.eff 12 none (.eff 18 none (.take 19 (.take 20 (.eff 21 none (.eff 26 none (.take 27 (.take 28 (.eff 29 none (.take 34 (.eff 36 (some []) .done))))))))))))))) (.eff 35 none (.eff 9 none (.take 10 (.take 11 (.eff 12 none (.eff 18 none (.take 19 (.take 20 (.eff 21 none (.eff 26 none (.take 27 (.take 28 (.eff 29 none (.take 34 (.eff 36 (some []) .done)))))))))))))))) (.eff 35 none (.eff 4 none (.eff 9 none (.take 10 (.take 11 (.eff 12 none (.eff 18 none (.take 19 (.take 20 (.eff 21 none (.eff 26 none (.take 27 (.take 28 (.eff 29 none (.take 34 (.eff 36 (some []) .done)))))))))))))))))))))))))))))))))))))))) (.seq (.reg (.held [11] (.take 0 (.take 1 (.take 2 (.take 3 (.take 6 (.eff 4 none (.eff 5 none (.eff 7 none (.take 8 (.take 9 (.eff 10 none (.eff 11 (some [12]) (.eff 12 (some []) .done))))))))))))))) .leaf)))))))
set_option maxRecDepth 100000 in
theorem T92 (h1 : TyA83) (m2 : Int × Int × Int × Int × Int × Int) (code3 : Int) (w : World) (R : (TyA69) → (Int × Int × Int × Int × Int × Int) → World → Prop) (PR : Value → World → Prop) (h : S92 h1 m2 code3 w R PR) : C92 h1 (m2.1, m2.2.1, m2.2.2.1, m2.2.2.2.1, m2.2.2.2.2.1, m2.2.2.2.2.2) code3 w R PR := by
  have e : fnT Tryz.prog ⟨FF, MAY, PR⟩ pl92 Tryz.f92 [.agg (Sig.cells LiA83 h1).toArray, .agg #[.int .i64 (m2.1), .int .i64 (m2.2.1), .int .i64 (m2.2.2.1), .int .i64 (m2.2.2.2.1), .int .i64 (m2.2.2.2.2.1), .int .i64 (m2.2.2.2.2.2)], .int .i64 code3] w [(.agg [(.int .i64), .str, (.int .i64), (.int .i64), (.int .i64), (.int .i64), (.int .i64), .str, (.int .i64)]), (.agg [(.int .i64), (.int .i64), (.int .i64), (.int .i64), (.int .i64), (.int .i64)])] (fun s w => R s.1 s.2 w) = S92 h1 m2 code3 w R PR := by kernel_rfl
  exact (fn_callsP okF okM Tryz.func92 (by kernel_rfl) (by kernel_rfl) (e.mpr h)).mono fun _ _ he => he.elim (fun ⟨s, he, hR⟩ => .inl ⟨s.1, s.2, he, hR⟩) .inr

def S55L1 (w : World) (vw4 : World) (vw5 : World) (r37 : Slc) (R : Slc → (Int × Int × Int × Int × Int × Int) → World → Prop) (PR : Value → World → Prop) (I42 : (Slc × Int) → World → Prop) (s40 : Slc × Int) (vw41 : World) : Prop :=
  Br (decide (s40.2 < ((r37.len : Nat) : Int))) (0 ≤ s40.2 ∧ s40.2 < (r37.len : Nat) ∧ Nn r37.p fun a43 =>
    Ld vw41 (a43.add ((s40.2).toNat * 1)) (Value.int .i64) fun (x44 : Int) =>
    LdT vw41 (⟨w.heap.size, 0, none⟩ : Addr) 0 LiA83 fun (x45 : TyA83) =>
    Ld vw41 (⟨vw4.heap.size, 0, none⟩ : Addr) (Value.int .i64) fun (x46 : Int) =>
    Ld vw41 ((⟨vw4.heap.size, 0, none⟩ : Addr).add 1) (Value.int .i64) fun (x47 : Int) =>
    Ld vw41 ((⟨vw4.heap.size, 0, none⟩ : Addr).add 2) (Value.int .i64) fun (x48 : Int) =>
    Ld vw41 ((⟨vw4.heap.size, 0, none⟩ : Addr).add 3) (Value.int .i64) fun (x49 : Int) =>
    Ld vw41 ((⟨vw4.heap.size, 0, none⟩ : Addr).add 4) (Value.int .i64) fun (x50 : Int) =>
    Ld vw41 ((⟨vw4.heap.size, 0, none⟩ : Addr).add 5) (Value.int .i64) fun (x51 : Int) =>
    C92 x45 (x46, x47, x48, x49, x50, x51) x44 vw41 (fun r52 r53 vw54 =>
      Nw vw54 (.cells #[.int .i64 0, .string ((⟨#[]⟩ : ByteArray)), .int .i64 0, .int .i64 0, .int .i64 0, .int .i64 0, .int .i64 0, .string ((⟨#[]⟩ : ByteArray)), .int .i64 0] 70) fun vw55 =>
      Nw vw55 (.cells #[.int .i64 0, .int .i64 0, .int .i64 0, .int .i64 0, .int .i64 0, .int .i64 0] 24) fun vw56 =>
      StT (⟨vw54.heap.size, 0, none⟩ : Addr) 0 LiA69 r52 vw56 fun vw57 =>
      St vw57 (⟨vw55.heap.size, 0, none⟩ : Addr) (.int .i64 (r53.1)) fun vw58 =>
      St vw58 ((⟨vw55.heap.size, 0, none⟩ : Addr).add 1) (.int .i64 (r53.2.1)) fun vw59 =>
      St vw59 ((⟨vw55.heap.size, 0, none⟩ : Addr).add 2) (.int .i64 (r53.2.2.1)) fun vw60 =>
      St vw60 ((⟨vw55.heap.size, 0, none⟩ : Addr).add 3) (.int .i64 (r53.2.2.2.1)) fun vw61 =>
      St vw61 ((⟨vw55.heap.size, 0, none⟩ : Addr).add 4) (.int .i64 (r53.2.2.2.2.1)) fun vw62 =>
      St vw62 ((⟨vw55.heap.size, 0, none⟩ : Addr).add 5) (.int .i64 (r53.2.2.2.2.2)) fun vw63 =>
      LdT vw63 (⟨vw54.heap.size, 0, none⟩ : Addr) 0 LiA69 fun (x64 : TyA69) =>
      Nw vw63 (.cells #[.int .i64 (x64.1), .string x64.2.1, .int .i64 (x64.2.2.1), .int .i64 (x64.2.2.2.1), .int .i64 (x64.2.2.2.2.1), .int .i64 (x64.2.2.2.2.2.1), .int .i64 (x64.2.2.2.2.2.2.1), .string x64.2.2.2.2.2.2.2.1, .int .i64 (x64.2.2.2.2.2.2.2.2)] 70) fun vw65 =>
      Rn Tryz.prog (Builtin.append_ #[49, 49] 49 #[Slc.v s40.1, Slc.v ((⟨some ⟨vw63.heap.size, 0, none⟩, 1, 1⟩ : Slc))]) vw65 Slc.v fun (x66 : Slc) vw67 =>
      Ld vw67 (⟨vw55.heap.size, 0, none⟩ : Addr) (Value.int .i64) fun (x68 : Int) =>
      Ld vw67 ((⟨vw55.heap.size, 0, none⟩ : Addr).add 1) (Value.int .i64) fun (x69 : Int) =>
      Ld vw67 ((⟨vw55.heap.size, 0, none⟩ : Addr).add 2) (Value.int .i64) fun (x70 : Int) =>
      Ld vw67 ((⟨vw55.heap.size, 0, none⟩ : Addr).add 3) (Value.int .i64) fun (x71 : Int) =>
      Ld vw67 ((⟨vw55.heap.size, 0, none⟩ : Addr).add 4) (Value.int .i64) fun (x72 : Int) =>
      Ld vw67 ((⟨vw55.heap.size, 0, none⟩ : Addr).add 5) (Value.int .i64) fun (x73 : Int) =>
      St vw67 (⟨vw4.heap.size, 0, none⟩ : Addr) (.int .i64 x68) fun vw74 =>
      St vw74 ((⟨vw4.heap.size, 0, none⟩ : Addr).add 1) (.int .i64 x69) fun vw75 =>
      St vw75 ((⟨vw4.heap.size, 0, none⟩ : Addr).add 2) (.int .i64 x70) fun vw76 =>
      St vw76 ((⟨vw4.heap.size, 0, none⟩ : Addr).add 3) (.int .i64 x71) fun vw77 =>
      St vw77 ((⟨vw4.heap.size, 0, none⟩ : Addr).add 4) (.int .i64 x72) fun vw78 =>
      St vw78 ((⟨vw4.heap.size, 0, none⟩ : Addr).add 5) (.int .i64 x73) fun vw79 =>
      I42 (x66, IntKind.i64.wrap (s40.2 + 1)) vw79) PR) (Ld vw41.drew (⟨vw4.heap.size, 0, none⟩ : Addr) (Value.int .i64) fun (x80 : Int) =>
    Ld vw41.drew ((⟨vw4.heap.size, 0, none⟩ : Addr).add 1) (Value.int .i64) fun (x81 : Int) =>
    Ld vw41.drew ((⟨vw4.heap.size, 0, none⟩ : Addr).add 2) (Value.int .i64) fun (x82 : Int) =>
    Ld vw41.drew ((⟨vw4.heap.size, 0, none⟩ : Addr).add 3) (Value.int .i64) fun (x83 : Int) =>
    Ld vw41.drew ((⟨vw4.heap.size, 0, none⟩ : Addr).add 4) (Value.int .i64) fun (x84 : Int) =>
    Ld vw41.drew ((⟨vw4.heap.size, 0, none⟩ : Addr).add 5) (Value.int .i64) fun (x85 : Int) =>
    St vw41.drew (⟨vw5.heap.size, 0, none⟩ : Addr) (.int .i64 x80) fun vw86 =>
    St vw86 ((⟨vw5.heap.size, 0, none⟩ : Addr).add 1) (.int .i64 x81) fun vw87 =>
    St vw87 ((⟨vw5.heap.size, 0, none⟩ : Addr).add 2) (.int .i64 x82) fun vw88 =>
    St vw88 ((⟨vw5.heap.size, 0, none⟩ : Addr).add 3) (.int .i64 x83) fun vw89 =>
    St vw89 ((⟨vw5.heap.size, 0, none⟩ : Addr).add 4) (.int .i64 x84) fun vw90 =>
    St vw90 ((⟨vw5.heap.size, 0, none⟩ : Addr).add 5) (.int .i64 x85) fun vw91 =>
    Ld vw91 (⟨vw5.heap.size, 0, none⟩ : Addr) (Value.int .i64) fun (x92 : Int) =>
    Ld vw91 ((⟨vw5.heap.size, 0, none⟩ : Addr).add 1) (Value.int .i64) fun (x93 : Int) =>
    Ld vw91 ((⟨vw5.heap.size, 0, none⟩ : Addr).add 2) (Value.int .i64) fun (x94 : Int) =>
    Ld vw91 ((⟨vw5.heap.size, 0, none⟩ : Addr).add 3) (Value.int .i64) fun (x95 : Int) =>
    Ld vw91 ((⟨vw5.heap.size, 0, none⟩ : Addr).add 4) (Value.int .i64) fun (x96 : Int) =>
    Ld vw91 ((⟨vw5.heap.size, 0, none⟩ : Addr).add 5) (Value.int .i64) fun (x97 : Int) =>
    R s40.1 (x92, x93, x94, x95, x96, x97) vw91)
/-- (foliant/show.hand).text -/
def S55 (h1 : TyA83) (m2 : Int × Int × Int × Int × Int × Int) (s3 : ByteArray) (w : World) (R : Slc → (Int × Int × Int × Int × Int × Int) → World → Prop) (PR : Value → World → Prop) : Prop :=
  Nw w (.cells (Sig.cells LiA83 h1).toArray 84) fun vw4 =>
  Nw vw4 (.cells #[.int .i64 (m2.1), .int .i64 (m2.2.1), .int .i64 (m2.2.2.1), .int .i64 (m2.2.2.2.1), .int .i64 (m2.2.2.2.2.1), .int .i64 (m2.2.2.2.2.2)] 24) fun vw5 =>
  Nw vw5 (.cells #[.int .i64 0, .int .i64 0, .int .i64 0, .int .i64 0, .int .i64 0, .int .i64 0] 24) fun vw6 =>
  LdT vw6 (⟨w.heap.size, 0, none⟩ : Addr) 0 LiA30 fun (x7 : TyA30) =>
  C31 x7 vw6 (fun vw8 =>
    ∃ vS9 : World → Prop, vS9 vw8.drew ∧ LdS vS9 (⟨vw4.heap.size, 0, none⟩ : Addr) (Value.int .i64) fun (x10 : Int) =>
    LdS vS9 ((⟨vw4.heap.size, 0, none⟩ : Addr).add 1) (Value.int .i64) fun (x11 : Int) =>
    LdS vS9 ((⟨vw4.heap.size, 0, none⟩ : Addr).add 2) (Value.int .i64) fun (x12 : Int) =>
    LdS vS9 ((⟨vw4.heap.size, 0, none⟩ : Addr).add 3) (Value.int .i64) fun (x13 : Int) =>
    LdS vS9 ((⟨vw4.heap.size, 0, none⟩ : Addr).add 4) (Value.int .i64) fun (x14 : Int) =>
    LdS vS9 ((⟨vw4.heap.size, 0, none⟩ : Addr).add 5) (Value.int .i64) fun (x15 : Int) =>
    LdS vS9 (⟨vw4.heap.size, 0, none⟩ : Addr) (Value.int .i64) fun (x16 : Int) =>
    LdS vS9 ((⟨vw4.heap.size, 0, none⟩ : Addr).add 1) (Value.int .i64) fun (x17 : Int) =>
    LdS vS9 ((⟨vw4.heap.size, 0, none⟩ : Addr).add 2) (Value.int .i64) fun (x18 : Int) =>
    LdS vS9 ((⟨vw4.heap.size, 0, none⟩ : Addr).add 3) (Value.int .i64) fun (x19 : Int) =>
    LdS vS9 ((⟨vw4.heap.size, 0, none⟩ : Addr).add 4) (Value.int .i64) fun (x20 : Int) =>
    LdS vS9 ((⟨vw4.heap.size, 0, none⟩ : Addr).add 5) (Value.int .i64) fun (x21 : Int) =>
    C57 (x16, x17, x18, x19, x20, x21) vw8.drew fun r22 vw23 =>
      vS9 vw23 ∧ C89 (x10, x11, x12, x13, x14, x15) r22 vw23 (fun r24 vw25 =>
        ∃ vS26 : World → Prop, vS26 vw25.drew ∧ LdST vS26 ((⟨w.heap.size, 0, none⟩ : Addr).add 30) 0 LiA34 fun (x27 : TyA34) =>
        LdST vS26 ((⟨w.heap.size, 0, none⟩ : Addr).add 30) 0 LiA34 fun (x28 : TyA34) =>
        C33 x28 vw25.drew fun r29 vw30 =>
          vS26 vw30 ∧ C32 x27 r29 vw30 (fun r31 vw32 =>
            LdT vw32 ((⟨w.heap.size, 0, none⟩ : Addr).add 30) 0 LiA34 fun (x33 : TyA34) =>
            C91 x33 s3 vw32 fun r34 r35 vw36 =>
              C90 r34 r35 vw36 (fun r37 vw38 =>
                C39 (decide (((r37.len : Nat) : Int) ≤ 16384)) 6 vw38 (fun vw39 =>
                  Lp (σ := Slc × Int) (S55L1 w vw4 vw5 r37 R PR) ((⟨none, 0, 0⟩ : Slc), 0) vw39) PR) PR) PR) PR) PR
def pl55 : Plan := (.seq (.reg .seq) (.seq (.reg .seq) (.seq (.reg (.held [3] (.take 0 (.take 1 (.eff 2 none (.eff 3 (some []) .done)))))) (.seq (.reg (.held [5] (.take 0 (.take 1 (.take 2 (.take 3 (.eff 4 none (.eff 5 (some []) .done)))))))) (.seq (.reg .seq) (.seq (.reg .seq) (.seq (.reg .seq) (.seq (.seq (.reg .seq) (.block (.loop [(9, (.one .slc)), (40, (.one (.int .i64)))] [3, 4, 7, 38, 39] (.seq (.reg .seq) (.seq (.cond .leaf .leaf) (.seq (.block (.seq (.reg .seq) (.seq (.reg .seq) (.seq (.reg .seq) (.reg .seq))))) (.reg .seq))))))) (.seq (.reg (.tail 3)) .leaf)))))))))
set_option maxRecDepth 100000 in
theorem T55 (h1 : TyA83) (m2 : Int × Int × Int × Int × Int × Int) (s3 : ByteArray) (w : World) (R : Slc → (Int × Int × Int × Int × Int × Int) → World → Prop) (PR : Value → World → Prop) (h : S55 h1 m2 s3 w R PR) : C55 h1 (m2.1, m2.2.1, m2.2.2.1, m2.2.2.2.1, m2.2.2.2.2.1, m2.2.2.2.2.2) s3 w R PR := by
  have e : fnT Tryz.prog ⟨FF, MAY, PR⟩ pl55 Tryz.f55 [.agg (Sig.cells LiA83 h1).toArray, .agg #[.int .i64 (m2.1), .int .i64 (m2.2.1), .int .i64 (m2.2.2.1), .int .i64 (m2.2.2.2.1), .int .i64 (m2.2.2.2.2.1), .int .i64 (m2.2.2.2.2.2)], .string s3] w [(.one .slc), (.agg [(.int .i64), (.int .i64), (.int .i64), (.int .i64), (.int .i64), (.int .i64)])] (fun s w => R s.1 s.2 w) = S55 h1 m2 s3 w R PR := by kernel_rfl
  exact (fn_callsP okF okM Tryz.func55 (by kernel_rfl) (by kernel_rfl) (e.mpr h)).mono fun _ _ he => he.elim (fun ⟨s, he, hR⟩ => .inl ⟨s.1, s.2, he, hR⟩) .inr

def S23P (vw7 : World) (vw8 : World) (vw9 : World) (R : Slc → (Int × Int × Int × Int × Int × Int) → Int → World → Prop) (x12 : Value) (vw11 : World) : Prop :=
  CD54 (⟨vw9.heap.size, 0, none⟩ : Addr) (⟨vw7.heap.size, 0, none⟩ : Addr) (⟨vw8.heap.size, 0, none⟩ : Addr) (some x12) vw11 fun vw13 =>
    Ld vw13 (⟨vw7.heap.size, 0, none⟩ : Addr) Slc.v fun (x14 : Slc) =>
    Ld vw13 (⟨vw8.heap.size, 0, none⟩ : Addr) (Value.int .i64) fun (x15 : Int) =>
    Ld vw13 ((⟨vw8.heap.size, 0, none⟩ : Addr).add 1) (Value.int .i64) fun (x16 : Int) =>
    Ld vw13 ((⟨vw8.heap.size, 0, none⟩ : Addr).add 2) (Value.int .i64) fun (x17 : Int) =>
    Ld vw13 ((⟨vw8.heap.size, 0, none⟩ : Addr).add 3) (Value.int .i64) fun (x18 : Int) =>
    Ld vw13 ((⟨vw8.heap.size, 0, none⟩ : Addr).add 4) (Value.int .i64) fun (x19 : Int) =>
    Ld vw13 ((⟨vw8.heap.size, 0, none⟩ : Addr).add 5) (Value.int .i64) fun (x20 : Int) =>
    Ld vw13 (⟨vw9.heap.size, 0, none⟩ : Addr) (Value.int .i64) fun (x21 : Int) =>
    R x14 (x15, x16, x17, x18, x19, x20) x21 vw13
/-- foliant/show.String -/
def S23 (g1 : TyA30) (m2 : Int × Int × Int × Int × Int × Int) (f3 : TyA34) (s4 : ByteArray) (w : World) (R : Slc → (Int × Int × Int × Int × Int × Int) → Int → World → Prop) : Prop :=
  Nw w (.cells (Sig.cells LiA30 g1).toArray 31) fun vw5 =>
  Nw vw5 (.cells #[.int .i64 (m2.1), .int .i64 (m2.2.1), .int .i64 (m2.2.2.1), .int .i64 (m2.2.2.2.1), .int .i64 (m2.2.2.2.2.1), .int .i64 (m2.2.2.2.2.2)] 24) fun vw6 =>
  Nw vw6 (.cells (Sig.cells LiA34 f3).toArray 35) fun vw7 =>
  Nw vw7 (.cells #[Slc.v ((⟨none, 0, 0⟩ : Slc))] 49) fun vw8 =>
  Nw vw8 (.cells #[.int .i64 0, .int .i64 0, .int .i64 0, .int .i64 0, .int .i64 0, .int .i64 0] 24) fun vw9 =>
  Nw vw9 (.cells #[.int .i64 0] 43) fun vw10 =>
  LdT vw10 (⟨w.heap.size, 0, none⟩ : Addr) 0 LiA30 fun (x22 : TyA30) =>
  LdT vw10 (⟨vw6.heap.size, 0, none⟩ : Addr) 0 LiA34 fun (x23 : TyA34) =>
  Ld vw10 (⟨vw5.heap.size, 0, none⟩ : Addr) (Value.int .i64) fun (x24 : Int) =>
  Ld vw10 ((⟨vw5.heap.size, 0, none⟩ : Addr).add 1) (Value.int .i64) fun (x25 : Int) =>
  Ld vw10 ((⟨vw5.heap.size, 0, none⟩ : Addr).add 2) (Value.int .i64) fun (x26 : Int) =>
  Ld vw10 ((⟨vw5.heap.size, 0, none⟩ : Addr).add 3) (Value.int .i64) fun (x27 : Int) =>
  Ld vw10 ((⟨vw5.heap.size, 0, none⟩ : Addr).add 4) (Value.int .i64) fun (x28 : Int) =>
  Ld vw10 ((⟨vw5.heap.size, 0, none⟩ : Addr).add 5) (Value.int .i64) fun (x29 : Int) =>
  C55 ((x22.1, x22.2.1, x22.2.2.1, x22.2.2.2.1, x22.2.2.2.2.1, x22.2.2.2.2.2.1, x22.2.2.2.2.2.2.1, x22.2.2.2.2.2.2.2.1, x22.2.2.2.2.2.2.2.2.1, x22.2.2.2.2.2.2.2.2.2.1, x22.2.2.2.2.2.2.2.2.2.2.1, x22.2.2.2.2.2.2.2.2.2.2.2.1, x22.2.2.2.2.2.2.2.2.2.2.2.2.1, x22.2.2.2.2.2.2.2.2.2.2.2.2.2.1, x22.2.2.2.2.2.2.2.2.2.2.2.2.2.2.1, x22.2.2.2.2.2.2.2.2.2.2.2.2.2.2.2.1, x22.2.2.2.2.2.2.2.2.2.2.2.2.2.2.2.2.1, x22.2.2.2.2.2.2.2.2.2.2.2.2.2.2.2.2.2.1, x22.2.2.2.2.2.2.2.2.2.2.2.2.2.2.2.2.2.2.1, x22.2.2.2.2.2.2.2.2.2.2.2.2.2.2.2.2.2.2.2.1, x22.2.2.2.2.2.2.2.2.2.2.2.2.2.2.2.2.2.2.2.2.1, x22.2.2.2.2.2.2.2.2.2.2.2.2.2.2.2.2.2.2.2.2.2.1, x22.2.2.2.2.2.2.2.2.2.2.2.2.2.2.2.2.2.2.2.2.2.2.1, x22.2.2.2.2.2.2.2.2.2.2.2.2.2.2.2.2.2.2.2.2.2.2.2.1, x22.2.2.2.2.2.2.2.2.2.2.2.2.2.2.2.2.2.2.2.2.2.2.2.2.1, x22.2.2.2.2.2.2.2.2.2.2.2.2.2.2.2.2.2.2.2.2.2.2.2.2.2.1, x22.2.2.2.2.2.2.2.2.2.2.2.2.2.2.2.2.2.2.2.2.2.2.2.2.2.2.1, x22.2.2.2.2.2.2.2.2.2.2.2.2.2.2.2.2.2.2.2.2.2.2.2.2.2.2.2.1, x22.2.2.2.2.2.2.2.2.2.2.2.2.2.2.2.2.2.2.2.2.2.2.2.2.2.2.2.2.1, x22.2.2.2.2.2.2.2.2.2.2.2.2.2.2.2.2.2.2.2.2.2.2.2.2.2.2.2.2.2, x23.1, x23.2.1, x23.2.2.1, x23.2.2.2.1, x23.2.2.2.2.1, x23.2.2.2.2.2.1, x23.2.2.2.2.2.2) : TyA83) (x24, x25, x26, x27, x28, x29) s4 vw10 (fun r30 r31 vw32 =>
    St vw32 (⟨vw7.heap.size, 0, none⟩ : Addr) (Slc.v r30) fun vw33 =>
    St vw33 (⟨vw8.heap.size, 0, none⟩ : Addr) (.int .i64 (r31.1)) fun vw34 =>
    St vw34 ((⟨vw8.heap.size, 0, none⟩ : Addr).add 1) (.int .i64 (r31.2.1)) fun vw35 =>
    St vw35 ((⟨vw8.heap.size, 0, none⟩ : Addr).add 2) (.int .i64 (r31.2.2.1)) fun vw36 =>
    St vw36 ((⟨vw8.heap.size, 0, none⟩ : Addr).add 3) (.int .i64 (r31.2.2.2.1)) fun vw37 =>
    St vw37 ((⟨vw8.heap.size, 0, none⟩ : Addr).add 4) (.int .i64 (r31.2.2.2.2.1)) fun vw38 =>
    St vw38 ((⟨vw8.heap.size, 0, none⟩ : Addr).add 5) (.int .i64 (r31.2.2.2.2.2)) fun vw39 =>
    ∃ vS40 : World → Prop, vS40 vw39.drew ∧ LdS vS40 (⟨vw7.heap.size, 0, none⟩ : Addr) Slc.v fun (x41 : Slc) =>
    LdS vS40 (⟨vw8.heap.size, 0, none⟩ : Addr) (Value.int .i64) fun (x42 : Int) =>
    LdS vS40 ((⟨vw8.heap.size, 0, none⟩ : Addr).add 1) (Value.int .i64) fun (x43 : Int) =>
    LdS vS40 ((⟨vw8.heap.size, 0, none⟩ : Addr).add 2) (Value.int .i64) fun (x44 : Int) =>
    LdS vS40 ((⟨vw8.heap.size, 0, none⟩ : Addr).add 3) (Value.int .i64) fun (x45 : Int) =>
    LdS vS40 ((⟨vw8.heap.size, 0, none⟩ : Addr).add 4) (Value.int .i64) fun (x46 : Int) =>
    LdS vS40 ((⟨vw8.heap.size, 0, none⟩ : Addr).add 5) (Value.int .i64) fun (x47 : Int) =>
    St vw39.drew (⟨vw7.heap.size, 0, none⟩ : Addr) (Slc.v x41) fun vw48 =>
    vS40 vw48 ∧ St vw48 (⟨vw8.heap.size, 0, none⟩ : Addr) (.int .i64 x42) fun vw49 =>
    St vw49 ((⟨vw8.heap.size, 0, none⟩ : Addr).add 1) (.int .i64 x43) fun vw50 =>
    St vw50 ((⟨vw8.heap.size, 0, none⟩ : Addr).add 2) (.int .i64 x44) fun vw51 =>
    St vw51 ((⟨vw8.heap.size, 0, none⟩ : Addr).add 3) (.int .i64 x45) fun vw52 =>
    St vw52 ((⟨vw8.heap.size, 0, none⟩ : Addr).add 4) (.int .i64 x46) fun vw53 =>
    St vw53 ((⟨vw8.heap.size, 0, none⟩ : Addr).add 5) (.int .i64 x47) fun vw54 =>
    St vw54 (⟨vw9.heap.size, 0, none⟩ : Addr) (.int .i64 0) fun vw55 =>
    CD54 (⟨vw9.heap.size, 0, none⟩ : Addr) (⟨vw7.heap.size, 0, none⟩ : Addr) (⟨vw8.heap.size, 0, none⟩ : Addr) none vw55 fun vw56 =>
      Ld vw56 (⟨vw7.heap.size, 0, none⟩ : Addr) Slc.v fun (x57 : Slc) =>
      Ld vw56 (⟨vw8.heap.size, 0, none⟩ : Addr) (Value.int .i64) fun (x58 : Int) =>
      Ld vw56 ((⟨vw8.heap.size, 0, none⟩ : Addr).add 1) (Value.int .i64) fun (x59 : Int) =>
      Ld vw56 ((⟨vw8.heap.size, 0, none⟩ : Addr).add 2) (Value.int .i64) fun (x60 : Int) =>
      Ld vw56 ((⟨vw8.heap.size, 0, none⟩ : Addr).add 3) (Value.int .i64) fun (x61 : Int) =>
      Ld vw56 ((⟨vw8.heap.size, 0, none⟩ : Addr).add 4) (Value.int .i64) fun (x62 : Int) =>
      Ld vw56 ((⟨vw8.heap.size, 0, none⟩ : Addr).add 5) (Value.int .i64) fun (x63 : Int) =>
      Ld vw56 (⟨vw9.heap.size, 0, none⟩ : Addr) (Value.int .i64) fun (x64 : Int) =>
      R x57 (x58, x59, x60, x61, x62, x63) x64 vw56) (S23P vw7 vw8 vw9 R)
def pl23 : DPlan := (.pre (.reg .seq) (.here [8, 9, 10] (.seq (.reg .seq) (.seq (.reg (.held [3] (.take 0 (.take 1 (.eff 2 none (.eff 3 (some [4]) (.eff 4 (some []) .done))))))) .leaf))))
set_option maxRecDepth 100000 in
theorem T23 (g1 : TyA30) (m2 : Int × Int × Int × Int × Int × Int) (f3 : TyA34) (s4 : ByteArray) (w : World) (R : Slc → (Int × Int × Int × Int × Int × Int) → Int → World → Prop) (h : S23 g1 m2 f3 s4 w R) : C23 g1 (m2.1, m2.2.1, m2.2.2.1, m2.2.2.2.1, m2.2.2.2.2.1, m2.2.2.2.2.2) f3 s4 w R := by
  have e : fnTD Tryz.prog FF MAY (fun _ _ => False) pl23 Tryz.f23 [.agg (Sig.cells LiA30 g1).toArray, .agg #[.int .i64 (m2.1), .int .i64 (m2.2.1), .int .i64 (m2.2.2.1), .int .i64 (m2.2.2.2.1), .int .i64 (m2.2.2.2.2.1), .int .i64 (m2.2.2.2.2.2)], .agg (Sig.cells LiA34 f3).toArray, .string s4] w [(.one .slc), (.agg [(.int .i64), (.int .i64), (.int .i64), (.int .i64), (.int .i64), (.int .i64)]), (.one (.int .i64))] (fun s w => R s.1 s.2.1 s.2.2 w) = S23 g1 m2 f3 s4 w R := by kernel_rfl
  exact (fnD_calls okF okM Tryz.func23 (by kernel_rfl) (by kernel_rfl) (e.mpr h)).mono fun _ _ ⟨s, he, hR⟩ => ⟨s.1, s.2.1, s.2.2, he, hR⟩

/-- foliant/show.Step$1 -/
def S29_nil (c1 : Addr) (c2 : Addr) (w : World) (R : World → Prop) : Prop :=
  C30 Value.nilIface (some c1) w (fun vw3 =>
    Ld vw3 c1 (Value.int .i64) fun (x4 : Int) =>
    Br (x4 != 0) (St vw3 c2 (.int .i64 0) fun vw5 =>
      R vw5) (R vw3)) (fun _ _ => False)
def pl29_nil : Plan := (.seq (.reg .seq) (.cond (.reg .seq) .leaf))
set_option maxRecDepth 100000 in
theorem T29_nil (c1 : Addr) (c2 : Addr) (w : World) (R : World → Prop) (h : S29_nil c1 c2 w R) : CD29 c1 c2 none w R := by
  have e : fnTS Tryz.prog FF MAY pl29_nil Tryz.f29 [.pointer (some c1), .pointer (some c2)] none w R = S29_nil c1 c2 w R := by kernel_rfl
  exact fnS_calls okF okM Tryz.func29 (by kernel_rfl) (by kernel_rfl) (e.mpr h)

/-- foliant/show.Step$1 -/
def S29_T106 (c1 : Addr) (c2 : Addr) (u3 : Int) (w : World) (R : World → Prop) : Prop :=
  C30 (.iface 106 (.agg #[.int .i64 u3])) (some c1) w (fun vw4 =>
    Ld vw4 c1 (Value.int .i64) fun (x5 : Int) =>
    Br (x5 != 0) (St vw4 c2 (.int .i64 0) fun vw6 =>
      R vw6) (R vw4)) (fun _ _ => False)
def pl29_T106 : Plan := (.seq (.reg .seq) (.cond (.reg .seq) .leaf))
set_option maxRecDepth 100000 in
theorem T29_T106 (c1 : Addr) (c2 : Addr) (u3 : Int) (w : World) (R : World → Prop) (h : S29_T106 c1 c2 u3 w R) : CD29 c1 c2 (some (.iface 106 (.agg #[.int .i64 u3]))) w R := by
  have e : fnTS Tryz.prog FF MAY pl29_T106 Tryz.f29 [.pointer (some c1), .pointer (some c2)] (some (.iface 106 (.agg #[.int .i64 u3]))) w R = S29_T106 c1 c2 u3 w R := by kernel_rfl
  exact fnS_calls okF okM Tryz.func29 (by kernel_rfl) (by kernel_rfl) (e.mpr h)

def S11P (vw5 : World) (vw6 : World) (R : Int → Int → World → Prop) (x9 : Value) (vw8 : World) : Prop :=
  CD29 (⟨vw6.heap.size, 0, none⟩ : Addr) (⟨vw5.heap.size, 0, none⟩ : Addr) (some x9) vw8 fun vw10 =>
    Ld vw10 (⟨vw5.heap.size, 0, none⟩ : Addr) (Value.int .i64) fun (x11 : Int) =>
    Ld vw10 (⟨vw6.heap.size, 0, none⟩ : Addr) (Value.int .i64) fun (x12 : Int) =>
    R x11 x12 vw10
/-- foliant/show.Step -/
def S11 (g1 : TyA30) (f2 : TyA34) (code3 : Int) (w : World) (R : Int → Int → World → Prop) : Prop :=
  Nw w (.cells (Sig.cells LiA30 g1).toArray 31) fun vw4 =>
  Nw vw4 (.cells (Sig.cells LiA34 f2).toArray 35) fun vw5 =>
  Nw vw5 (.cells #[.int .i64 0] 2) fun vw6 =>
  Nw vw6 (.cells #[.int .i64 0] 43) fun vw7 =>
  LdT vw7 (⟨w.heap.size, 0, none⟩ : Addr) 0 LiA30 fun (x13 : TyA30) =>
  C31 x13 vw7 (fun vw14 =>
    ∃ vS15 : World → Prop, vS15 vw14.drew ∧ LdST vS15 (⟨vw4.heap.size, 0, none⟩ : Addr) 0 LiA34 fun (x16 : TyA34) =>
    LdST vS15 (⟨vw4.heap.size, 0, none⟩ : Addr) 0 LiA34 fun (x17 : TyA34) =>
    C33 x17 vw14.drew fun r18 vw19 =>
      vS15 vw19 ∧ C32 x16 r18 vw19 (fun r20 vw21 =>
        LdT vw21 (⟨w.heap.size, 0, none⟩ : Addr) 0 LiA30 fun (x22 : TyA30) =>
        LdT vw21 (⟨vw4.heap.size, 0, none⟩ : Addr) 0 LiA34 fun (x23 : TyA34) =>
        Nw vw21 (.cells #[.int .i64 0, .int .i64 0, .int .i64 0, .int .i64 0, .int .i64 0, .int .i64 0, .int .i64 0, .int .i64 0, .int .i64 0, .int .i64 0, Slc.v ((⟨none, 0, 0⟩ : Slc)), .int .i64 0, .int .i64 0, .int .i64 0, .int .i64 0, .int .i64 0, .int .i64 0, .int .i64 0, .int .i64 0, .int .i64 0, .int .i64 0, .int .i64 0, .int .i64 0, .int .i64 0, .int .i64 0, .int .i64 0, .int .i64 0, .int .i64 0, .string ((⟨#[]⟩ : ByteArray)), .int .i64 0, .string ((⟨#[]⟩ : ByteArray)), .bool false, .int .i64 0, Slc.v ((⟨none, 0, 0⟩ : Slc)), .int .i64 0, Slc.v ((⟨none, 0, 0⟩ : Slc)), Slc.v ((⟨none, 0, 0⟩ : Slc))] 84) fun vw24 =>
        StT (⟨vw21.heap.size, 0, none⟩ : Addr) 0 LiA83 ((x22.1, x22.2.1, x22.2.2.1, x22.2.2.2.1, x22.2.2.2.2.1, x22.2.2.2.2.2.1, x22.2.2.2.2.2.2.1, x22.2.2.2.2.2.2.2.1, x22.2.2.2.2.2.2.2.2.1, x22.2.2.2.2.2.2.2.2.2.1, x22.2.2.2.2.2.2.2.2.2.2.1, x22.2.2.2.2.2.2.2.2.2.2.2.1, x22.2.2.2.2.2.2.2.2.2.2.2.2.1, x22.2.2.2.2.2.2.2.2.2.2.2.2.2.1, x22.2.2.2.2.2.2.2.2.2.2.2.2.2.2.1, x22.2.2.2.2.2.2.2.2.2.2.2.2.2.2.2.1, x22.2.2.2.2.2.2.2.2.2.2.2.2.2.2.2.2.1, x22.2.2.2.2.2.2.2.2.2.2.2.2.2.2.2.2.2.1, x22.2.2.2.2.2.2.2.2.2.2.2.2.2.2.2.2.2.2.1, x22.2.2.2.2.2.2.2.2.2.2.2.2.2.2.2.2.2.2.2.1, x22.2.2.2.2.2.2.2.2.2.2.2.2.2.2.2.2.2.2.2.2.1, x22.2.2.2.2.2.2.2.2.2.2.2.2.2.2.2.2.2.2.2.2.2.1, x22.2.2.2.2.2.2.2.2.2.2.2.2.2.2.2.2.2.2.2.2.2.2.1, x22.2.2.2.2.2.2.2.2.2.2.2.2.2.2.2.2.2.2.2.2.2.2.2.1, x22.2.2.2.2.2.2.2.2.2.2.2.2.2.2.2.2.2.2.2.2.2.2.2.2.1, x22.2.2.2.2.2.2.2.2.2.2.2.2.2.2.2.2.2.2.2.2.2.2.2.2.2.1, x22.2.2.2.2.2.2.2.2.2.2.2.2.2.2.2.2.2.2.2.2.2.2.2.2.2.2.1, x22.2.2.2.2.2.2.2.2.2.2.2.2.2.2.2.2.2.2.2.2.2.2.2.2.2.2.2.1, x22.2.2.2.2.2.2.2.2.2.2.2.2.2.2.2.2.2.2.2.2.2.2.2.2.2.2.2.2.1, x22.2.2.2.2.2.2.2.2.2.2.2.2.2.2.2.2.2.2.2.2.2.2.2.2.2.2.2.2.2, x23.1, x23.2.1, x23.2.2.1, x23.2.2.2.1, x23.2.2.2.2.1, x23.2.2.2.2.2.1, x23.2.2.2.2.2.2) : TyA83) vw24 fun vw25 =>
        ∃ vS26 : World → Prop, vS26 vw25.drew ∧ LdST vS26 (⟨vw21.heap.size, 0, none⟩ : Addr) 0 LiA83 fun (x27 : TyA83) =>
        LdST vS26 (⟨vw21.heap.size, 0, none⟩ : Addr) 0 LiA83 fun (x28 : TyA83) =>
        C35 x28 code3 vw25.drew (fun r29 vw30 =>
          vS26 vw30 ∧ C34 x27 code3 r29 vw30 (fun r31 vw32 =>
            St vw32 (⟨vw5.heap.size, 0, none⟩ : Addr) (.int .i64 r31) fun vw33 =>
            St vw33 (⟨vw6.heap.size, 0, none⟩ : Addr) (.int .i64 0) fun vw34 =>
            CD29 (⟨vw6.heap.size, 0, none⟩ : Addr) (⟨vw5.heap.size, 0, none⟩ : Addr) none vw34 fun vw35 =>
              Ld vw35 (⟨vw5.heap.size, 0, none⟩ : Addr) (Value.int .i64) fun (x36 : Int) =>
              Ld vw35 (⟨vw6.heap.size, 0, none⟩ : Addr) (Value.int .i64) fun (x37 : Int) =>
              R x36 x37 vw35) (S11P vw5 vw6 R)) (S11P vw5 vw6 R)) (S11P vw5 vw6 R)) (S11P vw5 vw6 R)
def pl11 : DPlan := (.pre (.reg .seq) (.here [6, 7] (.seq (.reg .seq) (.seq (.reg (.held [3] (.take 0 (.take 1 (.eff 2 none (.eff 3 (some []) .done)))))) (.seq (.reg .seq) (.seq (.reg (.held [5] (.take 0 (.take 1 (.take 2 (.take 3 (.eff 4 none (.eff 5 (some [6]) (.eff 6 (some [7]) (.eff 7 (some []) .done)))))))))) .leaf))))))
set_option maxRecDepth 100000 in
theorem T11 (g1 : TyA30) (f2 : TyA34) (code3 : Int) (w : World) (R : Int → Int → World → Prop) (h : S11 g1 f2 code3 w R) : C11 g1 f2 code3 w R := by
  have e : fnTD Tryz.prog FF MAY (fun _ _ => False) pl11 Tryz.f11 [.agg (Sig.cells LiA30 g1).toArray, .agg (Sig.cells LiA34 f2).toArray, .int .i64 code3] w [(.one (.int .i64)), (.one (.int .i64))] (fun s w => R s.1 s.2 w) = S11 g1 f2 code3 w R := by kernel_rfl
  exact (fnD_calls okF okM Tryz.func11 (by kernel_rfl) (by kernel_rfl) (e.mpr h)).mono fun _ _ ⟨s, he, hR⟩ => ⟨s.1, s.2, he, hR⟩

end Go.Proofs.YtcblpehnkogfdaaGreatDoor
