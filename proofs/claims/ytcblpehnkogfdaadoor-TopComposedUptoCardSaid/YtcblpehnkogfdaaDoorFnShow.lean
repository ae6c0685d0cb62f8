/- The formulas of 19 functions of the program, written by program (gen.py); the kernel checks each. No condition. -/
import Derived.Test.YtcblpehnkogfdaaDoorFn
import Derived.Test.YtcblpehnkogfdaaDoorFnFix
import Derived.Test.YtcblpehnkogfdaaDoorFnMat
import Derived.Test.YtcblpehnkogfdaaDoorFnFont
namespace Go.Proofs.YtcblpehnkogfdaaDoor
open Sh
set_option linter.unusedVariables false
set_option maxRecDepth 100000

def C14 (x1 : Value) (why2 : Option Addr) (w : World) (R : World → Prop) (PR : Value → World → Prop) : Prop :=
  Calls Tryd.prog 14 #[x1, .pointer why2] w fun e w' => (e = .returned (.tuple #[]) ∧ R w') ∨ ∃ v, e = .panicked (onePanic v) ∧ PR v w'
theorem C14.mono {x1 : Value} {why2 : Option Addr} {w : World} {R R' : World → Prop} {PR PR' : Value → World → Prop} (h : C14 x1 why2 w R PR) (hr : ∀ w', R w' → R' w') (hp : ∀ v w', PR v w' → PR' v w') : C14 x1 why2 w R' PR' :=
  Calls.mono h fun _ _ he => he.elim (fun ⟨he, hR⟩ => .inl ⟨he, hr _ hR⟩) fun ⟨v, he, hP⟩ => .inr ⟨v, he, hp _ _ hP⟩
def CD13 (c1 : Addr) (c2 : Addr) (c3 : Addr) (u : Option Value) (w : World) (R : World → Prop) : Prop := CallD Tryd.prog 13 #[.pointer (some c1), .pointer (some c2), .pointer (some c3)] u w R
theorem CD13.mono {c1 : Addr} {c2 : Addr} {c3 : Addr} {u : Option Value} {w : World} {R R' : World → Prop} (h : CD13 c1 c2 c3 u w R) (hr : ∀ w', R w' → R' w') : CD13 c1 c2 c3 u w R' :=
  CallsD.mono h fun _ _ _ ⟨h1, h2, h3⟩ => ⟨h1, h2, hr _ h3⟩
def C34 (holds1 : Bool) (why2 : Int) (w : World) (R : World → Prop) (PR : Value → World → Prop) : Prop :=
  Calls Tryd.prog 34 #[.bool holds1, .int .i64 why2] w fun e w' => (e = .returned (.tuple #[]) ∧ R w') ∨ ∃ v, e = .panicked (onePanic v) ∧ PR v w'
theorem C34.mono {holds1 : Bool} {why2 : Int} {w : World} {R R' : World → Prop} {PR PR' : Value → World → Prop} (h : C34 holds1 why2 w R PR) (hr : ∀ w', R w' → R' w') (hp : ∀ v w', PR v w' → PR' v w') : C34 holds1 why2 w R' PR' :=
  Calls.mono h fun _ _ he => he.elim (fun ⟨he, hR⟩ => .inl ⟨he, hr _ hR⟩) fun ⟨v, he, hP⟩ => .inr ⟨v, he, hp _ _ hP⟩
def C38 (x1 : TyA29) (why2 : Int) (w : World) (R : (TyA29) → World → Prop) (PR : Value → World → Prop) : Prop :=
  Calls Tryd.prog 38 #[.agg (Sig.cells LiA29 x1).toArray, .int .i64 why2] w fun e w' => (∃ r0 : TyA29, e = .returned (.agg (Sig.cells LiA29 r0).toArray) ∧ R r0 w') ∨ ∃ v, e = .panicked (onePanic v) ∧ PR v w'
theorem C38.mono {x1 : TyA29} {why2 : Int} {w : World} {R R' : (TyA29) → World → Prop} {PR PR' : Value → World → Prop} (h : C38 x1 why2 w R PR) (hr : ∀ r0 w', R r0 w' → R' r0 w') (hp : ∀ v w', PR v w' → PR' v w') : C38 x1 why2 w R' PR' :=
  Calls.mono h fun _ _ he => he.elim (fun ⟨r0, he, hR⟩ => .inl ⟨r0, he, hr _ _ hR⟩) fun ⟨v, he, hP⟩ => .inr ⟨v, he, hp _ _ hP⟩
def C39 (n1 : Int) (w : World) (R : Int → World → Prop) (PR : Value → World → Prop) : Prop :=
  Calls Tryd.prog 39 #[.int .i64 n1] w fun e w' => (∃ r0 : Int, e = .returned (.int .i64 r0) ∧ R r0 w') ∨ ∃ v, e = .panicked (onePanic v) ∧ PR v w'
theorem C39.mono {n1 : Int} {w : World} {R R' : Int → World → Prop} {PR PR' : Value → World → Prop} (h : C39 n1 w R PR) (hr : ∀ r0 w', R r0 w' → R' r0 w') (hp : ∀ v w', PR v w' → PR' v w') : C39 n1 w R' PR' :=
  Calls.mono h fun _ _ he => he.elim (fun ⟨r0, he, hR⟩ => .inl ⟨r0, he, hr _ _ hR⟩) fun ⟨v, he, hP⟩ => .inr ⟨v, he, hp _ _ hP⟩
def C24 (g1 : TyA29) (w : World) (R : World → Prop) (PR : Value → World → Prop) : Prop :=
  Calls Tryd.prog 24 #[.agg (Sig.cells LiA29 g1).toArray] w fun e w' => (e = .returned (.tuple #[]) ∧ R w') ∨ ∃ v, e = .panicked (onePanic v) ∧ PR v w'
theorem C24.mono {g1 : TyA29} {w : World} {R R' : World → Prop} {PR PR' : Value → World → Prop} (h : C24 g1 w R PR) (hr : ∀ w', R w' → R' w') (hp : ∀ v w', PR v w' → PR' v w') : C24 g1 w R' PR' :=
  Calls.mono h fun _ _ he => he.elim (fun ⟨he, hR⟩ => .inl ⟨he, hr _ hR⟩) fun ⟨v, he, hP⟩ => .inr ⟨v, he, hp _ _ hP⟩
def C25 (x1 : TyA33) (why2 : Int) (w : World) (R : (TyA33) → World → Prop) (PR : Value → World → Prop) : Prop :=
  Calls Tryd.prog 25 #[.agg (Sig.cells LiA33 x1).toArray, .int .i64 why2] w fun e w' => (∃ r0 : TyA33, e = .returned (.agg (Sig.cells LiA33 r0).toArray) ∧ R r0 w') ∨ ∃ v, e = .panicked (onePanic v) ∧ PR v w'
theorem C25.mono {x1 : TyA33} {why2 : Int} {w : World} {R R' : (TyA33) → World → Prop} {PR PR' : Value → World → Prop} (h : C25 x1 why2 w R PR) (hr : ∀ r0 w', R r0 w' → R' r0 w') (hp : ∀ v w', PR v w' → PR' v w') : C25 x1 why2 w R' PR' :=
  Calls.mono h fun _ _ he => he.elim (fun ⟨r0, he, hR⟩ => .inl ⟨r0, he, hr _ _ hR⟩) fun ⟨v, he, hP⟩ => .inr ⟨v, he, hp _ _ hP⟩
def C32 (x1 : Int × Int × Int × Int × Int × Int) (why2 : Int) (w : World) (R : (Int × Int × Int × Int × Int × Int) → World → Prop) (PR : Value → World → Prop) : Prop :=
  Calls Tryd.prog 32 #[.agg #[.int .i64 (x1.1), .int .i64 (x1.2.1), .int .i64 (x1.2.2.1), .int .i64 (x1.2.2.2.1), .int .i64 (x1.2.2.2.2.1), .int .i64 (x1.2.2.2.2.2)], .int .i64 why2] w fun e w' => (∃ r0 : Int × Int × Int × Int × Int × Int, e = .returned (.agg #[.int .i64 (r0.1), .int .i64 (r0.2.1), .int .i64 (r0.2.2.1), .int .i64 (r0.2.2.2.1), .int .i64 (r0.2.2.2.2.1), .int .i64 (r0.2.2.2.2.2)]) ∧ R r0 w') ∨ ∃ v, e = .panicked (onePanic v) ∧ PR v w'
theorem C32.mono {x1 : Int × Int × Int × Int × Int × Int} {why2 : Int} {w : World} {R R' : (Int × Int × Int × Int × Int × Int) → World → Prop} {PR PR' : Value → World → Prop} (h : C32 x1 why2 w R PR) (hr : ∀ r0 w', R r0 w' → R' r0 w') (hp : ∀ v w', PR v w' → PR' v w') : C32 x1 why2 w R' PR' :=
  Calls.mono h fun _ _ he => he.elim (fun ⟨r0, he, hR⟩ => .inl ⟨r0, he, hr _ _ hR⟩) fun ⟨v, he, hP⟩ => .inr ⟨v, he, hp _ _ hP⟩
def C33 (x1 : Slc) (why2 : Int) (w : World) (R : Slc → World → Prop) (PR : Value → World → Prop) : Prop :=
  Calls Tryd.prog 33 #[Slc.v x1, .int .i64 why2] w fun e w' => (∃ r0 : Slc, e = .returned (Slc.v r0) ∧ R r0 w') ∨ ∃ v, e = .panicked (onePanic v) ∧ PR v w'
theorem C33.mono {x1 : Slc} {why2 : Int} {w : World} {R R' : Slc → World → Prop} {PR PR' : Value → World → Prop} (h : C33 x1 why2 w R PR) (hr : ∀ r0 w', R r0 w' → R' r0 w') (hp : ∀ v w', PR v w' → PR' v w') : C33 x1 why2 w R' PR' :=
  Calls.mono h fun _ _ he => he.elim (fun ⟨r0, he, hR⟩ => .inl ⟨r0, he, hr _ _ hR⟩) fun ⟨v, he, hP⟩ => .inr ⟨v, he, hp _ _ hP⟩
def C43 (x1 : Int) (why2 : Int) (w : World) (R : Int → World → Prop) (PR : Value → World → Prop) : Prop :=
  Calls Tryd.prog 43 #[.int .i64 x1, .int .i64 why2] w fun e w' => (∃ r0 : Int, e = .returned (.int .i64 r0) ∧ R r0 w') ∨ ∃ v, e = .panicked (onePanic v) ∧ PR v w'
theorem C43.mono {x1 : Int} {why2 : Int} {w : World} {R R' : Int → World → Prop} {PR PR' : Value → World → Prop} (h : C43 x1 why2 w R PR) (hr : ∀ r0 w', R r0 w' → R' r0 w') (hp : ∀ v w', PR v w' → PR' v w') : C43 x1 why2 w R' PR' :=
  Calls.mono h fun _ _ he => he.elim (fun ⟨r0, he, hR⟩ => .inl ⟨r0, he, hr _ _ hR⟩) fun ⟨v, he, hP⟩ => .inr ⟨v, he, hp _ _ hP⟩
def C42 (h1 : TyA60) (n2 : Int) (w : World) (R : Int → World → Prop) (PR : Value → World → Prop) : Prop :=
  Calls Tryd.prog 42 #[.agg (Sig.cells LiA60 h1).toArray, .int .i64 n2] w fun e w' => (∃ r0 : Int, e = .returned (.int .i64 r0) ∧ R r0 w') ∨ ∃ v, e = .panicked (onePanic v) ∧ PR v w'
theorem C42.mono {h1 : TyA60} {n2 : Int} {w : World} {R R' : Int → World → Prop} {PR PR' : Value → World → Prop} (h : C42 h1 n2 w R PR) (hr : ∀ r0 w', R r0 w' → R' r0 w') (hp : ∀ v w', PR v w' → PR' v w') : C42 h1 n2 w R' PR' :=
  Calls.mono h fun _ _ he => he.elim (fun ⟨r0, he, hR⟩ => .inl ⟨r0, he, hr _ _ hR⟩) fun ⟨v, he, hP⟩ => .inr ⟨v, he, hp _ _ hP⟩
def C27 (h1 : TyA60) (code2 : Int) (vw3 : Int) (w : World) (R : Int → World → Prop) (PR : Value → World → Prop) : Prop :=
  Calls Tryd.prog 27 #[.agg (Sig.cells LiA60 h1).toArray, .int .i64 code2, .int .i64 vw3] w fun e w' => (∃ r0 : Int, e = .returned (.int .i64 r0) ∧ R r0 w') ∨ ∃ v, e = .panicked (onePanic v) ∧ PR v w'
theorem C27.mono {h1 : TyA60} {code2 : Int} {vw3 : Int} {w : World} {R R' : Int → World → Prop} {PR PR' : Value → World → Prop} (h : C27 h1 code2 vw3 w R PR) (hr : ∀ r0 w', R r0 w' → R' r0 w') (hp : ∀ v w', PR v w' → PR' v w') : C27 h1 code2 vw3 w R' PR' :=
  Calls.mono h fun _ _ he => he.elim (fun ⟨r0, he, hR⟩ => .inl ⟨r0, he, hr _ _ hR⟩) fun ⟨v, he, hP⟩ => .inr ⟨v, he, hp _ _ hP⟩
def C28 (h1 : TyA60) (code2 : Int) (w : World) (R : Int → World → Prop) (PR : Value → World → Prop) : Prop :=
  Calls Tryd.prog 28 #[.agg (Sig.cells LiA60 h1).toArray, .int .i64 code2] w fun e w' => (∃ r0 : Int, e = .returned (.int .i64 r0) ∧ R r0 w') ∨ ∃ v, e = .panicked (onePanic v) ∧ PR v w'
theorem C28.mono {h1 : TyA60} {code2 : Int} {w : World} {R R' : Int → World → Prop} {PR PR' : Value → World → Prop} (h : C28 h1 code2 w R PR) (hr : ∀ r0 w', R r0 w' → R' r0 w') (hp : ∀ v w', PR v w' → PR' v w') : C28 h1 code2 w R' PR' :=
  Calls.mono h fun _ _ he => he.elim (fun ⟨r0, he, hR⟩ => .inl ⟨r0, he, hr _ _ hR⟩) fun ⟨v, he, hP⟩ => .inr ⟨v, he, hp _ _ hP⟩
def C52 (x1 : Int × Int) (why2 : Int) (w : World) (R : (Int × Int) → World → Prop) (PR : Value → World → Prop) : Prop :=
  Calls Tryd.prog 52 #[.agg #[.int .i64 (x1.1), .int .i64 (x1.2)], .int .i64 why2] w fun e w' => (∃ r0 : Int × Int, e = .returned (.agg #[.int .i64 (r0.1), .int .i64 (r0.2)]) ∧ R r0 w') ∨ ∃ v, e = .panicked (onePanic v) ∧ PR v w'
theorem C52.mono {x1 : Int × Int} {why2 : Int} {w : World} {R R' : (Int × Int) → World → Prop} {PR PR' : Value → World → Prop} (h : C52 x1 why2 w R PR) (hr : ∀ r0 w', R r0 w' → R' r0 w') (hp : ∀ v w', PR v w' → PR' v w') : C52 x1 why2 w R' PR' :=
  Calls.mono h fun _ _ he => he.elim (fun ⟨r0, he, hR⟩ => .inl ⟨r0, he, hr _ _ hR⟩) fun ⟨v, he, hP⟩ => .inr ⟨v, he, hp _ _ hP⟩
def C35 (h1 : TyA60) (m2 : Int × Int × Int × Int × Int × Int) (code3 : Int) (w : World) (R : (TyA44) → (Int × Int × Int × Int × Int × Int) → World → Prop) (PR : Value → World → Prop) : Prop :=
  Calls Tryd.prog 35 #[.agg (Sig.cells LiA60 h1).toArray, .agg #[.int .i64 (m2.1), .int .i64 (m2.2.1), .int .i64 (m2.2.2.1), .int .i64 (m2.2.2.2.1), .int .i64 (m2.2.2.2.2.1), .int .i64 (m2.2.2.2.2.2)], .int .i64 code3] w fun e w' => (∃ r0 : TyA44, ∃ r1 : Int × Int × Int × Int × Int × Int, e = .returned (.tuple #[.agg (Sig.cells LiA44 r0).toArray, .agg #[.int .i64 (r1.1), .int .i64 (r1.2.1), .int .i64 (r1.2.2.1), .int .i64 (r1.2.2.2.1), .int .i64 (r1.2.2.2.2.1), .int .i64 (r1.2.2.2.2.2)]]) ∧ R r0 r1 w') ∨ ∃ v, e = .panicked (onePanic v) ∧ PR v w'
theorem C35.mono {h1 : TyA60} {m2 : Int × Int × Int × Int × Int × Int} {code3 : Int} {w : World} {R R' : (TyA44) → (Int × Int × Int × Int × Int × Int) → World → Prop} {PR PR' : Value → World → Prop} (h : C35 h1 m2 code3 w R PR) (hr : ∀ r0 r1 w', R r0 r1 w' → R' r0 r1 w') (hp : ∀ v w', PR v w' → PR' v w') : C35 h1 m2 code3 w R' PR' :=
  Calls.mono h fun _ _ he => he.elim (fun ⟨r0, r1, he, hR⟩ => .inl ⟨r0, r1, he, hr _ _ _ hR⟩) fun ⟨v, he, hP⟩ => .inr ⟨v, he, hp _ _ hP⟩
def C15 (h1 : TyA60) (m2 : Int × Int × Int × Int × Int × Int) (s3 : ByteArray) (w : World) (R : Slc → (Int × Int × Int × Int × Int × Int) → World → Prop) (PR : Value → World → Prop) : Prop :=
  Calls Tryd.prog 15 #[.agg (Sig.cells LiA60 h1).toArray, .agg #[.int .i64 (m2.1), .int .i64 (m2.2.1), .int .i64 (m2.2.2.1), .int .i64 (m2.2.2.2.1), .int .i64 (m2.2.2.2.2.1), .int .i64 (m2.2.2.2.2.2)], .string s3] w fun e w' => (∃ r0 : Slc, ∃ r1 : Int × Int × Int × Int × Int × Int, e = .returned (.tuple #[Slc.v r0, .agg #[.int .i64 (r1.1), .int .i64 (r1.2.1), .int .i64 (r1.2.2.1), .int .i64 (r1.2.2.2.1), .int .i64 (r1.2.2.2.2.1), .int .i64 (r1.2.2.2.2.2)]]) ∧ R r0 r1 w') ∨ ∃ v, e = .panicked (onePanic v) ∧ PR v w'
theorem C15.mono {h1 : TyA60} {m2 : Int × Int × Int × Int × Int × Int} {s3 : ByteArray} {w : World} {R R' : Slc → (Int × Int × Int × Int × Int × Int) → World → Prop} {PR PR' : Value → World → Prop} (h : C15 h1 m2 s3 w R PR) (hr : ∀ r0 r1 w', R r0 r1 w' → R' r0 r1 w') (hp : ∀ v w', PR v w' → PR' v w') : C15 h1 m2 s3 w R' PR' :=
  Calls.mono h fun _ _ he => he.elim (fun ⟨r0, r1, he, hR⟩ => .inl ⟨r0, r1, he, hr _ _ _ hR⟩) fun ⟨v, he, hP⟩ => .inr ⟨v, he, hp _ _ hP⟩
def C6 (g1 : TyA29) (m2 : Int × Int × Int × Int × Int × Int) (f3 : TyA33) (s4 : ByteArray) (w : World) (R : Slc → (Int × Int × Int × Int × Int × Int) → Int → World → Prop) : Prop :=
  Calls Tryd.prog 6 #[.agg (Sig.cells LiA29 g1).toArray, .agg #[.int .i64 (m2.1), .int .i64 (m2.2.1), .int .i64 (m2.2.2.1), .int .i64 (m2.2.2.2.1), .int .i64 (m2.2.2.2.2.1), .int .i64 (m2.2.2.2.2.2)], .agg (Sig.cells LiA33 f3).toArray, .string s4] w fun e w' => ∃ r0 : Slc, ∃ r1 : Int × Int × Int × Int × Int × Int, ∃ r2 : Int, e = .returned (.tuple #[Slc.v r0, .agg #[.int .i64 (r1.1), .int .i64 (r1.2.1), .int .i64 (r1.2.2.1), .int .i64 (r1.2.2.2.1), .int .i64 (r1.2.2.2.2.1), .int .i64 (r1.2.2.2.2.2)], .int .i64 r2]) ∧ R r0 r1 r2 w'
theorem C6.mono {g1 : TyA29} {m2 : Int × Int × Int × Int × Int × Int} {f3 : TyA33} {s4 : ByteArray} {w : World} {R R' : Slc → (Int × Int × Int × Int × Int × Int) → Int → World → Prop} (h : C6 g1 m2 f3 s4 w R) (hr : ∀ r0 r1 r2 w', R r0 r1 r2 w' → R' r0 r1 r2 w') : C6 g1 m2 f3 s4 w R' :=
  Calls.mono h fun _ _ ⟨r0, r1, r2, he, hR⟩ => ⟨r0, r1, r2, he, hr _ _ _ _ hR⟩
def CD23 (c1 : Addr) (c2 : Addr) (u : Option Value) (w : World) (R : World → Prop) : Prop := CallD Tryd.prog 23 #[.pointer (some c1), .pointer (some c2)] u w R
theorem CD23.mono {c1 : Addr} {c2 : Addr} {u : Option Value} {w : World} {R R' : World → Prop} (h : CD23 c1 c2 u w R) (hr : ∀ w', R w' → R' w') : CD23 c1 c2 u w R' :=
  CallsD.mono h fun _ _ _ ⟨h1, h2, h3⟩ => ⟨h1, h2, hr _ h3⟩
def C11 (g1 : TyA29) (f2 : TyA33) (code3 : Int) (w : World) (R : Int → Int → World → Prop) : Prop :=
  Calls Tryd.prog 11 #[.agg (Sig.cells LiA29 g1).toArray, .agg (Sig.cells LiA33 f2).toArray, .int .i64 code3] w fun e w' => ∃ r0 : Int, ∃ r1 : Int, e = .returned (.tuple #[.int .i64 r0, .int .i64 r1]) ∧ R r0 r1 w'
theorem C11.mono {g1 : TyA29} {f2 : TyA33} {code3 : Int} {w : World} {R R' : Int → Int → World → Prop} (h : C11 g1 f2 code3 w R) (hr : ∀ r0 r1 w', R r0 r1 w' → R' r0 r1 w') : C11 g1 f2 code3 w R' :=
  Calls.mono h fun _ _ ⟨r0, r1, he, hR⟩ => ⟨r0, r1, he, hr _ _ _ hR⟩

/-- foliant/show.caught -/
def S14_nil (why2 : Option Addr) (w : World) (R : World → Prop) (PR : Value → World → Prop) : Prop :=
  R w
def pl14_nil : Plan := (.seq (.reg .seq) (.block (.seq (.reg .seq) (.cond (.reg .seq) (.seq (.reg .seq) (.cond (.seq (.reg .seq) (.reg .seq)) (.seq (.reg .seq) (.reg .seq))))))))
set_option maxRecDepth 100000 in
theorem T14_nil (why2 : Option Addr) (w : World) (R : World → Prop) (PR : Value → World → Prop) (h : S14_nil why2 w R PR) : C14 Value.nilIface why2 w R PR := by
  have e : fnT Tryd.prog ⟨FF, MAY, PR⟩ pl14_nil Tryd.f14 [Value.nilIface, .pointer why2] w [] (fun _ w => R w) = S14_nil why2 w R PR := by kernel_rfl
  exact (fn_callsP okF okM Tryd.func14 (by kernel_rfl) (by kernel_rfl) (e.mpr h)).mono fun _ _ he => he.elim (fun ⟨_, he, hR⟩ => .inl ⟨he, hR⟩) .inr

/-- foliant/show.caught -/
def S14_T78 (x2 : Int) (why3 : Option Addr) (w : World) (R : World → Prop) (PR : Value → World → Prop) : Prop :=
  Nw w (.cells #[.int .i64 0] 78) fun vw4 =>
  St vw4 (⟨w.heap.size, 0, none⟩ : Addr) (.int .i64 x2) fun vw5 =>
  Ld vw5 (⟨w.heap.size, 0, none⟩ : Addr) (Value.int .i64) fun (x6 : Int) =>
  Nn why3 fun a7 =>
  St vw5 a7 (.int .i64 x6) fun vw8 =>
  R vw8
def pl14_T78 : Plan := (.seq (.reg .seq) (.block (.seq (.reg .seq) (.cond (.reg .seq) (.seq (.reg .seq) (.cond (.seq (.reg .seq) (.reg .seq)) (.seq (.reg .seq) (.reg .seq))))))))
set_option maxRecDepth 100000 in
theorem T14_T78 (x2 : Int) (why3 : Option Addr) (w : World) (R : World → Prop) (PR : Value → World → Prop) (h : S14_T78 x2 why3 w R PR) : C14 (.iface 78 (.agg #[.int .i64 x2])) why3 w R PR := by
  have e : fnT Tryd.prog ⟨FF, MAY, PR⟩ pl14_T78 Tryd.f14 [.iface 78 (.agg #[.int .i64 x2]), .pointer why3] w [] (fun _ w => R w) = S14_T78 x2 why3 w R PR := by kernel_rfl
  exact (fn_callsP okF okM Tryd.func14 (by kernel_rfl) (by kernel_rfl) (e.mpr h)).mono fun _ _ he => he.elim (fun ⟨_, he, hR⟩ => .inl ⟨he, hR⟩) .inr

/-- foliant/show.String$1 -/
def S13_nil (c1 : Addr) (c2 : Addr) (c3 : Addr) (w : World) (R : World → Prop) : Prop :=
  C14 Value.nilIface (some c1) w (fun vw4 =>
    Ld vw4 c1 (Value.int .i64) fun (x5 : Int) =>
    Br (x5 != 0) (St vw4 c2 (Slc.v ((⟨none, 0, 0⟩ : Slc))) fun vw6 =>
      St vw6 c3 (.int .i64 0) fun vw7 =>
      St vw7 (c3.add 1) (.int .i64 0) fun vw8 =>
      St vw8 (c3.add 2) (.int .i64 0) fun vw9 =>
      St vw9 (c3.add 3) (.int .i64 0) fun vw10 =>
      St vw10 (c3.add 4) (.int .i64 0) fun vw11 =>
      St vw11 (c3.add 5) (.int .i64 0) fun vw12 =>
      R vw12) (R vw4)) (fun _ _ => False)
def pl13_nil : Plan := (.seq (.reg .seq) (.cond (.reg .seq) .leaf))
set_option maxRecDepth 100000 in
theorem T13_nil (c1 : Addr) (c2 : Addr) (c3 : Addr) (w : World) (R : World → Prop) (h : S13_nil c1 c2 c3 w R) : CD13 c1 c2 c3 none w R := by
  have e : fnTS Tryd.prog FF MAY pl13_nil Tryd.f13 [.pointer (some c1), .pointer (some c2), .pointer (some c3)] none w R = S13_nil c1 c2 c3 w R := by kernel_rfl
  exact fnS_calls okF okM Tryd.func13 (by kernel_rfl) (by kernel_rfl) (e.mpr h)

/-- foliant/show.String$1 -/
def S13_T78 (c1 : Addr) (c2 : Addr) (c3 : Addr) (u4 : Int) (w : World) (R : World → Prop) : Prop :=
  C14 (.iface 78 (.agg #[.int .i64 u4])) (some c1) w (fun vw5 =>
    Ld vw5 c1 (Value.int .i64) fun (x6 : Int) =>
    Br (x6 != 0) (St vw5 c2 (Slc.v ((⟨none, 0, 0⟩ : Slc))) fun vw7 =>
      St vw7 c3 (.int .i64 0) fun vw8 =>
      St vw8 (c3.add 1) (.int .i64 0) fun vw9 =>
      St vw9 (c3.add 2) (.int .i64 0) fun vw10 =>
      St vw10 (c3.add 3) (.int .i64 0) fun vw11 =>
      St vw11 (c3.add 4) (.int .i64 0) fun vw12 =>
      St vw12 (c3.add 5) (.int .i64 0) fun vw13 =>
      R vw13) (R vw5)) (fun _ _ => False)
def pl13_T78 : Plan := (.seq (.reg .seq) (.cond (.reg .seq) .leaf))
set_option maxRecDepth 100000 in
theorem T13_T78 (c1 : Addr) (c2 : Addr) (c3 : Addr) (u4 : Int) (w : World) (R : World → Prop) (h : S13_T78 c1 c2 c3 u4 w R) : CD13 c1 c2 c3 (some (.iface 78 (.agg #[.int .i64 u4]))) w R := by
  have e : fnTS Tryd.prog FF MAY pl13_T78 Tryd.f13 [.pointer (some c1), .pointer (some c2), .pointer (some c3)] (some (.iface 78 (.agg #[.int .i64 u4]))) w R = S13_T78 c1 c2 c3 u4 w R := by kernel_rfl
  exact fnS_calls okF okM Tryd.func13 (by kernel_rfl) (by kernel_rfl) (e.mpr h)

/-- foliant/show.need -/
def S34 (holds1 : Bool) (why2 : Int) (w : World) (R : World → Prop) (PR : Value → World → Prop) : Prop :=
  Br (!holds1) (PR (.iface 78 (.agg #[.int .i64 why2])) w) (R w)
def pl34 : Plan := (.seq (.reg .seq) (.cond (.reg .seq) .leaf))
set_option maxRecDepth 100000 in
theorem T34 (holds1 : Bool) (why2 : Int) (w : World) (R : World → Prop) (PR : Value → World → Prop) (h : S34 holds1 why2 w R PR) : C34 holds1 why2 w R PR := by
  have e : fnT Tryd.prog ⟨FF, MAY, PR⟩ pl34 Tryd.f34 [.bool holds1, .int .i64 why2] w [] (fun _ w => R w) = S34 holds1 why2 w R PR := by kernel_rfl
  exact (fn_callsP okF okM Tryd.func34 (by kernel_rfl) (by kernel_rfl) (e.mpr h)).mono fun _ _ he => he.elim (fun ⟨_, he, hR⟩ => .inl ⟨he, hR⟩) .inr

/-- foliant/show.must[foliant/api.Graphics] -/
def S38 (x1 : TyA29) (why2 : Int) (w : World) (R : (TyA29) → World → Prop) (PR : Value → World → Prop) : Prop :=
  Nw w (.cells (Sig.cells LiA29 x1).toArray 30) fun vw3 =>
  Nw vw3 (.cells #[.int .i64 0, .int .i64 0, .int .i64 0, .int .i64 0, .int .i64 0, .int .i64 0, .int .i64 0, .int .i64 0, .int .i64 0, .int .i64 0, Slc.v ((⟨none, 0, 0⟩ : Slc)), .int .i64 0, .int .i64 0, .int .i64 0, .int .i64 0, .int .i64 0, .int .i64 0, .int .i64 0, .int .i64 0, .int .i64 0, .int .i64 0, .int .i64 0, .int .i64 0, .int .i64 0, .int .i64 0, .int .i64 0, .int .i64 0, .int .i64 0, .string ((⟨#[]⟩ : ByteArray)), .int .i64 0] 30) fun vw4 =>
  C34 (why2 == 0) why2 vw4 (fun vw5 =>
    LdT vw5 (⟨w.heap.size, 0, none⟩ : Addr) 0 LiA29 fun (x6 : TyA29) =>
    StT (⟨vw3.heap.size, 0, none⟩ : Addr) 0 LiA29 x6 vw5 fun vw7 =>
    LdT vw7 (⟨vw3.heap.size, 0, none⟩ : Addr) 0 LiA29 fun (x8 : TyA29) =>
    R x8 vw7) PR
def pl38 : Plan := (.seq (.reg .seq) (.seq (.reg .seq) (.seq (.reg .seq) .leaf)))
set_option maxRecDepth 100000 in
theorem T38 (x1 : TyA29) (why2 : Int) (w : World) (R : (TyA29) → World → Prop) (PR : Value → World → Prop) (h : S38 x1 why2 w R PR) : C38 x1 why2 w R PR := by
  have e : fnT Tryd.prog ⟨FF, MAY, PR⟩ pl38 Tryd.f38 [.agg (Sig.cells LiA29 x1).toArray, .int .i64 why2] w [(.agg [(.int .i64), (.int .i64), (.int .i64), (.int .i64), (.int .i64), (.int .i64), (.int .i64), (.int .i64), (.int .i64), (.int .i64), .slc, (.int .i64), (.int .i64), (.int .i64), (.int .i64), (.int .i64), (.int .i64), (.int .i64), (.int .i64), (.int .i64), (.int .i64), (.int .i64), (.int .i64), (.int .i64), (.int .i64), (.int .i64), (.int .i64), (.int .i64), .str, (.int .i64)])] (fun s w => R s w) = S38 x1 why2 w R PR := by kernel_rfl
  exact (fn_callsP okF okM Tryd.func38 (by kernel_rfl) (by kernel_rfl) (e.mpr h)).mono fun _ _ he => he.elim (fun ⟨s, he, hR⟩ => .inl ⟨s, he, hR⟩) .inr

/-- foliant/show.fits -/
def S39 (n1 : Int) (w : World) (R : Int → World → Prop) (PR : Value → World → Prop) : Prop :=
  Br (decide (n1 ≥ (-1073741824))) (C34 (decide (n1 ≤ 1073741824)) 2 w (fun vw2 =>
      R n1 vw2) PR) (C34 false 2 w (fun vw3 =>
      R n1 vw3) PR)
def pl39 : Plan := (.seq (.reg .seq) (.seq (.reg .seq) (.seq (.reg .seq) .leaf)))
set_option maxRecDepth 100000 in
theorem T39 (n1 : Int) (w : World) (R : Int → World → Prop) (PR : Value → World → Prop) (h : S39 n1 w R PR) : C39 n1 w R PR := by
  have e : fnT Tryd.prog ⟨FF, MAY, PR⟩ pl39 Tryd.f39 [.int .i64 n1] w [(.one (.int .i64))] (fun s w => R s w) = S39 n1 w R PR := by kernel_rfl
  exact (fn_callsP okF okM Tryd.func39 (by kernel_rfl) (by kernel_rfl) (e.mpr h)).mono fun _ _ he => he.elim (fun ⟨s, he, hR⟩ => .inl ⟨s, he, hR⟩) .inr

def S24L1 (x18 : Int) (x19 : Int) (x20 : Int) (x21 : Int) (x22 : Int) (x23 : Int) (R : World → Prop) (PR : Value → World → Prop) (I26 : Int → World → Prop) (s24 : Int) (vw25 : World) : Prop :=
  Br (decide (s24 < 6)) (0 ≤ s24 ∧ s24 < (6 : Nat) ∧ ∃ x27 : Int, (#[.int .i64 x18, .int .i64 x19, .int .i64 x20, .int .i64 x21, .int .i64 x22, .int .i64 x23] : Array Value)[(s24).toNat * 1]? = some (.int .i64 x27) ∧ C39 x27 vw25 (fun r28 vw29 =>
      I26 (IntKind.i64.wrap (s24 + 1)) vw29) PR) (R vw25)
/-- foliant/show.use -/
def S24 (g1 : TyA29) (w : World) (R : World → Prop) (PR : Value → World → Prop) : Prop :=
  Nw w (.cells (Sig.cells LiA29 g1).toArray 30) fun vw2 =>
  ∃ vS3 : World → Prop, vS3 vw2.drew ∧ LdST vS3 (⟨w.heap.size, 0, none⟩ : Addr) 0 LiA29 fun (x4 : TyA29) =>
  LdS vS3 (⟨w.heap.size, 0, none⟩ : Addr) (Value.int .i64) fun (x5 : Int) =>
  LdS vS3 ((⟨w.heap.size, 0, none⟩ : Addr).add 1) (Value.int .i64) fun (x6 : Int) =>
  LdS vS3 ((⟨w.heap.size, 0, none⟩ : Addr).add 2) (Value.int .i64) fun (x7 : Int) =>
  LdS vS3 ((⟨w.heap.size, 0, none⟩ : Addr).add 3) (Value.int .i64) fun (x8 : Int) =>
  LdS vS3 ((⟨w.heap.size, 0, none⟩ : Addr).add 4) (Value.int .i64) fun (x9 : Int) =>
  LdS vS3 ((⟨w.heap.size, 0, none⟩ : Addr).add 5) (Value.int .i64) fun (x10 : Int) =>
  C19 (x5, x6, x7, x8, x9, x10) vw2.drew fun r11 vw12 =>
    vS3 vw12 ∧ C38 x4 r11 vw12 (fun r13 vw14 =>
      LdT vw14 ((⟨w.heap.size, 0, none⟩ : Addr).add 22) 0 LiA27 fun (x15 : TyA27) =>
      Nw vw14 (.cells #[.int .i64 0, .int .i64 0, .int .i64 0, .int .i64 0, .int .i64 0, .int .i64 0, .string ((⟨#[]⟩ : ByteArray)), .int .i64 0] 28) fun vw16 =>
      StT (⟨vw14.heap.size, 0, none⟩ : Addr) 0 LiA27 x15 vw16 fun vw17 =>
      Ld vw17 (⟨vw14.heap.size, 0, none⟩ : Addr) (Value.int .i64) fun (x18 : Int) =>
      Ld vw17 ((⟨vw14.heap.size, 0, none⟩ : Addr).add 1) (Value.int .i64) fun (x19 : Int) =>
      Ld vw17 ((⟨vw14.heap.size, 0, none⟩ : Addr).add 2) (Value.int .i64) fun (x20 : Int) =>
      Ld vw17 ((⟨vw14.heap.size, 0, none⟩ : Addr).add 3) (Value.int .i64) fun (x21 : Int) =>
      Ld vw17 ((⟨vw14.heap.size, 0, none⟩ : Addr).add 4) (Value.int .i64) fun (x22 : Int) =>
      Ld vw17 ((⟨vw14.heap.size, 0, none⟩ : Addr).add 5) (Value.int .i64) fun (x23 : Int) =>
      Lp (σ := Int) (S24L1 x18 x19 x20 x21 x22 x23 R PR) 0 vw17) PR
def pl24 : Plan := (.seq (.reg .seq) (.seq (.reg (.held [4] (.take 0 (.take 1 (.take 2 (.eff 3 none (.eff 4 (some []) .done))))))) (.seq (.reg .seq) (.seq (.reg .seq) (.block (.loop [(25, (.one (.int .i64)))] [24] (.seq (.reg .seq) (.seq (.cond .leaf .leaf) (.seq (.block (.seq (.reg .seq) (.reg .seq))) (.reg .seq))))))))))
set_option maxRecDepth 100000 in
theorem T24 (g1 : TyA29) (w : World) (R : World → Prop) (PR : Value → World → Prop) (h : S24 g1 w R PR) : C24 g1 w R PR := by
  have e : fnT Tryd.prog ⟨FF, MAY, PR⟩ pl24 Tryd.f24 [.agg (Sig.cells LiA29 g1).toArray] w [] (fun _ w => R w) = S24 g1 w R PR := by kernel_rfl
  exact (fn_callsP okF okM Tryd.func24 (by kernel_rfl) (by kernel_rfl) (e.mpr h)).mono fun _ _ he => he.elim (fun ⟨_, he, hR⟩ => .inl ⟨he, hR⟩) .inr

/-- foliant/show.must[foliant/api.Font] -/
def S25 (x1 : TyA33) (why2 : Int) (w : World) (R : (TyA33) → World → Prop) (PR : Value → World → Prop) : Prop :=
  Nw w (.cells (Sig.cells LiA33 x1).toArray 34) fun vw3 =>
  Nw vw3 (.cells #[.string ((⟨#[]⟩ : ByteArray)), .bool false, .int .i64 0, Slc.v ((⟨none, 0, 0⟩ : Slc)), .int .i64 0, Slc.v ((⟨none, 0, 0⟩ : Slc)), Slc.v ((⟨none, 0, 0⟩ : Slc))] 34) fun vw4 =>
  C34 (why2 == 0) why2 vw4 (fun vw5 =>
    LdT vw5 (⟨w.heap.size, 0, none⟩ : Addr) 0 LiA33 fun (x6 : TyA33) =>
    StT (⟨vw3.heap.size, 0, none⟩ : Addr) 0 LiA33 x6 vw5 fun vw7 =>
    LdT vw7 (⟨vw3.heap.size, 0, none⟩ : Addr) 0 LiA33 fun (x8 : TyA33) =>
    R x8 vw7) PR
def pl25 : Plan := (.seq (.reg .seq) (.seq (.reg .seq) (.seq (.reg .seq) .leaf)))
set_option maxRecDepth 100000 in
theorem T25 (x1 : TyA33) (why2 : Int) (w : World) (R : (TyA33) → World → Prop) (PR : Value → World → Prop) (h : S25 x1 why2 w R PR) : C25 x1 why2 w R PR := by
  have e : fnT Tryd.prog ⟨FF, MAY, PR⟩ pl25 Tryd.f25 [.agg (Sig.cells LiA33 x1).toArray, .int .i64 why2] w [(.agg [.str, .bool, (.int .i64), .slc, (.int .i64), .slc, .slc])] (fun s w => R s w) = S25 x1 why2 w R PR := by kernel_rfl
  exact (fn_callsP okF okM Tryd.func25 (by kernel_rfl) (by kernel_rfl) (e.mpr h)).mono fun _ _ he => he.elim (fun ⟨s, he, hR⟩ => .inl ⟨s, he, hR⟩) .inr

/-- foliant/show.must[foliant/api.Matrix] -/
def S32 (x1 : Int × Int × Int × Int × Int × Int) (why2 : Int) (w : World) (R : (Int × Int × Int × Int × Int × Int) → World → Prop) (PR : Value → World → Prop) : Prop :=
  Nw w (.cells #[.int .i64 (x1.1), .int .i64 (x1.2.1), .int .i64 (x1.2.2.1), .int .i64 (x1.2.2.2.1), .int .i64 (x1.2.2.2.2.1), .int .i64 (x1.2.2.2.2.2)] 23) fun vw3 =>
  Nw vw3 (.cells #[.int .i64 0, .int .i64 0, .int .i64 0, .int .i64 0, .int .i64 0, .int .i64 0] 23) fun vw4 =>
  C34 (why2 == 0) why2 vw4 (fun vw5 =>
    Ld vw5 (⟨w.heap.size, 0, none⟩ : Addr) (Value.int .i64) fun (x6 : Int) =>
    Ld vw5 ((⟨w.heap.size, 0, none⟩ : Addr).add 1) (Value.int .i64) fun (x7 : Int) =>
    Ld vw5 ((⟨w.heap.size, 0, none⟩ : Addr).add 2) (Value.int .i64) fun (x8 : Int) =>
    Ld vw5 ((⟨w.heap.size, 0, none⟩ : Addr).add 3) (Value.int .i64) fun (x9 : Int) =>
    Ld vw5 ((⟨w.heap.size, 0, none⟩ : Addr).add 4) (Value.int .i64) fun (x10 : Int) =>
    Ld vw5 ((⟨w.heap.size, 0, none⟩ : Addr).add 5) (Value.int .i64) fun (x11 : Int) =>
    St vw5 (⟨vw3.heap.size, 0, none⟩ : Addr) (.int .i64 x6) fun vw12 =>
    St vw12 ((⟨vw3.heap.size, 0, none⟩ : Addr).add 1) (.int .i64 x7) fun vw13 =>
    St vw13 ((⟨vw3.heap.size, 0, none⟩ : Addr).add 2) (.int .i64 x8) fun vw14 =>
    St vw14 ((⟨vw3.heap.size, 0, none⟩ : Addr).add 3) (.int .i64 x9) fun vw15 =>
    St vw15 ((⟨vw3.heap.size, 0, none⟩ : Addr).add 4) (.int .i64 x10) fun vw16 =>
    St vw16 ((⟨vw3.heap.size, 0, none⟩ : Addr).add 5) (.int .i64 x11) fun vw17 =>
    Ld vw17 (⟨vw3.heap.size, 0, none⟩ : Addr) (Value.int .i64) fun (x18 : Int) =>
    Ld vw17 ((⟨vw3.heap.size, 0, none⟩ : Addr).add 1) (Value.int .i64) fun (x19 : Int) =>
    Ld vw17 ((⟨vw3.heap.size, 0, none⟩ : Addr).add 2) (Value.int .i64) fun (x20 : Int) =>
    Ld vw17 ((⟨vw3.heap.size, 0, none⟩ : Addr).add 3) (Value.int .i64) fun (x21 : Int) =>
    Ld vw17 ((⟨vw3.heap.size, 0, none⟩ : Addr).add 4) (Value.int .i64) fun (x22 : Int) =>
    Ld vw17 ((⟨vw3.heap.size, 0, none⟩ : Addr).add 5) (Value.int .i64) fun (x23 : Int) =>
    R (x18, x19, x20, x21, x22, x23) vw17) PR
def pl32 : Plan := (.seq (.reg .seq) (.seq (.reg .seq) (.seq (.reg .seq) .leaf)))
set_option maxRecDepth 100000 in
theorem T32 (x1 : Int × Int × Int × Int × Int × Int) (why2 : Int) (w : World) (R : (Int × Int × Int × Int × Int × Int) → World → Prop) (PR : Value → World → Prop) (h : S32 x1 why2 w R PR) : C32 (x1.1, x1.2.1, x1.2.2.1, x1.2.2.2.1, x1.2.2.2.2.1, x1.2.2.2.2.2) why2 w R PR := by
  have e : fnT Tryd.prog ⟨FF, MAY, PR⟩ pl32 Tryd.f32 [.agg #[.int .i64 (x1.1), .int .i64 (x1.2.1), .int .i64 (x1.2.2.1), .int .i64 (x1.2.2.2.1), .int .i64 (x1.2.2.2.2.1), .int .i64 (x1.2.2.2.2.2)], .int .i64 why2] w [(.agg [(.int .i64), (.int .i64), (.int .i64), (.int .i64), (.int .i64), (.int .i64)])] (fun s w => R s w) = S32 x1 why2 w R PR := by kernel_rfl
  exact (fn_callsP okF okM Tryd.func32 (by kernel_rfl) (by kernel_rfl) (e.mpr h)).mono fun _ _ he => he.elim (fun ⟨s, he, hR⟩ => .inl ⟨s, he, hR⟩) .inr

/-- foliant/show.must[[]int] -/
def S33 (x1 : Slc) (why2 : Int) (w : World) (R : Slc → World → Prop) (PR : Value → World → Prop) : Prop :=
  C34 (why2 == 0) why2 w (fun vw3 =>
    R x1 vw3) PR
def pl33 : Plan := (.seq (.reg .seq) (.seq (.reg .seq) (.seq (.reg .seq) .leaf)))
set_option maxRecDepth 100000 in
theorem T33 (x1 : Slc) (why2 : Int) (w : World) (R : Slc → World → Prop) (PR : Value → World → Prop) (h : S33 x1 why2 w R PR) : C33 x1 why2 w R PR := by
  have e : fnT Tryd.prog ⟨FF, MAY, PR⟩ pl33 Tryd.f33 [Slc.v x1, .int .i64 why2] w [(.one .slc)] (fun s w => R s w) = S33 x1 why2 w R PR := by kernel_rfl
  exact (fn_callsP okF okM Tryd.func33 (by kernel_rfl) (by kernel_rfl) (e.mpr h)).mono fun _ _ he => he.elim (fun ⟨s, he, hR⟩ => .inl ⟨s, he, hR⟩) .inr

/-- foliant/show.must[int64] -/
def S43 (x1 : Int) (why2 : Int) (w : World) (R : Int → World → Prop) (PR : Value → World → Prop) : Prop :=
  C34 (why2 == 0) why2 w (fun vw3 =>
    R x1 vw3) PR
def pl43 : Plan := (.seq (.reg .seq) (.seq (.reg .seq) (.seq (.reg .seq) .leaf)))
set_option maxRecDepth 100000 in
theorem T43 (x1 : Int) (why2 : Int) (w : World) (R : Int → World → Prop) (PR : Value → World → Prop) (h : S43 x1 why2 w R PR) : C43 x1 why2 w R PR := by
  have e : fnT Tryd.prog ⟨FF, MAY, PR⟩ pl43 Tryd.f43 [.int .i64 x1, .int .i64 why2] w [(.one (.int .i64))] (fun s w => R s w) = S43 x1 why2 w R PR := by kernel_rfl
  exact (fn_callsP okF okM Tryd.func43 (by kernel_rfl) (by kernel_rfl) (e.mpr h)).mono fun _ _ he => he.elim (fun ⟨s, he, hR⟩ => .inl ⟨s, he, hR⟩) .inr

/-- (foliant/show.hand).scaled -/
def S42 (h1 : TyA60) (n2 : Int) (w : World) (R : Int → World → Prop) (PR : Value → World → Prop) : Prop :=
  Nw w (.cells (Sig.cells LiA60 h1).toArray 61) fun vw3 =>
  Ld vw3 (((⟨w.heap.size, 0, none⟩ : Addr).add 22).add 2) (Value.int .i64) fun (x4 : Int) =>
  C63 (IntKind.i64.wrap (n2 * x4)) 1000000 vw3 fun r5 r6 vw7 =>
    C43 r5 r6 vw7 (fun r8 vw9 =>
      C39 r8 vw9 (fun r10 vw11 =>
        R r10 vw11) PR) PR
def pl42 : Plan := (.seq (.reg .seq) (.seq (.reg .seq) .leaf))
set_option maxRecDepth 100000 in
theorem T42 (h1 : TyA60) (n2 : Int) (w : World) (R : Int → World → Prop) (PR : Value → World → Prop) (h : S42 h1 n2 w R PR) : C42 h1 n2 w R PR := by
  have e : fnT Tryd.prog ⟨FF, MAY, PR⟩ pl42 Tryd.f42 [.agg (Sig.cells LiA60 h1).toArray, .int .i64 n2] w [(.one (.int .i64))] (fun s w => R s w) = S42 h1 n2 w R PR := by kernel_rfl
  exact (fn_callsP okF okM Tryd.func42 (by kernel_rfl) (by kernel_rfl) (e.mpr h)).mono fun _ _ he => he.elim (fun ⟨s, he, hR⟩ => .inl ⟨s, he, hR⟩) .inr

/-- (foliant/show.hand).step -/
def S27 (h1 : TyA60) (code2 : Int) (vw3 : Int) (w : World) (R : Int → World → Prop) (PR : Value → World → Prop) : Prop :=
  Nw w (.cells (Sig.cells LiA60 h1).toArray 61) fun vw4 =>
  Ld vw4 ((⟨w.heap.size, 0, none⟩ : Addr).add 22) (Value.int .i64) fun (x5 : Int) =>
  Nw vw4 (.cells #[.int .i64 vw3, .int .i64 x5] 2) fun vw6 =>
  Br (code2 == 32) (Ld vw6 (((⟨w.heap.size, 0, none⟩ : Addr).add 30).add 1) Value.bool fun (x12 : Bool) =>
    Br (!x12) (Ld vw6 (((⟨w.heap.size, 0, none⟩ : Addr).add 22).add 1) (Value.int .i64) fun (x13 : Int) =>
      Nw vw6 (.cells #[.int .i64 x13] 2) fun vw14 =>
      Rn Tryd.prog (Builtin.append_ #[24, 24] 24 #[Slc.v ((⟨some ⟨vw4.heap.size, 0, none⟩, 2, 2⟩ : Slc)), Slc.v ((⟨some ⟨vw6.heap.size, 0, none⟩, 1, 1⟩ : Slc))]) vw14 Slc.v fun (x15 : Slc) vw16 =>
      ∃ vS17 : World → Prop, vS17 vw16.drew ∧ LdST vS17 (⟨w.heap.size, 0, none⟩ : Addr) 0 LiA60 fun (x18 : TyA60) =>
      C44 x15 vw16.drew fun r19 r20 vw21 =>
        vS17 vw21 ∧ C43 r19 r20 vw21 (fun r22 vw23 =>
          vS17 vw23 ∧ C42 x18 r22 vw23 (fun r24 vw25 =>
            R r24 vw25) PR) PR) (∃ vS26 : World → Prop, vS26 vw6.drew ∧ LdST vS26 (⟨w.heap.size, 0, none⟩ : Addr) 0 LiA60 fun (x27 : TyA60) =>
      C44 (⟨some ⟨vw4.heap.size, 0, none⟩, 2, 2⟩ : Slc) vw6.drew fun r28 r29 vw30 =>
        vS26 vw30 ∧ C43 r28 r29 vw30 (fun r31 vw32 =>
          vS26 vw32 ∧ C42 x27 r31 vw32 (fun r33 vw34 =>
            R r33 vw34) PR) PR)) (∃ vS35 : World → Prop, vS35 vw6.drew ∧ LdST vS35 (⟨w.heap.size, 0, none⟩ : Addr) 0 LiA60 fun (x36 : TyA60) =>
    C44 (⟨some ⟨vw4.heap.size, 0, none⟩, 2, 2⟩ : Slc) vw6.drew fun r37 r38 vw39 =>
      vS35 vw39 ∧ C43 r37 r38 vw39 (fun r40 vw41 =>
        vS35 vw41 ∧ C42 x36 r40 vw41 (fun r42 vw43 =>
          R r42 vw43) PR) PR)
def pl27 : Plan := (.seq (.reg .seq) (.seq (.reg .seq) (.seq (.seq (.reg .seq) (.cond (.reg .seq) .leaf)) (.seq (.reg (.held [6] (.take 0 (.take 1 (.eff 2 none (.take 3 (.take 4 (.eff 5 none (.eff 6 (some []) (.take 7 .done)))))))))) .leaf))))
set_option maxRecDepth 100000 in
theorem T27 (h1 : TyA60) (code2 : Int) (vw3 : Int) (w : World) (R : Int → World → Prop) (PR : Value → World → Prop) (h : S27 h1 code2 vw3 w R PR) : C27 h1 code2 vw3 w R PR := by
  have e : fnT Tryd.prog ⟨FF, MAY, PR⟩ pl27 Tryd.f27 [.agg (Sig.cells LiA60 h1).toArray, .int .i64 code2, .int .i64 vw3] w [(.one (.int .i64))] (fun s w => R s w) = S27 h1 code2 vw3 w R PR := by kernel_rfl
  exact (fn_callsP okF okM Tryd.func27 (by kernel_rfl) (by kernel_rfl) (e.mpr h)).mono fun _ _ he => he.elim (fun ⟨s, he, hR⟩ => .inl ⟨s, he, hR⟩) .inr

/-- (foliant/show.hand).width -/
def S28 (h1 : TyA60) (code2 : Int) (w : World) (R : Int → World → Prop) (PR : Value → World → Prop) : Prop :=
  Nw w (.cells (Sig.cells LiA60 h1).toArray 61) fun vw3 =>
  ∃ vS4 : World → Prop, vS4 vw3.drew ∧ LdS vS4 (((⟨w.heap.size, 0, none⟩ : Addr).add 22).add 4) (Value.int .i64) fun (x5 : Int) =>
  LdST vS4 ((⟨w.heap.size, 0, none⟩ : Addr).add 30) 0 LiA33 fun (x6 : TyA33) =>
  C46 x6 code2 vw3.drew fun r7 vw8 =>
    vS4 vw8 ∧ C45 x5 (IntKind.i64.wrap (10 * r7)) vw8 fun r9 r10 vw11 =>
      C43 r9 r10 vw11 (fun r12 vw13 =>
        R r12 vw13) PR
def pl28 : Plan := (.seq (.reg .seq) (.seq (.reg (.held [9] (.take 0 (.take 1 (.take 2 (.take 3 (.take 4 (.take 5 (.take 6 (.eff 7 none (.take 8 (.eff 9 (some [12]) (.take 10 (.take 11 (.eff 12 (some []) (.take 13 .done)))))))))))))))) .leaf))
set_option maxRecDepth 100000 in
theorem T28 (h1 : TyA60) (code2 : Int) (w : World) (R : Int → World → Prop) (PR : Value → World → Prop) (h : S28 h1 code2 w R PR) : C28 h1 code2 w R PR := by
  have e : fnT Tryd.prog ⟨FF, MAY, PR⟩ pl28 Tryd.f28 [.agg (Sig.cells LiA60 h1).toArray, .int .i64 code2] w [(.one (.int .i64))] (fun s w => R s w) = S28 h1 code2 w R PR := by kernel_rfl
  exact (fn_callsP okF okM Tryd.func28 (by kernel_rfl) (by kernel_rfl) (e.mpr h)).mono fun _ _ he => he.elim (fun ⟨s, he, hR⟩ => .inl ⟨s, he, hR⟩) .inr

/-- foliant/show.must[foliant/api.Point] -/
def S52 (x1 : Int × Int) (why2 : Int) (w : World) (R : (Int × Int) → World → Prop) (PR : Value → World → Prop) : Prop :=
  Nw w (.cells #[.int .i64 (x1.1), .int .i64 (x1.2)] 43) fun vw3 =>
  Nw vw3 (.cells #[.int .i64 0, .int .i64 0] 43) fun vw4 =>
  C34 (why2 == 0) why2 vw4 (fun vw5 =>
    Ld vw5 (⟨w.heap.size, 0, none⟩ : Addr) (Value.int .i64) fun (x6 : Int) =>
    Ld vw5 ((⟨w.heap.size, 0, none⟩ : Addr).add 1) (Value.int .i64) fun (x7 : Int) =>
    St vw5 (⟨vw3.heap.size, 0, none⟩ : Addr) (.int .i64 x6) fun vw8 =>
    St vw8 ((⟨vw3.heap.size, 0, none⟩ : Addr).add 1) (.int .i64 x7) fun vw9 =>
    Ld vw9 (⟨vw3.heap.size, 0, none⟩ : Addr) (Value.int .i64) fun (x10 : Int) =>
    Ld vw9 ((⟨vw3.heap.size, 0, none⟩ : Addr).add 1) (Value.int .i64) fun (x11 : Int) =>
    R (x10, x11) vw9) PR
def pl52 : Plan := (.seq (.reg .seq) (.seq (.reg .seq) (.seq (.reg .seq) .leaf)))
set_option maxRecDepth 100000 in
theorem T52 (x1 : Int × Int) (why2 : Int) (w : World) (R : (Int × Int) → World → Prop) (PR : Value → World → Prop) (h : S52 x1 why2 w R PR) : C52 (x1.1, x1.2) why2 w R PR := by
  have e : fnT Tryd.prog ⟨FF, MAY, PR⟩ pl52 Tryd.f52 [.agg #[.int .i64 (x1.1), .int .i64 (x1.2)], .int .i64 why2] w [(.agg [(.int .i64), (.int .i64)])] (fun s w => R s w) = S52 x1 why2 w R PR := by kernel_rfl
  exact (fn_callsP okF okM Tryd.func52 (by kernel_rfl) (by kernel_rfl) (e.mpr h)).mono fun _ _ he => he.elim (fun ⟨s, he, hR⟩ => .inl ⟨s, he, hR⟩) .inr

def S35J1 (w : World) (code3 : Int) (vw4 : World) (vw5 : World) (vw6 : World) (r36 : Int) (R : (TyA44) → (Int × Int × Int × Int × Int × Int) → World → Prop) (PR : Value → World → Prop) (s167 : Addr) (vw168 : World) : Prop :=
  ∃ vS169 : World → Prop, vS169 vw168.drew ∧ LdST vS169 s167 0 LiA44 fun (x170 : TyA44) =>
  LdST vS169 (⟨w.heap.size, 0, none⟩ : Addr) 0 LiA60 fun (x171 : TyA60) =>
  LdS vS169 (⟨vw4.heap.size, 0, none⟩ : Addr) (Value.int .i64) fun (x172 : Int) =>
  LdS vS169 ((⟨vw4.heap.size, 0, none⟩ : Addr).add 1) (Value.int .i64) fun (x173 : Int) =>
  LdS vS169 ((⟨vw4.heap.size, 0, none⟩ : Addr).add 2) (Value.int .i64) fun (x174 : Int) =>
  LdS vS169 ((⟨vw4.heap.size, 0, none⟩ : Addr).add 3) (Value.int .i64) fun (x175 : Int) =>
  LdS vS169 ((⟨vw4.heap.size, 0, none⟩ : Addr).add 4) (Value.int .i64) fun (x176 : Int) =>
  LdS vS169 ((⟨vw4.heap.size, 0, none⟩ : Addr).add 5) (Value.int .i64) fun (x177 : Int) =>
  C27 x171 code3 r36 vw168.drew (fun r178 vw179 =>
    vS169 vw179 ∧ C7 r178 0 vw179 fun r180 vw181 =>
      vS169 vw181 ∧ C9 (r180.1, r180.2.1, r180.2.2.1, r180.2.2.2.1, r180.2.2.2.2.1, r180.2.2.2.2.2) (x172, x173, x174, x175, x176, x177) vw181 fun r182 r183 vw184 =>
        vS169 vw184 ∧ C32 (r182.1, r182.2.1, r182.2.2.1, r182.2.2.2.1, r182.2.2.2.2.1, r182.2.2.2.2.2) r183 vw184 (fun r185 vw186 =>
          vS169 vw186 ∧ StT (⟨vw5.heap.size, 0, none⟩ : Addr) 0 LiA44 x170 vw186 fun vw187 =>
          St vw187 (⟨vw6.heap.size, 0, none⟩ : Addr) (.int .i64 (r185.1)) fun vw188 =>
          St vw188 ((⟨vw6.heap.size, 0, none⟩ : Addr).add 1) (.int .i64 (r185.2.1)) fun vw189 =>
          St vw189 ((⟨vw6.heap.size, 0, none⟩ : Addr).add 2) (.int .i64 (r185.2.2.1)) fun vw190 =>
          St vw190 ((⟨vw6.heap.size, 0, none⟩ : Addr).add 3) (.int .i64 (r185.2.2.2.1)) fun vw191 =>
          St vw191 ((⟨vw6.heap.size, 0, none⟩ : Addr).add 4) (.int .i64 (r185.2.2.2.2.1)) fun vw192 =>
          St vw192 ((⟨vw6.heap.size, 0, none⟩ : Addr).add 5) (.int .i64 (r185.2.2.2.2.2)) fun vw193 =>
          LdT vw193 (⟨vw5.heap.size, 0, none⟩ : Addr) 0 LiA44 fun (x194 : TyA44) =>
          Ld vw193 (⟨vw6.heap.size, 0, none⟩ : Addr) (Value.int .i64) fun (x195 : Int) =>
          Ld vw193 ((⟨vw6.heap.size, 0, none⟩ : Addr).add 1) (Value.int .i64) fun (x196 : Int) =>
          Ld vw193 ((⟨vw6.heap.size, 0, none⟩ : Addr).add 2) (Value.int .i64) fun (x197 : Int) =>
          Ld vw193 ((⟨vw6.heap.size, 0, none⟩ : Addr).add 3) (Value.int .i64) fun (x198 : Int) =>
          Ld vw193 ((⟨vw6.heap.size, 0, none⟩ : Addr).add 4) (Value.int .i64) fun (x199 : Int) =>
          Ld vw193 ((⟨vw6.heap.size, 0, none⟩ : Addr).add 5) (Value.int .i64) fun (x200 : Int) =>
          R x194 (x195, x196, x197, x198, x199, x200) vw193) PR) PR
/-- (foliant/show.hand).sign -/
def S35 (h1 : TyA60) (m2 : Int × Int × Int × Int × Int × Int) (code3 : Int) (w : World) (R : (TyA44) → (Int × Int × Int × Int × Int × Int) → World → Prop) (PR : Value → World → Prop) : Prop :=
  Nw w (.cells (Sig.cells LiA60 h1).toArray 61) fun vw4 =>
  Nw vw4 (.cells #[.int .i64 (m2.1), .int .i64 (m2.2.1), .int .i64 (m2.2.2.1), .int .i64 (m2.2.2.2.1), .int .i64 (m2.2.2.2.2.1), .int .i64 (m2.2.2.2.2.2)] 23) fun vw5 =>
  Nw vw5 (.cells #[.int .i64 0, .string ((⟨#[]⟩ : ByteArray)), .int .i64 0, .int .i64 0, .int .i64 0, .int .i64 0, .int .i64 0, .string ((⟨#[]⟩ : ByteArray)), .int .i64 0] 45) fun vw6 =>
  Nw vw6 (.cells #[.int .i64 0, .int .i64 0, .int .i64 0, .int .i64 0, .int .i64 0, .int .i64 0] 23) fun vw7 =>
  LdT vw7 ((⟨w.heap.size, 0, none⟩ : Addr).add 22) 0 LiA27 fun (x8 : TyA27) =>
  Nw vw7 (.cells #[.int .i64 0, .int .i64 0, .int .i64 0, .int .i64 0, .int .i64 0, .int .i64 0, .string ((⟨#[]⟩ : ByteArray)), .int .i64 0] 28) fun vw9 =>
  StT (⟨vw7.heap.size, 0, none⟩ : Addr) 0 LiA27 x8 vw9 fun vw10 =>
  Ld vw10 (⟨vw4.heap.size, 0, none⟩ : Addr) (Value.int .i64) fun (x11 : Int) =>
  Ld vw10 ((⟨vw4.heap.size, 0, none⟩ : Addr).add 1) (Value.int .i64) fun (x12 : Int) =>
  Ld vw10 ((⟨vw4.heap.size, 0, none⟩ : Addr).add 2) (Value.int .i64) fun (x13 : Int) =>
  Ld vw10 ((⟨vw4.heap.size, 0, none⟩ : Addr).add 3) (Value.int .i64) fun (x14 : Int) =>
  Ld vw10 ((⟨vw4.heap.size, 0, none⟩ : Addr).add 4) (Value.int .i64) fun (x15 : Int) =>
  Ld vw10 ((⟨vw4.heap.size, 0, none⟩ : Addr).add 5) (Value.int .i64) fun (x16 : Int) =>
  Ld vw10 (⟨w.heap.size, 0, none⟩ : Addr) (Value.int .i64) fun (x17 : Int) =>
  Ld vw10 ((⟨w.heap.size, 0, none⟩ : Addr).add 1) (Value.int .i64) fun (x18 : Int) =>
  Ld vw10 ((⟨w.heap.size, 0, none⟩ : Addr).add 2) (Value.int .i64) fun (x19 : Int) =>
  Ld vw10 ((⟨w.heap.size, 0, none⟩ : Addr).add 3) (Value.int .i64) fun (x20 : Int) =>
  Ld vw10 ((⟨w.heap.size, 0, none⟩ : Addr).add 4) (Value.int .i64) fun (x21 : Int) =>
  Ld vw10 ((⟨w.heap.size, 0, none⟩ : Addr).add 5) (Value.int .i64) fun (x22 : Int) =>
  C9 (x11, x12, x13, x14, x15, x16) (x17, x18, x19, x20, x21, x22) vw10 fun r23 r24 vw25 =>
    C32 (r23.1, r23.2.1, r23.2.2.1, r23.2.2.2.1, r23.2.2.2.2.1, r23.2.2.2.2.2) r24 vw25 (fun r26 vw27 =>
      Nw vw27 (.cells #[.int .i64 0, .int .i64 0, .int .i64 0, .int .i64 0, .int .i64 0, .int .i64 0] 23) fun vw28 =>
      St vw28 (⟨vw27.heap.size, 0, none⟩ : Addr) (.int .i64 (r26.1)) fun vw29 =>
      St vw29 ((⟨vw27.heap.size, 0, none⟩ : Addr).add 1) (.int .i64 (r26.2.1)) fun vw30 =>
      St vw30 ((⟨vw27.heap.size, 0, none⟩ : Addr).add 2) (.int .i64 (r26.2.2.1)) fun vw31 =>
      St vw31 ((⟨vw27.heap.size, 0, none⟩ : Addr).add 3) (.int .i64 (r26.2.2.2.1)) fun vw32 =>
      St vw32 ((⟨vw27.heap.size, 0, none⟩ : Addr).add 4) (.int .i64 (r26.2.2.2.2.1)) fun vw33 =>
      St vw33 ((⟨vw27.heap.size, 0, none⟩ : Addr).add 5) (.int .i64 (r26.2.2.2.2.2)) fun vw34 =>
      LdT vw34 (⟨w.heap.size, 0, none⟩ : Addr) 0 LiA60 fun (x35 : TyA60) =>
      C28 x35 code3 vw34 (fun r36 vw37 =>
        LdT vw37 (⟨w.heap.size, 0, none⟩ : Addr) 0 LiA60 fun (x38 : TyA60) =>
        C42 x38 r36 vw37 (fun r39 vw40 =>
          Join (S35J1 w code3 vw4 vw5 vw6 r36 R PR) fun (vJ201 : Addr → World → Prop) =>
            ∃ vS202 : World → Prop, vS202 vw40.drew ∧ LdST vS202 ((⟨w.heap.size, 0, none⟩ : Addr).add 30) 0 LiA33 fun (x203 : TyA33) =>
            LdS vS202 (⟨vw27.heap.size, 0, none⟩ : Addr) (Value.int .i64) fun (x204 : Int) =>
            LdS vS202 ((⟨vw27.heap.size, 0, none⟩ : Addr).add 1) (Value.int .i64) fun (x205 : Int) =>
            LdS vS202 ((⟨vw27.heap.size, 0, none⟩ : Addr).add 2) (Value.int .i64) fun (x206 : Int) =>
            LdS vS202 ((⟨vw27.heap.size, 0, none⟩ : Addr).add 3) (Value.int .i64) fun (x207 : Int) =>
            LdS vS202 ((⟨vw27.heap.size, 0, none⟩ : Addr).add 4) (Value.int .i64) fun (x208 : Int) =>
            LdS vS202 ((⟨vw27.heap.size, 0, none⟩ : Addr).add 5) (Value.int .i64) fun (x209 : Int) =>
            LdS vS202 ((⟨vw7.heap.size, 0, none⟩ : Addr).add 5) (Value.int .i64) fun (x210 : Int) =>
            LdS vS202 (⟨vw27.heap.size, 0, none⟩ : Addr) (Value.int .i64) fun (x211 : Int) =>
            LdS vS202 ((⟨vw27.heap.size, 0, none⟩ : Addr).add 1) (Value.int .i64) fun (x212 : Int) =>
            LdS vS202 ((⟨vw27.heap.size, 0, none⟩ : Addr).add 2) (Value.int .i64) fun (x213 : Int) =>
            LdS vS202 ((⟨vw27.heap.size, 0, none⟩ : Addr).add 3) (Value.int .i64) fun (x214 : Int) =>
            LdS vS202 ((⟨vw27.heap.size, 0, none⟩ : Addr).add 4) (Value.int .i64) fun (x215 : Int) =>
            LdS vS202 ((⟨vw27.heap.size, 0, none⟩ : Addr).add 5) (Value.int .i64) fun (x216 : Int) =>
            LdS vS202 ((⟨vw7.heap.size, 0, none⟩ : Addr).add 5) (Value.int .i64) fun (x217 : Int) =>
            LdS vS202 (⟨vw27.heap.size, 0, none⟩ : Addr) (Value.int .i64) fun (x218 : Int) =>
            LdS vS202 ((⟨vw27.heap.size, 0, none⟩ : Addr).add 1) (Value.int .i64) fun (x219 : Int) =>
            LdS vS202 ((⟨vw27.heap.size, 0, none⟩ : Addr).add 2) (Value.int .i64) fun (x220 : Int) =>
            LdS vS202 ((⟨vw27.heap.size, 0, none⟩ : Addr).add 3) (Value.int .i64) fun (x221 : Int) =>
            LdS vS202 ((⟨vw27.heap.size, 0, none⟩ : Addr).add 4) (Value.int .i64) fun (x222 : Int) =>
            LdS vS202 ((⟨vw27.heap.size, 0, none⟩ : Addr).add 5) (Value.int .i64) fun (x223 : Int) =>
            LdS vS202 ((⟨vw7.heap.size, 0, none⟩ : Addr).add 4) (Value.int .i64) fun (x224 : Int) =>
            LdS vS202 ((⟨vw7.heap.size, 0, none⟩ : Addr).add 6) Value.string fun (x225 : ByteArray) =>
            LdS vS202 ((⟨vw7.heap.size, 0, none⟩ : Addr).add 7) (Value.int .i64) fun (x226 : Int) =>
            (C12 x203 code3 vw40.drew fun r227 vw228 =>
                vS202 vw228 ∧ (C10 (x204, x205, x206, x207, x208, x209) (0, x210) vw228 fun r229 r230 vw231 =>
                    vS202 vw231 ∧ (C52 (r229.1, r229.2) r230 vw231 (fun r232 vw233 =>
                        vS202 vw233 ∧ (C10 (x211, x212, x213, x214, x215, x216) (r39, x217) vw233 fun r234 r235 vw236 =>
                            vS202 vw236 ∧ (C52 (r234.1, r234.2) r235 vw236 (fun r237 vw238 =>
                                vS202 vw238 ∧ (C53 (x218, x219, x220, x221, x222, x223) (0, x224) vw238 fun r239 r240 vw241 =>
                                    vS202 vw241 ∧ (C43 r239 r240 vw241 (fun r242 vw243 =>
                                        vS202 vw243 ∧ Nw vw243 (.cells #[.int .i64 0, .string ((⟨#[]⟩ : ByteArray)), .int .i64 0, .int .i64 0, .int .i64 0, .int .i64 0, .int .i64 0, .string ((⟨#[]⟩ : ByteArray)), .int .i64 0] 45) fun vw244 =>
                                        vS202 vw244 ∧ StT (⟨vw243.heap.size, 0, none⟩ : Addr) 0 LiA44 ((code3, r227, r232.1, r232.2, r237.1, r237.2, r242, x225, x226) : TyA44) vw244 fun vw245 =>
                                        vJ201 (⟨vw243.heap.size, 0, none⟩ : Addr) vw245) PR) ∧
                                    (Nw vw241 (.cells #[.int .i64 0, .string ((⟨#[]⟩ : ByteArray)), .int .i64 0, .int .i64 0, .int .i64 0, .int .i64 0, .int .i64 0, .string ((⟨#[]⟩ : ByteArray)), .int .i64 0] 45) fun vw246 =>
                                      vS202 vw246 ∧ C43 r239 r240 vw246 (fun r247 vw248 =>
                                        vS202 vw248 ∧ StT (⟨vw241.heap.size, 0, none⟩ : Addr) 0 LiA44 ((code3, r227, r232.1, r232.2, r237.1, r237.2, r247, x225, x226) : TyA44) vw248 fun vw249 =>
                                        vJ201 (⟨vw241.heap.size, 0, none⟩ : Addr) vw249) PR)) ∧
                                (Nw vw238 (.cells #[.int .i64 0, .string ((⟨#[]⟩ : ByteArray)), .int .i64 0, .int .i64 0, .int .i64 0, .int .i64 0, .int .i64 0, .string ((⟨#[]⟩ : ByteArray)), .int .i64 0] 45) fun vw250 =>
                                  vS202 vw250 ∧ C53 (x218, x219, x220, x221, x222, x223) (0, x224) vw250 fun r251 r252 vw253 =>
                                    vS202 vw253 ∧ C43 r251 r252 vw253 (fun r254 vw255 =>
                                      vS202 vw255 ∧ StT (⟨vw238.heap.size, 0, none⟩ : Addr) 0 LiA44 ((code3, r227, r232.1, r232.2, r237.1, r237.2, r254, x225, x226) : TyA44) vw255 fun vw256 =>
                                      vJ201 (⟨vw238.heap.size, 0, none⟩ : Addr) vw256) PR)) PR) ∧
                            (Nw vw236 (.cells #[.int .i64 0, .string ((⟨#[]⟩ : ByteArray)), .int .i64 0, .int .i64 0, .int .i64 0, .int .i64 0, .int .i64 0, .string ((⟨#[]⟩ : ByteArray)), .int .i64 0] 45) fun vw257 =>
                              vS202 vw257 ∧ C52 (r234.1, r234.2) r235 vw257 (fun r258 vw259 =>
                                vS202 vw259 ∧ C53 (x218, x219, x220, x221, x222, x223) (0, x224) vw259 fun r260 r261 vw262 =>
                                  vS202 vw262 ∧ C43 r260 r261 vw262 (fun r263 vw264 =>
                                    vS202 vw264 ∧ StT (⟨vw236.heap.size, 0, none⟩ : Addr) 0 LiA44 ((code3, r227, r232.1, r232.2, r258.1, r258.2, r263, x225, x226) : TyA44) vw264 fun vw265 =>
                                    vJ201 (⟨vw236.heap.size, 0, none⟩ : Addr) vw265) PR) PR)) ∧
                        (Nw vw233 (.cells #[.int .i64 0, .string ((⟨#[]⟩ : ByteArray)), .int .i64 0, .int .i64 0, .int .i64 0, .int .i64 0, .int .i64 0, .string ((⟨#[]⟩ : ByteArray)), .int .i64 0] 45) fun vw266 =>
                          vS202 vw266 ∧ C10 (x211, x212, x213, x214, x215, x216) (r39, x217) vw266 fun r267 r268 vw269 =>
                            vS202 vw269 ∧ C52 (r267.1, r267.2) r268 vw269 (fun r270 vw271 =>
                              vS202 vw271 ∧ C53 (x218, x219, x220, x221, x222, x223) (0, x224) vw271 fun r272 r273 vw274 =>
                                vS202 vw274 ∧ C43 r272 r273 vw274 (fun r275 vw276 =>
                                  vS202 vw276 ∧ StT (⟨vw233.heap.size, 0, none⟩ : Addr) 0 LiA44 ((code3, r227, r232.1, r232.2, r270.1, r270.2, r275, x225, x226) : TyA44) vw276 fun vw277 =>
                                  vJ201 (⟨vw233.heap.size, 0, none⟩ : Addr) vw277) PR) PR)) PR) ∧
                    (Nw vw231 (.cells #[.int .i64 0, .string ((⟨#[]⟩ : ByteArray)), .int .i64 0, .int .i64 0, .int .i64 0, .int .i64 0, .int .i64 0, .string ((⟨#[]⟩ : ByteArray)), .int .i64 0] 45) fun vw278 =>
                      vS202 vw278 ∧ C52 (r229.1, r229.2) r230 vw278 (fun r279 vw280 =>
                        vS202 vw280 ∧ C10 (x211, x212, x213, x214, x215, x216) (r39, x217) vw280 fun r281 r282 vw283 =>
                          vS202 vw283 ∧ C52 (r281.1, r281.2) r282 vw283 (fun r284 vw285 =>
                            vS202 vw285 ∧ C53 (x218, x219, x220, x221, x222, x223) (0, x224) vw285 fun r286 r287 vw288 =>
                              vS202 vw288 ∧ C43 r286 r287 vw288 (fun r289 vw290 =>
                                vS202 vw290 ∧ StT (⟨vw231.heap.size, 0, none⟩ : Addr) 0 LiA44 ((code3, r227, r279.1, r279.2, r284.1, r284.2, r289, x225, x226) : TyA44) vw290 fun vw291 =>
                                vJ201 (⟨vw231.heap.size, 0, none⟩ : Addr) vw291) PR) PR) PR)) ∧
                (Nw vw228 (.cells #[.int .i64 0, .string ((⟨#[]⟩ : ByteArray)), .int .i64 0, .int .i64 0, .int .i64 0, .int .i64 0, .int .i64 0, .string ((⟨#[]⟩ : ByteArray)), .int .i64 0] 45) fun vw292 =>
                  vS202 vw292 ∧ C10 (x204, x205, x206, x207, x208, x209) (0, x210) vw292 fun r293 r294 vw295 =>
                    vS202 vw295 ∧ C52 (r293.1, r293.2) r294 vw295 (fun r296 vw297 =>
                      vS202 vw297 ∧ C10 (x211, x212, x213, x214, x215, x216) (r39, x217) vw297 fun r298 r299 vw300 =>
                        vS202 vw300 ∧ C52 (r298.1, r298.2) r299 vw300 (fun r301 vw302 =>
                          vS202 vw302 ∧ C53 (x218, x219, x220, x221, x222, x223) (0, x224) vw302 fun r303 r304 vw305 =>
                            vS202 vw305 ∧ C43 r303 r304 vw305 (fun r306 vw307 =>
                              vS202 vw307 ∧ StT (⟨vw228.heap.size, 0, none⟩ : Addr) 0 LiA44 ((code3, r227, r296.1, r296.2, r301.1, r301.2, r306, x225, x226) : TyA44) vw307 fun vw308 =>
                              vJ201 (⟨vw228.heap.size, 0, none⟩ : Addr) vw308) PR) PR) PR)) ∧
            (Nw vw40.drew (.cells #[.int .i64 0, .string ((⟨#[]⟩ : ByteArray)), .int .i64 0, .int .i64 0, .int .i64 0, .int .i64 0, .int .i64 0, .string ((⟨#[]⟩ : ByteArray)), .int .i64 0] 45) fun vw309 =>
              vS202 vw309 ∧ C12 x203 code3 vw309 fun r310 vw311 =>
                vS202 vw311 ∧ C10 (x204, x205, x206, x207, x208, x209) (0, x210) vw311 fun r312 r313 vw314 =>
                  vS202 vw314 ∧ C52 (r312.1, r312.2) r313 vw314 (fun r315 vw316 =>
                    vS202 vw316 ∧ C10 (x211, x212, x213, x214, x215, x216) (r39, x217) vw316 fun r317 r318 vw319 =>
                      vS202 vw319 ∧ C52 (r317.1, r317.2) r318 vw319 (fun r320 vw321 =>
                        vS202 vw321 ∧ C53 (x218, x219, x220, x221, x222, x223) (0, x224) vw321 fun r322 r323 vw324 =>
                          vS202 vw324 ∧ C43 r322 r323 vw324 (fun r325 vw326 =>
                            vS202 vw326 ∧ StT (⟨vw40.drew.heap.size, 0, none⟩ : Addr) 0 LiA44 ((code3, r310, r315.1, r315.2, r320.1, r320.2, r325, x225, x226) : TyA44) vw326 fun vw327 =>
                            vJ201 (⟨vw40.drew.heap.size, 0, none⟩ : Addr) vw327) PR) PR) PR)) PR) PR) PR
def pl35 : Plan := (.seq (.reg .seq) (.seq (.reg .seq) (.seq (.reg .seq) (.seq (.reg .seq) (.seq (.reg .seq) (.join [(12, (.one .addr))] [2, 3, 4, 6, 7, 10] (.reg (.held [36] (.take 0 (.take 1 (.take 2 (.take 3 (.take 5 (.take 6 (.take 7 (.take 8 (.take 13 (.take 14 (.take 15 (.take 16 (.take 17 (.take 22 (.take 23 (.take 24 (.take 25 (.take 30 (.take 31 (.take 32 (.take 33 (.effs 4 none (.effs 9 none (.take 10 (.take 11 (.effs 12 none (.effs 18 none (.take 19 (.take 20 (.effs 21 none (.effs 26 none (.take 27 (.take 28 (.effs 29 none (.take 34 (.eff 35 none (.eff 36 (some []) .done))) (.eff 35 none (.eff 29 none (.take 34 (.eff 36 (some []) .done))))))) (.eff 35 none (.eff 26 none (.take 27 (.take 28 (.eff 29 none (.take 34 (.eff 36 (some []) .done)))))))) (.eff 35 none (.eff 21 none (.eff 26 none (.take 27 (.take 28 (.eff 29 none (.take 34 (.eff 36 (some []) .done))))))))))) (.eff 35 none (.eff 18 none (.take 19 (.take 20 (.eff 21 none (.eff 26 none (.take 27 (.take 28 (.eff 29 none (.take 34 (.eff 36 (some []) .done)))))))))))) (.eff 35 none (.eff 12 none (.eff 18 none (.take 19 (.take 20 (.eff 21 none (.eff 26 none (.take 27 (.take 28 (.eff 29 none (.take 34 (.eff 36 (some []) .done))))))))))))))) (.eff 35 none (.eff 9 none (.take 10 (.take 11 (.eff 12 none (.eff 18 none (.take 19 (.take 20 (.eff 21 none (.eff 26 none (.take 27 (.take 28 (.eff 29 none (.take 34 (.eff 36 (some []) .done)))))))))))))))) (.eff 35 none (.eff 4 none (.eff 9 none (.take 10 (.take 11 (.eff 12 none (.eff 18 none (.take 19 (.take 20 (.eff 21 none (.eff 26 none (.take 27 (.take 28 (.eff 29 none (.take 34 (.eff 36 (some []) .done)))))))))))))))))))))))))))))))))))))))) (.seq (.reg (.held [11] (.take 0 (.take 1 (.take 2 (.take 3 (.take 6 (.eff 4 none (.eff 5 none (.eff 7 none (.take 8 (.take 9 (.eff 10 none (.eff 11 (some [12]) (.eff 12 (some []) .done))))))))))))))) .leaf)))))))
set_option maxRecDepth 100000 in
theorem T35 (h1 : TyA60) (m2 : Int × Int × Int × Int × Int × Int) (code3 : Int) (w : World) (R : (TyA44) → (Int × Int × Int × Int × Int × Int) → World → Prop) (PR : Value → World → Prop) (h : S35 h1 m2 code3 w R PR) : C35 h1 (m2.1, m2.2.1, m2.2.2.1, m2.2.2.2.1, m2.2.2.2.2.1, m2.2.2.2.2.2) code3 w R PR := by
  have e : fnT Tryd.prog ⟨FF, MAY, PR⟩ pl35 Tryd.f35 [.agg (Sig.cells LiA60 h1).toArray, .agg #[.int .i64 (m2.1), .int .i64 (m2.2.1), .int .i64 (m2.2.2.1), .int .i64 (m2.2.2.2.1), .int .i64 (m2.2.2.2.2.1), .int .i64 (m2.2.2.2.2.2)], .int .i64 code3] w [(.agg [(.int .i64), .str, (.int .i64), (.int .i64), (.int .i64), (.int .i64), (.int .i64), .str, (.int .i64)]), (.agg [(.int .i64), (.int .i64), (.int .i64), (.int .i64), (.int .i64), (.int .i64)])] (fun s w => R s.1 s.2 w) = S35 h1 m2 code3 w R PR := by kernel_rfl
  exact (fn_callsP okF okM Tryd.func35 (by kernel_rfl) (by kernel_rfl) (e.mpr h)).mono fun _ _ he => he.elim (fun ⟨s, he, hR⟩ => .inl ⟨s.1, s.2, he, hR⟩) .inr

def S15L1 (w : World) (vw4 : World) (vw5 : World) (r37 : Slc) (R : Slc → (Int × Int × Int × Int × Int × Int) → World → Prop) (PR : Value → World → Prop) (I42 : (Slc × Int) → World → Prop) (s40 : Slc × Int) (vw41 : World) : Prop :=
  Br (decide (s40.2 < ((r37.len : Nat) : Int))) (0 ≤ s40.2 ∧ s40.2 < (r37.len : Nat) ∧ Nn r37.p fun a43 =>
    Ld vw41 (a43.add ((s40.2).toNat * 1)) (Value.int .i64) fun (x44 : Int) =>
    LdT vw41 (⟨w.heap.size, 0, none⟩ : Addr) 0 LiA60 fun (x45 : TyA60) =>
    Ld vw41 (⟨vw4.heap.size, 0, none⟩ : Addr) (Value.int .i64) fun (x46 : Int) =>
    Ld vw41 ((⟨vw4.heap.size, 0, none⟩ : Addr).add 1) (Value.int .i64) fun (x47 : Int) =>
    Ld vw41 ((⟨vw4.heap.size, 0, none⟩ : Addr).add 2) (Value.int .i64) fun (x48 : Int) =>
    Ld vw41 ((⟨vw4.heap.size, 0, none⟩ : Addr).add 3) (Value.int .i64) fun (x49 : Int) =>
    Ld vw41 ((⟨vw4.heap.size, 0, none⟩ : Addr).add 4) (Value.int .i64) fun (x50 : Int) =>
    Ld vw41 ((⟨vw4.heap.size, 0, none⟩ : Addr).add 5) (Value.int .i64) fun (x51 : Int) =>
    C35 x45 (x46, x47, x48, x49, x50, x51) x44 vw41 (fun r52 r53 vw54 =>
      Nw vw54 (.cells #[.int .i64 0, .string ((⟨#[]⟩ : ByteArray)), .int .i64 0, .int .i64 0, .int .i64 0, .int .i64 0, .int .i64 0, .string ((⟨#[]⟩ : ByteArray)), .int .i64 0] 45) fun vw55 =>
      Nw vw55 (.cells #[.int .i64 0, .int .i64 0, .int .i64 0, .int .i64 0, .int .i64 0, .int .i64 0] 23) fun vw56 =>
      StT (⟨vw54.heap.size, 0, none⟩ : Addr) 0 LiA44 r52 vw56 fun vw57 =>
      St vw57 (⟨vw55.heap.size, 0, none⟩ : Addr) (.int .i64 (r53.1)) fun vw58 =>
      St vw58 ((⟨vw55.heap.size, 0, none⟩ : Addr).add 1) (.int .i64 (r53.2.1)) fun vw59 =>
      St vw59 ((⟨vw55.heap.size, 0, none⟩ : Addr).add 2) (.int .i64 (r53.2.2.1)) fun vw60 =>
      St vw60 ((⟨vw55.heap.size, 0, none⟩ : Addr).add 3) (.int .i64 (r53.2.2.2.1)) fun vw61 =>
      St vw61 ((⟨vw55.heap.size, 0, none⟩ : Addr).add 4) (.int .i64 (r53.2.2.2.2.1)) fun vw62 =>
      St vw62 ((⟨vw55.heap.size, 0, none⟩ : Addr).add 5) (.int .i64 (r53.2.2.2.2.2)) fun vw63 =>
      LdT vw63 (⟨vw54.heap.size, 0, none⟩ : Addr) 0 LiA44 fun (x64 : TyA44) =>
      Nw vw63 (.cells #[.int .i64 (x64.1), .string x64.2.1, .int .i64 (x64.2.2.1), .int .i64 (x64.2.2.2.1), .int .i64 (x64.2.2.2.2.1), .int .i64 (x64.2.2.2.2.2.1), .int .i64 (x64.2.2.2.2.2.2.1), .string x64.2.2.2.2.2.2.2.1, .int .i64 (x64.2.2.2.2.2.2.2.2)] 45) fun vw65 =>
      Rn Tryd.prog (Builtin.append_ #[37, 37] 37 #[Slc.v s40.1, Slc.v ((⟨some ⟨vw63.heap.size, 0, none⟩, 1, 1⟩ : Slc))]) vw65 Slc.v fun (x66 : Slc) vw67 =>
      Ld vw67 (⟨vw55.heap.size, 0, none⟩ : Addr) (Value.int .i64) fun (x68 : Int) =>
      Ld vw67 ((⟨vw55.heap.size, 0, none⟩ : Addr).add 1) (Value.int .i64) fun (x69 : Int) =>
      Ld vw67 ((⟨vw55.heap.size, 0, none⟩ : Addr).add 2) (Value.int .i64) fun (x70 : Int) =>
      Ld vw67 ((⟨vw55.heap.size, 0, none⟩ : Addr).add 3) (Value.int .i64) fun (x71 : Int) =>
      Ld vw67 ((⟨vw55.heap.size, 0, none⟩ : Addr).add 4) (Value.int .i64) fun (x72 : Int) =>
      Ld vw67 ((⟨vw55.heap.size, 0, none⟩ : Addr).add 5) (Value.int .i64) fun (x73 : Int) =>
      St vw67 (⟨vw4.heap.size, 0, none⟩ : Addr) (.int .i64 x68) fun vw74 =>
      St vw74 ((⟨vw4.heap.size, 0, none⟩ : Addr).add 1) (.int .i64 x69) fun vw75 =>
      St vw75 ((⟨vw4.heap.size, 0, none⟩ : Addr).add 2) (.int .i64 x70) fun vw76 =>
      St vw76 ((⟨vw4.heap.size, 0, none⟩ : Addr).add 3) (.int .i64 x71) fun vw77 =>
      St vw77 ((⟨vw4.heap.size, 0, none⟩ : Addr).add 4) (.int .i64 x72) fun vw78 =>
      St vw78 ((⟨vw4.heap.size, 0, none⟩ : Addr).add 5) (.int .i64 x73) fun vw79 =>
      I42 (x66, IntKind.i64.wrap (s40.2 + 1)) vw79) PR) (Ld vw41.drew (⟨vw4.heap.size, 0, none⟩ : Addr) (Value.int .i64) fun (x80 : Int) =>
    Ld vw41.drew ((⟨vw4.heap.size, 0, none⟩ : Addr).add 1) (Value.int .i64) fun (x81 : Int) =>
    Ld vw41.drew ((⟨vw4.heap.size, 0, none⟩ : Addr).add 2) (Value.int .i64) fun (x82 : Int) =>
    Ld vw41.drew ((⟨vw4.heap.size, 0, none⟩ : Addr).add 3) (Value.int .i64) fun (x83 : Int) =>
    Ld vw41.drew ((⟨vw4.heap.size, 0, none⟩ : Addr).add 4) (Value.int .i64) fun (x84 : Int) =>
    Ld vw41.drew ((⟨vw4.heap.size, 0, none⟩ : Addr).add 5) (Value.int .i64) fun (x85 : Int) =>
    St vw41.drew (⟨vw5.heap.size, 0, none⟩ : Addr) (.int .i64 x80) fun vw86 =>
    St vw86 ((⟨vw5.heap.size, 0, none⟩ : Addr).add 1) (.int .i64 x81) fun vw87 =>
    St vw87 ((⟨vw5.heap.size, 0, none⟩ : Addr).add 2) (.int .i64 x82) fun vw88 =>
    St vw88 ((⟨vw5.heap.size, 0, none⟩ : Addr).add 3) (.int .i64 x83) fun vw89 =>
    St vw89 ((⟨vw5.heap.size, 0, none⟩ : Addr).add 4) (.int .i64 x84) fun vw90 =>
    St vw90 ((⟨vw5.heap.size, 0, none⟩ : Addr).add 5) (.int .i64 x85) fun vw91 =>
    Ld vw91 (⟨vw5.heap.size, 0, none⟩ : Addr) (Value.int .i64) fun (x92 : Int) =>
    Ld vw91 ((⟨vw5.heap.size, 0, none⟩ : Addr).add 1) (Value.int .i64) fun (x93 : Int) =>
    Ld vw91 ((⟨vw5.heap.size, 0, none⟩ : Addr).add 2) (Value.int .i64) fun (x94 : Int) =>
    Ld vw91 ((⟨vw5.heap.size, 0, none⟩ : Addr).add 3) (Value.int .i64) fun (x95 : Int) =>
    Ld vw91 ((⟨vw5.heap.size, 0, none⟩ : Addr).add 4) (Value.int .i64) fun (x96 : Int) =>
    Ld vw91 ((⟨vw5.heap.size, 0, none⟩ : Addr).add 5) (Value.int .i64) fun (x97 : Int) =>
    R s40.1 (x92, x93, x94, x95, x96, x97) vw91)
/-- (foliant/show.hand).text -/
def S15 (h1 : TyA60) (m2 : Int × Int × Int × Int × Int × Int) (s3 : ByteArray) (w : World) (R : Slc → (Int × Int × Int × Int × Int × Int) → World → Prop) (PR : Value → World → Prop) : Prop :=
  Nw w (.cells (Sig.cells LiA60 h1).toArray 61) fun vw4 =>
  Nw vw4 (.cells #[.int .i64 (m2.1), .int .i64 (m2.2.1), .int .i64 (m2.2.2.1), .int .i64 (m2.2.2.2.1), .int .i64 (m2.2.2.2.2.1), .int .i64 (m2.2.2.2.2.2)] 23) fun vw5 =>
  Nw vw5 (.cells #[.int .i64 0, .int .i64 0, .int .i64 0, .int .i64 0, .int .i64 0, .int .i64 0] 23) fun vw6 =>
  LdT vw6 (⟨w.heap.size, 0, none⟩ : Addr) 0 LiA29 fun (x7 : TyA29) =>
  C24 x7 vw6 (fun vw8 =>
    ∃ vS9 : World → Prop, vS9 vw8.drew ∧ LdS vS9 (⟨vw4.heap.size, 0, none⟩ : Addr) (Value.int .i64) fun (x10 : Int) =>
    LdS vS9 ((⟨vw4.heap.size, 0, none⟩ : Addr).add 1) (Value.int .i64) fun (x11 : Int) =>
    LdS vS9 ((⟨vw4.heap.size, 0, none⟩ : Addr).add 2) (Value.int .i64) fun (x12 : Int) =>
    LdS vS9 ((⟨vw4.heap.size, 0, none⟩ : Addr).add 3) (Value.int .i64) fun (x13 : Int) =>
    LdS vS9 ((⟨vw4.heap.size, 0, none⟩ : Addr).add 4) (Value.int .i64) fun (x14 : Int) =>
    LdS vS9 ((⟨vw4.heap.size, 0, none⟩ : Addr).add 5) (Value.int .i64) fun (x15 : Int) =>
    LdS vS9 (⟨vw4.heap.size, 0, none⟩ : Addr) (Value.int .i64) fun (x16 : Int) =>
    LdS vS9 ((⟨vw4.heap.size, 0, none⟩ : Addr).add 1) (Value.int .i64) fun (x17 : Int) =>
    LdS vS9 ((⟨vw4.heap.size, 0, none⟩ : Addr).add 2) (Value.int .i64) fun (x18 : Int) =>
    LdS vS9 ((⟨vw4.heap.size, 0, none⟩ : Addr).add 3) (Value.int .i64) fun (x19 : Int) =>
    LdS vS9 ((⟨vw4.heap.size, 0, none⟩ : Addr).add 4) (Value.int .i64) fun (x20 : Int) =>
    LdS vS9 ((⟨vw4.heap.size, 0, none⟩ : Addr).add 5) (Value.int .i64) fun (x21 : Int) =>
    C19 (x16, x17, x18, x19, x20, x21) vw8.drew fun r22 vw23 =>
      vS9 vw23 ∧ C32 (x10, x11, x12, x13, x14, x15) r22 vw23 (fun r24 vw25 =>
        ∃ vS26 : World → Prop, vS26 vw25.drew ∧ LdST vS26 ((⟨w.heap.size, 0, none⟩ : Addr).add 30) 0 LiA33 fun (x27 : TyA33) =>
        LdST vS26 ((⟨w.heap.size, 0, none⟩ : Addr).add 30) 0 LiA33 fun (x28 : TyA33) =>
        C26 x28 vw25.drew fun r29 vw30 =>
          vS26 vw30 ∧ C25 x27 r29 vw30 (fun r31 vw32 =>
            LdT vw32 ((⟨w.heap.size, 0, none⟩ : Addr).add 30) 0 LiA33 fun (x33 : TyA33) =>
            C8 x33 s3 vw32 fun r34 r35 vw36 =>
              C33 r34 r35 vw36 (fun r37 vw38 =>
                C34 (decide (((r37.len : Nat) : Int) ≤ 16384)) 6 vw38 (fun vw39 =>
                  Lp (σ := Slc × Int) (S15L1 w vw4 vw5 r37 R PR) ((⟨none, 0, 0⟩ : Slc), 0) vw39) PR) PR) PR) PR) PR
def pl15 : Plan := (.seq (.reg .seq) (.seq (.reg .seq) (.seq (.reg (.held [3] (.take 0 (.take 1 (.eff 2 none (.eff 3 (some []) .done)))))) (.seq (.reg (.held [5] (.take 0 (.take 1 (.take 2 (.take 3 (.eff 4 none (.eff 5 (some []) .done)))))))) (.seq (.reg .seq) (.seq (.reg .seq) (.seq (.reg .seq) (.seq (.seq (.reg .seq) (.block (.loop [(9, (.one .slc)), (40, (.one (.int .i64)))] [3, 4, 7, 38, 39] (.seq (.reg .seq) (.seq (.cond .leaf .leaf) (.seq (.block (.seq (.reg .seq) (.seq (.reg .seq) (.seq (.reg .seq) (.reg .seq))))) (.reg .seq))))))) (.seq (.reg (.tail 3)) .leaf)))))))))
set_option maxRecDepth 100000 in
theorem T15 (h1 : TyA60) (m2 : Int × Int × Int × Int × Int × Int) (s3 : ByteArray) (w : World) (R : Slc → (Int × Int × Int × Int × Int × Int) → World → Prop) (PR : Value → World → Prop) (h : S15 h1 m2 s3 w R PR) : C15 h1 (m2.1, m2.2.1, m2.2.2.1, m2.2.2.2.1, m2.2.2.2.2.1, m2.2.2.2.2.2) s3 w R PR := by
  have e : fnT Tryd.prog ⟨FF, MAY, PR⟩ pl15 Tryd.f15 [.agg (Sig.cells LiA60 h1).toArray, .agg #[.int .i64 (m2.1), .int .i64 (m2.2.1), .int .i64 (m2.2.2.1), .int .i64 (m2.2.2.2.1), .int .i64 (m2.2.2.2.2.1), .int .i64 (m2.2.2.2.2.2)], .string s3] w [(.one .slc), (.agg [(.int .i64), (.int .i64), (.int .i64), (.int .i64), (.int .i64), (.int .i64)])] (fun s w => R s.1 s.2 w) = S15 h1 m2 s3 w R PR := by kernel_rfl
  exact (fn_callsP okF okM Tryd.func15 (by kernel_rfl) (by kernel_rfl) (e.mpr h)).mono fun _ _ he => he.elim (fun ⟨s, he, hR⟩ => .inl ⟨s.1, s.2, he, hR⟩) .inr

def S6P (vw7 : World) (vw8 : World) (vw9 : World) (R : Slc → (Int × Int × Int × Int × Int × Int) → Int → World → Prop) (x12 : Value) (vw11 : World) : Prop :=
  CD13 (⟨vw9.heap.size, 0, none⟩ : Addr) (⟨vw7.heap.size, 0, none⟩ : Addr) (⟨vw8.heap.size, 0, none⟩ : Addr) (some x12) vw11 fun vw13 =>
    Ld vw13 (⟨vw7.heap.size, 0, none⟩ : Addr) Slc.v fun (x14 : Slc) =>
    Ld vw13 (⟨vw8.heap.size, 0, none⟩ : Addr) (Value.int .i64) fun (x15 : Int) =>
    Ld vw13 ((⟨vw8.heap.size, 0, none⟩ : Addr).add 1) (Value.int .i64) fun (x16 : Int) =>
    Ld vw13 ((⟨vw8.heap.size, 0, none⟩ : Addr).add 2) (Value.int .i64) fun (x17 : Int) =>
    Ld vw13 ((⟨vw8.heap.size, 0, none⟩ : Addr).add 3) (Value.int .i64) fun (x18 : Int) =>
    Ld vw13 ((⟨vw8.heap.size, 0, none⟩ : Addr).add 4) (Value.int .i64) fun (x19 : Int) =>
    Ld vw13 ((⟨vw8.heap.size, 0, none⟩ : Addr).add 5) (Value.int .i64) fun (x20 : Int) =>
    Ld vw13 (⟨vw9.heap.size, 0, none⟩ : Addr) (Value.int .i64) fun (x21 : Int) =>
    R x14 (x15, x16, x17, x18, x19, x20) x21 vw13
/-- foliant/show.String -/
def S6 (g1 : TyA29) (m2 : Int × Int × Int × Int × Int × Int) (f3 : TyA33) (s4 : ByteArray) (w : World) (R : Slc → (Int × Int × Int × Int × Int × Int) → Int → World → Prop) : Prop :=
  Nw w (.cells (Sig.cells LiA29 g1).toArray 30) fun vw5 =>
  Nw vw5 (.cells #[.int .i64 (m2.1), .int .i64 (m2.2.1), .int .i64 (m2.2.2.1), .int .i64 (m2.2.2.2.1), .int .i64 (m2.2.2.2.2.1), .int .i64 (m2.2.2.2.2.2)] 23) fun vw6 =>
  Nw vw6 (.cells (Sig.cells LiA33 f3).toArray 34) fun vw7 =>
  Nw vw7 (.cells #[Slc.v ((⟨none, 0, 0⟩ : Slc))] 37) fun vw8 =>
  Nw vw8 (.cells #[.int .i64 0, .int .i64 0, .int .i64 0, .int .i64 0, .int .i64 0, .int .i64 0] 23) fun vw9 =>
  Nw vw9 (.cells #[.int .i64 0] 38) fun vw10 =>
  LdT vw10 (⟨w.heap.size, 0, none⟩ : Addr) 0 LiA29 fun (x22 : TyA29) =>
  LdT vw10 (⟨vw6.heap.size, 0, none⟩ : Addr) 0 LiA33 fun (x23 : TyA33) =>
  Ld vw10 (⟨vw5.heap.size, 0, none⟩ : Addr) (Value.int .i64) fun (x24 : Int) =>
  Ld vw10 ((⟨vw5.heap.size, 0, none⟩ : Addr).add 1) (Value.int .i64) fun (x25 : Int) =>
  Ld vw10 ((⟨vw5.heap.size, 0, none⟩ : Addr).add 2) (Value.int .i64) fun (x26 : Int) =>
  Ld vw10 ((⟨vw5.heap.size, 0, none⟩ : Addr).add 3) (Value.int .i64) fun (x27 : Int) =>
  Ld vw10 ((⟨vw5.heap.size, 0, none⟩ : Addr).add 4) (Value.int .i64) fun (x28 : Int) =>
  Ld vw10 ((⟨vw5.heap.size, 0, none⟩ : Addr).add 5) (Value.int .i64) fun (x29 : Int) =>
  C15 ((x22.1, x22.2.1, x22.2.2.1, x22.2.2.2.1, x22.2.2.2.2.1, x22.2.2.2.2.2.1, x22.2.2.2.2.2.2.1, x22.2.2.2.2.2.2.2.1, x22.2.2.2.2.2.2.2.2.1, x22.2.2.2.2.2.2.2.2.2.1, x22.2.2.2.2.2.2.2.2.2.2.1, x22.2.2.2.2.2.2.2.2.2.2.2.1, x22.2.2.2.2.2.2.2.2.2.2.2.2.1, x22.2.2.2.2.2.2.2.2.2.2.2.2.2.1, x22.2.2.2.2.2.2.2.2.2.2.2.2.2.2.1, x22.2.2.2.2.2.2.2.2.2.2.2.2.2.2.2.1, x22.2.2.2.2.2.2.2.2.2.2.2.2.2.2.2.2.1, x22.2.2.2.2.2.2.2.2.2.2.2.2.2.2.2.2.2.1, x22.2.2.2.2.2.2.2.2.2.2.2.2.2.2.2.2.2.2.1, x22.2.2.2.2.2.2.2.2.2.2.2.2.2.2.2.2.2.2.2.1, x22.2.2.2.2.2.2.2.2.2.2.2.2.2.2.2.2.2.2.2.2.1, x22.2.2.2.2.2.2.2.2.2.2.2.2.2.2.2.2.2.2.2.2.2.1, x22.2.2.2.2.2.2.2.2.2.2.2.2.2.2.2.2.2.2.2.2.2.2.1, x22.2.2.2.2.2.2.2.2.2.2.2.2.2.2.2.2.2.2.2.2.2.2.2.1, x22.2.2.2.2.2.2.2.2.2.2.2.2.2.2.2.2.2.2.2.2.2.2.2.2.1, x22.2.2.2.2.2.2.2.2.2.2.2.2.2.2.2.2.2.2.2.2.2.2.2.2.2.1, x22.2.2.2.2.2.2.2.2.2.2.2.2.2.2.2.2.2.2.2.2.2.2.2.2.2.2.1, x22.2.2.2.2.2.2.2.2.2.2.2.2.2.2.2.2.2.2.2.2.2.2.2.2.2.2.2.1, x22.2.2.2.2.2.2.2.2.2.2.2.2.2.2.2.2.2.2.2.2.2.2.2.2.2.2.2.2.1, x22.2.2.2.2.2.2.2.2.2.2.2.2.2.2.2.2.2.2.2.2.2.2.2.2.2.2.2.2.2, x23.1, x23.2.1, x23.2.2.1, x23.2.2.2.1, x23.2.2.2.2.1, x23.2.2.2.2.2.1, x23.2.2.2.2.2.2) : TyA60) (x24, x25, x26, x27, x28, x29) s4 vw10 (fun r30 r31 vw32 =>
    St vw32 (⟨vw7.heap.size, 0, none⟩ : Addr) (Slc.v r30) fun vw33 =>
    St vw33 (⟨vw8.heap.size, 0, none⟩ : Addr) (.int .i64 (r31.1)) fun vw34 =>
    St vw34 ((⟨vw8.heap.size, 0, none⟩ : Addr).add 1) (.int .i64 (r31.2.1)) fun vw35 =>
    St vw35 ((⟨vw8.heap.size, 0, none⟩ : Addr).add 2) (.int .i64 (r31.2.2.1)) fun vw36 =>
    St vw36 ((⟨vw8.heap.size, 0, none⟩ : Addr).add 3) (.int .i64 (r31.2.2.2.1)) fun vw37 =>
    St vw37 ((⟨vw8.heap.size, 0, none⟩ : Addr).add 4) (.int .i64 (r31.2.2.2.2.1)) fun vw38 =>
    St vw38 ((⟨vw8.heap.size, 0, none⟩ : Addr).add 5) (.int .i64 (r31.2.2.2.2.2)) fun vw39 =>
    ∃ vS40 : World → Prop, vS40 vw39.drew ∧ LdS vS40 (⟨vw7.heap.size, 0, none⟩ : Addr) Slc.v fun (x41 : Slc) =>
    LdS vS40 (⟨vw8.heap.size, 0, none⟩ : Addr) (Value.int .i64) fun (x42 : Int) =>
    LdS vS40 ((⟨vw8.heap.size, 0, none⟩ : Addr).add 1) (Value.int .i64) fun (x43 : Int) =>
    LdS vS40 ((⟨vw8.heap.size, 0, none⟩ : Addr).add 2) (Value.int .i64) fun (x44 : Int) =>
    LdS vS40 ((⟨vw8.heap.size, 0, none⟩ : Addr).add 3) (Value.int .i64) fun (x45 : Int) =>
    LdS vS40 ((⟨vw8.heap.size, 0, none⟩ : Addr).add 4) (Value.int .i64) fun (x46 : Int) =>
    LdS vS40 ((⟨vw8.heap.size, 0, none⟩ : Addr).add 5) (Value.int .i64) fun (x47 : Int) =>
    St vw39.drew (⟨vw7.heap.size, 0, none⟩ : Addr) (Slc.v x41) fun vw48 =>
    vS40 vw48 ∧ St vw48 (⟨vw8.heap.size, 0, none⟩ : Addr) (.int .i64 x42) fun vw49 =>
    St vw49 ((⟨vw8.heap.size, 0, none⟩ : Addr).add 1) (.int .i64 x43) fun vw50 =>
    St vw50 ((⟨vw8.heap.size, 0, none⟩ : Addr).add 2) (.int .i64 x44) fun vw51 =>
    St vw51 ((⟨vw8.heap.size, 0, none⟩ : Addr).add 3) (.int .i64 x45) fun vw52 =>
    St vw52 ((⟨vw8.heap.size, 0, none⟩ : Addr).add 4) (.int .i64 x46) fun vw53 =>
    St vw53 ((⟨vw8.heap.size, 0, none⟩ : Addr).add 5) (.int .i64 x47) fun vw54 =>
    St vw54 (⟨vw9.heap.size, 0, none⟩ : Addr) (.int .i64 0) fun vw55 =>
    CD13 (⟨vw9.heap.size, 0, none⟩ : Addr) (⟨vw7.heap.size, 0, none⟩ : Addr) (⟨vw8.heap.size, 0, none⟩ : Addr) none vw55 fun vw56 =>
      Ld vw56 (⟨vw7.heap.size, 0, none⟩ : Addr) Slc.v fun (x57 : Slc) =>
      Ld vw56 (⟨vw8.heap.size, 0, none⟩ : Addr) (Value.int .i64) fun (x58 : Int) =>
      Ld vw56 ((⟨vw8.heap.size, 0, none⟩ : Addr).add 1) (Value.int .i64) fun (x59 : Int) =>
      Ld vw56 ((⟨vw8.heap.size, 0, none⟩ : Addr).add 2) (Value.int .i64) fun (x60 : Int) =>
      Ld vw56 ((⟨vw8.heap.size, 0, none⟩ : Addr).add 3) (Value.int .i64) fun (x61 : Int) =>
      Ld vw56 ((⟨vw8.heap.size, 0, none⟩ : Addr).add 4) (Value.int .i64) fun (x62 : Int) =>
      Ld vw56 ((⟨vw8.heap.size, 0, none⟩ : Addr).add 5) (Value.int .i64) fun (x63 : Int) =>
      Ld vw56 (⟨vw9.heap.size, 0, none⟩ : Addr) (Value.int .i64) fun (x64 : Int) =>
      R x57 (x58, x59, x60, x61, x62, x63) x64 vw56) (S6P vw7 vw8 vw9 R)
def pl6 : DPlan := (.pre (.reg .seq) (.here [8, 9, 10] (.seq (.reg .seq) (.seq (.reg (.held [3] (.take 0 (.take 1 (.eff 2 none (.eff 3 (some [4]) (.eff 4 (some []) .done))))))) .leaf))))
set_option maxRecDepth 100000 in
theorem T6 (g1 : TyA29) (m2 : Int × Int × Int × Int × Int × Int) (f3 : TyA33) (s4 : ByteArray) (w : World) (R : Slc → (Int × Int × Int × Int × Int × Int) → Int → World → Prop) (h : S6 g1 m2 f3 s4 w R) : C6 g1 (m2.1, m2.2.1, m2.2.2.1, m2.2.2.2.1, m2.2.2.2.2.1, m2.2.2.2.2.2) f3 s4 w R := by
  have e : fnTD Tryd.prog FF MAY (fun _ _ => False) pl6 Tryd.f6 [.agg (Sig.cells LiA29 g1).toArray, .agg #[.int .i64 (m2.1), .int .i64 (m2.2.1), .int .i64 (m2.2.2.1), .int .i64 (m2.2.2.2.1), .int .i64 (m2.2.2.2.2.1), .int .i64 (m2.2.2.2.2.2)], .agg (Sig.cells LiA33 f3).toArray, .string s4] w [(.one .slc), (.agg [(.int .i64), (.int .i64), (.int .i64), (.int .i64), (.int .i64), (.int .i64)]), (.one (.int .i64))] (fun s w => R s.1 s.2.1 s.2.2 w) = S6 g1 m2 f3 s4 w R := by kernel_rfl
  exact (fnD_calls okF okM Tryd.func6 (by kernel_rfl) (by kernel_rfl) (e.mpr h)).mono fun _ _ ⟨s, he, hR⟩ => ⟨s.1, s.2.1, s.2.2, he, hR⟩

/-- foliant/show.Step$1 -/
def S23_nil (c1 : Addr) (c2 : Addr) (w : World) (R : World → Prop) : Prop :=
  C14 Value.nilIface (some c1) w (fun vw3 =>
    Ld vw3 c1 (Value.int .i64) fun (x4 : Int) =>
    Br (x4 != 0) (St vw3 c2 (.int .i64 0) fun vw5 =>
      R vw5) (R vw3)) (fun _ _ => False)
def pl23_nil : Plan := (.seq (.reg .seq) (.cond (.reg .seq) .leaf))
set_option maxRecDepth 100000 in
theorem T23_nil (c1 : Addr) (c2 : Addr) (w : World) (R : World → Prop) (h : S23_nil c1 c2 w R) : CD23 c1 c2 none w R := by
  have e : fnTS Tryd.prog FF MAY pl23_nil Tryd.f23 [.pointer (some c1), .pointer (some c2)] none w R = S23_nil c1 c2 w R := by kernel_rfl
  exact fnS_calls okF okM Tryd.func23 (by kernel_rfl) (by kernel_rfl) (e.mpr h)

/-- foliant/show.Step$1 -/
def S23_T78 (c1 : Addr) (c2 : Addr) (u3 : Int) (w : World) (R : World → Prop) : Prop :=
  C14 (.iface 78 (.agg #[.int .i64 u3])) (some c1) w (fun vw4 =>
    Ld vw4 c1 (Value.int .i64) fun (x5 : Int) =>
    Br (x5 != 0) (St vw4 c2 (.int .i64 0) fun vw6 =>
      R vw6) (R vw4)) (fun _ _ => False)
def pl23_T78 : Plan := (.seq (.reg .seq) (.cond (.reg .seq) .leaf))
set_option maxRecDepth 100000 in
theorem T23_T78 (c1 : Addr) (c2 : Addr) (u3 : Int) (w : World) (R : World → Prop) (h : S23_T78 c1 c2 u3 w R) : CD23 c1 c2 (some (.iface 78 (.agg #[.int .i64 u3]))) w R := by
  have e : fnTS Tryd.prog FF MAY pl23_T78 Tryd.f23 [.pointer (some c1), .pointer (some c2)] (some (.iface 78 (.agg #[.int .i64 u3]))) w R = S23_T78 c1 c2 u3 w R := by kernel_rfl
  exact fnS_calls okF okM Tryd.func23 (by kernel_rfl) (by kernel_rfl) (e.mpr h)

def S11P (vw5 : World) (vw6 : World) (R : Int → Int → World → Prop) (x9 : Value) (vw8 : World) : Prop :=
  CD23 (⟨vw6.heap.size, 0, none⟩ : Addr) (⟨vw5.heap.size, 0, none⟩ : Addr) (some x9) vw8 fun vw10 =>
    Ld vw10 (⟨vw5.heap.size, 0, none⟩ : Addr) (Value.int .i64) fun (x11 : Int) =>
    Ld vw10 (⟨vw6.heap.size, 0, none⟩ : Addr) (Value.int .i64) fun (x12 : Int) =>
    R x11 x12 vw10
/-- foliant/show.Step -/
def S11 (g1 : TyA29) (f2 : TyA33) (code3 : Int) (w : World) (R : Int → Int → World → Prop) : Prop :=
  Nw w (.cells (Sig.cells LiA29 g1).toArray 30) fun vw4 =>
  Nw vw4 (.cells (Sig.cells LiA33 f2).toArray 34) fun vw5 =>
  Nw vw5 (.cells #[.int .i64 0] 2) fun vw6 =>
  Nw vw6 (.cells #[.int .i64 0] 38) fun vw7 =>
  LdT vw7 (⟨w.heap.size, 0, none⟩ : Addr) 0 LiA29 fun (x13 : TyA29) =>
  C24 x13 vw7 (fun vw14 =>
    ∃ vS15 : World → Prop, vS15 vw14.drew ∧ LdST vS15 (⟨vw4.heap.size, 0, none⟩ : Addr) 0 LiA33 fun (x16 : TyA33) =>
    LdST vS15 (⟨vw4.heap.size, 0, none⟩ : Addr) 0 LiA33 fun (x17 : TyA33) =>
    C26 x17 vw14.drew fun r18 vw19 =>
      vS15 vw19 ∧ C25 x16 r18 vw19 (fun r20 vw21 =>
        LdT vw21 (⟨w.heap.size, 0, none⟩ : Addr) 0 LiA29 fun (x22 : TyA29) =>
        LdT vw21 (⟨vw4.heap.size, 0, none⟩ : Addr) 0 LiA33 fun (x23 : TyA33) =>
        Nw vw21 (.cells #[.int .i64 0, .int .i64 0, .int .i64 0, .int .i64 0, .int .i64 0, .int .i64 0, .int .i64 0, .int .i64 0, .int .i64 0, .int .i64 0, Slc.v ((⟨none, 0, 0⟩ : Slc)), .int .i64 0, .int .i64 0, .int .i64 0, .int .i64 0, .int .i64 0, .int .i64 0, .int .i64 0, .int .i64 0, .int .i64 0, .int .i64 0, .int .i64 0, .int .i64 0, .int .i64 0, .int .i64 0, .int .i64 0, .int .i64 0, .int .i64 0, .string ((⟨#[]⟩ : ByteArray)), .int .i64 0, .string ((⟨#[]⟩ : ByteArray)), .bool false, .int .i64 0, Slc.v ((⟨none, 0, 0⟩ : Slc)), .int .i64 0, Slc.v ((⟨none, 0, 0⟩ : Slc)), Slc.v ((⟨none, 0, 0⟩ : Slc))] 61) fun vw24 =>
        StT (⟨vw21.heap.size, 0, none⟩ : Addr) 0 LiA60 ((x22.1, x22.2.1, x22.2.2.1, x22.2.2.2.1, x22.2.2.2.2.1, x22.2.2.2.2.2.1, x22.2.2.2.2.2.2.1, x22.2.2.2.2.2.2.2.1, x22.2.2.2.2.2.2.2.2.1, x22.2.2.2.2.2.2.2.2.2.1, x22.2.2.2.2.2.2.2.2.2.2.1, x22.2.2.2.2.2.2.2.2.2.2.2.1, x22.2.2.2.2.2.2.2.2.2.2.2.2.1, x22.2.2.2.2.2.2.2.2.2.2.2.2.2.1, x22.2.2.2.2.2.2.2.2.2.2.2.2.2.2.1, x22.2.2.2.2.2.2.2.2.2.2.2.2.2.2.2.1, x22.2.2.2.2.2.2.2.2.2.2.2.2.2.2.2.2.1, x22.2.2.2.2.2.2.2.2.2.2.2.2.2.2.2.2.2.1, x22.2.2.2.2.2.2.2.2.2.2.2.2.2.2.2.2.2.2.1, x22.2.2.2.2.2.2.2.2.2.2.2.2.2.2.2.2.2.2.2.1, x22.2.2.2.2.2.2.2.2.2.2.2.2.2.2.2.2.2.2.2.2.1, x22.2.2.2.2.2.2.2.2.2.2.2.2.2.2.2.2.2.2.2.2.2.1, x22.2.2.2.2.2.2.2.2.2.2.2.2.2.2.2.2.2.2.2.2.2.2.1, x22.2.2.2.2.2.2.2.2.2.2.2.2.2.2.2.2.2.2.2.2.2.2.2.1, x22.2.2.2.2.2.2.2.2.2.2.2.2.2.2.2.2.2.2.2.2.2.2.2.2.1, x22.2.2.2.2.2.2.2.2.2.2.2.2.2.2.2.2.2.2.2.2.2.2.2.2.2.1, x22.2.2.2.2.2.2.2.2.2.2.2.2.2.2.2.2.2.2.2.2.2.2.2.2.2.2.1, x22.2.2.2.2.2.2.2.2.2.2.2.2.2.2.2.2.2.2.2.2.2.2.2.2.2.2.2.1, x22.2.2.2.2.2.2.2.2.2.2.2.2.2.2.2.2.2.2.2.2.2.2.2.2.2.2.2.2.1, x22.2.2.2.2.2.2.2.2.2.2.2.2.2.2.2.2.2.2.2.2.2.2.2.2.2.2.2.2.2, x23.1, x23.2.1, x23.2.2.1, x23.2.2.2.1, x23.2.2.2.2.1, x23.2.2.2.2.2.1, x23.2.2.2.2.2.2) : TyA60) vw24 fun vw25 =>
        ∃ vS26 : World → Prop, vS26 vw25.drew ∧ LdST vS26 (⟨vw21.heap.size, 0, none⟩ : Addr) 0 LiA60 fun (x27 : TyA60) =>
        LdST vS26 (⟨vw21.heap.size, 0, none⟩ : Addr) 0 LiA60 fun (x28 : TyA60) =>
        C28 x28 code3 vw25.drew (fun r29 vw30 =>
          vS26 vw30 ∧ C27 x27 code3 r29 vw30 (fun r31 vw32 =>
            St vw32 (⟨vw5.heap.size, 0, none⟩ : Addr) (.int .i64 r31) fun vw33 =>
            St vw33 (⟨vw6.heap.size, 0, none⟩ : Addr) (.int .i64 0) fun vw34 =>
            CD23 (⟨vw6.heap.size, 0, none⟩ : Addr) (⟨vw5.heap.size, 0, none⟩ : Addr) none vw34 fun vw35 =>
              Ld vw35 (⟨vw5.heap.size, 0, none⟩ : Addr) (Value.int .i64) fun (x36 : Int) =>
              Ld vw35 (⟨vw6.heap.size, 0, none⟩ : Addr) (Value.int .i64) fun (x37 : Int) =>
              R x36 x37 vw35) (S11P vw5 vw6 R)) (S11P vw5 vw6 R)) (S11P vw5 vw6 R)) (S11P vw5 vw6 R)
def pl11 : DPlan := (.pre (.reg .seq) (.here [6, 7] (.seq (.reg .seq) (.seq (.reg (.held [3] (.take 0 (.take 1 (.eff 2 none (.eff 3 (some []) .done)))))) (.seq (.reg .seq) (.seq (.reg (.held [5] (.take 0 (.take 1 (.take 2 (.take 3 (.eff 4 none (.eff 5 (some [6]) (.eff 6 (some [7]) (.eff 7 (some []) .done)))))))))) .leaf))))))
set_option maxRecDepth 100000 in
theorem T11 (g1 : TyA29) (f2 : TyA33) (code3 : Int) (w : World) (R : Int → Int → World → Prop) (h : S11 g1 f2 code3 w R) : C11 g1 f2 code3 w R := by
  have e : fnTD Tryd.prog FF MAY (fun _ _ => False) pl11 Tryd.f11 [.agg (Sig.cells LiA29 g1).toArray, .agg (Sig.cells LiA33 f2).toArray, .int .i64 code3] w [(.one (.int .i64)), (.one (.int .i64))] (fun s w => R s.1 s.2 w) = S11 g1 f2 code3 w R := by kernel_rfl
  exact (fnD_calls okF okM Tryd.func11 (by kernel_rfl) (by kernel_rfl) (e.mpr h)).mono fun _ _ ⟨s, he, hR⟩ => ⟨s.1, s.2, he, hR⟩

end Go.Proofs.YtcblpehnkogfdaaDoor
