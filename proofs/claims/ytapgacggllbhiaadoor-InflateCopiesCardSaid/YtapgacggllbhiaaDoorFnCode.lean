/- The formulas of 29 functions of the program, written by program (gen.py); the kernel checks each. No condition. -/
import Derived.Test.YtapgacggllbhiaaDoorFn
import Derived.Test.YtapgacggllbhiaaDoorFnBit
namespace Go.Proofs.YtapgacggllbhiaaDoor
open Sh
set_option linter.unusedVariables false
set_option maxRecDepth 100000

def C41 (lens1 : Slc) (w : World) (R : (Int × Int × Int × Int × Int × Int × Int × Int × Int × Int × Int × Int × Int × Int × Int × Int) → World → Prop) : Prop :=
  Calls Tryd.prog 41 #[Slc.v lens1] w fun e w' => ∃ r0 : Int × Int × Int × Int × Int × Int × Int × Int × Int × Int × Int × Int × Int × Int × Int × Int, e = .returned (.agg #[.int .i64 (r0.1), .int .i64 (r0.2.1), .int .i64 (r0.2.2.1), .int .i64 (r0.2.2.2.1), .int .i64 (r0.2.2.2.2.1), .int .i64 (r0.2.2.2.2.2.1), .int .i64 (r0.2.2.2.2.2.2.1), .int .i64 (r0.2.2.2.2.2.2.2.1), .int .i64 (r0.2.2.2.2.2.2.2.2.1), .int .i64 (r0.2.2.2.2.2.2.2.2.2.1), .int .i64 (r0.2.2.2.2.2.2.2.2.2.2.1), .int .i64 (r0.2.2.2.2.2.2.2.2.2.2.2.1), .int .i64 (r0.2.2.2.2.2.2.2.2.2.2.2.2.1), .int .i64 (r0.2.2.2.2.2.2.2.2.2.2.2.2.2.1), .int .i64 (r0.2.2.2.2.2.2.2.2.2.2.2.2.2.2.1), .int .i64 (r0.2.2.2.2.2.2.2.2.2.2.2.2.2.2.2)]) ∧ R r0 w'
theorem C41.mono {lens1 : Slc} {w : World} {R R' : (Int × Int × Int × Int × Int × Int × Int × Int × Int × Int × Int × Int × Int × Int × Int × Int) → World → Prop} (h : C41 lens1 w R) (hr : ∀ r0 w', R r0 w' → R' r0 w') : C41 lens1 w R' :=
  Calls.mono h fun _ _ ⟨r0, he, hR⟩ => ⟨r0, he, hr _ _ hR⟩
def C42 (n1 : Int × Int × Int × Int × Int × Int × Int × Int × Int × Int × Int × Int × Int × Int × Int × Int) (w : World) (R : (Int × Int × Int × Int × Int × Int × Int × Int × Int × Int × Int × Int × Int × Int × Int × Int) → World → Prop) : Prop :=
  Calls Tryd.prog 42 #[.agg #[.int .i64 (n1.1), .int .i64 (n1.2.1), .int .i64 (n1.2.2.1), .int .i64 (n1.2.2.2.1), .int .i64 (n1.2.2.2.2.1), .int .i64 (n1.2.2.2.2.2.1), .int .i64 (n1.2.2.2.2.2.2.1), .int .i64 (n1.2.2.2.2.2.2.2.1), .int .i64 (n1.2.2.2.2.2.2.2.2.1), .int .i64 (n1.2.2.2.2.2.2.2.2.2.1), .int .i64 (n1.2.2.2.2.2.2.2.2.2.2.1), .int .i64 (n1.2.2.2.2.2.2.2.2.2.2.2.1), .int .i64 (n1.2.2.2.2.2.2.2.2.2.2.2.2.1), .int .i64 (n1.2.2.2.2.2.2.2.2.2.2.2.2.2.1), .int .i64 (n1.2.2.2.2.2.2.2.2.2.2.2.2.2.2.1), .int .i64 (n1.2.2.2.2.2.2.2.2.2.2.2.2.2.2.2)]] w fun e w' => ∃ r0 : Int × Int × Int × Int × Int × Int × Int × Int × Int × Int × Int × Int × Int × Int × Int × Int, e = .returned (.agg #[.int .i64 (r0.1), .int .i64 (r0.2.1), .int .i64 (r0.2.2.1), .int .i64 (r0.2.2.2.1), .int .i64 (r0.2.2.2.2.1), .int .i64 (r0.2.2.2.2.2.1), .int .i64 (r0.2.2.2.2.2.2.1), .int .i64 (r0.2.2.2.2.2.2.2.1), .int .i64 (r0.2.2.2.2.2.2.2.2.1), .int .i64 (r0.2.2.2.2.2.2.2.2.2.1), .int .i64 (r0.2.2.2.2.2.2.2.2.2.2.1), .int .i64 (r0.2.2.2.2.2.2.2.2.2.2.2.1), .int .i64 (r0.2.2.2.2.2.2.2.2.2.2.2.2.1), .int .i64 (r0.2.2.2.2.2.2.2.2.2.2.2.2.2.1), .int .i64 (r0.2.2.2.2.2.2.2.2.2.2.2.2.2.2.1), .int .i64 (r0.2.2.2.2.2.2.2.2.2.2.2.2.2.2.2)]) ∧ R r0 w'
theorem C42.mono {n1 : Int × Int × Int × Int × Int × Int × Int × Int × Int × Int × Int × Int × Int × Int × Int × Int} {w : World} {R R' : (Int × Int × Int × Int × Int × Int × Int × Int × Int × Int × Int × Int × Int × Int × Int × Int) → World → Prop} (h : C42 n1 w R) (hr : ∀ r0 w', R r0 w' → R' r0 w') : C42 n1 w R' :=
  Calls.mono h fun _ _ ⟨r0, he, hR⟩ => ⟨r0, he, hr _ _ hR⟩
def C56 (lens1 : Slc) (w : World) (R : Int → World → Prop) : Prop :=
  Calls Tryd.prog 56 #[Slc.v lens1] w fun e w' => ∃ r0 : Int, e = .returned (.int .i64 r0) ∧ R r0 w'
theorem C56.mono {lens1 : Slc} {w : World} {R R' : Int → World → Prop} (h : C56 lens1 w R) (hr : ∀ r0 w', R r0 w' → R' r0 w') : C56 lens1 w R' :=
  Calls.mono h fun _ _ ⟨r0, he, hR⟩ => ⟨r0, he, hr _ _ hR⟩
def C39 (lens1 : Slc) (w : World) (R : Slc → Int → World → Prop) : Prop :=
  Calls Tryd.prog 39 #[Slc.v lens1] w fun e w' => ∃ r0 : Slc, ∃ r1 : Int, e = .returned (.tuple #[Slc.v r0, .int .i64 r1]) ∧ R r0 r1 w'
theorem C39.mono {lens1 : Slc} {w : World} {R R' : Slc → Int → World → Prop} (h : C39 lens1 w R) (hr : ∀ r0 r1 w', R r0 r1 w' → R' r0 r1 w') : C39 lens1 w R' :=
  Calls.mono h fun _ _ ⟨r0, r1, he, hR⟩ => ⟨r0, r1, he, hr _ _ _ hR⟩
def C40 (s1 : Slc) (w : World) (R : Slc → World → Prop) : Prop :=
  Calls Tryd.prog 40 #[Slc.v s1] w fun e w' => ∃ r0 : Slc, e = .returned (Slc.v r0) ∧ R r0 w'
theorem C40.mono {s1 : Slc} {w : World} {R R' : Slc → World → Prop} (h : C40 s1 w R) (hr : ∀ r0 w', R r0 w' → R' r0 w') : C40 s1 w R' :=
  Calls.mono h fun _ _ ⟨r0, he, hR⟩ => ⟨r0, he, hr _ _ hR⟩
def C18 (lens1 : Slc) (w : World) (R : Option Addr → Int → World → Prop) : Prop :=
  Calls Tryd.prog 18 #[Slc.v lens1] w fun e w' => ∃ r0 : Option Addr, ∃ r1 : Int, e = .returned (.tuple #[.pointer r0, .int .i64 r1]) ∧ R r0 r1 w'
theorem C18.mono {lens1 : Slc} {w : World} {R R' : Option Addr → Int → World → Prop} (h : C18 lens1 w R) (hr : ∀ r0 r1 w', R r0 r1 w' → R' r0 r1 w') : C18 lens1 w R' :=
  Calls.mono h fun _ _ ⟨r0, r1, he, hR⟩ => ⟨r0, r1, he, hr _ _ _ hR⟩
def C77 (t1 : Option Addr) (r2 : Option Addr) (w : World) (R : Int → Int → World → Prop) : Prop :=
  Calls Tryd.prog 77 #[.pointer t1, .pointer r2] w fun e w' => ∃ r0 : Int, ∃ r1 : Int, e = .returned (.tuple #[.int .i64 r0, .int .i64 r1]) ∧ R r0 r1 w'
theorem C77.mono {t1 : Option Addr} {r2 : Option Addr} {w : World} {R R' : Int → Int → World → Prop} (h : C77 t1 r2 w R) (hr : ∀ r0 r1 w', R r0 r1 w' → R' r0 r1 w') : C77 t1 r2 w R' :=
  Calls.mono h fun _ _ ⟨r0, r1, he, hR⟩ => ⟨r0, r1, he, hr _ _ _ hR⟩
def C54 (i1 : Int) (first2 : Int) (each3 : Int) (w : World) (R : (Int × Int) → World → Prop) : Prop :=
  Calls Tryd.prog 54 #[.int .i64 i1, .int .i64 first2, .int .i64 each3] w fun e w' => ∃ r0 : Int × Int, e = .returned (.agg #[.int .i64 (r0.1), .int .i64 (r0.2)]) ∧ R r0 w'
theorem C54.mono {i1 : Int} {first2 : Int} {each3 : Int} {w : World} {R R' : (Int × Int) → World → Prop} (h : C54 i1 first2 each3 w R) (hr : ∀ r0 w', R r0 w' → R' r0 w') : C54 i1 first2 each3 w R' :=
  Calls.mono h fun _ _ ⟨r0, he, hR⟩ => ⟨r0, he, hr _ _ hR⟩
def C33 (i1 : Int) (w : World) (R : (Int × Int) → World → Prop) : Prop :=
  Calls Tryd.prog 33 #[.int .i64 i1] w fun e w' => ∃ r0 : Int × Int, e = .returned (.agg #[.int .i64 (r0.1), .int .i64 (r0.2)]) ∧ R r0 w'
theorem C33.mono {i1 : Int} {w : World} {R R' : (Int × Int) → World → Prop} (h : C33 i1 w R) (hr : ∀ r0 w', R r0 w' → R' r0 w') : C33 i1 w R' :=
  Calls.mono h fun _ _ ⟨r0, he, hR⟩ => ⟨r0, he, hr _ _ hR⟩
def C34 (x1 : Int × Int) (more2 : Int) (w : World) (R : Int → Int → World → Prop) : Prop :=
  Calls Tryd.prog 34 #[.agg #[.int .i64 (x1.1), .int .i64 (x1.2)], .int .i64 more2] w fun e w' => ∃ r0 : Int, ∃ r1 : Int, e = .returned (.tuple #[.int .i64 r0, .int .i64 r1]) ∧ R r0 r1 w'
theorem C34.mono {x1 : Int × Int} {more2 : Int} {w : World} {R R' : Int → Int → World → Prop} (h : C34 x1 more2 w R) (hr : ∀ r0 r1 w', R r0 r1 w' → R' r0 r1 w') : C34 x1 more2 w R' :=
  Calls.mono h fun _ _ ⟨r0, r1, he, hR⟩ => ⟨r0, r1, he, hr _ _ _ hR⟩
def C11 (sign1 : Int) (more2 : Int) (w : World) (R : Int → Int → World → Prop) : Prop :=
  Calls Tryd.prog 11 #[.int .i64 sign1, .int .i64 more2] w fun e w' => ∃ r0 : Int, ∃ r1 : Int, e = .returned (.tuple #[.int .i64 r0, .int .i64 r1]) ∧ R r0 r1 w'
theorem C11.mono {sign1 : Int} {more2 : Int} {w : World} {R R' : Int → Int → World → Prop} (h : C11 sign1 more2 w R) (hr : ∀ r0 r1 w', R r0 r1 w' → R' r0 r1 w') : C11 sign1 more2 w R' :=
  Calls.mono h fun _ _ ⟨r0, r1, he, hR⟩ => ⟨r0, r1, he, hr _ _ _ hR⟩
def C36 (i1 : Int) (w : World) (R : (Int × Int) → World → Prop) : Prop :=
  Calls Tryd.prog 36 #[.int .i64 i1] w fun e w' => ∃ r0 : Int × Int, e = .returned (.agg #[.int .i64 (r0.1), .int .i64 (r0.2)]) ∧ R r0 w'
theorem C36.mono {i1 : Int} {w : World} {R R' : (Int × Int) → World → Prop} (h : C36 i1 w R) (hr : ∀ r0 w', R r0 w' → R' r0 w') : C36 i1 w R' :=
  Calls.mono h fun _ _ ⟨r0, he, hR⟩ => ⟨r0, he, hr _ _ hR⟩
def C13 (sign1 : Int) (more2 : Int) (w : World) (R : Int → Int → World → Prop) : Prop :=
  Calls Tryd.prog 13 #[.int .i64 sign1, .int .i64 more2] w fun e w' => ∃ r0 : Int, ∃ r1 : Int, e = .returned (.tuple #[.int .i64 r0, .int .i64 r1]) ∧ R r0 r1 w'
theorem C13.mono {sign1 : Int} {more2 : Int} {w : World} {R R' : Int → Int → World → Prop} (h : C13 sign1 more2 w R) (hr : ∀ r0 r1 w', R r0 r1 w' → R' r0 r1 w') : C13 sign1 more2 w R' :=
  Calls.mono h fun _ _ ⟨r0, r1, he, hR⟩ => ⟨r0, r1, he, hr _ _ _ hR⟩
def C74 (x1 : Int) (y2 : Int) (w : World) (R : Int → Int → World → Prop) : Prop :=
  Calls Tryd.prog 74 #[.int .u64 x1, .int .u64 y2] w fun e w' => ∃ r0 : Int, ∃ r1 : Int, e = .returned (.tuple #[.int .u64 r0, .int .u64 r1]) ∧ R r0 r1 w'
theorem C74.mono {x1 : Int} {y2 : Int} {w : World} {R R' : Int → Int → World → Prop} (h : C74 x1 y2 w R) (hr : ∀ r0 r1 w', R r0 r1 w' → R' r0 r1 w') : C74 x1 y2 w R' :=
  Calls.mono h fun _ _ ⟨r0, r1, he, hR⟩ => ⟨r0, r1, he, hr _ _ _ hR⟩
def C55 (x1 : Int) (y2 : Int) (w : World) (R : Int → Int → World → Prop) : Prop :=
  Calls Tryd.prog 55 #[.int .u64 x1, .int .u64 y2] w fun e w' => ∃ r0 : Int, ∃ r1 : Int, e = .returned (.tuple #[.int .u64 r0, .int .u64 r1]) ∧ R r0 r1 w'
theorem C55.mono {x1 : Int} {y2 : Int} {w : World} {R R' : Int → Int → World → Prop} (h : C55 x1 y2 w R) (hr : ∀ r0 r1 w', R r0 r1 w' → R' r0 r1 w') : C55 x1 y2 w R' :=
  Calls.mono h fun _ _ ⟨r0, r1, he, hR⟩ => ⟨r0, r1, he, hr _ _ _ hR⟩
def C38 (x1 : Slc) (count2 : Int) (w : World) (R : Slc → World → Prop) (PR : Value → World → Prop) : Prop :=
  Calls Tryd.prog 38 #[Slc.v x1, .int .i64 count2] w fun e w' => (∃ r0 : Slc, e = .returned (Slc.v r0) ∧ R r0 w') ∨ ∃ v, e = .panicked (onePanic v) ∧ PR v w'
theorem C38.mono {x1 : Slc} {count2 : Int} {w : World} {R R' : Slc → World → Prop} {PR PR' : Value → World → Prop} (h : C38 x1 count2 w R PR) (hr : ∀ r0 w', R r0 w' → R' r0 w') (hp : ∀ v w', PR v w' → PR' v w') : C38 x1 count2 w R' PR' :=
  Calls.mono h fun _ _ he => he.elim (fun ⟨r0, he, hR⟩ => .inl ⟨r0, he, hr _ _ hR⟩) fun ⟨v, he, hP⟩ => .inr ⟨v, he, hp _ _ hP⟩
def C15 (w : World) (R : Slc → Slc → World → Prop) (PR : Value → World → Prop) : Prop :=
  Calls Tryd.prog 15 #[] w fun e w' => (∃ r0 : Slc, ∃ r1 : Slc, e = .returned (.tuple #[Slc.v r0, Slc.v r1]) ∧ R r0 r1 w') ∨ ∃ v, e = .panicked (onePanic v) ∧ PR v w'
theorem C15.mono {w : World} {R R' : Slc → Slc → World → Prop} {PR PR' : Value → World → Prop} (h : C15 w R PR) (hr : ∀ r0 r1 w', R r0 r1 w' → R' r0 r1 w') (hp : ∀ v w', PR v w' → PR' v w') : C15 w R' PR' :=
  Calls.mono h fun _ _ he => he.elim (fun ⟨r0, r1, he, hR⟩ => .inl ⟨r0, r1, he, hr _ _ _ hR⟩) fun ⟨v, he, hP⟩ => .inr ⟨v, he, hp _ _ hP⟩
def C68 (n1 : Int) (w : World) (R : Int → World → Prop) : Prop :=
  Calls Tryd.prog 68 #[.int .i64 n1] w fun e w' => ∃ r0 : Int, e = .returned (.int .i64 r0) ∧ R r0 w'
theorem C68.mono {n1 : Int} {w : World} {R R' : Int → World → Prop} (h : C68 n1 w R) (hr : ∀ r0 w', R r0 w' → R' r0 w') : C68 n1 w R' :=
  Calls.mono h fun _ _ ⟨r0, he, hR⟩ => ⟨r0, he, hr _ _ hR⟩
def C70 (lens1 : Slc) (w : World) (R : Int → World → Prop) : Prop :=
  Calls Tryd.prog 70 #[Slc.v lens1] w fun e w' => ∃ r0 : Int, e = .returned (.int .i64 r0) ∧ R r0 w'
theorem C70.mono {lens1 : Slc} {w : World} {R R' : Int → World → Prop} (h : C70 lens1 w R) (hr : ∀ r0 w', R r0 w' → R' r0 w') : C70 lens1 w R' :=
  Calls.mono h fun _ _ ⟨r0, he, hR⟩ => ⟨r0, he, hr _ _ hR⟩
def C52 (lens1 : Slc) (w : World) (R : Int → World → Prop) : Prop :=
  Calls Tryd.prog 52 #[Slc.v lens1] w fun e w' => ∃ r0 : Int, e = .returned (.int .i64 r0) ∧ R r0 w'
theorem C52.mono {lens1 : Slc} {w : World} {R R' : Int → World → Prop} (h : C52 lens1 w R) (hr : ∀ r0 w', R r0 w' → R' r0 w') : C52 lens1 w R' :=
  Calls.mono h fun _ _ ⟨r0, he, hR⟩ => ⟨r0, he, hr _ _ hR⟩
def C49 (s1 : ByteArray) (vat2 : Int) (w : World) (R : Int → World → Prop) : Prop :=
  Calls Tryd.prog 49 #[.string s1, .int .i64 vat2] w fun e w' => ∃ r0 : Int, e = .returned (.int .i64 r0) ∧ R r0 w'
theorem C49.mono {s1 : ByteArray} {vat2 : Int} {w : World} {R R' : Int → World → Prop} (h : C49 s1 vat2 w R) (hr : ∀ r0 w', R r0 w' → R' r0 w') : C49 s1 vat2 w R' :=
  Calls.mono h fun _ _ ⟨r0, he, hR⟩ => ⟨r0, he, hr _ _ hR⟩
def C79 (lens1 : Slc) (n2 : Int) (ahead3 : Int) (w : World) (R : Int → World → Prop) : Prop :=
  Calls Tryd.prog 79 #[Slc.v lens1, .int .i64 n2, .int .i64 ahead3] w fun e w' => ∃ r0 : Int, e = .returned (.int .i64 r0) ∧ R r0 w'
theorem C79.mono {lens1 : Slc} {n2 : Int} {ahead3 : Int} {w : World} {R R' : Int → World → Prop} (h : C79 lens1 n2 ahead3 w R) (hr : ∀ r0 w', R r0 w' → R' r0 w') : C79 lens1 n2 ahead3 w R' :=
  Calls.mono h fun _ _ ⟨r0, he, hR⟩ => ⟨r0, he, hr _ _ hR⟩
def C71 (lens1 : Slc) (s2 : ByteArray) (vat3 : Int) (w : World) (R : Int → Int → Int → World → Prop) : Prop :=
  Calls Tryd.prog 71 #[Slc.v lens1, .string s2, .int .i64 vat3] w fun e w' => ∃ r0 : Int, ∃ r1 : Int, ∃ r2 : Int, e = .returned (.tuple #[.int .i64 r0, .int .i64 r1, .int .i64 r2]) ∧ R r0 r1 r2 w'
theorem C71.mono {lens1 : Slc} {s2 : ByteArray} {vat3 : Int} {w : World} {R R' : Int → Int → Int → World → Prop} (h : C71 lens1 s2 vat3 w R) (hr : ∀ r0 r1 r2 w', R r0 r1 r2 w' → R' r0 r1 r2 w') : C71 lens1 s2 vat3 w R' :=
  Calls.mono h fun _ _ ⟨r0, r1, r2, he, hR⟩ => ⟨r0, r1, r2, he, hr _ _ _ _ hR⟩
def C35 (sign1 : Int) (w : World) (R : Int → World → Prop) : Prop :=
  Calls Tryd.prog 35 #[.int .i64 sign1] w fun e w' => ∃ r0 : Int, e = .returned (.int .i64 r0) ∧ R r0 w'
theorem C35.mono {sign1 : Int} {w : World} {R R' : Int → World → Prop} (h : C35 sign1 w R) (hr : ∀ r0 w', R r0 w' → R' r0 w') : C35 sign1 w R' :=
  Calls.mono h fun _ _ ⟨r0, he, hR⟩ => ⟨r0, he, hr _ _ hR⟩
def C12 (sign1 : Int) (more2 : Int) (w : World) (R : Int → Int → World → Prop) : Prop :=
  Calls Tryd.prog 12 #[.int .i64 sign1, .int .i64 more2] w fun e w' => ∃ r0 : Int, ∃ r1 : Int, e = .returned (.tuple #[.int .i64 r0, .int .i64 r1]) ∧ R r0 r1 w'
theorem C12.mono {sign1 : Int} {more2 : Int} {w : World} {R R' : Int → Int → World → Prop} (h : C12 sign1 more2 w R) (hr : ∀ r0 r1 w', R r0 r1 w' → R' r0 r1 w') : C12 sign1 more2 w R' :=
  Calls.mono h fun _ _ ⟨r0, r1, he, hR⟩ => ⟨r0, r1, he, hr _ _ _ hR⟩
def C37 (sign1 : Int) (w : World) (R : Int → World → Prop) : Prop :=
  Calls Tryd.prog 37 #[.int .i64 sign1] w fun e w' => ∃ r0 : Int, e = .returned (.int .i64 r0) ∧ R r0 w'
theorem C37.mono {sign1 : Int} {w : World} {R R' : Int → World → Prop} (h : C37 sign1 w R) (hr : ∀ r0 w', R r0 w' → R' r0 w') : C37 sign1 w R' :=
  Calls.mono h fun _ _ ⟨r0, he, hR⟩ => ⟨r0, he, hr _ _ hR⟩
def C14 (sign1 : Int) (more2 : Int) (w : World) (R : Int → Int → World → Prop) : Prop :=
  Calls Tryd.prog 14 #[.int .i64 sign1, .int .i64 more2] w fun e w' => ∃ r0 : Int, ∃ r1 : Int, e = .returned (.tuple #[.int .i64 r0, .int .i64 r1]) ∧ R r0 r1 w'
theorem C14.mono {sign1 : Int} {more2 : Int} {w : World} {R R' : Int → Int → World → Prop} (h : C14 sign1 more2 w R) (hr : ∀ r0 r1 w', R r0 r1 w' → R' r0 r1 w') : C14 sign1 more2 w R' :=
  Calls.mono h fun _ _ ⟨r0, r1, he, hR⟩ => ⟨r0, r1, he, hr _ _ _ hR⟩
def C16 (w : World) (R : Slc → Slc → World → Prop) : Prop :=
  Calls Tryd.prog 16 #[] w fun e w' => ∃ r0 : Slc, ∃ r1 : Slc, e = .returned (.tuple #[Slc.v r0, Slc.v r1]) ∧ R r0 r1 w'
theorem C16.mono {w : World} {R R' : Slc → Slc → World → Prop} (h : C16 w R) (hr : ∀ r0 r1 w', R r0 r1 w' → R' r0 r1 w') : C16 w R' :=
  Calls.mono h fun _ _ ⟨r0, r1, he, hR⟩ => ⟨r0, r1, he, hr _ _ _ hR⟩
def C17 (a1 : Slc) (b2 : Slc) (w : World) (R : Bool → World → Prop) : Prop :=
  Calls Tryd.prog 17 #[Slc.v a1, Slc.v b2] w fun e w' => ∃ r0 : Bool, e = .returned (.bool r0) ∧ R r0 w'
theorem C17.mono {a1 : Slc} {b2 : Slc} {w : World} {R R' : Bool → World → Prop} (h : C17 a1 b2 w R) (hr : ∀ r0 w', R r0 w' → R' r0 w') : C17 a1 b2 w R' :=
  Calls.mono h fun _ _ ⟨r0, he, hR⟩ => ⟨r0, he, hr _ _ hR⟩

def S41L1 (w : World) (lens1 : Slc) (vw2 : World) (R : (Int × Int × Int × Int × Int × Int × Int × Int × Int × Int × Int × Int × Int × Int × Int × Int) → World → Prop) (I6 : Int → World → Prop) (s4 : Int) (vw5 : World) : Prop :=
  Br (decide (s4 < ((lens1.len : Nat) : Int))) (0 ≤ s4 ∧ s4 < (lens1.len : Nat) ∧ Nn lens1.p fun a7 =>
    Ld vw5 (a7.add ((s4).toNat * 1)) (Value.int .i64) fun (x8 : Int) =>
    Br (decide (x8 > 0)) (0 ≤ x8 ∧ x8 < (16 : Nat) ∧ Ld vw5 ((⟨vw2.heap.size, 0, none⟩ : Addr).add ((x8).toNat * 1)) (Value.int .i64) fun (x9 : Int) =>
      0 ≤ x8 ∧ x8 < (16 : Nat) ∧ St vw5 ((⟨vw2.heap.size, 0, none⟩ : Addr).add ((x8).toNat * 1)) (.int .i64 (IntKind.i64.wrap (x9 + 1))) fun vw10 =>
      I6 (IntKind.i64.wrap (s4 + 1)) vw10) (I6 (IntKind.i64.wrap (s4 + 1)) vw5)) (Ld vw5 (⟨vw2.heap.size, 0, none⟩ : Addr) (Value.int .i64) fun (x11 : Int) =>
    Ld vw5 ((⟨vw2.heap.size, 0, none⟩ : Addr).add 1) (Value.int .i64) fun (x12 : Int) =>
    Ld vw5 ((⟨vw2.heap.size, 0, none⟩ : Addr).add 2) (Value.int .i64) fun (x13 : Int) =>
    Ld vw5 ((⟨vw2.heap.size, 0, none⟩ : Addr).add 3) (Value.int .i64) fun (x14 : Int) =>
    Ld vw5 ((⟨vw2.heap.size, 0, none⟩ : Addr).add 4) (Value.int .i64) fun (x15 : Int) =>
    Ld vw5 ((⟨vw2.heap.size, 0, none⟩ : Addr).add 5) (Value.int .i64) fun (x16 : Int) =>
    Ld vw5 ((⟨vw2.heap.size, 0, none⟩ : Addr).add 6) (Value.int .i64) fun (x17 : Int) =>
    Ld vw5 ((⟨vw2.heap.size, 0, none⟩ : Addr).add 7) (Value.int .i64) fun (x18 : Int) =>
    Ld vw5 ((⟨vw2.heap.size, 0, none⟩ : Addr).add 8) (Value.int .i64) fun (x19 : Int) =>
    Ld vw5 ((⟨vw2.heap.size, 0, none⟩ : Addr).add 9) (Value.int .i64) fun (x20 : Int) =>
    Ld vw5 ((⟨vw2.heap.size, 0, none⟩ : Addr).add 10) (Value.int .i64) fun (x21 : Int) =>
    Ld vw5 ((⟨vw2.heap.size, 0, none⟩ : Addr).add 11) (Value.int .i64) fun (x22 : Int) =>
    Ld vw5 ((⟨vw2.heap.size, 0, none⟩ : Addr).add 12) (Value.int .i64) fun (x23 : Int) =>
    Ld vw5 ((⟨vw2.heap.size, 0, none⟩ : Addr).add 13) (Value.int .i64) fun (x24 : Int) =>
    Ld vw5 ((⟨vw2.heap.size, 0, none⟩ : Addr).add 14) (Value.int .i64) fun (x25 : Int) =>
    Ld vw5 ((⟨vw2.heap.size, 0, none⟩ : Addr).add 15) (Value.int .i64) fun (x26 : Int) =>
    St vw5 (⟨w.heap.size, 0, none⟩ : Addr) (.int .i64 x11) fun vw27 =>
    St vw27 ((⟨w.heap.size, 0, none⟩ : Addr).add 1) (.int .i64 x12) fun vw28 =>
    St vw28 ((⟨w.heap.size, 0, none⟩ : Addr).add 2) (.int .i64 x13) fun vw29 =>
    St vw29 ((⟨w.heap.size, 0, none⟩ : Addr).add 3) (.int .i64 x14) fun vw30 =>
    St vw30 ((⟨w.heap.size, 0, none⟩ : Addr).add 4) (.int .i64 x15) fun vw31 =>
    St vw31 ((⟨w.heap.size, 0, none⟩ : Addr).add 5) (.int .i64 x16) fun vw32 =>
    St vw32 ((⟨w.heap.size, 0, none⟩ : Addr).add 6) (.int .i64 x17) fun vw33 =>
    St vw33 ((⟨w.heap.size, 0, none⟩ : Addr).add 7) (.int .i64 x18) fun vw34 =>
    St vw34 ((⟨w.heap.size, 0, none⟩ : Addr).add 8) (.int .i64 x19) fun vw35 =>
    St vw35 ((⟨w.heap.size, 0, none⟩ : Addr).add 9) (.int .i64 x20) fun vw36 =>
    St vw36 ((⟨w.heap.size, 0, none⟩ : Addr).add 10) (.int .i64 x21) fun vw37 =>
    St vw37 ((⟨w.heap.size, 0, none⟩ : Addr).add 11) (.int .i64 x22) fun vw38 =>
    St vw38 ((⟨w.heap.size, 0, none⟩ : Addr).add 12) (.int .i64 x23) fun vw39 =>
    St vw39 ((⟨w.heap.size, 0, none⟩ : Addr).add 13) (.int .i64 x24) fun vw40 =>
    St vw40 ((⟨w.heap.size, 0, none⟩ : Addr).add 14) (.int .i64 x25) fun vw41 =>
    St vw41 ((⟨w.heap.size, 0, none⟩ : Addr).add 15) (.int .i64 x26) fun vw42 =>
    Ld vw42 (⟨w.heap.size, 0, none⟩ : Addr) (Value.int .i64) fun (x43 : Int) =>
    Ld vw42 ((⟨w.heap.size, 0, none⟩ : Addr).add 1) (Value.int .i64) fun (x44 : Int) =>
    Ld vw42 ((⟨w.heap.size, 0, none⟩ : Addr).add 2) (Value.int .i64) fun (x45 : Int) =>
    Ld vw42 ((⟨w.heap.size, 0, none⟩ : Addr).add 3) (Value.int .i64) fun (x46 : Int) =>
    Ld vw42 ((⟨w.heap.size, 0, none⟩ : Addr).add 4) (Value.int .i64) fun (x47 : Int) =>
    Ld vw42 ((⟨w.heap.size, 0, none⟩ : Addr).add 5) (Value.int .i64) fun (x48 : Int) =>
    Ld vw42 ((⟨w.heap.size, 0, none⟩ : Addr).add 6) (Value.int .i64) fun (x49 : Int) =>
    Ld vw42 ((⟨w.heap.size, 0, none⟩ : Addr).add 7) (Value.int .i64) fun (x50 : Int) =>
    Ld vw42 ((⟨w.heap.size, 0, none⟩ : Addr).add 8) (Value.int .i64) fun (x51 : Int) =>
    Ld vw42 ((⟨w.heap.size, 0, none⟩ : Addr).add 9) (Value.int .i64) fun (x52 : Int) =>
    Ld vw42 ((⟨w.heap.size, 0, none⟩ : Addr).add 10) (Value.int .i64) fun (x53 : Int) =>
    Ld vw42 ((⟨w.heap.size, 0, none⟩ : Addr).add 11) (Value.int .i64) fun (x54 : Int) =>
    Ld vw42 ((⟨w.heap.size, 0, none⟩ : Addr).add 12) (Value.int .i64) fun (x55 : Int) =>
    Ld vw42 ((⟨w.heap.size, 0, none⟩ : Addr).add 13) (Value.int .i64) fun (x56 : Int) =>
    Ld vw42 ((⟨w.heap.size, 0, none⟩ : Addr).add 14) (Value.int .i64) fun (x57 : Int) =>
    Ld vw42 ((⟨w.heap.size, 0, none⟩ : Addr).add 15) (Value.int .i64) fun (x58 : Int) =>
    R (x43, x44, x45, x46, x47, x48, x49, x50, x51, x52, x53, x54, x55, x56, x57, x58) vw42)
/-- foliant/code.counted -/
def S41 (lens1 : Slc) (w : World) (R : (Int × Int × Int × Int × Int × Int × Int × Int × Int × Int × Int × Int × Int × Int × Int × Int) → World → Prop) : Prop :=
  Nw w (.cells #[.int .i64 0, .int .i64 0, .int .i64 0, .int .i64 0, .int .i64 0, .int .i64 0, .int .i64 0, .int .i64 0, .int .i64 0, .int .i64 0, .int .i64 0, .int .i64 0, .int .i64 0, .int .i64 0, .int .i64 0, .int .i64 0] 75) fun vw2 =>
  Nw vw2 (.cells #[.int .i64 0, .int .i64 0, .int .i64 0, .int .i64 0, .int .i64 0, .int .i64 0, .int .i64 0, .int .i64 0, .int .i64 0, .int .i64 0, .int .i64 0, .int .i64 0, .int .i64 0, .int .i64 0, .int .i64 0, .int .i64 0] 75) fun vw3 =>
  Lp (σ := Int) (S41L1 w lens1 vw2 R) 0 vw3
def pl41 : Plan := (.seq (.reg .seq) (.seq (.reg .seq) (.seq (.seq (.reg .seq) (.block (.loop [(8, (.one (.int .i64)))] [2, 3, 6, 7] (.seq (.reg .seq) (.seq (.cond .leaf .leaf) (.seq (.block (.seq (.reg .seq) (.seq (.reg .seq) (.cond (.reg .seq) .leaf)))) (.reg .seq))))))) (.seq (.reg .seq) .leaf))))
set_option maxRecDepth 100000 in
theorem T41 (lens1 : Slc) (w : World) (R : (Int × Int × Int × Int × Int × Int × Int × Int × Int × Int × Int × Int × Int × Int × Int × Int) → World → Prop) (h : S41 lens1 w R) : C41 lens1 w R := by
  have e : fnT Tryd.prog ⟨FF, MAY, (fun _ _ => False)⟩ pl41 Tryd.f41 [Slc.v lens1] w [(.agg [(.int .i64), (.int .i64), (.int .i64), (.int .i64), (.int .i64), (.int .i64), (.int .i64), (.int .i64), (.int .i64), (.int .i64), (.int .i64), (.int .i64), (.int .i64), (.int .i64), (.int .i64), (.int .i64)])] (fun s w => R s w) = S41 lens1 w R := by kernel_rfl
  exact (fn_calls okF okM Tryd.func41 (by kernel_rfl) (by kernel_rfl) (e.mpr h)).mono fun _ _ ⟨s, he, hR⟩ => ⟨s, he, hR⟩

def S42L1 (w : World) (vw2 : World) (vw3 : World) (R : (Int × Int × Int × Int × Int × Int × Int × Int × Int × Int × Int × Int × Int × Int × Int × Int) → World → Prop) (I7 : Int → World → Prop) (s5 : Int) (vw6 : World) : Prop :=
  Br (decide (s5 < 15)) (0 ≤ s5 ∧ s5 < (16 : Nat) ∧ Ld vw6.drew ((⟨vw3.heap.size, 0, none⟩ : Addr).add ((s5).toNat * 1)) (Value.int .i64) fun (x8 : Int) =>
    0 ≤ s5 ∧ s5 < (16 : Nat) ∧ Ld vw6.drew ((⟨w.heap.size, 0, none⟩ : Addr).add ((s5).toNat * 1)) (Value.int .i64) fun (x9 : Int) =>
    0 ≤ (IntKind.i64.wrap (s5 + 1)) ∧ (IntKind.i64.wrap (s5 + 1)) < (16 : Nat) ∧ St vw6.drew ((⟨vw3.heap.size, 0, none⟩ : Addr).add ((IntKind.i64.wrap (s5 + 1)).toNat * 1)) (.int .i64 (IntKind.i64.wrap (2 * (IntKind.i64.wrap (x8 + x9))))) fun vw10 =>
    I7 (IntKind.i64.wrap (s5 + 1)) vw10) (Ld vw6 (⟨vw3.heap.size, 0, none⟩ : Addr) (Value.int .i64) fun (x11 : Int) =>
    Ld vw6 ((⟨vw3.heap.size, 0, none⟩ : Addr).add 1) (Value.int .i64) fun (x12 : Int) =>
    Ld vw6 ((⟨vw3.heap.size, 0, none⟩ : Addr).add 2) (Value.int .i64) fun (x13 : Int) =>
    Ld vw6 ((⟨vw3.heap.size, 0, none⟩ : Addr).add 3) (Value.int .i64) fun (x14 : Int) =>
    Ld vw6 ((⟨vw3.heap.size, 0, none⟩ : Addr).add 4) (Value.int .i64) fun (x15 : Int) =>
    Ld vw6 ((⟨vw3.heap.size, 0, none⟩ : Addr).add 5) (Value.int .i64) fun (x16 : Int) =>
    Ld vw6 ((⟨vw3.heap.size, 0, none⟩ : Addr).add 6) (Value.int .i64) fun (x17 : Int) =>
    Ld vw6 ((⟨vw3.heap.size, 0, none⟩ : Addr).add 7) (Value.int .i64) fun (x18 : Int) =>
    Ld vw6 ((⟨vw3.heap.size, 0, none⟩ : Addr).add 8) (Value.int .i64) fun (x19 : Int) =>
    Ld vw6 ((⟨vw3.heap.size, 0, none⟩ : Addr).add 9) (Value.int .i64) fun (x20 : Int) =>
    Ld vw6 ((⟨vw3.heap.size, 0, none⟩ : Addr).add 10) (Value.int .i64) fun (x21 : Int) =>
    Ld vw6 ((⟨vw3.heap.size, 0, none⟩ : Addr).add 11) (Value.int .i64) fun (x22 : Int) =>
    Ld vw6 ((⟨vw3.heap.size, 0, none⟩ : Addr).add 12) (Value.int .i64) fun (x23 : Int) =>
    Ld vw6 ((⟨vw3.heap.size, 0, none⟩ : Addr).add 13) (Value.int .i64) fun (x24 : Int) =>
    Ld vw6 ((⟨vw3.heap.size, 0, none⟩ : Addr).add 14) (Value.int .i64) fun (x25 : Int) =>
    Ld vw6 ((⟨vw3.heap.size, 0, none⟩ : Addr).add 15) (Value.int .i64) fun (x26 : Int) =>
    St vw6 (⟨vw2.heap.size, 0, none⟩ : Addr) (.int .i64 x11) fun vw27 =>
    St vw27 ((⟨vw2.heap.size, 0, none⟩ : Addr).add 1) (.int .i64 x12) fun vw28 =>
    St vw28 ((⟨vw2.heap.size, 0, none⟩ : Addr).add 2) (.int .i64 x13) fun vw29 =>
    St vw29 ((⟨vw2.heap.size, 0, none⟩ : Addr).add 3) (.int .i64 x14) fun vw30 =>
    St vw30 ((⟨vw2.heap.size, 0, none⟩ : Addr).add 4) (.int .i64 x15) fun vw31 =>
    St vw31 ((⟨vw2.heap.size, 0, none⟩ : Addr).add 5) (.int .i64 x16) fun vw32 =>
    St vw32 ((⟨vw2.heap.size, 0, none⟩ : Addr).add 6) (.int .i64 x17) fun vw33 =>
    St vw33 ((⟨vw2.heap.size, 0, none⟩ : Addr).add 7) (.int .i64 x18) fun vw34 =>
    St vw34 ((⟨vw2.heap.size, 0, none⟩ : Addr).add 8) (.int .i64 x19) fun vw35 =>
    St vw35 ((⟨vw2.heap.size, 0, none⟩ : Addr).add 9) (.int .i64 x20) fun vw36 =>
    St vw36 ((⟨vw2.heap.size, 0, none⟩ : Addr).add 10) (.int .i64 x21) fun vw37 =>
    St vw37 ((⟨vw2.heap.size, 0, none⟩ : Addr).add 11) (.int .i64 x22) fun vw38 =>
    St vw38 ((⟨vw2.heap.size, 0, none⟩ : Addr).add 12) (.int .i64 x23) fun vw39 =>
    St vw39 ((⟨vw2.heap.size, 0, none⟩ : Addr).add 13) (.int .i64 x24) fun vw40 =>
    St vw40 ((⟨vw2.heap.size, 0, none⟩ : Addr).add 14) (.int .i64 x25) fun vw41 =>
    St vw41 ((⟨vw2.heap.size, 0, none⟩ : Addr).add 15) (.int .i64 x26) fun vw42 =>
    Ld vw42 (⟨vw2.heap.size, 0, none⟩ : Addr) (Value.int .i64) fun (x43 : Int) =>
    Ld vw42 ((⟨vw2.heap.size, 0, none⟩ : Addr).add 1) (Value.int .i64) fun (x44 : Int) =>
    Ld vw42 ((⟨vw2.heap.size, 0, none⟩ : Addr).add 2) (Value.int .i64) fun (x45 : Int) =>
    Ld vw42 ((⟨vw2.heap.size, 0, none⟩ : Addr).add 3) (Value.int .i64) fun (x46 : Int) =>
    Ld vw42 ((⟨vw2.heap.size, 0, none⟩ : Addr).add 4) (Value.int .i64) fun (x47 : Int) =>
    Ld vw42 ((⟨vw2.heap.size, 0, none⟩ : Addr).add 5) (Value.int .i64) fun (x48 : Int) =>
    Ld vw42 ((⟨vw2.heap.size, 0, none⟩ : Addr).add 6) (Value.int .i64) fun (x49 : Int) =>
    Ld vw42 ((⟨vw2.heap.size, 0, none⟩ : Addr).add 7) (Value.int .i64) fun (x50 : Int) =>
    Ld vw42 ((⟨vw2.heap.size, 0, none⟩ : Addr).add 8) (Value.int .i64) fun (x51 : Int) =>
    Ld vw42 ((⟨vw2.heap.size, 0, none⟩ : Addr).add 9) (Value.int .i64) fun (x52 : Int) =>
    Ld vw42 ((⟨vw2.heap.size, 0, none⟩ : Addr).add 10) (Value.int .i64) fun (x53 : Int) =>
    Ld vw42 ((⟨vw2.heap.size, 0, none⟩ : Addr).add 11) (Value.int .i64) fun (x54 : Int) =>
    Ld vw42 ((⟨vw2.heap.size, 0, none⟩ : Addr).add 12) (Value.int .i64) fun (x55 : Int) =>
    Ld vw42 ((⟨vw2.heap.size, 0, none⟩ : Addr).add 13) (Value.int .i64) fun (x56 : Int) =>
    Ld vw42 ((⟨vw2.heap.size, 0, none⟩ : Addr).add 14) (Value.int .i64) fun (x57 : Int) =>
    Ld vw42 ((⟨vw2.heap.size, 0, none⟩ : Addr).add 15) (Value.int .i64) fun (x58 : Int) =>
    R (x43, x44, x45, x46, x47, x48, x49, x50, x51, x52, x53, x54, x55, x56, x57, x58) vw42)
/-- foliant/code.firsts -/
def S42 (n1 : Int × Int × Int × Int × Int × Int × Int × Int × Int × Int × Int × Int × Int × Int × Int × Int) (w : World) (R : (Int × Int × Int × Int × Int × Int × Int × Int × Int × Int × Int × Int × Int × Int × Int × Int) → World → Prop) : Prop :=
  Nw w (.cells #[.int .i64 (n1.1), .int .i64 (n1.2.1), .int .i64 (n1.2.2.1), .int .i64 (n1.2.2.2.1), .int .i64 (n1.2.2.2.2.1), .int .i64 (n1.2.2.2.2.2.1), .int .i64 (n1.2.2.2.2.2.2.1), .int .i64 (n1.2.2.2.2.2.2.2.1), .int .i64 (n1.2.2.2.2.2.2.2.2.1), .int .i64 (n1.2.2.2.2.2.2.2.2.2.1), .int .i64 (n1.2.2.2.2.2.2.2.2.2.2.1), .int .i64 (n1.2.2.2.2.2.2.2.2.2.2.2.1), .int .i64 (n1.2.2.2.2.2.2.2.2.2.2.2.2.1), .int .i64 (n1.2.2.2.2.2.2.2.2.2.2.2.2.2.1), .int .i64 (n1.2.2.2.2.2.2.2.2.2.2.2.2.2.2.1), .int .i64 (n1.2.2.2.2.2.2.2.2.2.2.2.2.2.2.2)] 75) fun vw2 =>
  Nw vw2 (.cells #[.int .i64 0, .int .i64 0, .int .i64 0, .int .i64 0, .int .i64 0, .int .i64 0, .int .i64 0, .int .i64 0, .int .i64 0, .int .i64 0, .int .i64 0, .int .i64 0, .int .i64 0, .int .i64 0, .int .i64 0, .int .i64 0] 75) fun vw3 =>
  Nw vw3 (.cells #[.int .i64 0, .int .i64 0, .int .i64 0, .int .i64 0, .int .i64 0, .int .i64 0, .int .i64 0, .int .i64 0, .int .i64 0, .int .i64 0, .int .i64 0, .int .i64 0, .int .i64 0, .int .i64 0, .int .i64 0, .int .i64 0] 75) fun vw4 =>
  Lp (σ := Int) (S42L1 w vw2 vw3 R) 1 vw4
def pl42 : Plan := (.seq (.reg .seq) (.seq (.reg .seq) (.seq (.seq (.reg .seq) (.block (.loop [(4, (.one (.int .i64)))] [1, 2, 3] (.seq (.seq (.reg .seq) (.cond .leaf .leaf)) (.seq (.block (.reg (.tail 11))) (.reg .seq)))))) (.seq (.reg .seq) .leaf))))
set_option maxRecDepth 100000 in
theorem T42 (n1 : Int × Int × Int × Int × Int × Int × Int × Int × Int × Int × Int × Int × Int × Int × Int × Int) (w : World) (R : (Int × Int × Int × Int × Int × Int × Int × Int × Int × Int × Int × Int × Int × Int × Int × Int) → World → Prop) (h : S42 n1 w R) : C42 (n1.1, n1.2.1, n1.2.2.1, n1.2.2.2.1, n1.2.2.2.2.1, n1.2.2.2.2.2.1, n1.2.2.2.2.2.2.1, n1.2.2.2.2.2.2.2.1, n1.2.2.2.2.2.2.2.2.1, n1.2.2.2.2.2.2.2.2.2.1, n1.2.2.2.2.2.2.2.2.2.2.1, n1.2.2.2.2.2.2.2.2.2.2.2.1, n1.2.2.2.2.2.2.2.2.2.2.2.2.1, n1.2.2.2.2.2.2.2.2.2.2.2.2.2.1, n1.2.2.2.2.2.2.2.2.2.2.2.2.2.2.1, n1.2.2.2.2.2.2.2.2.2.2.2.2.2.2.2) w R := by
  have e : fnT Tryd.prog ⟨FF, MAY, (fun _ _ => False)⟩ pl42 Tryd.f42 [.agg #[.int .i64 (n1.1), .int .i64 (n1.2.1), .int .i64 (n1.2.2.1), .int .i64 (n1.2.2.2.1), .int .i64 (n1.2.2.2.2.1), .int .i64 (n1.2.2.2.2.2.1), .int .i64 (n1.2.2.2.2.2.2.1), .int .i64 (n1.2.2.2.2.2.2.2.1), .int .i64 (n1.2.2.2.2.2.2.2.2.1), .int .i64 (n1.2.2.2.2.2.2.2.2.2.1), .int .i64 (n1.2.2.2.2.2.2.2.2.2.2.1), .int .i64 (n1.2.2.2.2.2.2.2.2.2.2.2.1), .int .i64 (n1.2.2.2.2.2.2.2.2.2.2.2.2.1), .int .i64 (n1.2.2.2.2.2.2.2.2.2.2.2.2.2.1), .int .i64 (n1.2.2.2.2.2.2.2.2.2.2.2.2.2.2.1), .int .i64 (n1.2.2.2.2.2.2.2.2.2.2.2.2.2.2.2)]] w [(.agg [(.int .i64), (.int .i64), (.int .i64), (.int .i64), (.int .i64), (.int .i64), (.int .i64), (.int .i64), (.int .i64), (.int .i64), (.int .i64), (.int .i64), (.int .i64), (.int .i64), (.int .i64), (.int .i64)])] (fun s w => R s w) = S42 n1 w R := by kernel_rfl
  exact (fn_calls okF okM Tryd.func42 (by kernel_rfl) (by kernel_rfl) (e.mpr h)).mono fun _ _ ⟨s, he, hR⟩ => ⟨s, he, hR⟩

def S56L1 (vw13 : World) (R : Int → World → Prop) (I39 : (Int × Int × Int) → World → Prop) (s37 : Int × Int × Int) (vw38 : World) : Prop :=
  Br (decide (s37.2.2 ≤ 15)) (0 ≤ s37.2.2 ∧ s37.2.2 < (16 : Nat) ∧ Ld vw38 ((⟨vw13.heap.size, 0, none⟩ : Addr).add ((s37.2.2).toNat * 1)) (Value.int .i64) fun (x40 : Int) =>
    0 ≤ (IntKind.i64.wrap (15 - s37.2.2)) ∧ Lt (IntKind.i64.wrap (s37.1 + (IntKind.i64.wrap (x40 * 2 ^ (min (IntKind.i64.wrap (15 - s37.2.2)).toNat 64))))) fun (x41 : Int) =>
    0 ≤ s37.2.2 ∧ s37.2.2 < (16 : Nat) ∧ Ld vw38 ((⟨vw13.heap.size, 0, none⟩ : Addr).add ((s37.2.2).toNat * 1)) (Value.int .i64) fun (x42 : Int) =>
    I39 (x41, IntKind.i64.wrap (s37.2.1 + x42), IntKind.i64.wrap (s37.2.2 + 1)) vw38) (Br (s37.1 == 32768) (R 0 vw38) (Br (s37.2.1 == 0) (R 0 vw38) (Br (s37.2.1 == 1) (Ld vw38 ((⟨vw13.heap.size, 0, none⟩ : Addr).add 1) (Value.int .i64) fun (x43 : Int) =>
          Br (x43 == 1) (R 0 vw38) (R 13 vw38)) (R 13 vw38))))
def S56L2 (lens1 : Slc) (R : Int → World → Prop) (I9 : Int → World → Prop) (s7 : Int) (vw8 : World) : Prop :=
  Br (decide (s7 < ((lens1.len : Nat) : Int))) (0 ≤ s7 ∧ s7 < (lens1.len : Nat) ∧ Nn lens1.p fun a10 =>
    Ld vw8 (a10.add ((s7).toNat * 1)) (Value.int .i64) fun (x11 : Int) =>
    Br (decide (x11 < 0)) (R 1 vw8) (Br (decide (x11 > 15)) (R 1 vw8) (I9 (IntKind.i64.wrap (s7 + 1)) vw8))) (C41 lens1 vw8 fun r12 vw13 =>
      Nw vw13 (.cells #[.int .i64 0, .int .i64 0, .int .i64 0, .int .i64 0, .int .i64 0, .int .i64 0, .int .i64 0, .int .i64 0, .int .i64 0, .int .i64 0, .int .i64 0, .int .i64 0, .int .i64 0, .int .i64 0, .int .i64 0, .int .i64 0] 75) fun vw14 =>
      St vw14 (⟨vw13.heap.size, 0, none⟩ : Addr) (.int .i64 (r12.1)) fun vw15 =>
      St vw15 ((⟨vw13.heap.size, 0, none⟩ : Addr).add 1) (.int .i64 (r12.2.1)) fun vw16 =>
      St vw16 ((⟨vw13.heap.size, 0, none⟩ : Addr).add 2) (.int .i64 (r12.2.2.1)) fun vw17 =>
      St vw17 ((⟨vw13.heap.size, 0, none⟩ : Addr).add 3) (.int .i64 (r12.2.2.2.1)) fun vw18 =>
      St vw18 ((⟨vw13.heap.size, 0, none⟩ : Addr).add 4) (.int .i64 (r12.2.2.2.2.1)) fun vw19 =>
      St vw19 ((⟨vw13.heap.size, 0, none⟩ : Addr).add 5) (.int .i64 (r12.2.2.2.2.2.1)) fun vw20 =>
      St vw20 ((⟨vw13.heap.size, 0, none⟩ : Addr).add 6) (.int .i64 (r12.2.2.2.2.2.2.1)) fun vw21 =>
      St vw21 ((⟨vw13.heap.size, 0, none⟩ : Addr).add 7) (.int .i64 (r12.2.2.2.2.2.2.2.1)) fun vw22 =>
      St vw22 ((⟨vw13.heap.size, 0, none⟩ : Addr).add 8) (.int .i64 (r12.2.2.2.2.2.2.2.2.1)) fun vw23 =>
      St vw23 ((⟨vw13.heap.size, 0, none⟩ : Addr).add 9) (.int .i64 (r12.2.2.2.2.2.2.2.2.2.1)) fun vw24 =>
      St vw24 ((⟨vw13.heap.size, 0, none⟩ : Addr).add 10) (.int .i64 (r12.2.2.2.2.2.2.2.2.2.2.1)) fun vw25 =>
      St vw25 ((⟨vw13.heap.size, 0, none⟩ : Addr).add 11) (.int .i64 (r12.2.2.2.2.2.2.2.2.2.2.2.1)) fun vw26 =>
      St vw26 ((⟨vw13.heap.size, 0, none⟩ : Addr).add 12) (.int .i64 (r12.2.2.2.2.2.2.2.2.2.2.2.2.1)) fun vw27 =>
      St vw27 ((⟨vw13.heap.size, 0, none⟩ : Addr).add 13) (.int .i64 (r12.2.2.2.2.2.2.2.2.2.2.2.2.2.1)) fun vw28 =>
      St vw28 ((⟨vw13.heap.size, 0, none⟩ : Addr).add 14) (.int .i64 (r12.2.2.2.2.2.2.2.2.2.2.2.2.2.2.1)) fun vw29 =>
      St vw29 ((⟨vw13.heap.size, 0, none⟩ : Addr).add 15) (.int .i64 (r12.2.2.2.2.2.2.2.2.2.2.2.2.2.2.2)) fun vw30 =>
      Lp (σ := Int × Int × Int) (S56L1 vw13 R) (0, 0, 1) vw30)
/-- foliant/code.Check -/
def S56 (lens1 : Slc) (w : World) (R : Int → World → Prop) : Prop :=
  Br (decide (((lens1.len : Nat) : Int) > 288)) (R 6 w) (Lp (σ := Int) (S56L2 lens1 R) 0 w)
def pl56 : Plan := (.seq (.reg .seq) (.seq (.seq (.reg .seq) (.cond (.seq (.reg .seq) .leaf) .leaf)) (.seq (.seq (.reg .seq) (.block (.loop [(14, (.one (.int .i64)))] [0, 12, 13] (.seq (.reg .seq) (.seq (.cond .leaf .leaf) (.seq (.block (.seq (.reg .seq) (.seq (.reg .seq) (.cond (.seq (.reg .seq) .leaf) .leaf)))) (.reg .seq))))))) (.seq (.reg .seq) (.seq (.reg .seq) (.seq (.seq (.reg .seq) (.block (.loop [(6, (.one (.int .i64))), (7, (.one (.int .i64))), (8, (.one (.int .i64)))] [5] (.seq (.seq (.reg .seq) (.cond .leaf .leaf)) (.seq (.block (.seq (.reg .seq) (.reg .seq))) (.reg .seq)))))) (.seq (.seq (.reg .seq) (.cond (.seq (.reg .seq) .leaf) .leaf)) (.seq (.reg .seq) .leaf))))))))
set_option maxRecDepth 100000 in
theorem T56 (lens1 : Slc) (w : World) (R : Int → World → Prop) (h : S56 lens1 w R) : C56 lens1 w R := by
  have e : fnT Tryd.prog ⟨FF, MAY, (fun _ _ => False)⟩ pl56 Tryd.f56 [Slc.v lens1] w [(.one (.int .i64))] (fun s w => R s w) = S56 lens1 w R := by kernel_rfl
  exact (fn_calls okF okM Tryd.func56 (by kernel_rfl) (by kernel_rfl) (e.mpr h)).mono fun _ _ ⟨s, he, hR⟩ => ⟨s, he, hR⟩

def S39L1 (lens1 : Slc) (vw9 : World) (x27 : Slc) (R : Slc → Int → World → Prop) (I31 : Int → World → Prop) (s29 : Int) (vw30 : World) : Prop :=
  Br (decide (s29 < ((lens1.len : Nat) : Int))) (0 ≤ s29 ∧ s29 < (lens1.len : Nat) ∧ Nn lens1.p fun a32 =>
    Ld vw30 (a32.add ((s29).toNat * 1)) (Value.int .i64) fun (x33 : Int) =>
    Br (decide (x33 > 0)) (0 ≤ x33 ∧ x33 < (16 : Nat) ∧ Ld vw30 ((⟨vw9.heap.size, 0, none⟩ : Addr).add ((x33).toNat * 1)) (Value.int .i64) fun (x34 : Int) =>
      0 ≤ s29 ∧ s29 < (x27.len : Nat) ∧ Nn x27.p fun a35 =>
      St vw30 (a35.add ((s29).toNat * 1)) (.int .i64 x34) fun vw36 =>
      0 ≤ x33 ∧ x33 < (16 : Nat) ∧ Ld vw36 ((⟨vw9.heap.size, 0, none⟩ : Addr).add ((x33).toNat * 1)) (Value.int .i64) fun (x37 : Int) =>
      0 ≤ x33 ∧ x33 < (16 : Nat) ∧ St vw36 ((⟨vw9.heap.size, 0, none⟩ : Addr).add ((x33).toNat * 1)) (.int .i64 (IntKind.i64.wrap (x37 + 1))) fun vw38 =>
      I31 (IntKind.i64.wrap (s29 + 1)) vw38) (I31 (IntKind.i64.wrap (s29 + 1)) vw30)) (R x27 0 vw30)
/-- foliant/code.Codes -/
def S39 (lens1 : Slc) (w : World) (R : Slc → Int → World → Prop) : Prop :=
  C56 lens1 w fun r4 vw5 =>
    Br (r4 != 0) (R (⟨none, 0, 0⟩ : Slc) r4 vw5) (C41 lens1 vw5 fun r6 vw7 =>
        C42 (r6.1, r6.2.1, r6.2.2.1, r6.2.2.2.1, r6.2.2.2.2.1, r6.2.2.2.2.2.1, r6.2.2.2.2.2.2.1, r6.2.2.2.2.2.2.2.1, r6.2.2.2.2.2.2.2.2.1, r6.2.2.2.2.2.2.2.2.2.1, r6.2.2.2.2.2.2.2.2.2.2.1, r6.2.2.2.2.2.2.2.2.2.2.2.1, r6.2.2.2.2.2.2.2.2.2.2.2.2.1, r6.2.2.2.2.2.2.2.2.2.2.2.2.2.1, r6.2.2.2.2.2.2.2.2.2.2.2.2.2.2.1, r6.2.2.2.2.2.2.2.2.2.2.2.2.2.2.2) vw7 fun r8 vw9 =>
          Nw vw9 (.cells #[.int .i64 0, .int .i64 0, .int .i64 0, .int .i64 0, .int .i64 0, .int .i64 0, .int .i64 0, .int .i64 0, .int .i64 0, .int .i64 0, .int .i64 0, .int .i64 0, .int .i64 0, .int .i64 0, .int .i64 0, .int .i64 0] 75) fun vw10 =>
          St vw10 (⟨vw9.heap.size, 0, none⟩ : Addr) (.int .i64 (r8.1)) fun vw11 =>
          St vw11 ((⟨vw9.heap.size, 0, none⟩ : Addr).add 1) (.int .i64 (r8.2.1)) fun vw12 =>
          St vw12 ((⟨vw9.heap.size, 0, none⟩ : Addr).add 2) (.int .i64 (r8.2.2.1)) fun vw13 =>
          St vw13 ((⟨vw9.heap.size, 0, none⟩ : Addr).add 3) (.int .i64 (r8.2.2.2.1)) fun vw14 =>
          St vw14 ((⟨vw9.heap.size, 0, none⟩ : Addr).add 4) (.int .i64 (r8.2.2.2.2.1)) fun vw15 =>
          St vw15 ((⟨vw9.heap.size, 0, none⟩ : Addr).add 5) (.int .i64 (r8.2.2.2.2.2.1)) fun vw16 =>
          St vw16 ((⟨vw9.heap.size, 0, none⟩ : Addr).add 6) (.int .i64 (r8.2.2.2.2.2.2.1)) fun vw17 =>
          St vw17 ((⟨vw9.heap.size, 0, none⟩ : Addr).add 7) (.int .i64 (r8.2.2.2.2.2.2.2.1)) fun vw18 =>
          St vw18 ((⟨vw9.heap.size, 0, none⟩ : Addr).add 8) (.int .i64 (r8.2.2.2.2.2.2.2.2.1)) fun vw19 =>
          St vw19 ((⟨vw9.heap.size, 0, none⟩ : Addr).add 9) (.int .i64 (r8.2.2.2.2.2.2.2.2.2.1)) fun vw20 =>
          St vw20 ((⟨vw9.heap.size, 0, none⟩ : Addr).add 10) (.int .i64 (r8.2.2.2.2.2.2.2.2.2.2.1)) fun vw21 =>
          St vw21 ((⟨vw9.heap.size, 0, none⟩ : Addr).add 11) (.int .i64 (r8.2.2.2.2.2.2.2.2.2.2.2.1)) fun vw22 =>
          St vw22 ((⟨vw9.heap.size, 0, none⟩ : Addr).add 12) (.int .i64 (r8.2.2.2.2.2.2.2.2.2.2.2.2.1)) fun vw23 =>
          St vw23 ((⟨vw9.heap.size, 0, none⟩ : Addr).add 13) (.int .i64 (r8.2.2.2.2.2.2.2.2.2.2.2.2.2.1)) fun vw24 =>
          St vw24 ((⟨vw9.heap.size, 0, none⟩ : Addr).add 14) (.int .i64 (r8.2.2.2.2.2.2.2.2.2.2.2.2.2.2.1)) fun vw25 =>
          St vw25 ((⟨vw9.heap.size, 0, none⟩ : Addr).add 15) (.int .i64 (r8.2.2.2.2.2.2.2.2.2.2.2.2.2.2.2)) fun vw26 =>
          Rn Tryd.prog (Instr.makeSlice 28 (.int .i64 ((lens1.len : Nat) : Int)) (.int .i64 ((lens1.len : Nat) : Int))) vw26 Slc.v fun (x27 : Slc) vw28 =>
          Lp (σ := Int) (S39L1 lens1 vw9 x27 R) 0 vw28)
def pl39 : Plan := (.seq (.reg .seq) (.seq (.seq (.reg .seq) (.seq (.reg .seq) (.cond (.seq (.reg .seq) .leaf) .leaf))) (.seq (.reg .seq) (.seq (.reg .seq) (.seq (.seq (.reg .seq) (.block (.loop [(22, (.one (.int .i64)))] [5, 6, 20, 21] (.seq (.reg .seq) (.seq (.cond .leaf .leaf) (.seq (.block (.seq (.reg .seq) (.seq (.reg .seq) (.cond (.seq (.reg .seq) (.reg .seq)) .leaf)))) (.reg .seq))))))) (.seq (.reg .seq) .leaf))))))
set_option maxRecDepth 100000 in
theorem T39 (lens1 : Slc) (w : World) (R : Slc → Int → World → Prop) (h : S39 lens1 w R) : C39 lens1 w R := by
  have e : fnT Tryd.prog ⟨FF, MAY, (fun _ _ => False)⟩ pl39 Tryd.f39 [Slc.v lens1] w [(.one .slc), (.one (.int .i64))] (fun s w => R s.1 s.2 w) = S39 lens1 w R := by kernel_rfl
  exact (fn_calls okF okM Tryd.func39 (by kernel_rfl) (by kernel_rfl) (e.mpr h)).mono fun _ _ ⟨s, he, hR⟩ => ⟨s.1, s.2, he, hR⟩

/-- slices.Clone[[]int,int] -/
def S40 (s1 : Slc) (w : World) (R : Slc → World → Prop) : Prop :=
  Br s1.p.isNone (R (⟨none, 0, 0⟩ : Slc) w) (Nw w (.cells #[] 3) fun vw2 =>
    Rn Tryd.prog (Builtin.append_ #[28, 28] 28 #[Slc.v ((⟨some ⟨w.heap.size, 0, none⟩, 0, 0⟩ : Slc)), Slc.v s1]) vw2 Slc.v fun (x3 : Slc) vw4 =>
    R x3 vw4)
def pl40 : Plan := (.seq (.reg .seq) (.seq (.seq (.reg .seq) (.cond (.seq (.reg .seq) .leaf) .leaf)) (.seq (.reg .seq) .leaf)))
set_option maxRecDepth 100000 in
theorem T40 (s1 : Slc) (w : World) (R : Slc → World → Prop) (h : S40 s1 w R) : C40 s1 w R := by
  have e : fnT Tryd.prog ⟨FF, MAY, (fun _ _ => False)⟩ pl40 Tryd.f40 [Slc.v s1] w [(.one .slc)] (fun s w => R s w) = S40 s1 w R := by kernel_rfl
  exact (fn_calls okF okM Tryd.func40 (by kernel_rfl) (by kernel_rfl) (e.mpr h)).mono fun _ _ ⟨s, he, hR⟩ => ⟨s, he, hR⟩

def S18L1 (lens1 : Slc) (vw8 : World) (s46 : Int) (I48 : Int → World → Prop) (I51 : Int → World → Prop) (s49 : Int) (vw50 : World) : Prop :=
  Br (decide (s49 < ((lens1.len : Nat) : Int))) (0 ≤ s49 ∧ s49 < (lens1.len : Nat) ∧ Nn lens1.p fun a52 =>
    Ld vw50 (a52.add ((s49).toNat * 1)) (Value.int .i64) fun (x53 : Int) =>
    Br (x53 == s46) (Nn (some (⟨vw8.heap.size, 0, none⟩ : Addr)) fun a54 =>
      Ld vw50 (a54.add 34) Slc.v fun (x55 : Slc) =>
      Nw vw50 (.cells #[.int .i64 s49] 3) fun vw56 =>
      Rn Tryd.prog (Builtin.append_ #[28, 28] 28 #[Slc.v x55, Slc.v ((⟨some ⟨vw50.heap.size, 0, none⟩, 1, 1⟩ : Slc))]) vw56 Slc.v fun (x57 : Slc) vw58 =>
      Nn (some (⟨vw8.heap.size, 0, none⟩ : Addr)) fun a59 =>
      St vw58 (a59.add 34) (Slc.v x57) fun vw60 =>
      I51 (IntKind.i64.wrap (s49 + 1)) vw60) (I51 (IntKind.i64.wrap (s49 + 1)) vw50)) (I48 (IntKind.i64.wrap (s46 + 1)) vw50)
def S18L2 (lens1 : Slc) (vw8 : World) (R : Option Addr → Int → World → Prop) (I48 : Int → World → Prop) (s46 : Int) (vw47 : World) : Prop :=
  Br (decide (s46 ≤ 15)) (Lp (σ := Int) (S18L1 lens1 vw8 s46 I48) 0 vw47) (R (some (⟨vw8.heap.size, 0, none⟩ : Addr)) 0 vw47)
/-- foliant/code.New -/
def S18 (lens1 : Slc) (w : World) (R : Option Addr → Int → World → Prop) : Prop :=
  C39 lens1 w fun r2 r3 vw4 =>
    Br (r3 != 0) (R none r3 vw4) (C40 lens1 vw4 fun r5 vw6 =>
        C41 lens1 vw6 fun r7 vw8 =>
          Nw vw8 (.cells #[Slc.v r5, Slc.v r2, .int .i64 (r7.1), .int .i64 (r7.2.1), .int .i64 (r7.2.2.1), .int .i64 (r7.2.2.2.1), .int .i64 (r7.2.2.2.2.1), .int .i64 (r7.2.2.2.2.2.1), .int .i64 (r7.2.2.2.2.2.2.1), .int .i64 (r7.2.2.2.2.2.2.2.1), .int .i64 (r7.2.2.2.2.2.2.2.2.1), .int .i64 (r7.2.2.2.2.2.2.2.2.2.1), .int .i64 (r7.2.2.2.2.2.2.2.2.2.2.1), .int .i64 (r7.2.2.2.2.2.2.2.2.2.2.2.1), .int .i64 (r7.2.2.2.2.2.2.2.2.2.2.2.2.1), .int .i64 (r7.2.2.2.2.2.2.2.2.2.2.2.2.2.1), .int .i64 (r7.2.2.2.2.2.2.2.2.2.2.2.2.2.2.1), .int .i64 (r7.2.2.2.2.2.2.2.2.2.2.2.2.2.2.2), .int .i64 0, .int .i64 0, .int .i64 0, .int .i64 0, .int .i64 0, .int .i64 0, .int .i64 0, .int .i64 0, .int .i64 0, .int .i64 0, .int .i64 0, .int .i64 0, .int .i64 0, .int .i64 0, .int .i64 0, .int .i64 0, Slc.v ((⟨none, 0, 0⟩ : Slc))] 78) fun vw9 =>
          Nn (some (⟨vw8.heap.size, 0, none⟩ : Addr)) fun a10 =>
          Ld vw9 (a10.add 2) (Value.int .i64) fun (x11 : Int) =>
          Ld vw9 ((a10.add 2).add 1) (Value.int .i64) fun (x12 : Int) =>
          Ld vw9 ((a10.add 2).add 2) (Value.int .i64) fun (x13 : Int) =>
          Ld vw9 ((a10.add 2).add 3) (Value.int .i64) fun (x14 : Int) =>
          Ld vw9 ((a10.add 2).add 4) (Value.int .i64) fun (x15 : Int) =>
          Ld vw9 ((a10.add 2).add 5) (Value.int .i64) fun (x16 : Int) =>
          Ld vw9 ((a10.add 2).add 6) (Value.int .i64) fun (x17 : Int) =>
          Ld vw9 ((a10.add 2).add 7) (Value.int .i64) fun (x18 : Int) =>
          Ld vw9 ((a10.add 2).add 8) (Value.int .i64) fun (x19 : Int) =>
          Ld vw9 ((a10.add 2).add 9) (Value.int .i64) fun (x20 : Int) =>
          Ld vw9 ((a10.add 2).add 10) (Value.int .i64) fun (x21 : Int) =>
          Ld vw9 ((a10.add 2).add 11) (Value.int .i64) fun (x22 : Int) =>
          Ld vw9 ((a10.add 2).add 12) (Value.int .i64) fun (x23 : Int) =>
          Ld vw9 ((a10.add 2).add 13) (Value.int .i64) fun (x24 : Int) =>
          Ld vw9 ((a10.add 2).add 14) (Value.int .i64) fun (x25 : Int) =>
          Ld vw9 ((a10.add 2).add 15) (Value.int .i64) fun (x26 : Int) =>
          C42 (x11, x12, x13, x14, x15, x16, x17, x18, x19, x20, x21, x22, x23, x24, x25, x26) vw9 fun r27 vw28 =>
            Nn (some (⟨vw8.heap.size, 0, none⟩ : Addr)) fun a29 =>
            St vw28 (a29.add 18) (.int .i64 (r27.1)) fun vw30 =>
            St vw30 ((a29.add 18).add 1) (.int .i64 (r27.2.1)) fun vw31 =>
            St vw31 ((a29.add 18).add 2) (.int .i64 (r27.2.2.1)) fun vw32 =>
            St vw32 ((a29.add 18).add 3) (.int .i64 (r27.2.2.2.1)) fun vw33 =>
            St vw33 ((a29.add 18).add 4) (.int .i64 (r27.2.2.2.2.1)) fun vw34 =>
            St vw34 ((a29.add 18).add 5) (.int .i64 (r27.2.2.2.2.2.1)) fun vw35 =>
            St vw35 ((a29.add 18).add 6) (.int .i64 (r27.2.2.2.2.2.2.1)) fun vw36 =>
            St vw36 ((a29.add 18).add 7) (.int .i64 (r27.2.2.2.2.2.2.2.1)) fun vw37 =>
            St vw37 ((a29.add 18).add 8) (.int .i64 (r27.2.2.2.2.2.2.2.2.1)) fun vw38 =>
            St vw38 ((a29.add 18).add 9) (.int .i64 (r27.2.2.2.2.2.2.2.2.2.1)) fun vw39 =>
            St vw39 ((a29.add 18).add 10) (.int .i64 (r27.2.2.2.2.2.2.2.2.2.2.1)) fun vw40 =>
            St vw40 ((a29.add 18).add 11) (.int .i64 (r27.2.2.2.2.2.2.2.2.2.2.2.1)) fun vw41 =>
            St vw41 ((a29.add 18).add 12) (.int .i64 (r27.2.2.2.2.2.2.2.2.2.2.2.2.1)) fun vw42 =>
            St vw42 ((a29.add 18).add 13) (.int .i64 (r27.2.2.2.2.2.2.2.2.2.2.2.2.2.1)) fun vw43 =>
            St vw43 ((a29.add 18).add 14) (.int .i64 (r27.2.2.2.2.2.2.2.2.2.2.2.2.2.2.1)) fun vw44 =>
            St vw44 ((a29.add 18).add 15) (.int .i64 (r27.2.2.2.2.2.2.2.2.2.2.2.2.2.2.2)) fun vw45 =>
            Lp (σ := Int) (S18L2 lens1 vw8 R) 1 vw45)
def pl18 : Plan := (.seq (.reg .seq) (.seq (.reg .seq) (.seq (.seq (.reg .seq) (.cond (.seq (.reg .seq) .leaf) .leaf)) (.seq (.reg .seq) (.seq (.reg .seq) (.seq (.seq (.reg .seq) (.block (.loop [(7, (.one (.int .i64)))] [0, 6] (.seq (.seq (.reg .seq) (.cond .leaf .leaf)) (.seq (.block (.seq (.reg .seq) (.block (.loop [(39, (.one (.int .i64)))] [0, 6, 7, 37, 38] (.seq (.reg .seq) (.seq (.cond .leaf .leaf) (.seq (.block (.seq (.reg .seq) (.seq (.reg .seq) (.cond (.reg .seq) .leaf)))) (.reg .seq)))))))) (.reg .seq)))))) (.seq (.reg .seq) .leaf)))))))
set_option maxRecDepth 100000 in
theorem T18 (lens1 : Slc) (w : World) (R : Option Addr → Int → World → Prop) (h : S18 lens1 w R) : C18 lens1 w R := by
  have e : fnT Tryd.prog ⟨FF, MAY, (fun _ _ => False)⟩ pl18 Tryd.f18 [Slc.v lens1] w [(.one .ptr), (.one (.int .i64))] (fun s w => R s.1 s.2 w) = S18 lens1 w R := by kernel_rfl
  exact (fn_calls okF okM Tryd.func18 (by kernel_rfl) (by kernel_rfl) (e.mpr h)).mono fun _ _ ⟨s, he, hR⟩ => ⟨s.1, s.2, he, hR⟩

def S77L1 (t1 : Option Addr) (r2 : Option Addr) (R : Int → Int → World → Prop) (I7 : (Slc × Int × Int) → World → Prop) (s5 : Slc × Int × Int) (vw6 : World) : Prop :=
  Br (decide (((s5.1.len : Nat) : Int) > 0)) (C60 r2 1 vw6 fun r8 r9 vw10 =>
      Br (r9 != 0) (R 0 r9 vw10) (Nn t1 fun a18 =>
        0 ≤ s5.2.2 ∧ s5.2.2 < (16 : Nat) ∧ Ld vw10 ((a18.add 18).add ((s5.2.2).toNat * 1)) (Value.int .i64) fun (x19 : Int) =>
        Nn t1 fun a20 =>
        0 ≤ s5.2.2 ∧ s5.2.2 < (16 : Nat) ∧ Ld vw10 ((a20.add 2).add ((s5.2.2).toNat * 1)) (Value.int .i64) fun (x21 : Int) =>
        Lt (decide ((IntKind.i64.wrap ((ior .i64 (IntKind.i64.wrap (s5.2.1 * 2 ^ 1)) r8) - x19)) < x21)) fun (x22 : Bool) =>
        Br x22 (0 ≤ (IntKind.i64.wrap ((ior .i64 (IntKind.i64.wrap (s5.2.1 * 2 ^ 1)) r8) - x19)) ∧ (IntKind.i64.wrap ((ior .i64 (IntKind.i64.wrap (s5.2.1 * 2 ^ 1)) r8) - x19)) < (s5.1.len : Nat) ∧ Nn s5.1.p fun a23 =>
          Ld vw10 (a23.add ((IntKind.i64.wrap ((ior .i64 (IntKind.i64.wrap (s5.2.1 * 2 ^ 1)) r8) - x19)).toNat * 1)) (Value.int .i64) fun (x24 : Int) =>
          R x24 0 vw10) (Nn t1 fun a25 =>
          0 ≤ s5.2.2 ∧ s5.2.2 < (16 : Nat) ∧ Ld vw10 ((a25.add 2).add ((s5.2.2).toNat * 1)) (Value.int .i64) fun (x26 : Int) =>
          0 ≤ x26 ∧ x26 ≤ ((s5.1.len : Nat) : Int) ∧ I7 (s5.1.cut 1 ((x26).toNat) s5.1.len s5.1.cap, ior .i64 (IntKind.i64.wrap (s5.2.1 * 2 ^ 1)) r8, IntKind.i64.wrap (s5.2.2 + 1)) vw10))) (R 0 13 vw6)
/-- (*foliant/code.Table).Read -/
def S77 (t1 : Option Addr) (r2 : Option Addr) (w : World) (R : Int → Int → World → Prop) : Prop :=
  Br t1.isNone (R 0 1 w) (Br r2.isNone (R 0 1 w) (Nn t1 fun a3 =>
      Ld w (a3.add 34) Slc.v fun (x4 : Slc) =>
      Lp (σ := Slc × Int × Int) (S77L1 t1 r2 R) (x4, 0, 1) w))
def pl77 : Plan := (.seq (.reg .seq) (.seq (.seq (.reg .seq) (.cond (.seq (.reg .seq) .leaf) .leaf)) (.seq (.reg .seq) (.seq (.reg .seq) (.seq (.seq (.reg .seq) (.block (.loop [(6, (.one .slc)), (7, (.one (.int .i64))), (8, (.one (.int .i64)))] [0, 1] (.seq (.seq (.reg .seq) (.cond .leaf .leaf)) (.seq (.block (.seq (.reg .seq) (.seq (.seq (.reg .seq) (.cond (.seq (.reg .seq) .leaf) .leaf)) (.seq (.reg .seq) (.seq (.seq (.reg .seq) (.seq (.reg .seq) (.cond (.seq (.reg .seq) .leaf) .leaf))) (.reg .seq)))))) (.reg .seq)))))) (.seq (.reg .seq) .leaf))))))
set_option maxRecDepth 100000 in
theorem T77 (t1 : Option Addr) (r2 : Option Addr) (w : World) (R : Int → Int → World → Prop) (h : S77 t1 r2 w R) : C77 t1 r2 w R := by
  have e : fnT Tryd.prog ⟨FF, MAY, (fun _ _ => False)⟩ pl77 Tryd.f77 [.pointer t1, .pointer r2] w [(.one (.int .i64)), (.one (.int .i64))] (fun s w => R s.1 s.2 w) = S77 t1 r2 w R := by kernel_rfl
  exact (fn_calls okF okM Tryd.func77 (by kernel_rfl) (by kernel_rfl) (e.mpr h)).mono fun _ _ ⟨s, he, hR⟩ => ⟨s.1, s.2, he, hR⟩

def S54L1 (w : World) (i1 : Int) (each3 : Int) (R : (Int × Int) → World → Prop) (I11 : (Int × Int) → World → Prop) (s9 : Int × Int) (vw10 : World) : Prop :=
  Br (decide (s9.2 < i1)) (each3 ≠ 0 ∧ Lt ((if (IntKind.i64.wrap ((IntKind.i64.wrap (Int.tdiv s9.2 each3)) - 1)) > 0 then (IntKind.i64.wrap ((IntKind.i64.wrap (Int.tdiv s9.2 each3)) - 1)) else 0)) fun (x12 : Int) =>
    0 ≤ x12 ∧ I11 (IntKind.i64.wrap (s9.1 + (IntKind.i64.wrap (1 * 2 ^ (min (x12).toNat 64)))), IntKind.i64.wrap (s9.2 + 1)) vw10) (each3 ≠ 0 ∧ Lt ((if (IntKind.i64.wrap ((IntKind.i64.wrap (Int.tdiv i1 each3)) - 1)) > 0 then (IntKind.i64.wrap ((IntKind.i64.wrap (Int.tdiv i1 each3)) - 1)) else 0)) fun (x13 : Int) =>
    St vw10 (⟨w.heap.size, 0, none⟩ : Addr) (.int .i64 (s9.1)) fun vw14 =>
    St vw14 ((⟨w.heap.size, 0, none⟩ : Addr).add 1) (.int .i64 x13) fun vw15 =>
    Ld vw15 (⟨w.heap.size, 0, none⟩ : Addr) (Value.int .i64) fun (x16 : Int) =>
    Ld vw15 ((⟨w.heap.size, 0, none⟩ : Addr).add 1) (Value.int .i64) fun (x17 : Int) =>
    R (x16, x17) vw15)
/-- foliant/inflate.spread -/
def S54 (i1 : Int) (first2 : Int) (each3 : Int) (w : World) (R : (Int × Int) → World → Prop) : Prop :=
  Nw w (.cells #[.int .i64 0, .int .i64 0] 63) fun vw4 =>
  Lp (σ := Int × Int) (S54L1 w i1 each3 R) (first2, 0) vw4
def pl54 : Plan := (.seq (.reg .seq) (.seq (.seq (.reg .seq) (.block (.loop [(1, (.one (.int .i64))), (9, (.one (.int .i64)))] [0, 2, 6, 8] (.seq (.reg .seq) (.seq (.cond .leaf .leaf) (.seq (.block (.seq (.reg .seq) (.reg .seq))) (.reg .seq))))))) (.seq (.reg .seq) .leaf)))
set_option maxRecDepth 100000 in
theorem T54 (i1 : Int) (first2 : Int) (each3 : Int) (w : World) (R : (Int × Int) → World → Prop) (h : S54 i1 first2 each3 w R) : C54 i1 first2 each3 w R := by
  have e : fnT Tryd.prog ⟨FF, MAY, (fun _ _ => False)⟩ pl54 Tryd.f54 [.int .i64 i1, .int .i64 first2, .int .i64 each3] w [(.agg [(.int .i64), (.int .i64)])] (fun s w => R s w) = S54 i1 first2 each3 w R := by kernel_rfl
  exact (fn_calls okF okM Tryd.func54 (by kernel_rfl) (by kernel_rfl) (e.mpr h)).mono fun _ _ ⟨s, he, hR⟩ => ⟨s, he, hR⟩

/-- foliant/inflate.size -/
def S33 (i1 : Int) (w : World) (R : (Int × Int) → World → Prop) : Prop :=
  Nw w (.cells #[.int .i64 0, .int .i64 0] 63) fun vw2 =>
  Br (i1 == 28) (St vw2 (⟨w.heap.size, 0, none⟩ : Addr) (.int .i64 258) fun vw3 =>
    St vw3 ((⟨w.heap.size, 0, none⟩ : Addr).add 1) (.int .i64 0) fun vw4 =>
    Ld vw4 (⟨w.heap.size, 0, none⟩ : Addr) (Value.int .i64) fun (x5 : Int) =>
    Ld vw4 ((⟨w.heap.size, 0, none⟩ : Addr).add 1) (Value.int .i64) fun (x6 : Int) =>
    R (x5, x6) vw4) (C54 i1 3 4 vw2 fun r7 vw8 =>
      St vw8 (⟨w.heap.size, 0, none⟩ : Addr) (.int .i64 (r7.1)) fun vw9 =>
      St vw9 ((⟨w.heap.size, 0, none⟩ : Addr).add 1) (.int .i64 (r7.2)) fun vw10 =>
      Ld vw10 (⟨w.heap.size, 0, none⟩ : Addr) (Value.int .i64) fun (x11 : Int) =>
      Ld vw10 ((⟨w.heap.size, 0, none⟩ : Addr).add 1) (Value.int .i64) fun (x12 : Int) =>
      R (x11, x12) vw10)
def pl33 : Plan := (.seq (.reg .seq) (.seq (.seq (.reg .seq) (.cond (.seq (.reg .seq) .leaf) .leaf)) (.seq (.reg .seq) .leaf)))
set_option maxRecDepth 100000 in
theorem T33 (i1 : Int) (w : World) (R : (Int × Int) → World → Prop) (h : S33 i1 w R) : C33 i1 w R := by
  have e : fnT Tryd.prog ⟨FF, MAY, (fun _ _ => False)⟩ pl33 Tryd.f33 [.int .i64 i1] w [(.agg [(.int .i64), (.int .i64)])] (fun s w => R s w) = S33 i1 w R := by kernel_rfl
  exact (fn_calls okF okM Tryd.func33 (by kernel_rfl) (by kernel_rfl) (e.mpr h)).mono fun _ _ ⟨s, he, hR⟩ => ⟨s, he, hR⟩

/-- (foliant/inflate.span).told -/
def S34 (x1 : Int × Int) (more2 : Int) (w : World) (R : Int → Int → World → Prop) : Prop :=
  Nw w (.cells #[.int .i64 (x1.1), .int .i64 (x1.2)] 63) fun vw3 =>
  Br (decide (more2 < 0)) (R 0 1 vw3) (Ld vw3 ((⟨w.heap.size, 0, none⟩ : Addr).add 1) (Value.int .i64) fun (x5 : Int) =>
    0 ≤ x5 ∧ Br (decide (more2 ≥ (IntKind.i64.wrap (1 * 2 ^ (min (x5).toNat 64))))) (R 0 1 vw3) (Ld vw3 (⟨w.heap.size, 0, none⟩ : Addr) (Value.int .i64) fun (x6 : Int) =>
      R (IntKind.i64.wrap (x6 + more2)) 0 vw3))
def pl34 : Plan := (.seq (.reg .seq) (.seq (.seq (.reg .seq) (.cond (.seq (.reg .seq) .leaf) .leaf)) (.seq (.reg .seq) .leaf)))
set_option maxRecDepth 100000 in
theorem T34 (x1 : Int × Int) (more2 : Int) (w : World) (R : Int → Int → World → Prop) (h : S34 x1 more2 w R) : C34 (x1.1, x1.2) more2 w R := by
  have e : fnT Tryd.prog ⟨FF, MAY, (fun _ _ => False)⟩ pl34 Tryd.f34 [.agg #[.int .i64 (x1.1), .int .i64 (x1.2)], .int .i64 more2] w [(.one (.int .i64)), (.one (.int .i64))] (fun s w => R s.1 s.2 w) = S34 x1 more2 w R := by kernel_rfl
  exact (fn_calls okF okM Tryd.func34 (by kernel_rfl) (by kernel_rfl) (e.mpr h)).mono fun _ _ ⟨s, he, hR⟩ => ⟨s.1, s.2, he, hR⟩

/-- foliant/inflate.Size -/
def S11 (sign1 : Int) (more2 : Int) (w : World) (R : Int → Int → World → Prop) : Prop :=
  Br (decide (sign1 < 257)) (R 0 1 w) (Br (decide (sign1 > 285)) (R 0 1 w) (C33 (IntKind.i64.wrap (sign1 - 257)) w fun r3 vw4 =>
        C34 (r3.1, r3.2) more2 vw4 fun r5 r6 vw7 =>
          R r5 r6 vw7))
def pl11 : Plan := (.seq (.reg .seq) (.seq (.seq (.reg .seq) (.cond (.seq (.reg .seq) .leaf) .leaf)) (.seq (.reg .seq) .leaf)))
set_option maxRecDepth 100000 in
theorem T11 (sign1 : Int) (more2 : Int) (w : World) (R : Int → Int → World → Prop) (h : S11 sign1 more2 w R) : C11 sign1 more2 w R := by
  have e : fnT Tryd.prog ⟨FF, MAY, (fun _ _ => False)⟩ pl11 Tryd.f11 [.int .i64 sign1, .int .i64 more2] w [(.one (.int .i64)), (.one (.int .i64))] (fun s w => R s.1 s.2 w) = S11 sign1 more2 w R := by kernel_rfl
  exact (fn_calls okF okM Tryd.func11 (by kernel_rfl) (by kernel_rfl) (e.mpr h)).mono fun _ _ ⟨s, he, hR⟩ => ⟨s.1, s.2, he, hR⟩

/-- foliant/inflate.far -/
def S36 (i1 : Int) (w : World) (R : (Int × Int) → World → Prop) : Prop :=
  Nw w (.cells #[.int .i64 0, .int .i64 0] 63) fun vw2 =>
  C54 i1 1 2 vw2 fun r3 vw4 =>
    St vw4 (⟨w.heap.size, 0, none⟩ : Addr) (.int .i64 (r3.1)) fun vw5 =>
    St vw5 ((⟨w.heap.size, 0, none⟩ : Addr).add 1) (.int .i64 (r3.2)) fun vw6 =>
    Ld vw6 (⟨w.heap.size, 0, none⟩ : Addr) (Value.int .i64) fun (x7 : Int) =>
    Ld vw6 ((⟨w.heap.size, 0, none⟩ : Addr).add 1) (Value.int .i64) fun (x8 : Int) =>
    R (x7, x8) vw6
def pl36 : Plan := (.seq (.reg .seq) (.seq (.reg .seq) .leaf))
set_option maxRecDepth 100000 in
theorem T36 (i1 : Int) (w : World) (R : (Int × Int) → World → Prop) (h : S36 i1 w R) : C36 i1 w R := by
  have e : fnT Tryd.prog ⟨FF, MAY, (fun _ _ => False)⟩ pl36 Tryd.f36 [.int .i64 i1] w [(.agg [(.int .i64), (.int .i64)])] (fun s w => R s w) = S36 i1 w R := by kernel_rfl
  exact (fn_calls okF okM Tryd.func36 (by kernel_rfl) (by kernel_rfl) (e.mpr h)).mono fun _ _ ⟨s, he, hR⟩ => ⟨s, he, hR⟩

/-- foliant/inflate.Far -/
def S13 (sign1 : Int) (more2 : Int) (w : World) (R : Int → Int → World → Prop) : Prop :=
  Br (decide (sign1 < 0)) (R 0 1 w) (Br (decide (sign1 > 29)) (R 0 1 w) (C36 sign1 w fun r3 vw4 =>
        C34 (r3.1, r3.2) more2 vw4 fun r5 r6 vw7 =>
          R r5 r6 vw7))
def pl13 : Plan := (.seq (.reg .seq) (.seq (.seq (.reg .seq) (.cond (.seq (.reg .seq) .leaf) .leaf)) (.seq (.reg .seq) .leaf)))
set_option maxRecDepth 100000 in
theorem T13 (sign1 : Int) (more2 : Int) (w : World) (R : Int → Int → World → Prop) (h : S13 sign1 more2 w R) : C13 sign1 more2 w R := by
  have e : fnT Tryd.prog ⟨FF, MAY, (fun _ _ => False)⟩ pl13 Tryd.f13 [.int .i64 sign1, .int .i64 more2] w [(.one (.int .i64)), (.one (.int .i64))] (fun s w => R s.1 s.2 w) = S13 sign1 more2 w R := by kernel_rfl
  exact (fn_calls okF okM Tryd.func13 (by kernel_rfl) (by kernel_rfl) (e.mpr h)).mono fun _ _ ⟨s, he, hR⟩ => ⟨s.1, s.2, he, hR⟩

/-- math/bits.Mul64 -/
def S74 (x1 : Int) (y2 : Int) (w : World) (R : Int → Int → World → Prop) : Prop :=
  Lt (Int.fdiv (IntKind.u64.wrap ((iand .u64 x1 4294967295) * (iand .u64 y2 4294967295))) (2 ^ 32)) fun (x3 : Int) =>
  Lt (IntKind.u64.wrap ((IntKind.u64.wrap ((Int.fdiv x1 (2 ^ 32)) * (iand .u64 y2 4294967295))) + x3)) fun (x4 : Int) =>
  Lt (IntKind.u64.wrap ((iand .u64 x4 4294967295) + (IntKind.u64.wrap ((iand .u64 x1 4294967295) * (Int.fdiv y2 (2 ^ 32)))))) fun (x5 : Int) =>
  Lt (IntKind.u64.wrap ((IntKind.u64.wrap ((Int.fdiv x1 (2 ^ 32)) * (Int.fdiv y2 (2 ^ 32)))) + (Int.fdiv x4 (2 ^ 32)))) fun (x6 : Int) =>
  R (IntKind.u64.wrap (x6 + (Int.fdiv x5 (2 ^ 32)))) (IntKind.u64.wrap (x1 * y2)) w
def pl74 : Plan := (.seq (.reg .seq) (.seq (.reg .seq) (.seq (.reg .seq) (.seq (.reg .seq) (.seq (.reg .seq) (.seq (.reg .seq) (.seq (.reg .seq) (.seq (.reg .seq) (.seq (.reg .seq) (.seq (.reg .seq) (.seq (.reg .seq) (.seq (.reg .seq) .leaf))))))))))))
set_option maxRecDepth 100000 in
theorem T74 (x1 : Int) (y2 : Int) (w : World) (R : Int → Int → World → Prop) (h : S74 x1 y2 w R) : C74 x1 y2 w R := by
  have e : fnT Tryd.prog ⟨FF, MAY, (fun _ _ => False)⟩ pl74 Tryd.f74 [.int .u64 x1, .int .u64 y2] w [(.one (.int .u64)), (.one (.int .u64))] (fun s w => R s.1 s.2 w) = S74 x1 y2 w R := by kernel_rfl
  exact (fn_calls okF okM Tryd.func74 (by kernel_rfl) (by kernel_rfl) (e.mpr h)).mono fun _ _ ⟨s, he, hR⟩ => ⟨s.1, s.2, he, hR⟩

/-- math/bits.Mul -/
def S55 (x1 : Int) (y2 : Int) (w : World) (R : Int → Int → World → Prop) : Prop :=
  C74 x1 y2 w fun r3 r4 vw5 =>
    R r3 r4 vw5
def pl55 : Plan := (.seq (.reg .seq) (.seq (.cond (.seq (.reg .seq) (.seq (.reg .seq) .leaf)) .leaf) (.seq (.reg .seq) (.seq (.reg .seq) .leaf))))
set_option maxRecDepth 100000 in
theorem T55 (x1 : Int) (y2 : Int) (w : World) (R : Int → Int → World → Prop) (h : S55 x1 y2 w R) : C55 x1 y2 w R := by
  have e : fnT Tryd.prog ⟨FF, MAY, (fun _ _ => False)⟩ pl55 Tryd.f55 [.int .u64 x1, .int .u64 y2] w [(.one (.int .u64)), (.one (.int .u64))] (fun s w => R s.1 s.2 w) = S55 x1 y2 w R := by kernel_rfl
  exact (fn_calls okF okM Tryd.func55 (by kernel_rfl) (by kernel_rfl) (e.mpr h)).mono fun _ _ ⟨s, he, hR⟩ => ⟨s.1, s.2, he, hR⟩

def S38L1 (x6 : Slc) (R : Slc → World → Prop) (I12 : Int → World → Prop) (s10 : Int) (vw11 : World) : Prop :=
  Br (decide (s10 < ((x6.len : Nat) : Int))) (0 ≤ s10 ∧ s10 ≤ ((x6.len : Nat) : Int) ∧ 0 ≤ s10 ∧ s10 ≤ ((x6.cap : Nat) : Int) ∧ Rn Tryd.prog (Builtin.copy_ #[28, 28] 3 #[Slc.v (x6.cut 1 ((s10).toNat) x6.len x6.cap), Slc.v (x6.cut 1 0 ((s10).toNat) x6.cap)]) vw11.drew (Value.int .i64) fun (x13 : Int) vw14 =>
    I12 (IntKind.i64.wrap (s10 + x13)) vw14) (R x6 vw11)
/-- slices.Repeat[[]int,int] -/
def S38 (x1 : Slc) (count2 : Int) (w : World) (R : Slc → World → Prop) (PR : Value → World → Prop) : Prop :=
  Br (decide (count2 < 0)) (PR (.iface 9 (.string ((⟨#[99, 97, 110, 110, 111, 116, 32, 98, 101, 32, 110, 101, 103, 97, 116, 105, 118, 101]⟩ : ByteArray)))) w) (C55 (IntKind.u64.wrap ((x1.len : Nat) : Int)) (IntKind.u64.wrap count2) w fun r3 r4 vw5 =>
      Br (decide (r3 > 0)) (PR (.iface 9 (.string ((⟨#[116, 104, 101, 32, 114, 101, 115, 117, 108, 116, 32, 111, 102, 32, 40, 108, 101, 110, 40, 120, 41, 32, 42, 32, 99, 111, 117, 110, 116, 41, 32, 111, 118, 101, 114, 102, 108, 111, 119, 115]⟩ : ByteArray)))) vw5) (Br (decide (r4 > 9223372036854775807)) (PR (.iface 9 (.string ((⟨#[116, 104, 101, 32, 114, 101, 115, 117, 108, 116, 32, 111, 102, 32, 40, 108, 101, 110, 40, 120, 41, 32, 42, 32, 99, 111, 117, 110, 116, 41, 32, 111, 118, 101, 114, 102, 108, 111, 119, 115]⟩ : ByteArray)))) vw5) (Rn Tryd.prog (Instr.makeSlice 28 (.int .i64 (IntKind.i64.wrap r4)) (.int .i64 (IntKind.i64.wrap r4))) vw5 Slc.v fun (x6 : Slc) vw7 =>
          Rn Tryd.prog (Builtin.copy_ #[28, 28] 3 #[Slc.v x6, Slc.v x1]) vw7 (Value.int .i64) fun (x8 : Int) vw9 =>
          Lp (σ := Int) (S38L1 x6 R) x8 vw9)))
def pl38 : Plan := (.seq (.reg .seq) (.seq (.seq (.reg .seq) (.cond (.reg .seq) .leaf)) (.seq (.reg .seq) (.seq (.seq (.reg .seq) (.cond (.reg .seq) .leaf)) (.seq (.reg .seq) (.seq (.reg .seq) (.seq (.block (.loop [(8, (.one (.int .i64)))] [7] (.seq (.seq (.reg .seq) (.cond .leaf .leaf)) (.block (.reg (.held [7] (.take 0 (.take 1 (.take 2 (.take 3 (.take 4 (.take 5 (.take 6 (.eff 7 (some []) (.take 8 (.take 9 .done)))))))))))))))) (.seq (.reg .seq) .leaf))))))))
set_option maxRecDepth 100000 in
theorem T38 (x1 : Slc) (count2 : Int) (w : World) (R : Slc → World → Prop) (PR : Value → World → Prop) (h : S38 x1 count2 w R PR) : C38 x1 count2 w R PR := by
  have e : fnT Tryd.prog ⟨FF, MAY, PR⟩ pl38 Tryd.f38 [Slc.v x1, .int .i64 count2] w [(.one .slc)] (fun s w => R s w) = S38 x1 count2 w R PR := by kernel_rfl
  exact (fn_callsP okF okM Tryd.func38 (by kernel_rfl) (by kernel_rfl) (e.mpr h)).mono fun _ _ he => he.elim (fun ⟨s, he, hR⟩ => .inl ⟨s, he, hR⟩) .inr

def S15L1 (R : Slc → Slc → World → Prop) (PR : Value → World → Prop) (I17 : (Slc × Int) → World → Prop) (s15 : Slc × Int) (vw16 : World) : Prop :=
  Br (decide (s15.2 < 4)) (0 ≤ s15.2 ∧ s15.2 < (4 : Nat) ∧ ∃ x18 : Int × Int, (#[.int .i64 144, .int .i64 8, .int .i64 112, .int .i64 9, .int .i64 24, .int .i64 7, .int .i64 8, .int .i64 8] : Array Value).extract ((s15.2).toNat * 2) ((s15.2).toNat * 2 + 2) = #[.int .i64 (x18.1), .int .i64 (x18.2)] ∧ Nw vw16 (.cells #[.int .i64 0, .int .i64 0] 68) fun vw19 =>
    St vw19 (⟨vw16.heap.size, 0, none⟩ : Addr) (.int .i64 (x18.1)) fun vw20 =>
    St vw20 ((⟨vw16.heap.size, 0, none⟩ : Addr).add 1) (.int .i64 (x18.2)) fun vw21 =>
    Ld vw21 ((⟨vw16.heap.size, 0, none⟩ : Addr).add 1) (Value.int .i64) fun (x22 : Int) =>
    Nw vw21 (.cells #[.int .i64 x22] 3) fun vw23 =>
    Ld vw23 (⟨vw16.heap.size, 0, none⟩ : Addr) (Value.int .i64) fun (x24 : Int) =>
    C38 (⟨some ⟨vw21.heap.size, 0, none⟩, 1, 1⟩ : Slc) x24 vw23 (fun r25 vw26 =>
      Rn Tryd.prog (Builtin.append_ #[28, 28] 28 #[Slc.v s15.1, Slc.v r25]) vw26 Slc.v fun (x27 : Slc) vw28 =>
      I17 (x27, IntKind.i64.wrap (s15.2 + 1)) vw28) PR) (Nw vw16 (.cells #[.int .i64 5] 3) fun vw29 =>
    C38 (⟨some ⟨vw16.heap.size, 0, none⟩, 1, 1⟩ : Slc) 32 vw29 (fun r30 vw31 =>
      R s15.1 r30 vw31) PR)
/-- foliant/inflate.Fixed -/
def S15 (w : World) (R : Slc → Slc → World → Prop) (PR : Value → World → Prop) : Prop :=
  Lp (σ := Slc × Int) (S15L1 R PR) ((⟨none, 0, 0⟩ : Slc), 0) w
def pl15 : Plan := (.seq (.reg .seq) (.seq (.seq (.reg .seq) (.block (.loop [(0, (.one .slc)), (9, (.one (.int .i64)))] [8] (.seq (.reg .seq) (.seq (.cond .leaf .leaf) (.seq (.block (.seq (.reg .seq) (.reg .seq))) (.reg .seq))))))) (.seq (.reg .seq) .leaf)))
set_option maxRecDepth 100000 in
theorem T15 (w : World) (R : Slc → Slc → World → Prop) (PR : Value → World → Prop) (h : S15 w R PR) : C15 w R PR := by
  have e : fnT Tryd.prog ⟨FF, MAY, PR⟩ pl15 Tryd.f15 [] w [(.one .slc), (.one .slc)] (fun s w => R s.1 s.2 w) = S15 w R PR := by kernel_rfl
  exact (fn_callsP okF okM Tryd.func15 (by kernel_rfl) (by kernel_rfl) (e.mpr h)).mono fun _ _ he => he.elim (fun ⟨s, he, hR⟩ => .inl ⟨s.1, s.2, he, hR⟩) .inr

/-- foliant/foliantref10.bits -/
def S68 (n1 : Int) (w : World) (R : Int → World → Prop) : Prop :=
  0 ≤ (IntKind.u64.wrap n1) ∧ R (IntKind.i64.wrap (1 * 2 ^ (min (IntKind.u64.wrap n1).toNat 64))) w
def pl68 : Plan := (.seq (.reg .seq) (.seq (.reg .seq) .leaf))
set_option maxRecDepth 100000 in
theorem T68 (n1 : Int) (w : World) (R : Int → World → Prop) (h : S68 n1 w R) : C68 n1 w R := by
  have e : fnT Tryd.prog ⟨FF, MAY, (fun _ _ => False)⟩ pl68 Tryd.f68 [.int .i64 n1] w [(.one (.int .i64))] (fun s w => R s w) = S68 n1 w R := by kernel_rfl
  exact (fn_calls okF okM Tryd.func68 (by kernel_rfl) (by kernel_rfl) (e.mpr h)).mono fun _ _ ⟨s, he, hR⟩ => ⟨s, he, hR⟩

def S70L1 (lens1 : Slc) (R : Int → World → Prop) (I4 : (Int × Int) → World → Prop) (s2 : Int × Int) (vw3 : World) : Prop :=
  Br (decide (s2.2 < ((lens1.len : Nat) : Int))) (0 ≤ s2.2 ∧ s2.2 < (lens1.len : Nat) ∧ Nn lens1.p fun a5 =>
    Ld vw3 (a5.add ((s2.2).toNat * 1)) (Value.int .i64) fun (x6 : Int) =>
    Br (x6 != 0) (I4 (IntKind.i64.wrap (s2.1 + 1), IntKind.i64.wrap (s2.2 + 1)) vw3) (I4 (s2.1, IntKind.i64.wrap (s2.2 + 1)) vw3)) (R s2.1 vw3)
/-- foliant/foliantref10.used -/
def S70 (lens1 : Slc) (w : World) (R : Int → World → Prop) : Prop :=
  Lp (σ := Int × Int) (S70L1 lens1 R) (0, 0) w
def pl70 : Plan := (.seq (.reg .seq) (.seq (.reg .seq) (.seq (.seq (.reg .seq) (.block (.loop [(3, (.one (.int .i64))), (4, (.one (.int .i64)))] [0] (.seq (.seq (.reg .seq) (.cond .leaf .leaf)) (.seq (.block (.seq (.reg .seq) (.cond (.reg .seq) .leaf))) (.reg .seq)))))) (.seq (.reg .seq) .leaf))))
set_option maxRecDepth 100000 in
theorem T70 (lens1 : Slc) (w : World) (R : Int → World → Prop) (h : S70 lens1 w R) : C70 lens1 w R := by
  have e : fnT Tryd.prog ⟨FF, MAY, (fun _ _ => False)⟩ pl70 Tryd.f70 [Slc.v lens1] w [(.one (.int .i64))] (fun s w => R s w) = S70 lens1 w R := by kernel_rfl
  exact (fn_calls okF okM Tryd.func70 (by kernel_rfl) (by kernel_rfl) (e.mpr h)).mono fun _ _ ⟨s, he, hR⟩ => ⟨s, he, hR⟩

def S52L1 (lens1 : Slc) (R : Int → World → Prop) (I23 : (Int × Int × Int) → World → Prop) (s21 : Int × Int × Int) (vw22 : World) : Prop :=
  Br (decide (s21.2.2 < ((lens1.len : Nat) : Int))) (0 ≤ s21.2.2 ∧ s21.2.2 < (lens1.len : Nat) ∧ Nn lens1.p fun a24 =>
    Ld vw22 (a24.add ((s21.2.2).toNat * 1)) (Value.int .i64) fun (x25 : Int) =>
    Br (decide (x25 < 0)) (R 1 vw22) (0 ≤ s21.2.2 ∧ s21.2.2 < (lens1.len : Nat) ∧ Nn lens1.p fun a26 =>
      Ld vw22 (a26.add ((s21.2.2).toNat * 1)) (Value.int .i64) fun (x27 : Int) =>
      Br (decide (x27 > 15)) (R 1 vw22) (0 ≤ s21.2.2 ∧ s21.2.2 < (lens1.len : Nat) ∧ Nn lens1.p fun a28 =>
        Ld vw22 (a28.add ((s21.2.2).toNat * 1)) (Value.int .i64) fun (x29 : Int) =>
        Br (decide (x29 > 0)) (0 ≤ s21.2.2 ∧ s21.2.2 < (lens1.len : Nat) ∧ Nn lens1.p fun a30 =>
          Ld vw22 (a30.add ((s21.2.2).toNat * 1)) (Value.int .i64) fun (x31 : Int) =>
          C68 (IntKind.i64.wrap (15 - x31)) vw22 fun r32 vw33 =>
            0 ≤ s21.2.2 ∧ s21.2.2 < (lens1.len : Nat) ∧ Nn lens1.p fun a34 =>
            Ld vw33 (a34.add ((s21.2.2).toNat * 1)) (Value.int .i64) fun (x35 : Int) =>
            I23 (IntKind.i64.wrap (s21.1 + r32), (if x35 > s21.2.1 then x35 else s21.2.1), IntKind.i64.wrap (s21.2.2 + 1)) vw33) (I23 (s21.1, s21.2.1, IntKind.i64.wrap (s21.2.2 + 1)) vw22)))) (C68 15 vw22 fun r36 vw37 =>
      Br (s21.1 == r36) (R 0 vw37) (Br (s21.1 == 0) (R 0 vw37) (C70 lens1 vw37 fun r38 vw39 =>
            Br (r38 == 1) (Br (s21.2.1 == 1) (R 0 vw39) (R 13 vw39)) (R 13 vw39))))
/-- foliant/foliantref10.Check -/
def S52 (lens1 : Slc) (w : World) (R : Int → World → Prop) : Prop :=
  Br (decide (((lens1.len : Nat) : Int) > 288)) (R 6 w) (Lp (σ := Int × Int × Int) (S52L1 lens1 R) (0, 0, 0) w)
def pl52 : Plan := (.seq (.reg .seq) (.seq (.seq (.reg .seq) (.cond (.seq (.reg .seq) .leaf) .leaf)) (.seq (.reg .seq) (.seq (.seq (.reg .seq) (.block (.loop [(3, (.one (.int .i64))), (4, (.one (.int .i64))), (5, (.one (.int .i64)))] [0] (.seq (.seq (.reg .seq) (.cond .leaf .leaf)) (.seq (.block (.seq (.seq (.reg .seq) (.cond (.seq (.reg .seq) .leaf) .leaf)) (.seq (.reg .seq) (.cond (.seq (.reg .seq) (.reg .seq)) .leaf)))) (.reg .seq)))))) (.seq (.seq (.reg .seq) (.cond (.seq (.reg .seq) .leaf) .leaf)) (.seq (.reg .seq) .leaf))))))
set_option maxRecDepth 100000 in
theorem T52 (lens1 : Slc) (w : World) (R : Int → World → Prop) (h : S52 lens1 w R) : C52 lens1 w R := by
  have e : fnT Tryd.prog ⟨FF, MAY, (fun _ _ => False)⟩ pl52 Tryd.f52 [Slc.v lens1] w [(.one (.int .i64))] (fun s w => R s w) = S52 lens1 w R := by kernel_rfl
  exact (fn_calls okF okM Tryd.func52 (by kernel_rfl) (by kernel_rfl) (e.mpr h)).mono fun _ _ ⟨s, he, hR⟩ => ⟨s, he, hR⟩

/-- foliant/foliantref10.Bit -/
def S49 (s1 : ByteArray) (vat2 : Int) (w : World) (R : Int → World → Prop) : Prop :=
  Br (decide (vat2 < 0)) (R (-1) w) (Br (decide ((IntKind.i64.wrap (Int.tdiv vat2 8)) ≥ (((s1).size : Nat) : Int))) (R (-1) w) (0 ≤ (IntKind.i64.wrap (Int.tdiv vat2 8)) ∧ (IntKind.i64.wrap (Int.tdiv vat2 8)) < ((s1).size : Nat) ∧ C68 (Int.tmod vat2 8) w.drew fun r3 vw4 =>
        r3 ≠ 0 ∧ R (Int.tmod (IntKind.i64.wrap (Int.tdiv (IntKind.i64.wrap (bAt s1 (IntKind.i64.wrap (Int.tdiv vat2 8)))) r3)) 2) vw4))
def pl49 : Plan := (.seq (.reg .seq) (.seq (.seq (.reg .seq) (.cond (.seq (.reg .seq) .leaf) .leaf)) (.seq (.reg (.held [7] (.take 0 (.take 1 (.take 2 (.take 3 (.take 4 (.take 5 (.take 6 (.eff 7 (some []) (.take 8 (.take 9 (.take 10 .done))))))))))))) .leaf)))
set_option maxRecDepth 100000 in
theorem T49 (s1 : ByteArray) (vat2 : Int) (w : World) (R : Int → World → Prop) (h : S49 s1 vat2 w R) : C49 s1 vat2 w R := by
  have e : fnT Tryd.prog ⟨FF, MAY, (fun _ _ => False)⟩ pl49 Tryd.f49 [.string s1, .int .i64 vat2] w [(.one (.int .i64))] (fun s w => R s w) = S49 s1 vat2 w R := by kernel_rfl
  exact (fn_calls okF okM Tryd.func49 (by kernel_rfl) (by kernel_rfl) (e.mpr h)).mono fun _ _ ⟨s, he, hR⟩ => ⟨s, he, hR⟩

def S79L1 (lens1 : Slc) (n2 : Int) (R : Int → World → Prop) (I6 : (Int × Int) → World → Prop) (s4 : Int × Int) (vw5 : World) : Prop :=
  Br (decide (s4.2 < ((lens1.len : Nat) : Int))) (0 ≤ s4.2 ∧ s4.2 < (lens1.len : Nat) ∧ Nn lens1.p fun a7 =>
    Ld vw5 (a7.add ((s4.2).toNat * 1)) (Value.int .i64) fun (x8 : Int) =>
    Br (x8 == n2) (Br (s4.1 == 0) (R s4.2 vw5) (I6 (IntKind.i64.wrap (s4.1 - 1), IntKind.i64.wrap (s4.2 + 1)) vw5)) (I6 (s4.1, IntKind.i64.wrap (s4.2 + 1)) vw5)) (R 0 vw5)
/-- foliant/foliantref10.place -/
def S79 (lens1 : Slc) (n2 : Int) (ahead3 : Int) (w : World) (R : Int → World → Prop) : Prop :=
  Lp (σ := Int × Int) (S79L1 lens1 n2 R) (ahead3, 0) w
def pl79 : Plan := (.seq (.reg .seq) (.seq (.seq (.reg .seq) (.block (.loop [(2, (.one (.int .i64))), (7, (.one (.int .i64)))] [0, 1] (.seq (.seq (.reg .seq) (.cond .leaf .leaf)) (.seq (.block (.seq (.reg .seq) (.cond (.seq (.seq (.reg .seq) (.cond (.seq (.reg .seq) .leaf) .leaf)) (.reg .seq)) .leaf))) (.reg .seq)))))) (.seq (.reg .seq) .leaf)))
set_option maxRecDepth 100000 in
theorem T79 (lens1 : Slc) (n2 : Int) (ahead3 : Int) (w : World) (R : Int → World → Prop) (h : S79 lens1 n2 ahead3 w R) : C79 lens1 n2 ahead3 w R := by
  have e : fnT Tryd.prog ⟨FF, MAY, (fun _ _ => False)⟩ pl79 Tryd.f79 [Slc.v lens1, .int .i64 n2, .int .i64 ahead3] w [(.one (.int .i64))] (fun s w => R s w) = S79 lens1 n2 ahead3 w R := by kernel_rfl
  exact (fn_calls okF okM Tryd.func79 (by kernel_rfl) (by kernel_rfl) (e.mpr h)).mono fun _ _ ⟨s, he, hR⟩ => ⟨s, he, hR⟩

def S71L1 (w : World) (lens1 : Slc) (s2 : ByteArray) (s14 : Int × Int) (R : Int → Int → Int → World → Prop) (I25 : (Int × Int × Int × Int) → World → Prop) (s23 : Int × Int × Int × Int) (vw24 : World) : Prop :=
  Br (decide (s23.2.2.2 ≤ s14.1)) (C49 s2 s23.1 vw24 fun r26 vw27 =>
      Br (decide (r26 < 0)) (R 0 s23.1 4 vw27) (Lt (IntKind.i64.wrap ((IntKind.i64.wrap ((IntKind.i64.wrap (2 * s23.2.1)) + r26)) - (IntKind.i64.wrap (2 * s23.2.2.1)))) fun (x28 : Int) =>
        0 ≤ s23.2.2.2 ∧ s23.2.2.2 < (16 : Nat) ∧ Ld vw27 ((⟨w.heap.size, 0, none⟩ : Addr).add ((s23.2.2.2).toNat * 1)) (Value.int .i64) fun (x29 : Int) =>
        Br (decide (x28 < x29)) (Lt (IntKind.i64.wrap ((IntKind.i64.wrap ((IntKind.i64.wrap (2 * s23.2.1)) + r26)) - (IntKind.i64.wrap (2 * s23.2.2.1)))) fun (x30 : Int) =>
          C79 lens1 s23.2.2.2 x30 vw27 fun r31 vw32 =>
            R r31 (IntKind.i64.wrap (s23.1 + 1)) 0 vw32) (0 ≤ s23.2.2.2 ∧ s23.2.2.2 < (16 : Nat) ∧ Ld vw27 ((⟨w.heap.size, 0, none⟩ : Addr).add ((s23.2.2.2).toNat * 1)) (Value.int .i64) fun (x33 : Int) =>
          I25 (IntKind.i64.wrap (s23.1 + 1), IntKind.i64.wrap ((IntKind.i64.wrap (2 * s23.2.1)) + r26), IntKind.i64.wrap ((IntKind.i64.wrap (2 * s23.2.2.1)) + x33), IntKind.i64.wrap (s23.2.2.2 + 1)) vw27))) (R 0 s23.1 13 vw24)
def S71L2 (w : World) (lens1 : Slc) (s2 : ByteArray) (vat3 : Int) (R : Int → Int → Int → World → Prop) (I16 : (Int × Int) → World → Prop) (s14 : Int × Int) (vw15 : World) : Prop :=
  Br (decide (s14.2 < ((lens1.len : Nat) : Int))) (0 ≤ s14.2 ∧ s14.2 < (lens1.len : Nat) ∧ Nn lens1.p fun a17 =>
    Ld vw15 (a17.add ((s14.2).toNat * 1)) (Value.int .i64) fun (x18 : Int) =>
    0 ≤ x18 ∧ x18 < (16 : Nat) ∧ Ld vw15 ((⟨w.heap.size, 0, none⟩ : Addr).add ((x18).toNat * 1)) (Value.int .i64) fun (x19 : Int) =>
    0 ≤ x18 ∧ x18 < (16 : Nat) ∧ St vw15 ((⟨w.heap.size, 0, none⟩ : Addr).add ((x18).toNat * 1)) (.int .i64 (IntKind.i64.wrap (x19 + 1))) fun vw20 =>
    0 ≤ s14.2 ∧ s14.2 < (lens1.len : Nat) ∧ Nn lens1.p fun a21 =>
    Ld vw20 (a21.add ((s14.2).toNat * 1)) (Value.int .i64) fun (x22 : Int) =>
    I16 ((if x22 > s14.1 then x22 else s14.1), IntKind.i64.wrap (s14.2 + 1)) vw20) (Lp (σ := Int × Int × Int × Int) (S71L1 w lens1 s2 s14 R) (vat3, 0, 0, 1) vw15)
/-- foliant/foliantref10.Sign -/
def S71 (lens1 : Slc) (s2 : ByteArray) (vat3 : Int) (w : World) (R : Int → Int → Int → World → Prop) : Prop :=
  Nw w (.cells #[.int .i64 0, .int .i64 0, .int .i64 0, .int .i64 0, .int .i64 0, .int .i64 0, .int .i64 0, .int .i64 0, .int .i64 0, .int .i64 0, .int .i64 0, .int .i64 0, .int .i64 0, .int .i64 0, .int .i64 0, .int .i64 0] 74) fun vw4 =>
  Lp (σ := Int × Int) (S71L2 w lens1 s2 vat3 R) (0, 0) vw4
def pl71 : Plan := (.seq (.reg .seq) (.seq (.reg .seq) (.seq (.reg .seq) (.seq (.seq (.reg .seq) (.block (.loop [(10, (.one (.int .i64))), (11, (.one (.int .i64)))] [0, 1, 2, 9] (.seq (.seq (.reg .seq) (.cond .leaf .leaf)) (.seq (.block (.seq (.reg .seq) (.reg .seq))) (.reg .seq)))))) (.seq (.reg .seq) (.seq (.seq (.reg .seq) (.block (.loop [(2, (.one (.int .i64))), (12, (.one (.int .i64))), (13, (.one (.int .i64))), (14, (.one (.int .i64)))] [0, 1, 9, 10] (.seq (.seq (.reg .seq) (.cond .leaf .leaf)) (.seq (.block (.seq (.reg .seq) (.seq (.seq (.reg .seq) (.cond (.seq (.reg .seq) .leaf) .leaf)) (.seq (.reg .seq) (.seq (.reg .seq) (.seq (.reg .seq) (.seq (.seq (.reg .seq) (.cond (.seq (.reg .seq) .leaf) .leaf)) (.reg .seq)))))))) (.reg .seq)))))) (.seq (.reg .seq) .leaf)))))))
set_option maxRecDepth 100000 in
theorem T71 (lens1 : Slc) (s2 : ByteArray) (vat3 : Int) (w : World) (R : Int → Int → Int → World → Prop) (h : S71 lens1 s2 vat3 w R) : C71 lens1 s2 vat3 w R := by
  have e : fnT Tryd.prog ⟨FF, MAY, (fun _ _ => False)⟩ pl71 Tryd.f71 [Slc.v lens1, .string s2, .int .i64 vat3] w [(.one (.int .i64)), (.one (.int .i64)), (.one (.int .i64))] (fun s w => R s.1 s.2.1 s.2.2 w) = S71 lens1 s2 vat3 w R := by kernel_rfl
  exact (fn_calls okF okM Tryd.func71 (by kernel_rfl) (by kernel_rfl) (e.mpr h)).mono fun _ _ ⟨s, he, hR⟩ => ⟨s.1, s.2.1, s.2.2, he, hR⟩

/-- foliant/foliantref11.longer -/
def S35 (sign1 : Int) (w : World) (R : Int → World → Prop) : Prop :=
  Br (decide (sign1 < 265)) (R 0 w) (Br (decide (sign1 > 284)) (R 0 w) (R (IntKind.i64.wrap (Int.tdiv (IntKind.i64.wrap (sign1 - 261)) 4)) w))
def pl35 : Plan := (.seq (.reg .seq) (.seq (.seq (.reg .seq) (.cond (.seq (.reg .seq) .leaf) .leaf)) (.seq (.reg .seq) .leaf)))
set_option maxRecDepth 100000 in
theorem T35 (sign1 : Int) (w : World) (R : Int → World → Prop) (h : S35 sign1 w R) : C35 sign1 w R := by
  have e : fnT Tryd.prog ⟨FF, MAY, (fun _ _ => False)⟩ pl35 Tryd.f35 [.int .i64 sign1] w [(.one (.int .i64))] (fun s w => R s w) = S35 sign1 w R := by kernel_rfl
  exact (fn_calls okF okM Tryd.func35 (by kernel_rfl) (by kernel_rfl) (e.mpr h)).mono fun _ _ ⟨s, he, hR⟩ => ⟨s, he, hR⟩

def S12L1 (sign1 : Int) (more2 : Int) (R : Int → Int → World → Prop) (I15 : (Int × Int) → World → Prop) (s13 : Int × Int) (vw14 : World) : Prop :=
  Br (decide (s13.2 < sign1)) (C35 s13.2 vw14 fun r16 vw17 =>
      0 ≤ (IntKind.u64.wrap r16) ∧ Lt (IntKind.i64.wrap (s13.1 + (IntKind.i64.wrap (1 * 2 ^ (min (IntKind.u64.wrap r16).toNat 64))))) fun (x18 : Int) =>
      I15 (x18, IntKind.i64.wrap (s13.2 + 1)) vw17) (R (IntKind.i64.wrap (s13.1 + more2)) 0 vw14)
/-- foliant/foliantref11.Size -/
def S12 (sign1 : Int) (more2 : Int) (w : World) (R : Int → Int → World → Prop) : Prop :=
  Br (decide (sign1 < 257)) (R 0 1 w) (Br (decide (sign1 > 285)) (R 0 1 w) (Br (decide (more2 < 0)) (R 0 1 w) (C35 sign1 w fun r5 vw6 =>
          0 ≤ (IntKind.u64.wrap r5) ∧ Br (decide (more2 ≥ (IntKind.i64.wrap (1 * 2 ^ (min (IntKind.u64.wrap r5).toNat 64))))) (R 0 1 vw6) (Br (sign1 == 285) (R 258 0 vw6) (Lp (σ := Int × Int) (S12L1 sign1 more2 R) (3, 257) vw6)))))
def pl12 : Plan := (.seq (.reg .seq) (.seq (.seq (.reg .seq) (.cond (.seq (.reg .seq) .leaf) .leaf)) (.seq (.seq (.reg .seq) (.cond (.seq (.reg .seq) .leaf) .leaf)) (.seq (.reg .seq) (.seq (.seq (.reg .seq) (.block (.loop [(6, (.one (.int .i64))), (7, (.one (.int .i64)))] [0, 1] (.seq (.seq (.reg .seq) (.cond .leaf .leaf)) (.seq (.block (.reg .seq)) (.reg .seq)))))) (.seq (.reg .seq) .leaf))))))
set_option maxRecDepth 100000 in
theorem T12 (sign1 : Int) (more2 : Int) (w : World) (R : Int → Int → World → Prop) (h : S12 sign1 more2 w R) : C12 sign1 more2 w R := by
  have e : fnT Tryd.prog ⟨FF, MAY, (fun _ _ => False)⟩ pl12 Tryd.f12 [.int .i64 sign1, .int .i64 more2] w [(.one (.int .i64)), (.one (.int .i64))] (fun s w => R s.1 s.2 w) = S12 sign1 more2 w R := by kernel_rfl
  exact (fn_calls okF okM Tryd.func12 (by kernel_rfl) (by kernel_rfl) (e.mpr h)).mono fun _ _ ⟨s, he, hR⟩ => ⟨s.1, s.2, he, hR⟩

/-- foliant/foliantref11.farther -/
def S37 (sign1 : Int) (w : World) (R : Int → World → Prop) : Prop :=
  Br (decide (sign1 < 4)) (R 0 w) (R (IntKind.i64.wrap (Int.tdiv (IntKind.i64.wrap (sign1 - 2)) 2)) w)
def pl37 : Plan := (.seq (.reg .seq) (.seq (.seq (.reg .seq) (.cond (.seq (.reg .seq) .leaf) .leaf)) (.seq (.reg .seq) .leaf)))
set_option maxRecDepth 100000 in
theorem T37 (sign1 : Int) (w : World) (R : Int → World → Prop) (h : S37 sign1 w R) : C37 sign1 w R := by
  have e : fnT Tryd.prog ⟨FF, MAY, (fun _ _ => False)⟩ pl37 Tryd.f37 [.int .i64 sign1] w [(.one (.int .i64))] (fun s w => R s w) = S37 sign1 w R := by kernel_rfl
  exact (fn_calls okF okM Tryd.func37 (by kernel_rfl) (by kernel_rfl) (e.mpr h)).mono fun _ _ ⟨s, he, hR⟩ => ⟨s, he, hR⟩

def S14L1 (sign1 : Int) (more2 : Int) (R : Int → Int → World → Prop) (I15 : (Int × Int) → World → Prop) (s13 : Int × Int) (vw14 : World) : Prop :=
  Br (decide (s13.2 < sign1)) (C37 s13.2 vw14 fun r16 vw17 =>
      0 ≤ (IntKind.u64.wrap r16) ∧ Lt (IntKind.i64.wrap (s13.1 + (IntKind.i64.wrap (1 * 2 ^ (min (IntKind.u64.wrap r16).toNat 64))))) fun (x18 : Int) =>
      I15 (x18, IntKind.i64.wrap (s13.2 + 1)) vw17) (R (IntKind.i64.wrap (s13.1 + more2)) 0 vw14)
/-- foliant/foliantref11.Far -/
def S14 (sign1 : Int) (more2 : Int) (w : World) (R : Int → Int → World → Prop) : Prop :=
  Br (decide (sign1 < 0)) (R 0 1 w) (Br (decide (sign1 > 29)) (R 0 1 w) (Br (decide (more2 < 0)) (R 0 1 w) (C37 sign1 w fun r5 vw6 =>
          0 ≤ (IntKind.u64.wrap r5) ∧ Br (decide (more2 ≥ (IntKind.i64.wrap (1 * 2 ^ (min (IntKind.u64.wrap r5).toNat 64))))) (R 0 1 vw6) (Lp (σ := Int × Int) (S14L1 sign1 more2 R) (1, 0) vw6))))
def pl14 : Plan := (.seq (.reg .seq) (.seq (.seq (.reg .seq) (.cond (.seq (.reg .seq) .leaf) .leaf)) (.seq (.reg .seq) (.seq (.seq (.reg .seq) (.block (.loop [(6, (.one (.int .i64))), (7, (.one (.int .i64)))] [0, 1] (.seq (.seq (.reg .seq) (.cond .leaf .leaf)) (.seq (.block (.reg .seq)) (.reg .seq)))))) (.seq (.reg .seq) .leaf)))))
set_option maxRecDepth 100000 in
theorem T14 (sign1 : Int) (more2 : Int) (w : World) (R : Int → Int → World → Prop) (h : S14 sign1 more2 w R) : C14 sign1 more2 w R := by
  have e : fnT Tryd.prog ⟨FF, MAY, (fun _ _ => False)⟩ pl14 Tryd.f14 [.int .i64 sign1, .int .i64 more2] w [(.one (.int .i64)), (.one (.int .i64))] (fun s w => R s.1 s.2 w) = S14 sign1 more2 w R := by kernel_rfl
  exact (fn_calls okF okM Tryd.func14 (by kernel_rfl) (by kernel_rfl) (e.mpr h)).mono fun _ _ ⟨s, he, hR⟩ => ⟨s.1, s.2, he, hR⟩

def S16J1 (s16 : Slc × Int) (I18 : (Slc × Int) → World → Prop) (s19 : Int) (vw20 : World) : Prop :=
  Br (decide (s16.2 ≥ 256)) (Br (decide (s16.2 < 280)) (Nw vw20 (.cells #[.int .i64 7] 3) fun vw21 =>
      Rn Tryd.prog (Builtin.append_ #[28, 28] 28 #[Slc.v s16.1, Slc.v ((⟨some ⟨vw20.heap.size, 0, none⟩, 1, 1⟩ : Slc))]) vw21 Slc.v fun (x22 : Slc) vw23 =>
      I18 (x22, IntKind.i64.wrap (s16.2 + 1)) vw23) (Nw vw20 (.cells #[.int .i64 s19] 3) fun vw24 =>
      Rn Tryd.prog (Builtin.append_ #[28, 28] 28 #[Slc.v s16.1, Slc.v ((⟨some ⟨vw20.heap.size, 0, none⟩, 1, 1⟩ : Slc))]) vw24 Slc.v fun (x25 : Slc) vw26 =>
      I18 (x25, IntKind.i64.wrap (s16.2 + 1)) vw26)) (Nw vw20 (.cells #[.int .i64 s19] 3) fun vw27 =>
    Rn Tryd.prog (Builtin.append_ #[28, 28] 28 #[Slc.v s16.1, Slc.v ((⟨some ⟨vw20.heap.size, 0, none⟩, 1, 1⟩ : Slc))]) vw27 Slc.v fun (x28 : Slc) vw29 =>
    I18 (x28, IntKind.i64.wrap (s16.2 + 1)) vw29)
def S16L1 (s16 : Slc × Int) (R : Slc → Slc → World → Prop) (I33 : (Slc × Int) → World → Prop) (s31 : Slc × Int) (vw32 : World) : Prop :=
  Br (decide (s31.2 < 32)) (Nw vw32 (.cells #[.int .i64 5] 3) fun vw34 =>
    Rn Tryd.prog (Builtin.append_ #[28, 28] 28 #[Slc.v s31.1, Slc.v ((⟨some ⟨vw32.heap.size, 0, none⟩, 1, 1⟩ : Slc))]) vw34 Slc.v fun (x35 : Slc) vw36 =>
    I33 (x35, IntKind.i64.wrap (s31.2 + 1)) vw36) (R s16.1 s31.1 vw32)
def S16L2 (R : Slc → Slc → World → Prop) (I18 : (Slc × Int) → World → Prop) (s16 : Slc × Int) (vw17 : World) : Prop :=
  Br (decide (s16.2 < 288)) (Join (S16J1 s16 I18) fun (vJ30 : Int → World → Prop) =>
      Br (decide (s16.2 ≥ 144)) (Br (decide (s16.2 < 256)) (vJ30 9 vw17) (vJ30 8 vw17)) (vJ30 8 vw17)) (Lp (σ := Slc × Int) (S16L1 s16 R) ((⟨none, 0, 0⟩ : Slc), 0) vw17)
/-- foliant/foliantref11.Fixed -/
def S16 (w : World) (R : Slc → Slc → World → Prop) : Prop :=
  Lp (σ := Slc × Int) (S16L2 R) ((⟨none, 0, 0⟩ : Slc), 0) w
def pl16 : Plan := (.seq (.reg .seq) (.seq (.reg .seq) (.seq (.seq (.reg .seq) (.block (.loop [(2, (.one .slc)), (4, (.one (.int .i64)))] [3] (.seq (.seq (.reg .seq) (.cond .leaf .leaf)) (.seq (.block (.seq (.reg .seq) (.join [(5, (.one (.int .i64)))] [2, 3, 4] (.seq (.reg .seq) (.cond (.reg .seq) .leaf)) (.seq (.seq (.reg .seq) (.cond (.reg .seq) .leaf)) (.reg .seq))))) (.reg .seq)))))) (.seq (.seq (.reg .seq) (.block (.loop [(3, (.one .slc)), (6, (.one (.int .i64)))] [2] (.seq (.seq (.reg .seq) (.cond .leaf .leaf)) (.seq (.block (.reg .seq)) (.reg .seq)))))) (.seq (.reg .seq) .leaf)))))
set_option maxRecDepth 100000 in
theorem T16 (w : World) (R : Slc → Slc → World → Prop) (h : S16 w R) : C16 w R := by
  have e : fnT Tryd.prog ⟨FF, MAY, (fun _ _ => False)⟩ pl16 Tryd.f16 [] w [(.one .slc), (.one .slc)] (fun s w => R s.1 s.2 w) = S16 w R := by kernel_rfl
  exact (fn_calls okF okM Tryd.func16 (by kernel_rfl) (by kernel_rfl) (e.mpr h)).mono fun _ _ ⟨s, he, hR⟩ => ⟨s.1, s.2, he, hR⟩

def S17L1 (a1 : Slc) (b2 : Slc) (R : Bool → World → Prop) (I5 : Int → World → Prop) (s3 : Int) (vw4 : World) : Prop :=
  Br (decide (s3 < ((a1.len : Nat) : Int))) (Br (decide (s3 < ((b2.len : Nat) : Int))) (0 ≤ s3 ∧ s3 < (a1.len : Nat) ∧ Nn a1.p fun a6 =>
      Ld vw4.drew (a6.add ((s3).toNat * 1)) (Value.int .i64) fun (x7 : Int) =>
      0 ≤ s3 ∧ s3 < (b2.len : Nat) ∧ Nn b2.p fun a8 =>
      Ld vw4.drew (a8.add ((s3).toNat * 1)) (Value.int .i64) fun (x9 : Int) =>
      Br (x7 != x9) (R false vw4.drew) (I5 (IntKind.i64.wrap (s3 + 1)) vw4.drew)) (R true vw4)) (R true vw4)
/-- foliant/foliantref10.Same -/
def S17 (a1 : Slc) (b2 : Slc) (w : World) (R : Bool → World → Prop) : Prop :=
  Br (((a1.len : Nat) : Int) != ((b2.len : Nat) : Int)) (R false w) (Lp (σ := Int) (S17L1 a1 b2 R) 0 w)
def pl17 : Plan := (.seq (.reg .seq) (.seq (.seq (.reg .seq) (.cond (.seq (.reg .seq) .leaf) .leaf)) (.seq (.seq (.reg .seq) (.block (.loop [(5, (.one (.int .i64)))] [0, 1] (.seq (.seq (.reg .seq) (.cond .leaf .leaf)) (.seq (.block (.seq (.reg .still) (.cond (.seq (.reg .seq) .leaf) .leaf))) (.reg .seq)))))) (.seq (.reg .seq) .leaf))))
set_option maxRecDepth 100000 in
theorem T17 (a1 : Slc) (b2 : Slc) (w : World) (R : Bool → World → Prop) (h : S17 a1 b2 w R) : C17 a1 b2 w R := by
  have e : fnT Tryd.prog ⟨FF, MAY, (fun _ _ => False)⟩ pl17 Tryd.f17 [Slc.v a1, Slc.v b2] w [(.one .bool)] (fun s w => R s w) = S17 a1 b2 w R := by kernel_rfl
  exact (fn_calls okF okM Tryd.func17 (by kernel_rfl) (by kernel_rfl) (e.mpr h)).mono fun _ _ ⟨s, he, hR⟩ => ⟨s, he, hR⟩

end Go.Proofs.YtapgacggllbhiaaDoor
