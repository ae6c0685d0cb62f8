/- The formulas of 23 functions of the program, written by program (gen.py); the kernel checks each. No condition. -/
import Derived.Test.YtapgacggllbhiaaDoorFn
import Derived.Test.YtapgacggllbhiaaDoorFnBit
import Derived.Test.YtapgacggllbhiaaDoorFnCode
namespace Go.Proofs.YtapgacggllbhiaaDoor
open Sh
set_option linter.unusedVariables false
set_option maxRecDepth 100000

def CD26 (c1 : Addr) (c2 : Addr) (c3 : Addr) (u : Option Value) (w : World) (R : World → Prop) : Prop := CallD Tryd.prog 26 #[.pointer (some c1), .pointer (some c2), .pointer (some c3)] u w R
theorem CD26.mono {c1 : Addr} {c2 : Addr} {c3 : Addr} {u : Option Value} {w : World} {R R' : World → Prop} (h : CD26 c1 c2 c3 u w R) (hr : ∀ w', R w' → R' w') : CD26 c1 c2 c3 u w R' :=
  CallsD.mono h fun _ _ _ ⟨h1, h2, h3⟩ => ⟨h1, h2, hr _ h3⟩
def C27 (holds1 : Bool) (why2 : Int) (w : World) (R : World → Prop) (PR : Value → World → Prop) : Prop :=
  Calls Tryd.prog 27 #[.bool holds1, .int .i64 why2] w fun e w' => (e = .returned (.tuple #[]) ∧ R w') ∨ ∃ v, e = .panicked (onePanic v) ∧ PR v w'
theorem C27.mono {holds1 : Bool} {why2 : Int} {w : World} {R R' : World → Prop} {PR PR' : Value → World → Prop} (h : C27 holds1 why2 w R PR) (hr : ∀ w', R w' → R' w') (hp : ∀ v w', PR v w' → PR' v w') : C27 holds1 why2 w R' PR' :=
  Calls.mono h fun _ _ he => he.elim (fun ⟨he, hR⟩ => .inl ⟨he, hr _ hR⟩) fun ⟨v, he, hP⟩ => .inr ⟨v, he, hp _ _ hP⟩
def C59 (x1 : Int) (why2 : Int) (w : World) (R : Int → World → Prop) (PR : Value → World → Prop) : Prop :=
  Calls Tryd.prog 59 #[.int .i64 x1, .int .i64 why2] w fun e w' => (∃ r0 : Int, e = .returned (.int .i64 r0) ∧ R r0 w') ∨ ∃ v, e = .panicked (onePanic v) ∧ PR v w'
theorem C59.mono {x1 : Int} {why2 : Int} {w : World} {R R' : Int → World → Prop} {PR PR' : Value → World → Prop} (h : C59 x1 why2 w R PR) (hr : ∀ r0 w', R r0 w' → R' r0 w') (hp : ∀ v w', PR v w' → PR' v w') : C59 x1 why2 w R' PR' :=
  Calls.mono h fun _ _ he => he.elim (fun ⟨r0, he, hR⟩ => .inl ⟨r0, he, hr _ _ hR⟩) fun ⟨v, he, hP⟩ => .inr ⟨v, he, hp _ _ hP⟩
def C45 (f1 : Option Addr) (n2 : Int) (w : World) (R : Int → World → Prop) (PR : Value → World → Prop) : Prop :=
  Calls Tryd.prog 45 #[.pointer f1, .int .i64 n2] w fun e w' => (∃ r0 : Int, e = .returned (.int .i64 r0) ∧ R r0 w') ∨ ∃ v, e = .panicked (onePanic v) ∧ PR v w'
theorem C45.mono {f1 : Option Addr} {n2 : Int} {w : World} {R R' : Int → World → Prop} {PR PR' : Value → World → Prop} (h : C45 f1 n2 w R PR) (hr : ∀ r0 w', R r0 w' → R' r0 w') (hp : ∀ v w', PR v w' → PR' v w') : C45 f1 n2 w R' PR' :=
  Calls.mono h fun _ _ he => he.elim (fun ⟨r0, he, hR⟩ => .inl ⟨r0, he, hr _ _ hR⟩) fun ⟨v, he, hP⟩ => .inr ⟨v, he, hp _ _ hP⟩
def C62 (f1 : Option Addr) (n2 : Int) (w : World) (R : World → Prop) (PR : Value → World → Prop) : Prop :=
  Calls Tryd.prog 62 #[.pointer f1, .int .i64 n2] w fun e w' => (e = .returned (.tuple #[]) ∧ R w') ∨ ∃ v, e = .panicked (onePanic v) ∧ PR v w'
theorem C62.mono {f1 : Option Addr} {n2 : Int} {w : World} {R R' : World → Prop} {PR PR' : Value → World → Prop} (h : C62 f1 n2 w R PR) (hr : ∀ w', R w' → R' w') (hp : ∀ v w', PR v w' → PR' v w') : C62 f1 n2 w R' PR' :=
  Calls.mono h fun _ _ he => he.elim (fun ⟨he, hR⟩ => .inl ⟨he, hr _ hR⟩) fun ⟨v, he, hP⟩ => .inr ⟨v, he, hp _ _ hP⟩
def C63 (x1 : ByteArray) (why2 : Int) (w : World) (R : ByteArray → World → Prop) (PR : Value → World → Prop) : Prop :=
  Calls Tryd.prog 63 #[.string x1, .int .i64 why2] w fun e w' => (∃ r0 : ByteArray, e = .returned (.string r0) ∧ R r0 w') ∨ ∃ v, e = .panicked (onePanic v) ∧ PR v w'
theorem C63.mono {x1 : ByteArray} {why2 : Int} {w : World} {R R' : ByteArray → World → Prop} {PR PR' : Value → World → Prop} (h : C63 x1 why2 w R PR) (hr : ∀ r0 w', R r0 w' → R' r0 w') (hp : ∀ v w', PR v w' → PR' v w') : C63 x1 why2 w R' PR' :=
  Calls.mono h fun _ _ he => he.elim (fun ⟨r0, he, hR⟩ => .inl ⟨r0, he, hr _ _ hR⟩) fun ⟨v, he, hP⟩ => .inr ⟨v, he, hp _ _ hP⟩
def C46 (f1 : Option Addr) (w : World) (R : World → Prop) (PR : Value → World → Prop) : Prop :=
  Calls Tryd.prog 46 #[.pointer f1] w fun e w' => (e = .returned (.tuple #[]) ∧ R w') ∨ ∃ v, e = .panicked (onePanic v) ∧ PR v w'
theorem C46.mono {f1 : Option Addr} {w : World} {R R' : World → Prop} {PR PR' : Value → World → Prop} (h : C46 f1 w R PR) (hr : ∀ w', R w' → R' w') (hp : ∀ v w', PR v w' → PR' v w') : C46 f1 w R' PR' :=
  Calls.mono h fun _ _ he => he.elim (fun ⟨he, hR⟩ => .inl ⟨he, hr _ hR⟩) fun ⟨v, he, hP⟩ => .inr ⟨v, he, hp _ _ hP⟩
def C78 (f1 : Option Addr) (sign2 : Int) (distances3 : Option Addr) (w : World) (R : World → Prop) (PR : Value → World → Prop) : Prop :=
  Calls Tryd.prog 78 #[.pointer f1, .int .i64 sign2, .pointer distances3] w fun e w' => (e = .returned (.tuple #[]) ∧ R w') ∨ ∃ v, e = .panicked (onePanic v) ∧ PR v w'
theorem C78.mono {f1 : Option Addr} {sign2 : Int} {distances3 : Option Addr} {w : World} {R R' : World → Prop} {PR PR' : Value → World → Prop} (h : C78 f1 sign2 distances3 w R PR) (hr : ∀ w', R w' → R' w') (hp : ∀ v w', PR v w' → PR' v w') : C78 f1 sign2 distances3 w R' PR' :=
  Calls.mono h fun _ _ he => he.elim (fun ⟨he, hR⟩ => .inl ⟨he, hr _ hR⟩) fun ⟨v, he, hP⟩ => .inr ⟨v, he, hp _ _ hP⟩
def C65 (f1 : Option Addr) (signs2 : Option Addr) (distances3 : Option Addr) (w : World) (R : World → Prop) (PR : Value → World → Prop) : Prop :=
  Calls Tryd.prog 65 #[.pointer f1, .pointer signs2, .pointer distances3] w fun e w' => (e = .returned (.tuple #[]) ∧ R w') ∨ ∃ v, e = .panicked (onePanic v) ∧ PR v w'
theorem C65.mono {f1 : Option Addr} {signs2 : Option Addr} {distances3 : Option Addr} {w : World} {R R' : World → Prop} {PR PR' : Value → World → Prop} (h : C65 f1 signs2 distances3 w R PR) (hr : ∀ w', R w' → R' w') (hp : ∀ v w', PR v w' → PR' v w') : C65 f1 signs2 distances3 w R' PR' :=
  Calls.mono h fun _ _ he => he.elim (fun ⟨he, hR⟩ => .inl ⟨he, hr _ hR⟩) fun ⟨v, he, hP⟩ => .inr ⟨v, he, hp _ _ hP⟩
def C66 (x1 : Option Addr) (why2 : Int) (w : World) (R : Option Addr → World → Prop) (PR : Value → World → Prop) : Prop :=
  Calls Tryd.prog 66 #[.pointer x1, .int .i64 why2] w fun e w' => (∃ r0 : Option Addr, e = .returned (.pointer r0) ∧ R r0 w') ∨ ∃ v, e = .panicked (onePanic v) ∧ PR v w'
theorem C66.mono {x1 : Option Addr} {why2 : Int} {w : World} {R R' : Option Addr → World → Prop} {PR PR' : Value → World → Prop} (h : C66 x1 why2 w R PR) (hr : ∀ r0 w', R r0 w' → R' r0 w') (hp : ∀ v w', PR v w' → PR' v w') : C66 x1 why2 w R' PR' :=
  Calls.mono h fun _ _ he => he.elim (fun ⟨r0, he, hR⟩ => .inl ⟨r0, he, hr _ _ hR⟩) fun ⟨v, he, hP⟩ => .inr ⟨v, he, hp _ _ hP⟩
def C47 (f1 : Option Addr) (w : World) (R : World → Prop) (PR : Value → World → Prop) : Prop :=
  Calls Tryd.prog 47 #[.pointer f1] w fun e w' => (e = .returned (.tuple #[]) ∧ R w') ∨ ∃ v, e = .panicked (onePanic v) ∧ PR v w'
theorem C47.mono {f1 : Option Addr} {w : World} {R R' : World → Prop} {PR PR' : Value → World → Prop} (h : C47 f1 w R PR) (hr : ∀ w', R w' → R' w') (hp : ∀ v w', PR v w' → PR' v w') : C47 f1 w R' PR' :=
  Calls.mono h fun _ _ he => he.elim (fun ⟨he, hR⟩ => .inl ⟨he, hr _ hR⟩) fun ⟨v, he, hP⟩ => .inr ⟨v, he, hp _ _ hP⟩
def C67 (f1 : Option Addr) (t2 : Option Addr) (n3 : Int) (w : World) (R : Slc → World → Prop) (PR : Value → World → Prop) : Prop :=
  Calls Tryd.prog 67 #[.pointer f1, .pointer t2, .int .i64 n3] w fun e w' => (∃ r0 : Slc, e = .returned (Slc.v r0) ∧ R r0 w') ∨ ∃ v, e = .panicked (onePanic v) ∧ PR v w'
theorem C67.mono {f1 : Option Addr} {t2 : Option Addr} {n3 : Int} {w : World} {R R' : Slc → World → Prop} {PR PR' : Value → World → Prop} (h : C67 f1 t2 n3 w R PR) (hr : ∀ r0 w', R r0 w' → R' r0 w') (hp : ∀ v w', PR v w' → PR' v w') : C67 f1 t2 n3 w R' PR' :=
  Calls.mono h fun _ _ he => he.elim (fun ⟨r0, he, hR⟩ => .inl ⟨r0, he, hr _ _ hR⟩) fun ⟨v, he, hP⟩ => .inr ⟨v, he, hp _ _ hP⟩
def C48 (f1 : Option Addr) (w : World) (R : World → Prop) (PR : Value → World → Prop) : Prop :=
  Calls Tryd.prog 48 #[.pointer f1] w fun e w' => (e = .returned (.tuple #[]) ∧ R w') ∨ ∃ v, e = .panicked (onePanic v) ∧ PR v w'
theorem C48.mono {f1 : Option Addr} {w : World} {R R' : World → Prop} {PR PR' : Value → World → Prop} (h : C48 f1 w R PR) (hr : ∀ w', R w' → R' w') (hp : ∀ v w', PR v w' → PR' v w') : C48 f1 w R' PR' :=
  Calls.mono h fun _ _ he => he.elim (fun ⟨he, hR⟩ => .inl ⟨he, hr _ hR⟩) fun ⟨v, he, hP⟩ => .inr ⟨v, he, hp _ _ hP⟩
def C29 (f1 : Option Addr) (w : World) (R : Bool → World → Prop) (PR : Value → World → Prop) : Prop :=
  Calls Tryd.prog 29 #[.pointer f1] w fun e w' => (∃ r0 : Bool, e = .returned (.bool r0) ∧ R r0 w') ∨ ∃ v, e = .panicked (onePanic v) ∧ PR v w'
theorem C29.mono {f1 : Option Addr} {w : World} {R R' : Bool → World → Prop} {PR PR' : Value → World → Prop} (h : C29 f1 w R PR) (hr : ∀ r0 w', R r0 w' → R' r0 w') (hp : ∀ v w', PR v w' → PR' v w') : C29 f1 w R' PR' :=
  Calls.mono h fun _ _ he => he.elim (fun ⟨r0, he, hR⟩ => .inl ⟨r0, he, hr _ _ hR⟩) fun ⟨v, he, hP⟩ => .inr ⟨v, he, hp _ _ hP⟩
def C9 (s1 : ByteArray) (most2 : Int) (w : World) (R : ByteArray → Int → Int → World → Prop) : Prop :=
  Calls Tryd.prog 9 #[.string s1, .int .i64 most2] w fun e w' => ∃ r0 : ByteArray, ∃ r1 : Int, ∃ r2 : Int, e = .returned (.tuple #[.string r0, .int .i64 r1, .int .i64 r2]) ∧ R r0 r1 r2 w'
theorem C9.mono {s1 : ByteArray} {most2 : Int} {w : World} {R R' : ByteArray → Int → Int → World → Prop} (h : C9 s1 most2 w R) (hr : ∀ r0 r1 r2 w', R r0 r1 r2 w' → R' r0 r1 r2 w') : C9 s1 most2 w R' :=
  Calls.mono h fun _ _ ⟨r0, r1, r2, he, hR⟩ => ⟨r0, r1, r2, he, hr _ _ _ _ hR⟩
def C31 (s1 : ByteArray) (vat2 : Int) (n3 : Int) (w : World) (R : Int → Int → Int → World → Prop) : Prop :=
  Calls Tryd.prog 31 #[.string s1, .int .i64 vat2, .int .i64 n3] w fun e w' => ∃ r0 : Int, ∃ r1 : Int, ∃ r2 : Int, e = .returned (.tuple #[.int .i64 r0, .int .i64 r1, .int .i64 r2]) ∧ R r0 r1 r2 w'
theorem C31.mono {s1 : ByteArray} {vat2 : Int} {n3 : Int} {w : World} {R R' : Int → Int → Int → World → Prop} (h : C31 s1 vat2 n3 w R) (hr : ∀ r0 r1 r2 w', R r0 r1 r2 w' → R' r0 r1 r2 w') : C31 s1 vat2 n3 w R' :=
  Calls.mono h fun _ _ ⟨r0, r1, r2, he, hR⟩ => ⟨r0, r1, r2, he, hr _ _ _ _ hR⟩
def C50 (s1 : ByteArray) (vfrom2 : Int) (out3 : Slc) (most4 : Int) (w : World) (R : Slc → Int → Int → World → Prop) : Prop :=
  Calls Tryd.prog 50 #[.string s1, .int .i64 vfrom2, Slc.v out3, .int .i64 most4] w fun e w' => ∃ r0 : Slc, ∃ r1 : Int, ∃ r2 : Int, e = .returned (.tuple #[Slc.v r0, .int .i64 r1, .int .i64 r2]) ∧ R r0 r1 r2 w'
theorem C50.mono {s1 : ByteArray} {vfrom2 : Int} {out3 : Slc} {most4 : Int} {w : World} {R R' : Slc → Int → Int → World → Prop} (h : C50 s1 vfrom2 out3 most4 w R) (hr : ∀ r0 r1 r2 w', R r0 r1 r2 w' → R' r0 r1 r2 w') : C50 s1 vfrom2 out3 most4 w R' :=
  Calls.mono h fun _ _ ⟨r0, r1, r2, he, hR⟩ => ⟨r0, r1, r2, he, hr _ _ _ _ hR⟩
def C69 (s1 : ByteArray) (vat2 : Int) (lens3 : Slc) (many4 : Int) (w : World) (R : Slc → Int → Int → World → Prop) : Prop :=
  Calls Tryd.prog 69 #[.string s1, .int .i64 vat2, Slc.v lens3, .int .i64 many4] w fun e w' => ∃ r0 : Slc, ∃ r1 : Int, ∃ r2 : Int, e = .returned (.tuple #[Slc.v r0, .int .i64 r1, .int .i64 r2]) ∧ R r0 r1 r2 w'
theorem C69.mono {s1 : ByteArray} {vat2 : Int} {lens3 : Slc} {many4 : Int} {w : World} {R R' : Slc → Int → Int → World → Prop} (h : C69 s1 vat2 lens3 many4 w R) (hr : ∀ r0 r1 r2 w', R r0 r1 r2 w' → R' r0 r1 r2 w') : C69 s1 vat2 lens3 many4 w R' :=
  Calls.mono h fun _ _ ⟨r0, r1, r2, he, hR⟩ => ⟨r0, r1, r2, he, hr _ _ _ _ hR⟩
def C51 (s1 : ByteArray) (vfrom2 : Int) (w : World) (R : Slc → Slc → Int → Int → World → Prop) : Prop :=
  Calls Tryd.prog 51 #[.string s1, .int .i64 vfrom2] w fun e w' => ∃ r0 : Slc, ∃ r1 : Slc, ∃ r2 : Int, ∃ r3 : Int, e = .returned (.tuple #[Slc.v r0, Slc.v r1, .int .i64 r2, .int .i64 r3]) ∧ R r0 r1 r2 r3 w'
theorem C51.mono {s1 : ByteArray} {vfrom2 : Int} {w : World} {R R' : Slc → Slc → Int → Int → World → Prop} (h : C51 s1 vfrom2 w R) (hr : ∀ r0 r1 r2 r3 w', R r0 r1 r2 r3 w' → R' r0 r1 r2 r3 w') : C51 s1 vfrom2 w R' :=
  Calls.mono h fun _ _ ⟨r0, r1, r2, r3, he, hR⟩ => ⟨r0, r1, r2, r3, he, hr _ _ _ _ _ hR⟩
def C72 (s1 : ByteArray) (vat2 : Int) (sign3 : Int) (far4 : Slc) (out5 : Slc) (most6 : Int) (w : World) (R : Slc → Int → Int → World → Prop) : Prop :=
  Calls Tryd.prog 72 #[.string s1, .int .i64 vat2, .int .i64 sign3, Slc.v far4, Slc.v out5, .int .i64 most6] w fun e w' => ∃ r0 : Slc, ∃ r1 : Int, ∃ r2 : Int, e = .returned (.tuple #[Slc.v r0, .int .i64 r1, .int .i64 r2]) ∧ R r0 r1 r2 w'
theorem C72.mono {s1 : ByteArray} {vat2 : Int} {sign3 : Int} {far4 : Slc} {out5 : Slc} {most6 : Int} {w : World} {R R' : Slc → Int → Int → World → Prop} (h : C72 s1 vat2 sign3 far4 out5 most6 w R) (hr : ∀ r0 r1 r2 w', R r0 r1 r2 w' → R' r0 r1 r2 w') : C72 s1 vat2 sign3 far4 out5 most6 w R' :=
  Calls.mono h fun _ _ ⟨r0, r1, r2, he, hR⟩ => ⟨r0, r1, r2, he, hr _ _ _ _ hR⟩
def C53 (s1 : ByteArray) (vat2 : Int) (near3 : Slc) (far4 : Slc) (out5 : Slc) (most6 : Int) (w : World) (R : Slc → Int → Int → World → Prop) : Prop :=
  Calls Tryd.prog 53 #[.string s1, .int .i64 vat2, Slc.v near3, Slc.v far4, Slc.v out5, .int .i64 most6] w fun e w' => ∃ r0 : Slc, ∃ r1 : Int, ∃ r2 : Int, e = .returned (.tuple #[Slc.v r0, .int .i64 r1, .int .i64 r2]) ∧ R r0 r1 r2 w'
theorem C53.mono {s1 : ByteArray} {vat2 : Int} {near3 : Slc} {far4 : Slc} {out5 : Slc} {most6 : Int} {w : World} {R R' : Slc → Int → Int → World → Prop} (h : C53 s1 vat2 near3 far4 out5 most6 w R) (hr : ∀ r0 r1 r2 w', R r0 r1 r2 w' → R' r0 r1 r2 w') : C53 s1 vat2 near3 far4 out5 most6 w R' :=
  Calls.mono h fun _ _ ⟨r0, r1, r2, he, hR⟩ => ⟨r0, r1, r2, he, hr _ _ _ _ hR⟩
def C32 (s1 : ByteArray) (vat2 : Int) (kind3 : Int) (out4 : Slc) (most5 : Int) (w : World) (R : Slc → Int → Int → World → Prop) : Prop :=
  Calls Tryd.prog 32 #[.string s1, .int .i64 vat2, .int .i64 kind3, Slc.v out4, .int .i64 most5] w fun e w' => ∃ r0 : Slc, ∃ r1 : Int, ∃ r2 : Int, e = .returned (.tuple #[Slc.v r0, .int .i64 r1, .int .i64 r2]) ∧ R r0 r1 r2 w'
theorem C32.mono {s1 : ByteArray} {vat2 : Int} {kind3 : Int} {out4 : Slc} {most5 : Int} {w : World} {R R' : Slc → Int → Int → World → Prop} (h : C32 s1 vat2 kind3 out4 most5 w R) (hr : ∀ r0 r1 r2 w', R r0 r1 r2 w' → R' r0 r1 r2 w') : C32 s1 vat2 kind3 out4 most5 w R' :=
  Calls.mono h fun _ _ ⟨r0, r1, r2, he, hR⟩ => ⟨r0, r1, r2, he, hr _ _ _ _ hR⟩
def C10 (s1 : ByteArray) (most2 : Int) (w : World) (R : ByteArray → Int → Int → World → Prop) : Prop :=
  Calls Tryd.prog 10 #[.string s1, .int .i64 most2] w fun e w' => ∃ r0 : ByteArray, ∃ r1 : Int, ∃ r2 : Int, e = .returned (.tuple #[.string r0, .int .i64 r1, .int .i64 r2]) ∧ R r0 r1 r2 w'
theorem C10.mono {s1 : ByteArray} {most2 : Int} {w : World} {R R' : ByteArray → Int → Int → World → Prop} (h : C10 s1 most2 w R) (hr : ∀ r0 r1 r2 w', R r0 r1 r2 w' → R' r0 r1 r2 w') : C10 s1 most2 w R' :=
  Calls.mono h fun _ _ ⟨r0, r1, r2, he, hR⟩ => ⟨r0, r1, r2, he, hr _ _ _ _ hR⟩

/-- foliant/inflate.All$1 -/
def S26_nil (c1 : Addr) (c2 : Addr) (c3 : Addr) (w : World) (R : World → Prop) : Prop :=
  R w
def pl26_nil : Plan := (.block (.seq (.reg .seq) (.cond (.reg .seq) (.seq (.reg .seq) (.cond (.seq (.reg .seq) (.reg (.held [4] (.take 0 (.take 1 (.eff 2 none (.eff 3 none (.eff 4 (some []) .done)))))))) (.seq (.reg .seq) (.reg .seq)))))))
set_option maxRecDepth 100000 in
theorem T26_nil (c1 : Addr) (c2 : Addr) (c3 : Addr) (w : World) (R : World → Prop) (h : S26_nil c1 c2 c3 w R) : CD26 c1 c2 c3 none w R := by
  have e : fnTS Tryd.prog FF MAY pl26_nil Tryd.f26 [.pointer (some c1), .pointer (some c2), .pointer (some c3)] none w R = S26_nil c1 c2 c3 w R := by kernel_rfl
  exact fnS_calls okF okM Tryd.func26 (by kernel_rfl) (by kernel_rfl) (e.mpr h)

/-- foliant/inflate.All$1 -/
def S26_T50 (c1 : Addr) (c2 : Addr) (c3 : Addr) (u4 : Int) (w : World) (R : World → Prop) : Prop :=
  Nw w (.cells #[.int .i64 0] 50) fun vw5 =>
  St vw5 (⟨w.heap.size, 0, none⟩ : Addr) (.int .i64 u4) fun vw6 =>
  ∃ vS7 : World → Prop, vS7 vw6.drew ∧ LdS vS7 (⟨w.heap.size, 0, none⟩ : Addr) (Value.int .i64) fun (x8 : Int) =>
  St vw6.drew c1 (.string ((⟨#[]⟩ : ByteArray))) fun vw9 =>
  vS7 vw9 ∧ St vw9 c2 (.int .i64 0) fun vw10 =>
  vS7 vw10 ∧ St vw10 c3 (.int .i64 x8) fun vw11 =>
  R vw11
def pl26_T50 : Plan := (.block (.seq (.reg .seq) (.cond (.reg .seq) (.seq (.reg .seq) (.cond (.seq (.reg .seq) (.reg (.held [4] (.take 0 (.take 1 (.eff 2 none (.eff 3 none (.eff 4 (some []) .done)))))))) (.seq (.reg .seq) (.reg .seq)))))))
set_option maxRecDepth 100000 in
theorem T26_T50 (c1 : Addr) (c2 : Addr) (c3 : Addr) (u4 : Int) (w : World) (R : World → Prop) (h : S26_T50 c1 c2 c3 u4 w R) : CD26 c1 c2 c3 (some (.iface 50 (.agg #[.int .i64 u4]))) w R := by
  have e : fnTS Tryd.prog FF MAY pl26_T50 Tryd.f26 [.pointer (some c1), .pointer (some c2), .pointer (some c3)] (some (.iface 50 (.agg #[.int .i64 u4]))) w R = S26_T50 c1 c2 c3 u4 w R := by kernel_rfl
  exact fnS_calls okF okM Tryd.func26 (by kernel_rfl) (by kernel_rfl) (e.mpr h)

/-- foliant/inflate.need -/
def S27 (holds1 : Bool) (why2 : Int) (w : World) (R : World → Prop) (PR : Value → World → Prop) : Prop :=
  Br (!holds1) (PR (.iface 50 (.agg #[.int .i64 why2])) w) (R w)
def pl27 : Plan := (.seq (.reg .seq) (.cond (.reg .seq) .leaf))
set_option maxRecDepth 100000 in
theorem T27 (holds1 : Bool) (why2 : Int) (w : World) (R : World → Prop) (PR : Value → World → Prop) (h : S27 holds1 why2 w R PR) : C27 holds1 why2 w R PR := by
  have e : fnT Tryd.prog ⟨FF, MAY, PR⟩ pl27 Tryd.f27 [.bool holds1, .int .i64 why2] w [] (fun _ w => R w) = S27 holds1 why2 w R PR := by kernel_rfl
  exact (fn_callsP okF okM Tryd.func27 (by kernel_rfl) (by kernel_rfl) (e.mpr h)).mono fun _ _ he => he.elim (fun ⟨_, he, hR⟩ => .inl ⟨he, hR⟩) .inr

/-- foliant/inflate.must[int] -/
def S59 (x1 : Int) (why2 : Int) (w : World) (R : Int → World → Prop) (PR : Value → World → Prop) : Prop :=
  C27 (why2 == 0) why2 w (fun vw3 =>
    R x1 vw3) PR
def pl59 : Plan := (.seq (.reg .seq) (.seq (.reg .seq) (.seq (.reg .seq) .leaf)))
set_option maxRecDepth 100000 in
theorem T59 (x1 : Int) (why2 : Int) (w : World) (R : Int → World → Prop) (PR : Value → World → Prop) (h : S59 x1 why2 w R PR) : C59 x1 why2 w R PR := by
  have e : fnT Tryd.prog ⟨FF, MAY, PR⟩ pl59 Tryd.f59 [.int .i64 x1, .int .i64 why2] w [(.one (.int .i64))] (fun s w => R s w) = S59 x1 why2 w R PR := by kernel_rfl
  exact (fn_callsP okF okM Tryd.func59 (by kernel_rfl) (by kernel_rfl) (e.mpr h)).mono fun _ _ he => he.elim (fun ⟨s, he, hR⟩ => .inl ⟨s, he, hR⟩) .inr

/-- (*foliant/inflate.flate).bits -/
def S45 (f1 : Option Addr) (n2 : Int) (w : World) (R : Int → World → Prop) (PR : Value → World → Prop) : Prop :=
  Nn f1 fun a3 =>
  Ld w a3 Value.pointer fun (x4 : Option Addr) =>
  C60 x4 n2 w fun r5 r6 vw7 =>
    C59 r5 r6 vw7 (fun r8 vw9 =>
      R r8 vw9) PR
def pl45 : Plan := (.seq (.reg .seq) (.seq (.reg .seq) .leaf))
set_option maxRecDepth 100000 in
theorem T45 (f1 : Option Addr) (n2 : Int) (w : World) (R : Int → World → Prop) (PR : Value → World → Prop) (h : S45 f1 n2 w R PR) : C45 f1 n2 w R PR := by
  have e : fnT Tryd.prog ⟨FF, MAY, PR⟩ pl45 Tryd.f45 [.pointer f1, .int .i64 n2] w [(.one (.int .i64))] (fun s w => R s w) = S45 f1 n2 w R PR := by kernel_rfl
  exact (fn_callsP okF okM Tryd.func45 (by kernel_rfl) (by kernel_rfl) (e.mpr h)).mono fun _ _ he => he.elim (fun ⟨s, he, hR⟩ => .inl ⟨s, he, hR⟩) .inr

/-- (*foliant/inflate.flate).room -/
def S62 (f1 : Option Addr) (n2 : Int) (w : World) (R : World → Prop) (PR : Value → World → Prop) : Prop :=
  Nn f1 fun a3 =>
  Ld w.drew (a3.add 1) Slc.v fun (x4 : Slc) =>
  Nn f1 fun a5 =>
  Ld w.drew (a5.add 2) (Value.int .i64) fun (x6 : Int) =>
  C27 (decide ((IntKind.i64.wrap (((x4.len : Nat) : Int) + n2)) ≤ x6)) 5 w.drew (fun vw7 =>
    R vw7) PR
def pl62 : Plan := (.reg (.tail 12))
set_option maxRecDepth 100000 in
theorem T62 (f1 : Option Addr) (n2 : Int) (w : World) (R : World → Prop) (PR : Value → World → Prop) (h : S62 f1 n2 w R PR) : C62 f1 n2 w R PR := by
  have e : fnT Tryd.prog ⟨FF, MAY, PR⟩ pl62 Tryd.f62 [.pointer f1, .int .i64 n2] w [] (fun _ w => R w) = S62 f1 n2 w R PR := by kernel_rfl
  exact (fn_callsP okF okM Tryd.func62 (by kernel_rfl) (by kernel_rfl) (e.mpr h)).mono fun _ _ he => he.elim (fun ⟨_, he, hR⟩ => .inl ⟨he, hR⟩) .inr

/-- foliant/inflate.must[string] -/
def S63 (x1 : ByteArray) (why2 : Int) (w : World) (R : ByteArray → World → Prop) (PR : Value → World → Prop) : Prop :=
  C27 (why2 == 0) why2 w (fun vw3 =>
    R x1 vw3) PR
def pl63 : Plan := (.seq (.reg .seq) (.seq (.reg .seq) (.seq (.reg .seq) .leaf)))
set_option maxRecDepth 100000 in
theorem T63 (x1 : ByteArray) (why2 : Int) (w : World) (R : ByteArray → World → Prop) (PR : Value → World → Prop) (h : S63 x1 why2 w R PR) : C63 x1 why2 w R PR := by
  have e : fnT Tryd.prog ⟨FF, MAY, PR⟩ pl63 Tryd.f63 [.string x1, .int .i64 why2] w [(.one .str)] (fun s w => R s w) = S63 x1 why2 w R PR := by kernel_rfl
  exact (fn_callsP okF okM Tryd.func63 (by kernel_rfl) (by kernel_rfl) (e.mpr h)).mono fun _ _ he => he.elim (fun ⟨s, he, hR⟩ => .inl ⟨s, he, hR⟩) .inr

/-- (*foliant/inflate.flate).stored -/
def S46 (f1 : Option Addr) (w : World) (R : World → Prop) (PR : Value → World → Prop) : Prop :=
  Nn f1 fun a2 =>
  Ld w a2 Value.pointer fun (x3 : Option Addr) =>
  C61 x3 w fun vw4 =>
    C45 f1 16 vw4 (fun r5 vw6 =>
      C45 f1 16 vw6 (fun r7 vw8 =>
        C27 (r7 == (IntKind.i64.wrap (65535 - r5))) 3 vw8 (fun vw9 =>
          C62 f1 r5 vw9 (fun vw10 =>
            ∃ vS11 : World → Prop, vS11 vw10.drew ∧ Nn f1 fun a12 =>
            LdS vS11 (a12.add 1) Slc.v fun (x13 : Slc) =>
            Nn f1 fun a14 =>
            LdS vS11 a14 Value.pointer fun (x15 : Option Addr) =>
            C64 x15 r5 vw10.drew fun r16 r17 vw18 =>
              vS11 vw18 ∧ C63 r16 r17 vw18 (fun r19 vw20 =>
                vS11 vw20 ∧ Rn Tryd.prog (Builtin.append_ #[34, 9] 34 #[Slc.v x13, .string r19]) vw20 Slc.v fun (x21 : Slc) vw22 =>
                Nn f1 fun a23 =>
                St vw22 (a23.add 1) (Slc.v x21) fun vw24 =>
                R vw24) PR) PR) PR) PR) PR
def pl46 : Plan := (.seq (.reg .seq) (.seq (.reg .seq) (.seq (.reg .seq) (.seq (.reg .seq) (.reg (.held [14] (.take 0 (.take 1 (.take 2 (.take 3 (.take 4 (.take 5 (.take 6 (.take 7 (.take 8 (.take 9 (.eff 10 none (.take 11 (.take 12 (.eff 13 none (.eff 14 (some [17]) (.take 15 (.take 16 (.eff 17 (some []) .done))))))))))))))))))))))))
set_option maxRecDepth 100000 in
theorem T46 (f1 : Option Addr) (w : World) (R : World → Prop) (PR : Value → World → Prop) (h : S46 f1 w R PR) : C46 f1 w R PR := by
  have e : fnT Tryd.prog ⟨FF, MAY, PR⟩ pl46 Tryd.f46 [.pointer f1] w [] (fun _ w => R w) = S46 f1 w R PR := by kernel_rfl
  exact (fn_callsP okF okM Tryd.func46 (by kernel_rfl) (by kernel_rfl) (e.mpr h)).mono fun _ _ he => he.elim (fun ⟨_, he, hR⟩ => .inl ⟨he, hR⟩) .inr

def S78L1 (f1 : Option Addr) (r12 : Int) (r29 : Int) (R : World → Prop) (I37 : Int → World → Prop) (s35 : Int) (vw36 : World) : Prop :=
  Br (decide (s35 < r12)) (∃ vS38 : World → Prop, vS38 vw36.drew ∧ Nn f1 fun a39 =>
    LdS vS38 (a39.add 1) Slc.v fun (x40 : Slc) =>
    Nn f1 fun a41 =>
    LdS vS38 (a41.add 1) Slc.v fun (x42 : Slc) =>
    Nn f1 fun a43 =>
    LdS vS38 (a43.add 1) Slc.v fun (x44 : Slc) =>
    0 ≤ (IntKind.i64.wrap (((x44.len : Nat) : Int) - r29)) ∧ (IntKind.i64.wrap (((x44.len : Nat) : Int) - r29)) < (x42.len : Nat) ∧ Nn x42.p fun a45 =>
    LdS vS38 (a45.add ((IntKind.i64.wrap (((x44.len : Nat) : Int) - r29)).toNat * 1)) (Value.int .u8) fun (x46 : Int) =>
    Nw vw36.drew (.cells #[.int .u8 x46] 5) fun vw47 =>
    vS38 vw47 ∧ Rn Tryd.prog (Builtin.append_ #[34, 34] 34 #[Slc.v x40, Slc.v ((⟨some ⟨vw36.drew.heap.size, 0, none⟩, 1, 1⟩ : Slc))]) vw47 Slc.v fun (x48 : Slc) vw49 =>
    Nn f1 fun a50 =>
    St vw49 (a50.add 1) (Slc.v x48) fun vw51 =>
    I37 (IntKind.i64.wrap (s35 + 1)) vw51) (R vw36)
/-- (*foliant/inflate.flate).copied -/
def S78 (f1 : Option Addr) (sign2 : Int) (distances3 : Option Addr) (w : World) (R : World → Prop) (PR : Value → World → Prop) : Prop :=
  C27 (decide (sign2 ≤ 285)) 13 w (fun vw4 =>
    C33 (IntKind.i64.wrap (sign2 - 257)) vw4 fun r5 vw6 =>
      C45 f1 r5.2 vw6 (fun r7 vw8 =>
        C11 sign2 r7 vw8 fun r9 r10 vw11 =>
          C59 r9 r10 vw11 (fun r12 vw13 =>
            Nn f1 fun a14 =>
            Ld vw13 a14 Value.pointer fun (x15 : Option Addr) =>
            C77 distances3 x15 vw13 fun r16 r17 vw18 =>
              C59 r16 r17 vw18 (fun r19 vw20 =>
                C27 (decide (r19 ≤ 29)) 13 vw20 (fun vw21 =>
                  C36 r19 vw21 fun r22 vw23 =>
                    C45 f1 r22.2 vw23 (fun r24 vw25 =>
                      C13 r19 r24 vw25 fun r26 r27 vw28 =>
                        C59 r26 r27 vw28 (fun r29 vw30 =>
                          Nn f1 fun a31 =>
                          Ld vw30 (a31.add 1) Slc.v fun (x32 : Slc) =>
                          C27 (decide (r29 ≤ ((x32.len : Nat) : Int))) 14 vw30 (fun vw33 =>
                            C62 f1 r12 vw33 (fun vw34 =>
                              Lp (σ := Int) (S78L1 f1 r12 r29 R) 0 vw34) PR) PR) PR) PR) PR) PR) PR) PR) PR
def pl78 : Plan := (.seq (.reg .seq) (.seq (.reg .seq) (.seq (.reg .seq) (.seq (.reg .seq) (.seq (.reg .seq) (.seq (.reg .seq) (.seq (.reg .seq) (.seq (.reg .seq) (.block (.loop [(57, (.one (.int .i64)))] [0, 8, 56] (.seq (.reg .seq) (.seq (.cond .leaf .leaf) (.seq (.block (.reg (.held [19] (.take 0 (.take 1 (.take 2 (.take 3 (.take 4 (.take 5 (.take 6 (.take 7 (.take 8 (.take 9 (.take 10 (.take 11 (.take 12 (.take 13 (.take 14 (.take 15 (.take 16 (.take 17 (.eff 18 none (.eff 19 (some [22]) (.take 20 (.take 21 (.eff 22 (some []) .done)))))))))))))))))))))))))) (.reg .seq))))))))))))))
set_option maxRecDepth 100000 in
theorem T78 (f1 : Option Addr) (sign2 : Int) (distances3 : Option Addr) (w : World) (R : World → Prop) (PR : Value → World → Prop) (h : S78 f1 sign2 distances3 w R PR) : C78 f1 sign2 distances3 w R PR := by
  have e : fnT Tryd.prog ⟨FF, MAY, PR⟩ pl78 Tryd.f78 [.pointer f1, .int .i64 sign2, .pointer distances3] w [] (fun _ w => R w) = S78 f1 sign2 distances3 w R PR := by kernel_rfl
  exact (fn_callsP okF okM Tryd.func78 (by kernel_rfl) (by kernel_rfl) (e.mpr h)).mono fun _ _ he => he.elim (fun ⟨_, he, hR⟩ => .inl ⟨he, hR⟩) .inr

def S65L1 (f1 : Option Addr) (signs2 : Option Addr) (distances3 : Option Addr) (R : World → Prop) (PR : Value → World → Prop) (I6 : Unit → World → Prop) (s4 : Unit) (vw5 : World) : Prop :=
  Nn f1 fun a7 =>
  Ld vw5 a7 Value.pointer fun (x8 : Option Addr) =>
  C77 signs2 x8 vw5 fun r9 r10 vw11 =>
    C59 r9 r10 vw11 (fun r12 vw13 =>
      Br (decide (r12 < 256)) (C62 f1 1 vw13 (fun vw14 =>
          Nn f1 fun a15 =>
          Ld vw14 (a15.add 1) Slc.v fun (x16 : Slc) =>
          Nw vw14 (.cells #[.int .u8 (IntKind.u8.wrap r12)] 5) fun vw17 =>
          Rn Tryd.prog (Builtin.append_ #[34, 34] 34 #[Slc.v x16, Slc.v ((⟨some ⟨vw14.heap.size, 0, none⟩, 1, 1⟩ : Slc))]) vw17 Slc.v fun (x18 : Slc) vw19 =>
          Nn f1 fun a20 =>
          St vw19 (a20.add 1) (Slc.v x18) fun vw21 =>
          I6 () vw21) PR) (Br (r12 == 256) (R vw13) (C78 f1 r12 distances3 vw13 (fun vw22 =>
            I6 () vw22) PR))) PR
/-- (*foliant/inflate.flate).coded -/
def S65 (f1 : Option Addr) (signs2 : Option Addr) (distances3 : Option Addr) (w : World) (R : World → Prop) (PR : Value → World → Prop) : Prop :=
  Lp (σ := Unit) (S65L1 f1 signs2 distances3 R PR) () w
def pl65 : Plan := (.block (.loop [] [0, 1, 2] (.block (.seq (.reg .seq) (.block (.seq (.reg .seq) (.cond (.seq (.reg .seq) (.reg .seq)) (.seq (.reg .seq) (.cond .leaf (.reg .seq))))))))))
set_option maxRecDepth 100000 in
theorem T65 (f1 : Option Addr) (signs2 : Option Addr) (distances3 : Option Addr) (w : World) (R : World → Prop) (PR : Value → World → Prop) (h : S65 f1 signs2 distances3 w R PR) : C65 f1 signs2 distances3 w R PR := by
  have e : fnT Tryd.prog ⟨FF, MAY, PR⟩ pl65 Tryd.f65 [.pointer f1, .pointer signs2, .pointer distances3] w [] (fun _ w => R w) = S65 f1 signs2 distances3 w R PR := by kernel_rfl
  exact (fn_callsP okF okM Tryd.func65 (by kernel_rfl) (by kernel_rfl) (e.mpr h)).mono fun _ _ he => he.elim (fun ⟨_, he, hR⟩ => .inl ⟨he, hR⟩) .inr

/-- foliant/inflate.must[*foliant/code.Table] -/
def S66 (x1 : Option Addr) (why2 : Int) (w : World) (R : Option Addr → World → Prop) (PR : Value → World → Prop) : Prop :=
  C27 (why2 == 0) why2 w (fun vw3 =>
    R x1 vw3) PR
def pl66 : Plan := (.seq (.reg .seq) (.seq (.reg .seq) (.seq (.reg .seq) .leaf)))
set_option maxRecDepth 100000 in
theorem T66 (x1 : Option Addr) (why2 : Int) (w : World) (R : Option Addr → World → Prop) (PR : Value → World → Prop) (h : S66 x1 why2 w R PR) : C66 x1 why2 w R PR := by
  have e : fnT Tryd.prog ⟨FF, MAY, PR⟩ pl66 Tryd.f66 [.pointer x1, .int .i64 why2] w [(.one .ptr)] (fun s w => R s w) = S66 x1 why2 w R PR := by kernel_rfl
  exact (fn_callsP okF okM Tryd.func66 (by kernel_rfl) (by kernel_rfl) (e.mpr h)).mono fun _ _ he => he.elim (fun ⟨s, he, hR⟩ => .inl ⟨s, he, hR⟩) .inr

/-- (*foliant/inflate.flate).fixed -/
def S47 (f1 : Option Addr) (w : World) (R : World → Prop) (PR : Value → World → Prop) : Prop :=
  C15 w (fun r2 r3 vw4 =>
    C18 r2 vw4 fun r5 r6 vw7 =>
      C66 r5 r6 vw7 (fun r8 vw9 =>
        C18 r3 vw9 fun r10 r11 vw12 =>
          C66 r10 r11 vw12 (fun r13 vw14 =>
            C65 f1 r8 r13 vw14 (fun vw15 =>
              R vw15) PR) PR) PR) PR
def pl47 : Plan := (.seq (.reg .seq) (.reg .seq))
set_option maxRecDepth 100000 in
theorem T47 (f1 : Option Addr) (w : World) (R : World → Prop) (PR : Value → World → Prop) (h : S47 f1 w R PR) : C47 f1 w R PR := by
  have e : fnT Tryd.prog ⟨FF, MAY, PR⟩ pl47 Tryd.f47 [.pointer f1] w [] (fun _ w => R w) = S47 f1 w R PR := by kernel_rfl
  exact (fn_callsP okF okM Tryd.func47 (by kernel_rfl) (by kernel_rfl) (e.mpr h)).mono fun _ _ he => he.elim (fun ⟨_, he, hR⟩ => .inl ⟨he, hR⟩) .inr

def S67L1 (f1 : Option Addr) (t2 : Option Addr) (n3 : Int) (R : Slc → World → Prop) (PR : Value → World → Prop) (I8 : Slc → World → Prop) (s6 : Slc) (vw7 : World) : Prop :=
  Br (decide (((s6.len : Nat) : Int) < n3)) (Nn f1 fun a9 =>
    Ld vw7 a9 Value.pointer fun (x10 : Option Addr) =>
    C77 t2 x10 vw7 fun r11 r12 vw13 =>
      C59 r11 r12 vw13 (fun r14 vw15 =>
        Ld vw15 (⟨1, 0, none⟩ : Addr) Value.map fun (x16 : Option Nat) =>
        ∃ x17 : Int × Int, ∃ vok18 : Bool, ∃ vw19 : World, RunV Tryd.prog (Instr.lookup 125 (.map x16) (.int .i64 r14) true) vw15 (.tuple #[.agg #[.int .i64 (x17.1), .int .i64 (x17.2)], .bool vok18]) vw19 ∧ Nw vw19 (.cells #[.int .i64 0, .int .i64 0] 123) fun vw20 =>
        St vw20 (⟨vw19.heap.size, 0, none⟩ : Addr) (.int .i64 (x17.1)) fun vw21 =>
        St vw21 ((⟨vw19.heap.size, 0, none⟩ : Addr).add 1) (.int .i64 (x17.2)) fun vw22 =>
        Br (!vok18) (Nw vw22 (.cells #[.int .i64 r14] 3) fun vw26 =>
          Rn Tryd.prog (Builtin.append_ #[28, 28] 28 #[Slc.v s6, Slc.v ((⟨some ⟨vw22.heap.size, 0, none⟩, 1, 1⟩ : Slc))]) vw26 Slc.v fun (x27 : Slc) vw28 =>
          I8 x27 vw28) (Br (r14 == 16) (C27 (decide (((s6.len : Nat) : Int) > 0)) 3 vw22 (fun vw32 =>
              0 ≤ (IntKind.i64.wrap (((s6.len : Nat) : Int) - 1)) ∧ (IntKind.i64.wrap (((s6.len : Nat) : Int) - 1)) < (s6.len : Nat) ∧ Nn s6.p fun a33 =>
              Ld vw32 (a33.add ((IntKind.i64.wrap (((s6.len : Nat) : Int) - 1)).toNat * 1)) (Value.int .i64) fun (x34 : Int) =>
              ∃ vS35 : World → Prop, vS35 vw32.drew ∧ LdS vS35 (⟨vw19.heap.size, 0, none⟩ : Addr) (Value.int .i64) fun (x36 : Int) =>
              LdS vS35 ((⟨vw19.heap.size, 0, none⟩ : Addr).add 1) (Value.int .i64) fun (x37 : Int) =>
              C45 f1 x37 vw32.drew (fun r38 vw39 =>
                vS35 vw39 ∧ C27 (decide ((IntKind.i64.wrap (((s6.len : Nat) : Int) + (IntKind.i64.wrap (x36 + r38)))) ≤ n3)) 3 vw39 (fun vw40 =>
                  Nw vw40 (.cells #[.int .i64 x34] 3) fun vw41 =>
                  C38 (⟨some ⟨vw40.heap.size, 0, none⟩, 1, 1⟩ : Slc) (IntKind.i64.wrap (x36 + r38)) vw41 (fun r42 vw43 =>
                    Rn Tryd.prog (Builtin.append_ #[28, 28] 28 #[Slc.v s6, Slc.v r42]) vw43 Slc.v fun (x44 : Slc) vw45 =>
                    I8 x44 vw45) PR) PR) PR) PR) (∃ vS46 : World → Prop, vS46 vw22.drew ∧ LdS vS46 (⟨vw19.heap.size, 0, none⟩ : Addr) (Value.int .i64) fun (x47 : Int) =>
            LdS vS46 ((⟨vw19.heap.size, 0, none⟩ : Addr).add 1) (Value.int .i64) fun (x48 : Int) =>
            C45 f1 x48 vw22.drew (fun r49 vw50 =>
              vS46 vw50 ∧ C27 (decide ((IntKind.i64.wrap (((s6.len : Nat) : Int) + (IntKind.i64.wrap (x47 + r49)))) ≤ n3)) 3 vw50 (fun vw51 =>
                Nw vw51 (.cells #[.int .i64 0] 3) fun vw52 =>
                C38 (⟨some ⟨vw51.heap.size, 0, none⟩, 1, 1⟩ : Slc) (IntKind.i64.wrap (x47 + r49)) vw52 (fun r53 vw54 =>
                  Rn Tryd.prog (Builtin.append_ #[28, 28] 28 #[Slc.v s6, Slc.v r53]) vw54 Slc.v fun (x55 : Slc) vw56 =>
                  I8 x55 vw56) PR) PR) PR))) PR) (R s6 vw7)
/-- (*foliant/inflate.flate).lengths -/
def S67 (f1 : Option Addr) (t2 : Option Addr) (n3 : Int) (w : World) (R : Slc → World → Prop) (PR : Value → World → Prop) : Prop :=
  Rn Tryd.prog (Instr.makeSlice 28 (.int .i64 0) (.int .i64 n3)) w Slc.v fun (x4 : Slc) vw5 =>
  Lp (σ := Slc) (S67L1 f1 t2 n3 R PR) x4 vw5
def pl67 : Plan := (.seq (.reg .seq) (.seq (.reg .seq) (.seq (.block (.loop [(7, (.one .slc))] [0, 1, 2] (.seq (.seq (.reg .seq) (.cond .leaf .leaf)) (.block (.seq (.reg .seq) (.seq (.reg .seq) (.seq (.seq (.reg .seq) (.cond (.seq (.reg .seq) .leaf) .leaf)) (.seq (.reg .seq) (.seq (.seq (.reg .seq) (.cond (.seq (.reg .seq) (.reg .seq)) .leaf)) (.seq (.reg (.held [] (.take 0 (.take 1 (.take 2 (.take 3 (.take 4 (.eff 5 none (.take 6 (.take 7 .done)))))))))) (.seq (.reg .seq) (.reg .seq)))))))))))) (.seq (.reg .seq) .leaf))))
set_option maxRecDepth 100000 in
theorem T67 (f1 : Option Addr) (t2 : Option Addr) (n3 : Int) (w : World) (R : Slc → World → Prop) (PR : Value → World → Prop) (h : S67 f1 t2 n3 w R PR) : C67 f1 t2 n3 w R PR := by
  have e : fnT Tryd.prog ⟨FF, MAY, PR⟩ pl67 Tryd.f67 [.pointer f1, .pointer t2, .int .i64 n3] w [(.one .slc)] (fun s w => R s w) = S67 f1 t2 n3 w R PR := by kernel_rfl
  exact (fn_callsP okF okM Tryd.func67 (by kernel_rfl) (by kernel_rfl) (e.mpr h)).mono fun _ _ he => he.elim (fun ⟨s, he, hR⟩ => .inl ⟨s, he, hR⟩) .inr

def S48L1 (f1 : Option Addr) (r2 : Int) (r5 : Int) (vw7 : World) (r20 : Int) (x22 : Int) (R : World → Prop) (PR : Value → World → Prop) (I25 : Int → World → Prop) (s23 : Int) (vw24 : World) : Prop :=
  Br (decide (s23 < x22)) (0 ≤ s23 ∧ s23 < (((⟨some (⟨0, 0, none⟩ : Addr), 19, 19⟩ : Slc).cut 1 0 ((IntKind.i64.wrap (r20 + 4)).toNat) 19).len : Nat) ∧ Nn ((⟨some (⟨0, 0, none⟩ : Addr), 19, 19⟩ : Slc).cut 1 0 ((IntKind.i64.wrap (r20 + 4)).toNat) 19).p fun a26 =>
    Ld vw24 (a26.add ((s23).toNat * 1)) (Value.int .i64) fun (x27 : Int) =>
    C45 f1 3 vw24 (fun r28 vw29 =>
      0 ≤ x27 ∧ x27 < (19 : Nat) ∧ St vw29 ((⟨vw7.heap.size, 0, none⟩ : Addr).add ((x27).toNat * 1)) (.int .i64 r28) fun vw30 =>
      I25 (IntKind.i64.wrap (s23 + 1)) vw30) PR) (C18 ((⟨some (⟨vw7.heap.size, 0, none⟩ : Addr), 19, 19⟩ : Slc).cut 1 0 19 19) vw24 fun r31 r32 vw33 =>
      C66 r31 r32 vw33 (fun r34 vw35 =>
        C67 f1 r34 (IntKind.i64.wrap ((IntKind.i64.wrap (r2 + 257)) + (IntKind.i64.wrap (r5 + 1)))) vw35 (fun r36 vw37 =>
          0 ≤ (256 : Int) ∧ (256 : Int) < (r36.len : Nat) ∧ Nn r36.p fun a38 =>
          Ld vw37 (a38.add (((256 : Int)).toNat * 1)) (Value.int .i64) fun (x39 : Int) =>
          C27 (decide (x39 > 0)) 13 vw37 (fun vw40 =>
            0 ≤ (IntKind.i64.wrap (r2 + 257)) ∧ (IntKind.i64.wrap (r2 + 257)) ≤ ((r36.cap : Nat) : Int) ∧ 0 ≤ (IntKind.i64.wrap (r2 + 257)) ∧ (IntKind.i64.wrap (r2 + 257)) ≤ ((r36.len : Nat) : Int) ∧ C18 (r36.cut 1 0 ((IntKind.i64.wrap (r2 + 257)).toNat) r36.cap) vw40.drew fun r41 r42 vw43 =>
              C66 r41 r42 vw43 (fun r44 vw45 =>
                C18 (r36.cut 1 ((IntKind.i64.wrap (r2 + 257)).toNat) r36.len r36.cap) vw45 fun r46 r47 vw48 =>
                  C66 r46 r47 vw48 (fun r49 vw50 =>
                    C65 f1 r44 r49 vw50 (fun vw51 =>
                      R vw51) PR) PR) PR) PR) PR) PR)
/-- (*foliant/inflate.flate).dynamic -/
def S48 (f1 : Option Addr) (w : World) (R : World → Prop) (PR : Value → World → Prop) : Prop :=
  C45 f1 5 w (fun r2 vw3 =>
    C27 (decide ((IntKind.i64.wrap (r2 + 257)) ≤ 286)) 3 vw3 (fun vw4 =>
      C45 f1 5 vw4 (fun r5 vw6 =>
        C27 (decide ((IntKind.i64.wrap (r5 + 1)) ≤ 30)) 3 vw6 (fun vw7 =>
          Nw vw7 (.cells #[.int .i64 0, .int .i64 0, .int .i64 0, .int .i64 0, .int .i64 0, .int .i64 0, .int .i64 0, .int .i64 0, .int .i64 0, .int .i64 0, .int .i64 0, .int .i64 0, .int .i64 0, .int .i64 0, .int .i64 0, .int .i64 0, .int .i64 0, .int .i64 0, .int .i64 0] 106) fun vw8 =>
          C45 f1 4 vw8 (fun r20 vw21 =>
            0 ≤ (IntKind.i64.wrap (r20 + 4)) ∧ (IntKind.i64.wrap (r20 + 4)) ≤ ((19 : Nat) : Int) ∧ Lt (((((⟨some (⟨0, 0, none⟩ : Addr), 19, 19⟩ : Slc).cut 1 0 ((IntKind.i64.wrap (r20 + 4)).toNat) 19).len : Nat) : Int)) fun (x22 : Int) =>
            Lp (σ := Int) (S48L1 f1 r2 r5 vw7 r20 x22 R PR) 0 vw21) PR) PR) PR) PR) PR
def pl48 : Plan := (.seq (.reg .seq) (.seq (.reg .seq) (.seq (.reg .seq) (.seq (.reg .seq) (.seq (.reg .seq) (.seq (.seq (.reg .seq) (.block (.loop [(25, (.one (.int .i64)))] [0, 2, 3, 4, 23, 24] (.seq (.reg .seq) (.seq (.cond .leaf .leaf) (.seq (.block (.seq (.reg .seq) (.reg .seq))) (.reg .seq))))))) (.seq (.reg .seq) (.seq (.reg .seq) (.reg (.held [4] (.take 0 (.take 1 (.take 2 (.take 3 (.take 8 (.take 9 (.take 10 (.eff 4 (some [7]) (.take 5 (.take 6 (.eff 7 (some [11]) (.eff 11 (some [14]) (.take 12 (.take 13 (.eff 14 (some [15]) (.eff 15 (some []) .done))))))))))))))))))))))))))
set_option maxRecDepth 100000 in
theorem T48 (f1 : Option Addr) (w : World) (R : World → Prop) (PR : Value → World → Prop) (h : S48 f1 w R PR) : C48 f1 w R PR := by
  have e : fnT Tryd.prog ⟨FF, MAY, PR⟩ pl48 Tryd.f48 [.pointer f1] w [] (fun _ w => R w) = S48 f1 w R PR := by kernel_rfl
  exact (fn_callsP okF okM Tryd.func48 (by kernel_rfl) (by kernel_rfl) (e.mpr h)).mono fun _ _ he => he.elim (fun ⟨_, he, hR⟩ => .inl ⟨he, hR⟩) .inr

/-- (*foliant/inflate.flate).block -/
def S29 (f1 : Option Addr) (w : World) (R : Bool → World → Prop) (PR : Value → World → Prop) : Prop :=
  C45 f1 1 w (fun r2 vw3 =>
    C45 f1 2 vw3 (fun r4 vw5 =>
      Br (r4 == 0) (C46 f1 vw5 (fun vw6 =>
          R (r2 == 1) vw6) PR) (Br (r4 == 1) (C47 f1 vw5 (fun vw7 =>
            R (r2 == 1) vw7) PR) (Br (r4 == 2) (C48 f1 vw5 (fun vw8 =>
              R (r2 == 1) vw8) PR) (C27 false 3 vw5 (fun vw9 =>
              R (r2 == 1) vw9) PR)))) PR) PR
def pl29 : Plan := (.seq (.reg .seq) (.seq (.reg .seq) (.seq (.seq (.reg .seq) (.block (.seq (.reg .seq) (.cond (.reg .seq) (.seq (.reg .seq) (.cond (.reg .seq) (.seq (.reg .seq) (.cond (.reg .seq) (.reg .seq))))))))) (.seq (.reg .seq) .leaf))))
set_option maxRecDepth 100000 in
theorem T29 (f1 : Option Addr) (w : World) (R : Bool → World → Prop) (PR : Value → World → Prop) (h : S29 f1 w R PR) : C29 f1 w R PR := by
  have e : fnT Tryd.prog ⟨FF, MAY, PR⟩ pl29 Tryd.f29 [.pointer f1] w [(.one .bool)] (fun s w => R s w) = S29 f1 w R PR := by kernel_rfl
  exact (fn_callsP okF okM Tryd.func29 (by kernel_rfl) (by kernel_rfl) (e.mpr h)).mono fun _ _ he => he.elim (fun ⟨s, he, hR⟩ => .inl ⟨s, he, hR⟩) .inr

def S9P (w : World) (vw3 : World) (vw4 : World) (R : ByteArray → Int → Int → World → Prop) (x7 : Value) (vw6 : World) : Prop :=
  CD26 (⟨w.heap.size, 0, none⟩ : Addr) (⟨vw3.heap.size, 0, none⟩ : Addr) (⟨vw4.heap.size, 0, none⟩ : Addr) (some x7) vw6 fun vw8 =>
    Ld vw8 (⟨w.heap.size, 0, none⟩ : Addr) Value.string fun (x9 : ByteArray) =>
    Ld vw8 (⟨vw3.heap.size, 0, none⟩ : Addr) (Value.int .i64) fun (x10 : Int) =>
    Ld vw8 (⟨vw4.heap.size, 0, none⟩ : Addr) (Value.int .i64) fun (x11 : Int) =>
    R x9 x10 x11 vw8
def S9L1 (w : World) (vw3 : World) (vw4 : World) (vw14 : World) (R : ByteArray → Int → Int → World → Prop) (I23 : Unit → World → Prop) (s21 : Unit) (vw22 : World) : Prop :=
  C29 (some (⟨vw14.heap.size, 0, none⟩ : Addr)) vw22 (fun r24 vw25 =>
    Br (!r24) (I23 () vw25) (∃ vS26 : World → Prop, vS26 vw25.drew ∧ Nn (some (⟨vw14.heap.size, 0, none⟩ : Addr)) fun a27 =>
      LdS vS26 (a27.add 1) Slc.v fun (x28 : Slc) =>
      Nn (some (⟨vw14.heap.size, 0, none⟩ : Addr)) fun a29 =>
      LdS vS26 a29 Value.pointer fun (x30 : Option Addr) =>
      (Rn Tryd.prog (convert 34 9 (Slc.v x28)) vw25.drew Value.string fun (x31 : ByteArray) vw32 =>
        vS26 vw32 ∧ C30 x30 vw32 fun r33 vw34 =>
          vS26 vw34 ∧ St vw34 (⟨w.heap.size, 0, none⟩ : Addr) (.string x31) fun vw35 =>
          St vw35 (⟨vw3.heap.size, 0, none⟩ : Addr) (.int .i64 r33) fun vw36 =>
          St vw36 (⟨vw4.heap.size, 0, none⟩ : Addr) (.int .i64 0) fun vw37 =>
          CD26 (⟨w.heap.size, 0, none⟩ : Addr) (⟨vw3.heap.size, 0, none⟩ : Addr) (⟨vw4.heap.size, 0, none⟩ : Addr) none vw37 fun vw38 =>
            Ld vw38 (⟨w.heap.size, 0, none⟩ : Addr) Value.string fun (x39 : ByteArray) =>
            Ld vw38 (⟨vw3.heap.size, 0, none⟩ : Addr) (Value.int .i64) fun (x40 : Int) =>
            Ld vw38 (⟨vw4.heap.size, 0, none⟩ : Addr) (Value.int .i64) fun (x41 : Int) =>
            R x39 x40 x41 vw38) ∧
      (C30 x30 vw25.drew fun r42 vw43 =>
          vS26 vw43 ∧ Rn Tryd.prog (convert 34 9 (Slc.v x28)) vw43 Value.string fun (x44 : ByteArray) vw45 =>
          vS26 vw45 ∧ St vw45 (⟨w.heap.size, 0, none⟩ : Addr) (.string x44) fun vw46 =>
          St vw46 (⟨vw3.heap.size, 0, none⟩ : Addr) (.int .i64 r42) fun vw47 =>
          St vw47 (⟨vw4.heap.size, 0, none⟩ : Addr) (.int .i64 0) fun vw48 =>
          CD26 (⟨w.heap.size, 0, none⟩ : Addr) (⟨vw3.heap.size, 0, none⟩ : Addr) (⟨vw4.heap.size, 0, none⟩ : Addr) none vw48 fun vw49 =>
            Ld vw49 (⟨w.heap.size, 0, none⟩ : Addr) Value.string fun (x50 : ByteArray) =>
            Ld vw49 (⟨vw3.heap.size, 0, none⟩ : Addr) (Value.int .i64) fun (x51 : Int) =>
            Ld vw49 (⟨vw4.heap.size, 0, none⟩ : Addr) (Value.int .i64) fun (x52 : Int) =>
            R x50 x51 x52 vw49))) (S9P w vw3 vw4 R)
/-- foliant/inflate.All -/
def S9 (s1 : ByteArray) (most2 : Int) (w : World) (R : ByteArray → Int → Int → World → Prop) : Prop :=
  Nw w (.cells #[.string ((⟨#[]⟩ : ByteArray))] 9) fun vw3 =>
  Nw vw3 (.cells #[.int .i64 0] 3) fun vw4 =>
  Nw vw4 (.cells #[.int .i64 0] 23) fun vw5 =>
  C27 (decide (most2 ≥ 0)) 1 vw5 (fun vw12 =>
    C28 s1 vw12 fun r13 vw14 =>
      Nw vw14 (.cells #[.pointer r13, Slc.v ((⟨none, 0, 0⟩ : Slc)), .int .i64 (if 1048576 < most2 then 1048576 else most2)] 56) fun vw15 =>
      Lp (σ := Unit) (S9L1 w vw3 vw4 vw14 R) () vw15) (S9P w vw3 vw4 R)
def pl9 : DPlan := (.pre (.reg .seq) (.here [4, 5, 6] (.seq (.reg .seq) (.seq (.reg .seq) (.seq (.block (.loop [] [4, 5, 6, 7] (.seq (.seq (.reg .seq) (.cond .leaf .leaf)) (.block .leaf)))) (.seq (.reg (.held [10] (.take 0 (.take 1 (.take 2 (.take 3 (.take 5 (.take 6 (.take 7 (.take 8 (.effs 4 none (.eff 9 none (.eff 10 (some [11]) (.eff 11 (some [12]) (.eff 12 (some []) .done)))) (.eff 9 none (.eff 4 none (.eff 10 (some [11]) (.eff 11 (some [12]) (.eff 12 (some []) .done)))))))))))))))) .leaf))))))
set_option maxRecDepth 100000 in
theorem T9 (s1 : ByteArray) (most2 : Int) (w : World) (R : ByteArray → Int → Int → World → Prop) (h : S9 s1 most2 w R) : C9 s1 most2 w R := by
  have e : fnTD Tryd.prog FF MAY (fun _ _ => False) pl9 Tryd.f9 [.string s1, .int .i64 most2] w [(.one .str), (.one (.int .i64)), (.one (.int .i64))] (fun s w => R s.1 s.2.1 s.2.2 w) = S9 s1 most2 w R := by kernel_rfl
  exact (fnD_calls okF okM Tryd.func9 (by kernel_rfl) (by kernel_rfl) (e.mpr h)).mono fun _ _ ⟨s, he, hR⟩ => ⟨s.1, s.2.1, s.2.2, he, hR⟩

def S31L1 (s1 : ByteArray) (vat2 : Int) (n3 : Int) (R : Int → Int → Int → World → Prop) (I12 : (Int × Int) → World → Prop) (s10 : Int × Int) (vw11 : World) : Prop :=
  Br (decide (s10.2 < n3)) (C49 s1 (IntKind.i64.wrap (vat2 + s10.2)) vw11 fun r13 vw14 =>
      Br (decide (r13 < 0)) (R 0 0 4 vw14) (0 ≤ (IntKind.u64.wrap s10.2) ∧ Lt (IntKind.i64.wrap (s10.1 + (IntKind.i64.wrap (r13 * 2 ^ (min (IntKind.u64.wrap s10.2).toNat 64))))) fun (x15 : Int) =>
        I12 (x15, IntKind.i64.wrap (s10.2 + 1)) vw14)) (R s10.1 (IntKind.i64.wrap (vat2 + n3)) 0 vw11)
/-- foliant/foliantref11.number -/
def S31 (s1 : ByteArray) (vat2 : Int) (n3 : Int) (w : World) (R : Int → Int → Int → World → Prop) : Prop :=
  Lp (σ := Int × Int) (S31L1 s1 vat2 n3 R) (0, 0) w
def pl31 : Plan := (.seq (.reg .seq) (.seq (.reg .seq) (.seq (.seq (.reg .seq) (.block (.loop [(9, (.one (.int .i64))), (10, (.one (.int .i64)))] [0, 1, 2] (.seq (.seq (.reg .seq) (.cond .leaf .leaf)) (.seq (.block (.seq (.reg .seq) (.seq (.seq (.reg .seq) (.cond (.seq (.reg .seq) .leaf) .leaf)) (.reg .seq)))) (.reg .seq)))))) (.seq (.reg .seq) .leaf))))
set_option maxRecDepth 100000 in
theorem T31 (s1 : ByteArray) (vat2 : Int) (n3 : Int) (w : World) (R : Int → Int → Int → World → Prop) (h : S31 s1 vat2 n3 w R) : C31 s1 vat2 n3 w R := by
  have e : fnT Tryd.prog ⟨FF, MAY, (fun _ _ => False)⟩ pl31 Tryd.f31 [.string s1, .int .i64 vat2, .int .i64 n3] w [(.one (.int .i64)), (.one (.int .i64)), (.one (.int .i64))] (fun s w => R s.1 s.2.1 s.2.2 w) = S31 s1 vat2 n3 w R := by kernel_rfl
  exact (fn_calls okF okM Tryd.func31 (by kernel_rfl) (by kernel_rfl) (e.mpr h)).mono fun _ _ ⟨s, he, hR⟩ => ⟨s.1, s.2.1, s.2.2, he, hR⟩

/-- foliant/foliantref11.stored -/
def S50 (s1 : ByteArray) (vfrom2 : Int) (out3 : Slc) (most4 : Int) (w : World) (R : Slc → Int → Int → World → Prop) : Prop :=
  C31 s1 (IntKind.i64.wrap ((IntKind.i64.wrap (Int.tdiv (IntKind.i64.wrap (vfrom2 + 7)) 8)) * 8)) 16 w fun r5 r6 r7 vw8 =>
    Br (r7 != 0) (R (⟨none, 0, 0⟩ : Slc) 0 r7 vw8) (C31 s1 r6 16 vw8 fun r9 r10 r11 vw12 =>
        Br (r11 != 0) (R (⟨none, 0, 0⟩ : Slc) 0 r11 vw12) (Br (r9 != (IntKind.i64.wrap (65535 - r5))) (R (⟨none, 0, 0⟩ : Slc) 0 3 vw12) (Br (decide (r5 > (IntKind.i64.wrap (most4 - ((out3.len : Nat) : Int))))) (R (⟨none, 0, 0⟩ : Slc) 0 5 vw12) (Lt (decide (r5 > (IntKind.i64.wrap ((((s1).size : Nat) : Int) - (IntKind.i64.wrap (Int.tdiv r10 8)))))) fun (x14 : Bool) =>
              Br x14 (R (⟨none, 0, 0⟩ : Slc) 0 4 vw12) (0 ≤ (IntKind.i64.wrap ((IntKind.i64.wrap (Int.tdiv r10 8)) + r5)) ∧ (IntKind.i64.wrap ((IntKind.i64.wrap (Int.tdiv r10 8)) + r5)) ≤ (((s1).size : Nat) : Int) ∧ 0 ≤ (IntKind.i64.wrap (Int.tdiv r10 8)) ∧ (IntKind.i64.wrap (Int.tdiv r10 8)) ≤ (((IntKind.i64.wrap ((IntKind.i64.wrap (Int.tdiv r10 8)) + r5)).toNat : Nat) : Int) ∧ Lt (s1.extract ((IntKind.i64.wrap (Int.tdiv r10 8)).toNat) ((IntKind.i64.wrap ((IntKind.i64.wrap (Int.tdiv r10 8)) + r5)).toNat)) fun (x15 : ByteArray) =>
                Rn Tryd.prog (Builtin.append_ #[34, 9] 34 #[Slc.v out3, .string x15]) vw12 Slc.v fun (x16 : Slc) vw17 =>
                R x16 (IntKind.i64.wrap (r10 + (IntKind.i64.wrap (8 * r5)))) 0 vw17)))))
def pl50 : Plan := (.seq (.reg .seq) (.seq (.reg .seq) (.seq (.reg .seq) (.seq (.seq (.reg .seq) (.cond (.seq (.reg .seq) .leaf) .leaf)) (.seq (.reg .seq) (.seq (.seq (.reg .seq) (.cond (.seq (.reg .seq) .leaf) .leaf)) (.seq (.seq (.reg .seq) (.cond (.seq (.reg .seq) .leaf) .leaf)) (.seq (.seq (.reg .seq) (.cond (.seq (.reg .seq) .leaf) .leaf)) (.seq (.seq (.reg .seq) (.cond (.seq (.reg .seq) .leaf) .leaf)) (.seq (.reg .seq) .leaf))))))))))
set_option maxRecDepth 100000 in
theorem T50 (s1 : ByteArray) (vfrom2 : Int) (out3 : Slc) (most4 : Int) (w : World) (R : Slc → Int → Int → World → Prop) (h : S50 s1 vfrom2 out3 most4 w R) : C50 s1 vfrom2 out3 most4 w R := by
  have e : fnT Tryd.prog ⟨FF, MAY, (fun _ _ => False)⟩ pl50 Tryd.f50 [.string s1, .int .i64 vfrom2, Slc.v out3, .int .i64 most4] w [(.one .slc), (.one (.int .i64)), (.one (.int .i64))] (fun s w => R s.1 s.2.1 s.2.2 w) = S50 s1 vfrom2 out3 most4 w R := by kernel_rfl
  exact (fn_calls okF okM Tryd.func50 (by kernel_rfl) (by kernel_rfl) (e.mpr h)).mono fun _ _ ⟨s, he, hR⟩ => ⟨s.1, s.2.1, s.2.2, he, hR⟩

def S69L1 (I48 : (Int × Slc) → World → Prop) (s58 : Int) (s62 : Int × Int) (r64 : Int) (r65 : Int) (I71 : (Slc × Int) → World → Prop) (s69 : Slc × Int) (vw70 : World) : Prop :=
  Br (decide (s69.2 < (IntKind.i64.wrap (s62.2 + r64)))) (Nw vw70 (.cells #[.int .i64 s58] 3) fun vw72 =>
    Rn Tryd.prog (Builtin.append_ #[28, 28] 28 #[Slc.v s69.1, Slc.v ((⟨some ⟨vw70.heap.size, 0, none⟩, 1, 1⟩ : Slc))]) vw72 Slc.v fun (x73 : Slc) vw74 =>
    I71 (x73, IntKind.i64.wrap (s69.2 + 1)) vw74) (I48 (r65, s69.1) vw70)
def S69J1 (s1 : ByteArray) (many4 : Int) (s46 : Int × Slc) (I48 : (Int × Slc) → World → Prop) (r50 : Int) (s58 : Int) (R : Slc → Int → Int → World → Prop) (s62 : Int × Int) (vw63 : World) : Prop :=
  C31 s1 r50 s62.1 vw63 fun r64 r65 r66 vw67 =>
    Br (r66 != 0) (R (⟨none, 0, 0⟩ : Slc) 0 r66 vw67) (Lt (decide ((IntKind.i64.wrap (s62.2 + r64)) > (IntKind.i64.wrap (many4 - ((s46.2.len : Nat) : Int))))) fun (x68 : Bool) =>
      Br x68 (R (⟨none, 0, 0⟩ : Slc) 0 3 vw67) (Lp (σ := Slc × Int) (S69L1 I48 s58 s62 r64 r65) (s46.2, 0) vw67))
def S69J2 (s1 : ByteArray) (many4 : Int) (s46 : Int × Slc) (I48 : (Int × Slc) → World → Prop) (r49 : Int) (r50 : Int) (s58 : Int) (R : Slc → Int → Int → World → Prop) (s60 : Int) (vw61 : World) : Prop :=
  Join (S69J1 s1 many4 s46 I48 r50 s58 R) fun (vJ75 : (Int × Int) → World → Prop) =>
    Br (r49 == 18) (vJ75 (7, 11) vw61) (vJ75 (s60, 3) vw61)
def S69J3 (s1 : ByteArray) (many4 : Int) (s46 : Int × Slc) (I48 : (Int × Slc) → World → Prop) (r49 : Int) (r50 : Int) (R : Slc → Int → Int → World → Prop) (s58 : Int) (vw59 : World) : Prop :=
  Join (S69J2 s1 many4 s46 I48 r49 r50 s58 R) fun (vJ76 : Int → World → Prop) =>
    Br (r49 == 17) (vJ76 3 vw59) (vJ76 2 vw59)
def S69J4 (s1 : ByteArray) (many4 : Int) (s46 : Int × Slc) (I48 : (Int × Slc) → World → Prop) (r49 : Int) (r50 : Int) (R : Slc → Int → Int → World → Prop) (s56 : Unit) (vw57 : World) : Prop :=
  Join (S69J3 s1 many4 s46 I48 r49 r50 R) fun (vJ77 : Int → World → Prop) =>
    Br (r49 == 16) (0 ≤ (IntKind.i64.wrap (((s46.2.len : Nat) : Int) - 1)) ∧ (IntKind.i64.wrap (((s46.2.len : Nat) : Int) - 1)) < (s46.2.len : Nat) ∧ Nn s46.2.p fun a78 =>
      Ld vw57 (a78.add ((IntKind.i64.wrap (((s46.2.len : Nat) : Int) - 1)).toNat * 1)) (Value.int .i64) fun (x79 : Int) =>
      vJ77 x79 vw57) (vJ77 0 vw57)
def S69L2 (s1 : ByteArray) (lens3 : Slc) (many4 : Int) (R : Slc → Int → Int → World → Prop) (I48 : (Int × Slc) → World → Prop) (s46 : Int × Slc) (vw47 : World) : Prop :=
  Br (decide (((s46.2.len : Nat) : Int) < many4)) (C71 lens3 s1 s46.1 vw47 fun r49 r50 r51 vw52 =>
      Br (r51 != 0) (R (⟨none, 0, 0⟩ : Slc) 0 r51 vw52) (Br (decide (r49 < 16)) (Nw vw52 (.cells #[.int .i64 r49] 3) fun vw53 =>
          Rn Tryd.prog (Builtin.append_ #[28, 28] 28 #[Slc.v s46.2, Slc.v ((⟨some ⟨vw52.heap.size, 0, none⟩, 1, 1⟩ : Slc))]) vw53 Slc.v fun (x54 : Slc) vw55 =>
          I48 (r50, x54) vw55) (Join (S69J4 s1 many4 s46 I48 r49 r50 R) fun (vJ80 : Unit → World → Prop) =>
            Br (r49 == 16) (Br (((s46.2.len : Nat) : Int) == 0) (R (⟨none, 0, 0⟩ : Slc) 0 3 vw52) (vJ80 () vw52)) (vJ80 () vw52)))) (R s46.2 s46.1 0 vw47)
/-- foliant/foliantref11.all -/
def S69 (s1 : ByteArray) (vat2 : Int) (lens3 : Slc) (many4 : Int) (w : World) (R : Slc → Int → Int → World → Prop) : Prop :=
  Lp (σ := Int × Slc) (S69L2 s1 lens3 many4 R) (vat2, (⟨none, 0, 0⟩ : Slc)) w
def pl69 : Plan := (.seq (.reg .seq) (.seq (.reg .seq) (.seq (.block (.loop [(1, (.one (.int .i64))), (11, (.one .slc))] [0, 2, 3] (.seq (.seq (.reg .seq) (.cond .leaf .leaf)) (.block (.seq (.reg .seq) (.seq (.seq (.reg .seq) (.cond (.seq (.reg .seq) .leaf) .leaf)) (.seq (.seq (.reg .seq) (.cond (.seq (.reg .seq) .leaf) .leaf)) (.join [] [0, 2, 3, 11, 12, 13] (.seq (.reg .seq) (.cond (.seq (.reg .seq) .leaf) .leaf)) (.seq (.reg .seq) (.join [(17, (.one (.int .i64)))] [0, 2, 3, 11, 12, 13, 15, 16] (.seq (.reg .seq) (.cond (.reg .seq) .leaf)) (.join [(15, (.one (.int .i64)))] [0, 2, 3, 11, 12, 13, 16, 17] (.seq (.reg .seq) (.cond (.reg .seq) .leaf)) (.join [(15, (.one (.int .i64))), (16, (.one (.int .i64)))] [0, 2, 3, 11, 13, 17] (.seq (.reg .seq) (.cond (.reg .seq) .leaf)) (.seq (.reg .seq) (.seq (.seq (.reg .seq) (.cond (.seq (.reg .seq) .leaf) .leaf)) (.seq (.seq (.reg .seq) (.cond (.seq (.reg .seq) .leaf) .leaf)) (.seq (.seq (.reg .seq) (.block (.loop [(11, (.one .slc)), (21, (.one (.int .i64)))] [0, 2, 3, 16, 17, 18, 19] (.seq (.seq (.reg .seq) (.cond .leaf .leaf)) (.seq (.block (.reg .seq)) (.reg .seq)))))) (.reg .seq))))))))))))))))) (.seq (.reg .seq) .leaf))))
set_option maxRecDepth 100000 in
theorem T69 (s1 : ByteArray) (vat2 : Int) (lens3 : Slc) (many4 : Int) (w : World) (R : Slc → Int → Int → World → Prop) (h : S69 s1 vat2 lens3 many4 w R) : C69 s1 vat2 lens3 many4 w R := by
  have e : fnT Tryd.prog ⟨FF, MAY, (fun _ _ => False)⟩ pl69 Tryd.f69 [.string s1, .int .i64 vat2, Slc.v lens3, .int .i64 many4] w [(.one .slc), (.one (.int .i64)), (.one (.int .i64))] (fun s w => R s.1 s.2.1 s.2.2 w) = S69 s1 vat2 lens3 many4 w R := by kernel_rfl
  exact (fn_calls okF okM Tryd.func69 (by kernel_rfl) (by kernel_rfl) (e.mpr h)).mono fun _ _ ⟨s, he, hR⟩ => ⟨s.1, s.2.1, s.2.2, he, hR⟩

def S51L1 (s1 : ByteArray) (r3 : Int) (r7 : Int) (r11 : Int) (vw14 : World) (x16 : Slc) (R : Slc → Slc → Int → Int → World → Prop) (I31 : (Int × Int) → World → Prop) (s29 : Int × Int) (vw30 : World) : Prop :=
  Br (decide (s29.2 < (IntKind.i64.wrap (r11 + 4)))) (C31 s1 s29.1 3 vw30 fun r32 r33 r34 vw35 =>
      Br (r34 != 0) (R (⟨none, 0, 0⟩ : Slc) (⟨none, 0, 0⟩ : Slc) 0 r34 vw35) (0 ≤ s29.2 ∧ s29.2 < ((⟨some ⟨vw14.heap.size, 0, none⟩, 19, 19⟩ : Slc).len : Nat) ∧ Nn (⟨some ⟨vw14.heap.size, 0, none⟩, 19, 19⟩ : Slc).p fun a36 =>
        Ld vw35 (a36.add ((s29.2).toNat * 1)) (Value.int .i64) fun (x37 : Int) =>
        0 ≤ x37 ∧ x37 < (x16.len : Nat) ∧ Nn x16.p fun a38 =>
        St vw35 (a38.add ((x37).toNat * 1)) (.int .i64 r32) fun vw39 =>
        I31 (r33, IntKind.i64.wrap (s29.2 + 1)) vw39)) (C52 x16 vw30 fun r42 vw43 =>
      Br (r42 != 0) (R (⟨none, 0, 0⟩ : Slc) (⟨none, 0, 0⟩ : Slc) 0 r42 vw43) (C69 s1 s29.1 x16 (IntKind.i64.wrap ((IntKind.i64.wrap ((IntKind.i64.wrap (r3 + 257)) + r7)) + 1)) vw43 fun r44 r45 r46 vw47 =>
          Br (r46 != 0) (R (⟨none, 0, 0⟩ : Slc) (⟨none, 0, 0⟩ : Slc) 0 r46 vw47) (0 ≤ (IntKind.i64.wrap (r3 + 257)) ∧ (IntKind.i64.wrap (r3 + 257)) ≤ ((r44.cap : Nat) : Int) ∧ 0 ≤ (IntKind.i64.wrap (r3 + 257)) ∧ (IntKind.i64.wrap (r3 + 257)) ≤ ((r44.len : Nat) : Int) ∧ R (r44.cut 1 0 ((IntKind.i64.wrap (r3 + 257)).toNat) r44.cap) (r44.cut 1 ((IntKind.i64.wrap (r3 + 257)).toNat) r44.len r44.cap) r45 0 vw47.drew)))
/-- foliant/foliantref11.lengths -/
def S51 (s1 : ByteArray) (vfrom2 : Int) (w : World) (R : Slc → Slc → Int → Int → World → Prop) : Prop :=
  C31 s1 vfrom2 5 w fun r3 r4 r5 vw6 =>
    Br (r5 != 0) (R (⟨none, 0, 0⟩ : Slc) (⟨none, 0, 0⟩ : Slc) 0 r5 vw6) (Br (decide (r3 > 29)) (R (⟨none, 0, 0⟩ : Slc) (⟨none, 0, 0⟩ : Slc) 0 3 vw6) (C31 s1 r4 5 vw6 fun r7 r8 r9 vw10 =>
          Br (r9 != 0) (R (⟨none, 0, 0⟩ : Slc) (⟨none, 0, 0⟩ : Slc) 0 r9 vw10) (Br (decide (r7 > 29)) (R (⟨none, 0, 0⟩ : Slc) (⟨none, 0, 0⟩ : Slc) 0 3 vw10) (C31 s1 r8 4 vw10 fun r11 r12 r13 vw14 =>
                Br (r13 != 0) (R (⟨none, 0, 0⟩ : Slc) (⟨none, 0, 0⟩ : Slc) 0 r13 vw14) (Nw vw14 (.cells #[.int .i64 16, .int .i64 17, .int .i64 18, .int .i64 0, .int .i64 8, .int .i64 7, .int .i64 9, .int .i64 6, .int .i64 10, .int .i64 5, .int .i64 11, .int .i64 4, .int .i64 12, .int .i64 3, .int .i64 13, .int .i64 2, .int .i64 14, .int .i64 1, .int .i64 15] 3) fun vw15 =>
                  Rn Tryd.prog (Instr.makeSlice 28 (.int .i64 19) (.int .i64 19)) vw15 Slc.v fun (x16 : Slc) vw17 =>
                  Lp (σ := Int × Int) (S51L1 s1 r3 r7 r11 vw14 x16 R) (r12, 0) vw17)))))
def pl51 : Plan := (.seq (.reg .seq) (.seq (.reg .seq) (.seq (.seq (.reg .seq) (.cond (.seq (.reg .seq) .leaf) .leaf)) (.seq (.seq (.reg .seq) (.cond (.seq (.reg .seq) .leaf) .leaf)) (.seq (.reg .seq) (.seq (.seq (.reg .seq) (.cond (.seq (.reg .seq) .leaf) .leaf)) (.seq (.seq (.reg .seq) (.cond (.seq (.reg .seq) .leaf) .leaf)) (.seq (.reg .seq) (.seq (.seq (.reg .seq) (.cond (.seq (.reg .seq) .leaf) .leaf)) (.seq (.reg .seq) (.seq (.reg .seq) (.seq (.seq (.reg .seq) (.block (.loop [(15, (.one (.int .i64))), (19, (.one (.int .i64)))] [0, 8, 11, 14, 17, 18] (.seq (.seq (.reg .seq) (.cond .leaf .leaf)) (.seq (.block (.seq (.reg .seq) (.seq (.seq (.reg .seq) (.cond (.seq (.reg .seq) .leaf) .leaf)) (.reg .seq)))) (.reg .seq)))))) (.seq (.seq (.reg .seq) (.seq (.reg .seq) (.cond (.seq (.reg .seq) .leaf) .leaf))) (.seq (.reg .seq) (.seq (.seq (.reg .seq) (.cond (.seq (.reg .seq) .leaf) .leaf)) (.seq (.reg .still) .leaf))))))))))))))))
set_option maxRecDepth 100000 in
theorem T51 (s1 : ByteArray) (vfrom2 : Int) (w : World) (R : Slc → Slc → Int → Int → World → Prop) (h : S51 s1 vfrom2 w R) : C51 s1 vfrom2 w R := by
  have e : fnT Tryd.prog ⟨FF, MAY, (fun _ _ => False)⟩ pl51 Tryd.f51 [.string s1, .int .i64 vfrom2] w [(.one .slc), (.one .slc), (.one (.int .i64)), (.one (.int .i64))] (fun s w => R s.1 s.2.1 s.2.2.1 s.2.2.2 w) = S51 s1 vfrom2 w R := by kernel_rfl
  exact (fn_calls okF okM Tryd.func51 (by kernel_rfl) (by kernel_rfl) (e.mpr h)).mono fun _ _ ⟨s, he, hR⟩ => ⟨s.1, s.2.1, s.2.2.1, s.2.2.2, he, hR⟩

def S72L1 (r13 : Int) (r23 : Int) (r26 : Int) (R : Slc → Int → Int → World → Prop) (I39 : (Slc × Int) → World → Prop) (s37 : Slc × Int) (vw38 : World) : Prop :=
  Br (decide (s37.2 < r13)) (0 ≤ (IntKind.i64.wrap (((s37.1.len : Nat) : Int) - r26)) ∧ (IntKind.i64.wrap (((s37.1.len : Nat) : Int) - r26)) < (s37.1.len : Nat) ∧ Nn s37.1.p fun a40 =>
    Ld vw38 (a40.add ((IntKind.i64.wrap (((s37.1.len : Nat) : Int) - r26)).toNat * 1)) (Value.int .u8) fun (x41 : Int) =>
    Nw vw38 (.cells #[.int .u8 x41] 5) fun vw42 =>
    Rn Tryd.prog (Builtin.append_ #[34, 34] 34 #[Slc.v s37.1, Slc.v ((⟨some ⟨vw38.heap.size, 0, none⟩, 1, 1⟩ : Slc))]) vw42 Slc.v fun (x43 : Slc) vw44 =>
    I39 (x43, IntKind.i64.wrap (s37.2 + 1)) vw44) (R s37.1 r23 0 vw38)
/-- foliant/foliantref11.copied -/
def S72 (s1 : ByteArray) (vat2 : Int) (sign3 : Int) (far4 : Slc) (out5 : Slc) (most6 : Int) (w : World) (R : Slc → Int → Int → World → Prop) : Prop :=
  Br (decide (sign3 > 285)) (R (⟨none, 0, 0⟩ : Slc) 0 13 w) (C35 sign3 w fun r7 vw8 =>
      C31 s1 vat2 r7 vw8 fun r9 r10 r11 vw12 =>
        Br (r11 != 0) (R (⟨none, 0, 0⟩ : Slc) 0 r11 vw12) (C12 sign3 r9 vw12 fun r13 r14 vw15 =>
            C71 far4 s1 r10 vw15 fun r16 r17 r18 vw19 =>
              Br (r18 != 0) (R (⟨none, 0, 0⟩ : Slc) 0 r18 vw19) (Br (decide (r16 > 29)) (R (⟨none, 0, 0⟩ : Slc) 0 13 vw19) (C37 r16 vw19 fun r20 vw21 =>
                    C31 s1 r17 r20 vw21 fun r22 r23 r24 vw25 =>
                      Br (r24 != 0) (R (⟨none, 0, 0⟩ : Slc) 0 r24 vw25) (C14 r16 r22 vw25 fun r26 r27 vw28 =>
                          Br (decide (r26 > ((out5.len : Nat) : Int))) (R (⟨none, 0, 0⟩ : Slc) 0 14 vw28) (Br (decide (r13 > (IntKind.i64.wrap (most6 - ((out5.len : Nat) : Int))))) (R (⟨none, 0, 0⟩ : Slc) 0 5 vw28) (Lp (σ := Slc × Int) (S72L1 r13 r23 r26 R) (out5, 0) vw28)))))))
def pl72 : Plan := (.seq (.reg .seq) (.seq (.seq (.reg .seq) (.cond (.seq (.reg .seq) .leaf) .leaf)) (.seq (.reg .seq) (.seq (.seq (.reg .seq) (.cond (.seq (.reg .seq) .leaf) .leaf)) (.seq (.reg .seq) (.seq (.reg .seq) (.seq (.seq (.reg .seq) (.cond (.seq (.reg .seq) .leaf) .leaf)) (.seq (.seq (.reg .seq) (.cond (.seq (.reg .seq) .leaf) .leaf)) (.seq (.reg .seq) (.seq (.seq (.reg .seq) (.cond (.seq (.reg .seq) .leaf) .leaf)) (.seq (.reg .seq) (.seq (.seq (.reg .seq) (.cond (.seq (.reg .seq) .leaf) .leaf)) (.seq (.seq (.reg .seq) (.cond (.seq (.reg .seq) .leaf) .leaf)) (.seq (.seq (.reg .seq) (.block (.loop [(4, (.one .slc)), (28, (.one (.int .i64)))] [18, 24, 26] (.seq (.seq (.reg .seq) (.cond .leaf .leaf)) (.seq (.block (.reg .seq)) (.reg .seq)))))) (.seq (.reg .seq) .leaf)))))))))))))))
set_option maxRecDepth 100000 in
theorem T72 (s1 : ByteArray) (vat2 : Int) (sign3 : Int) (far4 : Slc) (out5 : Slc) (most6 : Int) (w : World) (R : Slc → Int → Int → World → Prop) (h : S72 s1 vat2 sign3 far4 out5 most6 w R) : C72 s1 vat2 sign3 far4 out5 most6 w R := by
  have e : fnT Tryd.prog ⟨FF, MAY, (fun _ _ => False)⟩ pl72 Tryd.f72 [.string s1, .int .i64 vat2, .int .i64 sign3, Slc.v far4, Slc.v out5, .int .i64 most6] w [(.one .slc), (.one (.int .i64)), (.one (.int .i64))] (fun s w => R s.1 s.2.1 s.2.2 w) = S72 s1 vat2 sign3 far4 out5 most6 w R := by kernel_rfl
  exact (fn_calls okF okM Tryd.func72 (by kernel_rfl) (by kernel_rfl) (e.mpr h)).mono fun _ _ ⟨s, he, hR⟩ => ⟨s.1, s.2.1, s.2.2, he, hR⟩

def S53L1 (s1 : ByteArray) (near3 : Slc) (far4 : Slc) (most6 : Int) (R : Slc → Int → Int → World → Prop) (I9 : (Int × Slc) → World → Prop) (s7 : Int × Slc) (vw8 : World) : Prop :=
  C71 near3 s1 s7.1 vw8 fun r10 r11 r12 vw13 =>
    Br (r12 != 0) (R (⟨none, 0, 0⟩ : Slc) 0 r12 vw13) (Br (r10 == 256) (R s7.2 r11 0 vw13) (Br (decide (r10 > 256)) (C72 s1 r11 r10 far4 s7.2 most6 vw13 fun r18 r19 r20 vw21 =>
            Br (r20 != 0) (R (⟨none, 0, 0⟩ : Slc) 0 r20 vw21) (I9 (r19, r18) vw21)) (Br (decide (((s7.2.len : Nat) : Int) ≥ most6)) (R (⟨none, 0, 0⟩ : Slc) 0 5 vw13) (Nw vw13 (.cells #[.int .u8 (IntKind.u8.wrap r10)] 5) fun vw22 =>
            Rn Tryd.prog (Builtin.append_ #[34, 34] 34 #[Slc.v s7.2, Slc.v ((⟨some ⟨vw13.heap.size, 0, none⟩, 1, 1⟩ : Slc))]) vw22 Slc.v fun (x23 : Slc) vw24 =>
            I9 (r11, x23) vw24))))
/-- foliant/foliantref11.signs -/
def S53 (s1 : ByteArray) (vat2 : Int) (near3 : Slc) (far4 : Slc) (out5 : Slc) (most6 : Int) (w : World) (R : Slc → Int → Int → World → Prop) : Prop :=
  Lp (σ := Int × Slc) (S53L1 s1 near3 far4 most6 R) (vat2, out5) w
def pl53 : Plan := (.seq (.reg .seq) (.block (.loop [(1, (.one (.int .i64))), (4, (.one .slc))] [0, 2, 3, 5] (.block (.seq (.reg .seq) (.seq (.seq (.reg .seq) (.cond (.seq (.reg .seq) .leaf) .leaf)) (.seq (.seq (.reg .seq) (.cond (.seq (.reg .seq) .leaf) .leaf)) (.seq (.seq (.reg .seq) (.cond (.seq (.reg .seq) (.seq (.seq (.reg .seq) (.cond (.seq (.reg .seq) .leaf) .leaf)) (.seq (.reg .seq) .leaf))) .leaf)) (.seq (.seq (.reg .seq) (.cond (.seq (.reg .seq) .leaf) .leaf)) (.reg .seq))))))))))
set_option maxRecDepth 100000 in
theorem T53 (s1 : ByteArray) (vat2 : Int) (near3 : Slc) (far4 : Slc) (out5 : Slc) (most6 : Int) (w : World) (R : Slc → Int → Int → World → Prop) (h : S53 s1 vat2 near3 far4 out5 most6 w R) : C53 s1 vat2 near3 far4 out5 most6 w R := by
  have e : fnT Tryd.prog ⟨FF, MAY, (fun _ _ => False)⟩ pl53 Tryd.f53 [.string s1, .int .i64 vat2, Slc.v near3, Slc.v far4, Slc.v out5, .int .i64 most6] w [(.one .slc), (.one (.int .i64)), (.one (.int .i64))] (fun s w => R s.1 s.2.1 s.2.2 w) = S53 s1 vat2 near3 far4 out5 most6 w R := by kernel_rfl
  exact (fn_calls okF okM Tryd.func53 (by kernel_rfl) (by kernel_rfl) (e.mpr h)).mono fun _ _ ⟨s, he, hR⟩ => ⟨s.1, s.2.1, s.2.2, he, hR⟩

/-- foliant/foliantref11.block -/
def S32 (s1 : ByteArray) (vat2 : Int) (kind3 : Int) (out4 : Slc) (most5 : Int) (w : World) (R : Slc → Int → Int → World → Prop) : Prop :=
  Br (kind3 == 3) (R (⟨none, 0, 0⟩ : Slc) 0 3 w) (Br (kind3 == 0) (C50 s1 vat2 out4 most5 w fun r10 r11 r12 vw13 =>
        R r10 r11 r12 vw13) (C16 w fun r14 r15 vw16 =>
        Br (kind3 == 2) (C51 s1 vat2 vw16 fun r32 r33 r34 r35 vw36 =>
            Br (r35 != 0) (R (⟨none, 0, 0⟩ : Slc) 0 r35 vw36) (0 ≤ (256 : Int) ∧ (256 : Int) < (r32.len : Nat) ∧ Nn r32.p fun a37 =>
              Ld vw36 (a37.add (((256 : Int)).toNat * 1)) (Value.int .i64) fun (x38 : Int) =>
              Br (x38 == 0) (R (⟨none, 0, 0⟩ : Slc) 0 13 vw36) (C52 r32 vw36 fun r39 vw40 =>
                  Br (r39 != 0) (R (⟨none, 0, 0⟩ : Slc) 0 r39 vw40) (C52 r33 vw40 fun r41 vw42 =>
                      Br (r41 != 0) (R (⟨none, 0, 0⟩ : Slc) 0 r41 vw42) (C53 s1 r34 r32 r33 out4 most5 vw42 fun r43 r44 r45 vw46 =>
                          R r43 r44 r45 vw46))))) (C53 s1 vat2 r14 r15 out4 most5 vw16 fun r47 r48 r49 vw50 =>
            R r47 r48 r49 vw50)))
def pl32 : Plan := (.seq (.reg .seq) (.seq (.seq (.reg .seq) (.cond (.seq (.reg .seq) .leaf) .leaf)) (.seq (.seq (.reg .seq) (.cond (.seq (.reg .seq) .leaf) .leaf)) (.seq (.reg .seq) (.seq (.seq (.reg .seq) (.cond (.seq (.reg .seq) (.seq (.seq (.reg .seq) (.cond (.seq (.reg .seq) .leaf) .leaf)) (.seq (.seq (.reg .seq) (.cond (.seq (.reg .seq) .leaf) .leaf)) (.seq (.seq (.reg .seq) (.seq (.reg .seq) (.cond (.seq (.reg .seq) .leaf) .leaf))) (.seq (.seq (.reg .seq) (.seq (.reg .seq) (.cond (.seq (.reg .seq) .leaf) .leaf))) (.reg .seq)))))) .leaf)) (.seq (.reg .seq) .leaf))))))
set_option maxRecDepth 100000 in
theorem T32 (s1 : ByteArray) (vat2 : Int) (kind3 : Int) (out4 : Slc) (most5 : Int) (w : World) (R : Slc → Int → Int → World → Prop) (h : S32 s1 vat2 kind3 out4 most5 w R) : C32 s1 vat2 kind3 out4 most5 w R := by
  have e : fnT Tryd.prog ⟨FF, MAY, (fun _ _ => False)⟩ pl32 Tryd.f32 [.string s1, .int .i64 vat2, .int .i64 kind3, Slc.v out4, .int .i64 most5] w [(.one .slc), (.one (.int .i64)), (.one (.int .i64))] (fun s w => R s.1 s.2.1 s.2.2 w) = S32 s1 vat2 kind3 out4 most5 w R := by kernel_rfl
  exact (fn_calls okF okM Tryd.func32 (by kernel_rfl) (by kernel_rfl) (e.mpr h)).mono fun _ _ ⟨s, he, hR⟩ => ⟨s.1, s.2.1, s.2.2, he, hR⟩

def S10L1 (s1 : ByteArray) (most2 : Int) (R : ByteArray → Int → Int → World → Prop) (I5 : (Slc × Int) → World → Prop) (s3 : Slc × Int) (vw4 : World) : Prop :=
  C31 s1 s3.2 1 vw4 fun r6 r7 r8 vw9 =>
    Br (r8 != 0) (R (⟨#[]⟩ : ByteArray) 0 r8 vw9) (C31 s1 r7 2 vw9 fun r10 r11 r12 vw13 =>
        Br (r12 != 0) (R (⟨#[]⟩ : ByteArray) 0 r12 vw13) (C32 s1 r11 r10 s3.1 (if 1048576 < most2 then 1048576 else most2) vw13 fun r14 r15 r16 vw17 =>
            Br (r16 != 0) (R (⟨#[]⟩ : ByteArray) 0 r16 vw17) (Br (r6 == 1) (Rn Tryd.prog (convert 34 9 (Slc.v r14)) vw17 Value.string fun (x18 : ByteArray) vw19 =>
                R x18 (IntKind.i64.wrap (Int.tdiv (IntKind.i64.wrap (r15 + 7)) 8)) 0 vw19) (I5 (r14, r15) vw17))))
/-- foliant/foliantref11.All -/
def S10 (s1 : ByteArray) (most2 : Int) (w : World) (R : ByteArray → Int → Int → World → Prop) : Prop :=
  Br (decide (most2 < 0)) (R (⟨#[]⟩ : ByteArray) 0 1 w) (Lp (σ := Slc × Int) (S10L1 s1 most2 R) ((⟨none, 0, 0⟩ : Slc), 0) w)
def pl10 : Plan := (.seq (.reg .seq) (.seq (.seq (.reg .seq) (.cond (.seq (.reg .seq) .leaf) .leaf)) (.seq (.reg .seq) (.seq (.reg .seq) (.seq (.reg .seq) (.block (.loop [(7, (.one .slc)), (8, (.one (.int .i64)))] [0, 1] (.block (.seq (.reg .seq) (.seq (.seq (.reg .seq) (.cond (.seq (.reg .seq) .leaf) .leaf)) (.seq (.reg .seq) (.seq (.seq (.reg .seq) (.cond (.seq (.reg .seq) .leaf) .leaf)) (.seq (.reg .seq) (.seq (.seq (.reg .seq) (.cond (.seq (.reg .seq) .leaf) .leaf)) (.seq (.reg .seq) (.seq (.reg .seq) (.cond (.seq (.reg .seq) .leaf) .leaf)))))))))))))))))
set_option maxRecDepth 100000 in
theorem T10 (s1 : ByteArray) (most2 : Int) (w : World) (R : ByteArray → Int → Int → World → Prop) (h : S10 s1 most2 w R) : C10 s1 most2 w R := by
  have e : fnT Tryd.prog ⟨FF, MAY, (fun _ _ => False)⟩ pl10 Tryd.f10 [.string s1, .int .i64 most2] w [(.one .str), (.one (.int .i64)), (.one (.int .i64))] (fun s w => R s.1 s.2.1 s.2.2 w) = S10 s1 most2 w R := by kernel_rfl
  exact (fn_calls okF okM Tryd.func10 (by kernel_rfl) (by kernel_rfl) (e.mpr h)).mono fun _ _ ⟨s, he, hR⟩ => ⟨s.1, s.2.1, s.2.2, he, hR⟩

end Go.Proofs.YtapgacggllbhiaaDoor
