/- The formulas of 32 functions of the program, written by program (gen.py); the kernel checks each. No condition. -/
import Derived.Test.YtjbeembbnkmpeaaDoorFn
import Derived.Test.YtjbeembbnkmpeaaDoorFnFix
import Derived.Test.YtjbeembbnkmpeaaDoorFnMat
import Derived.Test.YtjbeembbnkmpeaaDoorFnObj
import Derived.Test.YtjbeembbnkmpeaaDoorFnOps
namespace Go.Proofs.YtjbeembbnkmpeaaDoor
open Sh
set_option linter.unusedVariables false
set_option maxRecDepth 100000

def C13 (m1 : Int × Int × Int × Int × Int × Int) (w : World) (R : (TyA29) → World → Prop) : Prop :=
  Calls Tryd.prog 13 #[.agg #[.int .i64 (m1.1), .int .i64 (m1.2.1), .int .i64 (m1.2.2.1), .int .i64 (m1.2.2.2.1), .int .i64 (m1.2.2.2.2.1), .int .i64 (m1.2.2.2.2.2)]] w fun e w' => ∃ r0 : TyA29, e = .returned (.agg (Sig.cells LiA29 r0).toArray) ∧ R r0 w'
theorem C13.mono {m1 : Int × Int × Int × Int × Int × Int} {w : World} {R R' : (TyA29) → World → Prop} (h : C13 m1 w R) (hr : ∀ r0 w', R r0 w' → R' r0 w') : C13 m1 w R' :=
  Calls.mono h fun _ _ ⟨r0, he, hR⟩ => ⟨r0, he, hr _ _ hR⟩
def C48 (m1 : Int × Int × Int × Int × Int × Int) (w : World) (R : Option Addr → World → Prop) : Prop :=
  Calls Tryd.prog 48 #[.agg #[.int .i64 (m1.1), .int .i64 (m1.2.1), .int .i64 (m1.2.2.1), .int .i64 (m1.2.2.2.1), .int .i64 (m1.2.2.2.2.1), .int .i64 (m1.2.2.2.2.2)]] w fun e w' => ∃ r0 : Option Addr, e = .returned (.pointer r0) ∧ R r0 w'
theorem C48.mono {m1 : Int × Int × Int × Int × Int × Int} {w : World} {R R' : Option Addr → World → Prop} (h : C48 m1 w R) (hr : ∀ r0 w', R r0 w' → R' r0 w') : C48 m1 w R' :=
  Calls.mono h fun _ _ ⟨r0, he, hR⟩ => ⟨r0, he, hr _ _ hR⟩
def C163 (s1 : Slc) (w : World) (R : Slc → World → Prop) : Prop :=
  Calls Tryd.prog 163 #[Slc.v s1] w fun e w' => ∃ r0 : Slc, e = .returned (Slc.v r0) ∧ R r0 w'
theorem C163.mono {s1 : Slc} {w : World} {R R' : Slc → World → Prop} (h : C163 s1 w R) (hr : ∀ r0 w', R r0 w' → R' r0 w') : C163 s1 w R' :=
  Calls.mono h fun _ _ ⟨r0, he, hR⟩ => ⟨r0, he, hr _ _ hR⟩
def C110 (g1 : TyA29) (w : World) (R : (TyA29) → World → Prop) : Prop :=
  Calls Tryd.prog 110 #[.agg (Sig.cells LiA29 g1).toArray] w fun e w' => ∃ r0 : TyA29, e = .returned (.agg (Sig.cells LiA29 r0).toArray) ∧ R r0 w'
theorem C110.mono {g1 : TyA29} {w : World} {R R' : (TyA29) → World → Prop} (h : C110 g1 w R) (hr : ∀ r0 w', R r0 w' → R' r0 w') : C110 g1 w R' :=
  Calls.mono h fun _ _ ⟨r0, he, hR⟩ => ⟨r0, he, hr _ _ hR⟩
def C111 (name1 : ByteArray) (w : World) (R : Bool → World → Prop) : Prop :=
  Calls Tryd.prog 111 #[.string name1] w fun e w' => ∃ r0 : Bool, e = .returned (.bool r0) ∧ R r0 w'
theorem C111.mono {name1 : ByteArray} {w : World} {R R' : Bool → World → Prop} (h : C111 name1 w R) (hr : ∀ r0 w', R r0 w' → R' r0 w') : C111 name1 w R' :=
  Calls.mono h fun _ _ ⟨r0, he, hR⟩ => ⟨r0, he, hr _ _ hR⟩
def CD112 (c1 : Addr) (u : Option Value) (w : World) (R : World → Prop) : Prop := CallD Tryd.prog 112 #[.pointer (some c1)] u w R
theorem CD112.mono {c1 : Addr} {u : Option Value} {w : World} {R R' : World → Prop} (h : CD112 c1 u w R) (hr : ∀ w', R w' → R' w') : CD112 c1 u w R' :=
  CallsD.mono h fun _ _ _ ⟨h1, h2, h3⟩ => ⟨h1, h2, hr _ h3⟩
def C113 (vok1 : Bool) (ve2 : Int) (w : World) (R : World → Prop) (PR : Value → World → Prop) : Prop :=
  Calls Tryd.prog 113 #[.bool vok1, .int .i64 ve2] w fun e w' => (e = .returned (.tuple #[]) ∧ R w') ∨ ∃ v, e = .panicked (onePanic v) ∧ PR v w'
theorem C113.mono {vok1 : Bool} {ve2 : Int} {w : World} {R R' : World → Prop} {PR PR' : Value → World → Prop} (h : C113 vok1 ve2 w R PR) (hr : ∀ w', R w' → R' w') (hp : ∀ v w', PR v w' → PR' v w') : C113 vok1 ve2 w R' PR' :=
  Calls.mono h fun _ _ he => he.elim (fun ⟨he, hR⟩ => .inl ⟨he, hr _ hR⟩) fun ⟨v, he, hP⟩ => .inr ⟨v, he, hp _ _ hP⟩
def C199 (o1 : Int × Int × Int × ByteArray × Slc × Slc) (w : World) (R : Int → World → Prop) (PR : Value → World → Prop) : Prop :=
  Calls Tryd.prog 199 #[.agg #[.int .i64 (o1.1), .int .i64 (o1.2.1), .int .i64 (o1.2.2.1), .string o1.2.2.2.1, Slc.v o1.2.2.2.2.1, Slc.v o1.2.2.2.2.2]] w fun e w' => (∃ r0 : Int, e = .returned (.int .i64 r0) ∧ R r0 w') ∨ ∃ v, e = .panicked (onePanic v) ∧ PR v w'
theorem C199.mono {o1 : Int × Int × Int × ByteArray × Slc × Slc} {w : World} {R R' : Int → World → Prop} {PR PR' : Value → World → Prop} (h : C199 o1 w R PR) (hr : ∀ r0 w', R r0 w' → R' r0 w') (hp : ∀ v w', PR v w' → PR' v w') : C199 o1 w R' PR' :=
  Calls.mono h fun _ _ he => he.elim (fun ⟨r0, he, hR⟩ => .inl ⟨r0, he, hr _ _ hR⟩) fun ⟨v, he, hP⟩ => .inr ⟨v, he, hp _ _ hP⟩
def C198 (o1 : ByteArray × Slc × ByteArray) (w : World) (R : Slc → World → Prop) (PR : Value → World → Prop) : Prop :=
  Calls Tryd.prog 198 #[.agg #[.string o1.1, Slc.v o1.2.1, .string o1.2.2]] w fun e w' => (∃ r0 : Slc, e = .returned (Slc.v r0) ∧ R r0 w') ∨ ∃ v, e = .panicked (onePanic v) ∧ PR v w'
theorem C198.mono {o1 : ByteArray × Slc × ByteArray} {w : World} {R R' : Slc → World → Prop} {PR PR' : Value → World → Prop} (h : C198 o1 w R PR) (hr : ∀ r0 w', R r0 w' → R' r0 w') (hp : ∀ v w', PR v w' → PR' v w') : C198 o1 w R' PR' :=
  Calls.mono h fun _ _ he => he.elim (fun ⟨r0, he, hR⟩ => .inl ⟨r0, he, hr _ _ hR⟩) fun ⟨v, he, hP⟩ => .inr ⟨v, he, hp _ _ hP⟩
def C164 (g1 : Option Addr) (o2 : ByteArray × Slc × ByteArray) (w : World) (R : World → Prop) (PR : Value → World → Prop) : Prop :=
  Calls Tryd.prog 164 #[.pointer g1, .agg #[.string o2.1, Slc.v o2.2.1, .string o2.2.2]] w fun e w' => (e = .returned (.tuple #[]) ∧ R w') ∨ ∃ v, e = .panicked (onePanic v) ∧ PR v w'
theorem C164.mono {g1 : Option Addr} {o2 : ByteArray × Slc × ByteArray} {w : World} {R R' : World → Prop} {PR PR' : Value → World → Prop} (h : C164 g1 o2 w R PR) (hr : ∀ w', R w' → R' w') (hp : ∀ v w', PR v w' → PR' v w') : C164 g1 o2 w R' PR' :=
  Calls.mono h fun _ _ he => he.elim (fun ⟨he, hR⟩ => .inl ⟨he, hr _ hR⟩) fun ⟨v, he, hP⟩ => .inr ⟨v, he, hp _ _ hP⟩
def C165 (o1 : Int × Int × Int × ByteArray × Slc × Slc) (w : World) (R : Int → World → Prop) (PR : Value → World → Prop) : Prop :=
  Calls Tryd.prog 165 #[.agg #[.int .i64 (o1.1), .int .i64 (o1.2.1), .int .i64 (o1.2.2.1), .string o1.2.2.2.1, Slc.v o1.2.2.2.2.1, Slc.v o1.2.2.2.2.2]] w fun e w' => (∃ r0 : Int, e = .returned (.int .i64 r0) ∧ R r0 w') ∨ ∃ v, e = .panicked (onePanic v) ∧ PR v w'
theorem C165.mono {o1 : Int × Int × Int × ByteArray × Slc × Slc} {w : World} {R R' : Int → World → Prop} {PR PR' : Value → World → Prop} (h : C165 o1 w R PR) (hr : ∀ r0 w', R r0 w' → R' r0 w') (hp : ∀ v w', PR v w' → PR' v w') : C165 o1 w R' PR' :=
  Calls.mono h fun _ _ he => he.elim (fun ⟨r0, he, hR⟩ => .inl ⟨r0, he, hr _ _ hR⟩) fun ⟨v, he, hP⟩ => .inr ⟨v, he, hp _ _ hP⟩
def C166 (o1 : Int × Int × Int × ByteArray × Slc × Slc) (most2 : Int) (w : World) (R : Int → World → Prop) (PR : Value → World → Prop) : Prop :=
  Calls Tryd.prog 166 #[.agg #[.int .i64 (o1.1), .int .i64 (o1.2.1), .int .i64 (o1.2.2.1), .string o1.2.2.2.1, Slc.v o1.2.2.2.2.1, Slc.v o1.2.2.2.2.2], .int .i64 most2] w fun e w' => (∃ r0 : Int, e = .returned (.int .i64 r0) ∧ R r0 w') ∨ ∃ v, e = .panicked (onePanic v) ∧ PR v w'
theorem C166.mono {o1 : Int × Int × Int × ByteArray × Slc × Slc} {most2 : Int} {w : World} {R R' : Int → World → Prop} {PR PR' : Value → World → Prop} (h : C166 o1 most2 w R PR) (hr : ∀ r0 w', R r0 w' → R' r0 w') (hp : ∀ v w', PR v w' → PR' v w') : C166 o1 most2 w R' PR' :=
  Calls.mono h fun _ _ he => he.elim (fun ⟨r0, he, hR⟩ => .inl ⟨r0, he, hr _ _ hR⟩) fun ⟨v, he, hP⟩ => .inr ⟨v, he, hp _ _ hP⟩
def C167 (g1 : Option Addr) (o2 : ByteArray × Slc × ByteArray) (w : World) (R : World → Prop) (PR : Value → World → Prop) : Prop :=
  Calls Tryd.prog 167 #[.pointer g1, .agg #[.string o2.1, Slc.v o2.2.1, .string o2.2.2]] w fun e w' => (e = .returned (.tuple #[]) ∧ R w') ∨ ∃ v, e = .panicked (onePanic v) ∧ PR v w'
theorem C167.mono {g1 : Option Addr} {o2 : ByteArray × Slc × ByteArray} {w : World} {R R' : World → Prop} {PR PR' : Value → World → Prop} (h : C167 g1 o2 w R PR) (hr : ∀ w', R w' → R' w') (hp : ∀ v w', PR v w' → PR' v w') : C167 g1 o2 w R' PR' :=
  Calls.mono h fun _ _ he => he.elim (fun ⟨he, hR⟩ => .inl ⟨he, hr _ hR⟩) fun ⟨v, he, hP⟩ => .inr ⟨v, he, hp _ _ hP⟩
def C168 (space1 : Int) (o2 : ByteArray × Slc × ByteArray) (w : World) (R : (Int × Int × Int × Int × Int) → World → Prop) (PR : Value → World → Prop) : Prop :=
  Calls Tryd.prog 168 #[.int .i64 space1, .agg #[.string o2.1, Slc.v o2.2.1, .string o2.2.2]] w fun e w' => (∃ r0 : Int × Int × Int × Int × Int, e = .returned (.agg #[.int .i64 (r0.1), .int .i64 (r0.2.1), .int .i64 (r0.2.2.1), .int .i64 (r0.2.2.2.1), .int .i64 (r0.2.2.2.2)]) ∧ R r0 w') ∨ ∃ v, e = .panicked (onePanic v) ∧ PR v w'
theorem C168.mono {space1 : Int} {o2 : ByteArray × Slc × ByteArray} {w : World} {R R' : (Int × Int × Int × Int × Int) → World → Prop} {PR PR' : Value → World → Prop} (h : C168 space1 o2 w R PR) (hr : ∀ r0 w', R r0 w' → R' r0 w') (hp : ∀ v w', PR v w' → PR' v w') : C168 space1 o2 w R' PR' :=
  Calls.mono h fun _ _ he => he.elim (fun ⟨r0, he, hR⟩ => .inl ⟨r0, he, hr _ _ hR⟩) fun ⟨v, he, hP⟩ => .inr ⟨v, he, hp _ _ hP⟩
def C169 (t1 : Option Addr) (o2 : ByteArray × Slc × ByteArray) (w : World) (R : Bool → World → Prop) (PR : Value → World → Prop) : Prop :=
  Calls Tryd.prog 169 #[.pointer t1, .agg #[.string o2.1, Slc.v o2.2.1, .string o2.2.2]] w fun e w' => (∃ r0 : Bool, e = .returned (.bool r0) ∧ R r0 w') ∨ ∃ v, e = .panicked (onePanic v) ∧ PR v w'
theorem C169.mono {t1 : Option Addr} {o2 : ByteArray × Slc × ByteArray} {w : World} {R R' : Bool → World → Prop} {PR PR' : Value → World → Prop} (h : C169 t1 o2 w R PR) (hr : ∀ r0 w', R r0 w' → R' r0 w') (hp : ∀ v w', PR v w' → PR' v w') : C169 t1 o2 w R' PR' :=
  Calls.mono h fun _ _ he => he.elim (fun ⟨r0, he, hR⟩ => .inl ⟨r0, he, hr _ _ hR⟩) fun ⟨v, he, hP⟩ => .inr ⟨v, he, hp _ _ hP⟩
def C114 (g1 : Option Addr) (o2 : ByteArray × Slc × ByteArray) (w : World) (R : Bool → World → Prop) (PR : Value → World → Prop) : Prop :=
  Calls Tryd.prog 114 #[.pointer g1, .agg #[.string o2.1, Slc.v o2.2.1, .string o2.2.2]] w fun e w' => (∃ r0 : Bool, e = .returned (.bool r0) ∧ R r0 w') ∨ ∃ v, e = .panicked (onePanic v) ∧ PR v w'
theorem C114.mono {g1 : Option Addr} {o2 : ByteArray × Slc × ByteArray} {w : World} {R R' : Bool → World → Prop} {PR PR' : Value → World → Prop} (h : C114 g1 o2 w R PR) (hr : ∀ r0 w', R r0 w' → R' r0 w') (hp : ∀ v w', PR v w' → PR' v w') : C114 g1 o2 w R' PR' :=
  Calls.mono h fun _ _ he => he.elim (fun ⟨r0, he, hR⟩ => .inl ⟨r0, he, hr _ _ hR⟩) fun ⟨v, he, hP⟩ => .inr ⟨v, he, hp _ _ hP⟩
def C53 (x1 : Option Addr) (o2 : ByteArray × Slc × ByteArray) (w : World) (R : Int → World → Prop) : Prop :=
  Calls Tryd.prog 53 #[.pointer x1, .agg #[.string o2.1, Slc.v o2.2.1, .string o2.2.2]] w fun e w' => ∃ r0 : Int, e = .returned (.int .i64 r0) ∧ R r0 w'
theorem C53.mono {x1 : Option Addr} {o2 : ByteArray × Slc × ByteArray} {w : World} {R R' : Int → World → Prop} (h : C53 x1 o2 w R) (hr : ∀ r0 w', R r0 w' → R' r0 w') : C53 x1 o2 w R' :=
  Calls.mono h fun _ _ ⟨r0, he, hR⟩ => ⟨r0, he, hr _ _ hR⟩
def C52 (x1 : Option Addr) (w : World) (R : (TyA29) → World → Prop) : Prop :=
  Calls Tryd.prog 52 #[.pointer x1] w fun e w' => ∃ r0 : TyA29, e = .returned (.agg (Sig.cells LiA29 r0).toArray) ∧ R r0 w'
theorem C52.mono {x1 : Option Addr} {w : World} {R R' : (TyA29) → World → Prop} (h : C52 x1 w R) (hr : ∀ r0 w', R r0 w' → R' r0 w') : C52 x1 w R' :=
  Calls.mono h fun _ _ ⟨r0, he, hR⟩ => ⟨r0, he, hr _ _ hR⟩
def C55 (x1 : Option Addr) (w : World) (R : Int → World → Prop) : Prop :=
  Calls Tryd.prog 55 #[.pointer x1] w fun e w' => ∃ r0 : Int, e = .returned (.int .i64 r0) ∧ R r0 w'
theorem C55.mono {x1 : Option Addr} {w : World} {R R' : Int → World → Prop} (h : C55 x1 w R) (hr : ∀ r0 w', R r0 w' → R' r0 w') : C55 x1 w R' :=
  Calls.mono h fun _ _ ⟨r0, he, hR⟩ => ⟨r0, he, hr _ _ hR⟩
def C120 (s11 : Slc) (s22 : Slc) (w : World) (R : Bool → World → Prop) : Prop :=
  Calls Tryd.prog 120 #[Slc.v s11, Slc.v s22] w fun e w' => ∃ r0 : Bool, e = .returned (.bool r0) ∧ R r0 w'
theorem C120.mono {s11 : Slc} {s22 : Slc} {w : World} {R R' : Bool → World → Prop} (h : C120 s11 s22 w R) (hr : ∀ r0 w', R r0 w' → R' r0 w') : C120 s11 s22 w R' :=
  Calls.mono h fun _ _ ⟨r0, he, hR⟩ => ⟨r0, he, hr _ _ hR⟩
def C57 (a1 : TyA29) (b2 : TyA29) (w : World) (R : Bool → World → Prop) : Prop :=
  Calls Tryd.prog 57 #[.agg (Sig.cells LiA29 a1).toArray, .agg (Sig.cells LiA29 b2).toArray] w fun e w' => ∃ r0 : Bool, e = .returned (.bool r0) ∧ R r0 w'
theorem C57.mono {a1 : TyA29} {b2 : TyA29} {w : World} {R R' : Bool → World → Prop} (h : C57 a1 b2 w R) (hr : ∀ r0 w', R r0 w' → R' r0 w') : C57 a1 b2 w R' :=
  Calls.mono h fun _ _ ⟨r0, he, hR⟩ => ⟨r0, he, hr _ _ hR⟩
def C115 (name1 : ByteArray) (w : World) (R : Bool → World → Prop) : Prop :=
  Calls Tryd.prog 115 #[.string name1] w fun e w' => ∃ r0 : Bool, e = .returned (.bool r0) ∧ R r0 w'
theorem C115.mono {name1 : ByteArray} {w : World} {R R' : Bool → World → Prop} (h : C115 name1 w R) (hr : ∀ r0 w', R r0 w' → R' r0 w') : C115 name1 w R' :=
  Calls.mono h fun _ _ ⟨r0, he, hR⟩ => ⟨r0, he, hr _ _ hR⟩
def C116 (o1 : ByteArray × Slc × ByteArray) (w : World) (R : Slc → Bool → World → Prop) : Prop :=
  Calls Tryd.prog 116 #[.agg #[.string o1.1, Slc.v o1.2.1, .string o1.2.2]] w fun e w' => ∃ r0 : Slc, ∃ r1 : Bool, e = .returned (.tuple #[Slc.v r0, .bool r1]) ∧ R r0 r1 w'
theorem C116.mono {o1 : ByteArray × Slc × ByteArray} {w : World} {R R' : Slc → Bool → World → Prop} (h : C116 o1 w R) (hr : ∀ r0 r1 w', R r0 r1 w' → R' r0 r1 w') : C116 o1 w R' :=
  Calls.mono h fun _ _ ⟨r0, r1, he, hR⟩ => ⟨r0, r1, he, hr _ _ _ hR⟩
def C170 (n1 : Int) (most2 : Int) (w : World) (R : Bool → World → Prop) : Prop :=
  Calls Tryd.prog 170 #[.int .i64 n1, .int .i64 most2] w fun e w' => ∃ r0 : Bool, e = .returned (.bool r0) ∧ R r0 w'
theorem C170.mono {n1 : Int} {most2 : Int} {w : World} {R R' : Bool → World → Prop} (h : C170 n1 most2 w R) (hr : ∀ r0 w', R r0 w' → R' r0 w') : C170 n1 most2 w R' :=
  Calls.mono h fun _ _ ⟨r0, he, hR⟩ => ⟨r0, he, hr _ _ hR⟩
def C117 (t1 : Int × Int × Int × Int × Int × Int × ByteArray × Int) (o2 : ByteArray × Slc × ByteArray) (n3 : Slc) (w : World) (R : (Int × Int × Int × Int × Int × Int × ByteArray × Int) → Bool → Int → World → Prop) : Prop :=
  Calls Tryd.prog 117 #[.agg #[.int .i64 (t1.1), .int .i64 (t1.2.1), .int .i64 (t1.2.2.1), .int .i64 (t1.2.2.2.1), .int .i64 (t1.2.2.2.2.1), .int .i64 (t1.2.2.2.2.2.1), .string t1.2.2.2.2.2.2.1, .int .i64 (t1.2.2.2.2.2.2.2)], .agg #[.string o2.1, Slc.v o2.2.1, .string o2.2.2], Slc.v n3] w fun e w' => ∃ r0 : Int × Int × Int × Int × Int × Int × ByteArray × Int, ∃ r1 : Bool, ∃ r2 : Int, e = .returned (.tuple #[.agg #[.int .i64 (r0.1), .int .i64 (r0.2.1), .int .i64 (r0.2.2.1), .int .i64 (r0.2.2.2.1), .int .i64 (r0.2.2.2.2.1), .int .i64 (r0.2.2.2.2.2.1), .string r0.2.2.2.2.2.2.1, .int .i64 (r0.2.2.2.2.2.2.2)], .bool r1, .int .i64 r2]) ∧ R r0 r1 r2 w'
theorem C117.mono {t1 : Int × Int × Int × Int × Int × Int × ByteArray × Int} {o2 : ByteArray × Slc × ByteArray} {n3 : Slc} {w : World} {R R' : (Int × Int × Int × Int × Int × Int × ByteArray × Int) → Bool → Int → World → Prop} (h : C117 t1 o2 n3 w R) (hr : ∀ r0 r1 r2 w', R r0 r1 r2 w' → R' r0 r1 r2 w') : C117 t1 o2 n3 w R' :=
  Calls.mono h fun _ _ ⟨r0, r1, r2, he, hR⟩ => ⟨r0, r1, r2, he, hr _ _ _ _ hR⟩
def C171 (n1 : Slc) (w : World) (R : (Int × Int × Int × Int × Int) → Bool → World → Prop) : Prop :=
  Calls Tryd.prog 171 #[Slc.v n1] w fun e w' => ∃ r0 : Int × Int × Int × Int × Int, ∃ r1 : Bool, e = .returned (.tuple #[.agg #[.int .i64 (r0.1), .int .i64 (r0.2.1), .int .i64 (r0.2.2.1), .int .i64 (r0.2.2.2.1), .int .i64 (r0.2.2.2.2)], .bool r1]) ∧ R r0 r1 w'
theorem C171.mono {n1 : Slc} {w : World} {R R' : (Int × Int × Int × Int × Int) → Bool → World → Prop} (h : C171 n1 w R) (hr : ∀ r0 r1 w', R r0 r1 w' → R' r0 r1 w') : C171 n1 w R' :=
  Calls.mono h fun _ _ ⟨r0, r1, he, hR⟩ => ⟨r0, r1, he, hr _ _ _ hR⟩
def C118 (g1 : TyA29) (name2 : ByteArray) (n3 : Slc) (w : World) (R : (TyA29) → Int → World → Prop) : Prop :=
  Calls Tryd.prog 118 #[.agg (Sig.cells LiA29 g1).toArray, .string name2, Slc.v n3] w fun e w' => ∃ r0 : TyA29, ∃ r1 : Int, e = .returned (.tuple #[.agg (Sig.cells LiA29 r0).toArray, .int .i64 r1]) ∧ R r0 r1 w'
theorem C118.mono {g1 : TyA29} {name2 : ByteArray} {n3 : Slc} {w : World} {R R' : (TyA29) → Int → World → Prop} (h : C118 g1 name2 n3 w R) (hr : ∀ r0 r1 w', R r0 r1 w' → R' r0 r1 w') : C118 g1 name2 n3 w R' :=
  Calls.mono h fun _ _ ⟨r0, r1, he, hR⟩ => ⟨r0, r1, he, hr _ _ _ hR⟩
def C173 (o1 : Int × Int × Int × ByteArray × Slc × Slc) (w : World) (R : Slc → Int → World → Prop) : Prop :=
  Calls Tryd.prog 173 #[.agg #[.int .i64 (o1.1), .int .i64 (o1.2.1), .int .i64 (o1.2.2.1), .string o1.2.2.2.1, Slc.v o1.2.2.2.2.1, Slc.v o1.2.2.2.2.2]] w fun e w' => ∃ r0 : Slc, ∃ r1 : Int, e = .returned (.tuple #[Slc.v r0, .int .i64 r1]) ∧ R r0 r1 w'
theorem C173.mono {o1 : Int × Int × Int × ByteArray × Slc × Slc} {w : World} {R R' : Slc → Int → World → Prop} (h : C173 o1 w R) (hr : ∀ r0 r1 w', R r0 r1 w' → R' r0 r1 w') : C173 o1 w R' :=
  Calls.mono h fun _ _ ⟨r0, r1, he, hR⟩ => ⟨r0, r1, he, hr _ _ _ hR⟩
def C119 (g1 : TyA29) (o2 : ByteArray × Slc × ByteArray) (n3 : Slc) (w : World) (R : (TyA29) → Int → World → Prop) : Prop :=
  Calls Tryd.prog 119 #[.agg (Sig.cells LiA29 g1).toArray, .agg #[.string o2.1, Slc.v o2.2.1, .string o2.2.2], Slc.v n3] w fun e w' => ∃ r0 : TyA29, ∃ r1 : Int, e = .returned (.tuple #[.agg (Sig.cells LiA29 r0).toArray, .int .i64 r1]) ∧ R r0 r1 w'
theorem C119.mono {g1 : TyA29} {o2 : ByteArray × Slc × ByteArray} {n3 : Slc} {w : World} {R R' : (TyA29) → Int → World → Prop} (h : C119 g1 o2 n3 w R) (hr : ∀ r0 r1 w', R r0 r1 w' → R' r0 r1 w') : C119 g1 o2 n3 w R' :=
  Calls.mono h fun _ _ ⟨r0, r1, he, hR⟩ => ⟨r0, r1, he, hr _ _ _ hR⟩
def C54 (x1 : TyA107) (o2 : ByteArray × Slc × ByteArray) (w : World) (R : (TyA107) → Int → World → Prop) : Prop :=
  Calls Tryd.prog 54 #[.agg (Sig.cells LiA107 x1).toArray, .agg #[.string o2.1, Slc.v o2.2.1, .string o2.2.2]] w fun e w' => ∃ r0 : TyA107, ∃ r1 : Int, e = .returned (.tuple #[.agg (Sig.cells LiA107 r0).toArray, .int .i64 r1]) ∧ R r0 r1 w'
theorem C54.mono {x1 : TyA107} {o2 : ByteArray × Slc × ByteArray} {w : World} {R R' : (TyA107) → Int → World → Prop} (h : C54 x1 o2 w R) (hr : ∀ r0 r1 w', R r0 r1 w' → R' r0 r1 w') : C54 x1 o2 w R' :=
  Calls.mono h fun _ _ ⟨r0, r1, he, hR⟩ => ⟨r0, r1, he, hr _ _ _ hR⟩
def C50 (a1 : TyA29) (b2 : TyA29) (w : World) (R : Bool → World → Prop) : Prop :=
  Calls Tryd.prog 50 #[.agg (Sig.cells LiA29 a1).toArray, .agg (Sig.cells LiA29 b2).toArray] w fun e w' => ∃ r0 : Bool, e = .returned (.bool r0) ∧ R r0 w'
theorem C50.mono {a1 : TyA29} {b2 : TyA29} {w : World} {R R' : Bool → World → Prop} (h : C50 a1 b2 w R) (hr : ∀ r0 w', R r0 w' → R' r0 w') : C50 a1 b2 w R' :=
  Calls.mono h fun _ _ ⟨r0, he, hR⟩ => ⟨r0, he, hr _ _ hR⟩
def C51 (m1 : Int × Int × Int × Int × Int × Int) (w : World) (R : (TyA29) → World → Prop) : Prop :=
  Calls Tryd.prog 51 #[.agg #[.int .i64 (m1.1), .int .i64 (m1.2.1), .int .i64 (m1.2.2.1), .int .i64 (m1.2.2.2.1), .int .i64 (m1.2.2.2.2.1), .int .i64 (m1.2.2.2.2.2)]] w fun e w' => ∃ r0 : TyA29, e = .returned (.agg (Sig.cells LiA29 r0).toArray) ∧ R r0 w'
theorem C51.mono {m1 : Int × Int × Int × Int × Int × Int} {w : World} {R R' : (TyA29) → World → Prop} (h : C51 m1 w R) (hr : ∀ r0 w', R r0 w' → R' r0 w') : C51 m1 w R' :=
  Calls.mono h fun _ _ ⟨r0, he, hR⟩ => ⟨r0, he, hr _ _ hR⟩

/-- foliant/state.First -/
def S13 (m1 : Int × Int × Int × Int × Int × Int) (w : World) (R : (TyA29) → World → Prop) : Prop :=
  Nw w (.cells #[.int .i64 (m1.1), .int .i64 (m1.2.1), .int .i64 (m1.2.2.1), .int .i64 (m1.2.2.2.1), .int .i64 (m1.2.2.2.2.1), .int .i64 (m1.2.2.2.2.2)] 23) fun vw2 =>
  Nw vw2 (.cells #[.int .i64 0, .int .i64 0, .int .i64 0, .int .i64 0, .int .i64 0, .int .i64 0, .int .i64 0, .int .i64 0, .int .i64 0, .int .i64 0, Slc.v ((⟨none, 0, 0⟩ : Slc)), .int .i64 0, .int .i64 0, .int .i64 0, .int .i64 0, .int .i64 0, .int .i64 0, .int .i64 0, .int .i64 0, .int .i64 0, .int .i64 0, .int .i64 0, .int .i64 0, .int .i64 0, .int .i64 0, .int .i64 0, .int .i64 0, .int .i64 0, .string ((⟨#[]⟩ : ByteArray)), .int .i64 0] 30) fun vw3 =>
  Ld vw3 (⟨w.heap.size, 0, none⟩ : Addr) (Value.int .i64) fun (x4 : Int) =>
  Ld vw3 ((⟨w.heap.size, 0, none⟩ : Addr).add 1) (Value.int .i64) fun (x5 : Int) =>
  Ld vw3 ((⟨w.heap.size, 0, none⟩ : Addr).add 2) (Value.int .i64) fun (x6 : Int) =>
  Ld vw3 ((⟨w.heap.size, 0, none⟩ : Addr).add 3) (Value.int .i64) fun (x7 : Int) =>
  Ld vw3 ((⟨w.heap.size, 0, none⟩ : Addr).add 4) (Value.int .i64) fun (x8 : Int) =>
  Ld vw3 ((⟨w.heap.size, 0, none⟩ : Addr).add 5) (Value.int .i64) fun (x9 : Int) =>
  StT (⟨vw2.heap.size, 0, none⟩ : Addr) 0 LiA29 ((x4, x5, x6, x7, x8, x9, 10000, 0, 0, 100000, (⟨none, 0, 0⟩ : Slc), 0, 0, 0, 0, 0, 0, 0, 0, 0, 0, 0, 0, 0, 1000000, 0, 0, 0, (⟨#[]⟩ : ByteArray), 0) : TyA29) vw3 fun vw10 =>
  LdT vw10 (⟨vw2.heap.size, 0, none⟩ : Addr) 0 LiA29 fun (x11 : TyA29) =>
  R x11 vw10
def pl13 : Plan := (.seq (.reg .seq) (.seq (.reg .seq) .leaf))
set_option maxRecDepth 100000 in
theorem T13 (m1 : Int × Int × Int × Int × Int × Int) (w : World) (R : (TyA29) → World → Prop) (h : S13 m1 w R) : C13 (m1.1, m1.2.1, m1.2.2.1, m1.2.2.2.1, m1.2.2.2.2.1, m1.2.2.2.2.2) w R := by
  have e : fnT Tryd.prog ⟨FF, MAY, (fun _ _ => False)⟩ pl13 Tryd.f13 [.agg #[.int .i64 (m1.1), .int .i64 (m1.2.1), .int .i64 (m1.2.2.1), .int .i64 (m1.2.2.2.1), .int .i64 (m1.2.2.2.2.1), .int .i64 (m1.2.2.2.2.2)]] w [(.agg [(.int .i64), (.int .i64), (.int .i64), (.int .i64), (.int .i64), (.int .i64), (.int .i64), (.int .i64), (.int .i64), (.int .i64), .slc, (.int .i64), (.int .i64), (.int .i64), (.int .i64), (.int .i64), (.int .i64), (.int .i64), (.int .i64), (.int .i64), (.int .i64), (.int .i64), (.int .i64), (.int .i64), (.int .i64), (.int .i64), (.int .i64), (.int .i64), .str, (.int .i64)])] (fun s w => R s w) = S13 m1 w R := by kernel_rfl
  exact (fn_calls okF okM Tryd.func13 (by kernel_rfl) (by kernel_rfl) (e.mpr h)).mono fun _ _ ⟨s, he, hR⟩ => ⟨s, he, hR⟩

/-- foliant/state.New -/
def S48 (m1 : Int × Int × Int × Int × Int × Int) (w : World) (R : Option Addr → World → Prop) : Prop :=
  Nw w (.cells #[.int .i64 (m1.1), .int .i64 (m1.2.1), .int .i64 (m1.2.2.1), .int .i64 (m1.2.2.2.1), .int .i64 (m1.2.2.2.2.1), .int .i64 (m1.2.2.2.2.2)] 23) fun vw2 =>
  Ld vw2 (⟨w.heap.size, 0, none⟩ : Addr) (Value.int .i64) fun (x11 : Int) =>
  Ld vw2 ((⟨w.heap.size, 0, none⟩ : Addr).add 1) (Value.int .i64) fun (x12 : Int) =>
  Ld vw2 ((⟨w.heap.size, 0, none⟩ : Addr).add 2) (Value.int .i64) fun (x13 : Int) =>
  Ld vw2 ((⟨w.heap.size, 0, none⟩ : Addr).add 3) (Value.int .i64) fun (x14 : Int) =>
  Ld vw2 ((⟨w.heap.size, 0, none⟩ : Addr).add 4) (Value.int .i64) fun (x15 : Int) =>
  Ld vw2 ((⟨w.heap.size, 0, none⟩ : Addr).add 5) (Value.int .i64) fun (x16 : Int) =>
  C26 (x11, x12, x13, x14, x15, x16) vw2 fun r17 vw18 =>
    Br (r17 != 0) (R none vw18) (Ld vw18 (⟨w.heap.size, 0, none⟩ : Addr) (Value.int .i64) fun (x19 : Int) =>
      Ld vw18 ((⟨w.heap.size, 0, none⟩ : Addr).add 1) (Value.int .i64) fun (x20 : Int) =>
      Ld vw18 ((⟨w.heap.size, 0, none⟩ : Addr).add 2) (Value.int .i64) fun (x21 : Int) =>
      Ld vw18 ((⟨w.heap.size, 0, none⟩ : Addr).add 3) (Value.int .i64) fun (x22 : Int) =>
      Ld vw18 ((⟨w.heap.size, 0, none⟩ : Addr).add 4) (Value.int .i64) fun (x23 : Int) =>
      Ld vw18 ((⟨w.heap.size, 0, none⟩ : Addr).add 5) (Value.int .i64) fun (x24 : Int) =>
      C13 (x19, x20, x21, x22, x23, x24) vw18 fun r25 vw26 =>
        Nw vw26 (.cells #[.int .i64 (r25.1), .int .i64 (r25.2.1), .int .i64 (r25.2.2.1), .int .i64 (r25.2.2.2.1), .int .i64 (r25.2.2.2.2.1), .int .i64 (r25.2.2.2.2.2.1), .int .i64 (r25.2.2.2.2.2.2.1), .int .i64 (r25.2.2.2.2.2.2.2.1), .int .i64 (r25.2.2.2.2.2.2.2.2.1), .int .i64 (r25.2.2.2.2.2.2.2.2.2.1), Slc.v r25.2.2.2.2.2.2.2.2.2.2.1, .int .i64 (r25.2.2.2.2.2.2.2.2.2.2.2.1), .int .i64 (r25.2.2.2.2.2.2.2.2.2.2.2.2.1), .int .i64 (r25.2.2.2.2.2.2.2.2.2.2.2.2.2.1), .int .i64 (r25.2.2.2.2.2.2.2.2.2.2.2.2.2.2.1), .int .i64 (r25.2.2.2.2.2.2.2.2.2.2.2.2.2.2.2.1), .int .i64 (r25.2.2.2.2.2.2.2.2.2.2.2.2.2.2.2.2.1), .int .i64 (r25.2.2.2.2.2.2.2.2.2.2.2.2.2.2.2.2.2.1), .int .i64 (r25.2.2.2.2.2.2.2.2.2.2.2.2.2.2.2.2.2.2.1), .int .i64 (r25.2.2.2.2.2.2.2.2.2.2.2.2.2.2.2.2.2.2.2.1), .int .i64 (r25.2.2.2.2.2.2.2.2.2.2.2.2.2.2.2.2.2.2.2.2.1), .int .i64 (r25.2.2.2.2.2.2.2.2.2.2.2.2.2.2.2.2.2.2.2.2.2.1), .int .i64 (r25.2.2.2.2.2.2.2.2.2.2.2.2.2.2.2.2.2.2.2.2.2.2.1), .int .i64 (r25.2.2.2.2.2.2.2.2.2.2.2.2.2.2.2.2.2.2.2.2.2.2.2.1), .int .i64 (r25.2.2.2.2.2.2.2.2.2.2.2.2.2.2.2.2.2.2.2.2.2.2.2.2.1), .int .i64 (r25.2.2.2.2.2.2.2.2.2.2.2.2.2.2.2.2.2.2.2.2.2.2.2.2.2.1), .int .i64 (r25.2.2.2.2.2.2.2.2.2.2.2.2.2.2.2.2.2.2.2.2.2.2.2.2.2.2.1), .int .i64 (r25.2.2.2.2.2.2.2.2.2.2.2.2.2.2.2.2.2.2.2.2.2.2.2.2.2.2.2.1), .string r25.2.2.2.2.2.2.2.2.2.2.2.2.2.2.2.2.2.2.2.2.2.2.2.2.2.2.2.2.1, .int .i64 (r25.2.2.2.2.2.2.2.2.2.2.2.2.2.2.2.2.2.2.2.2.2.2.2.2.2.2.2.2.2), Slc.v ((⟨none, 0, 0⟩ : Slc))] 175) fun vw27 =>
        R (some (⟨vw26.heap.size, 0, none⟩ : Addr)) vw27)
def pl48 : Plan := (.seq (.reg .seq) (.seq (.seq (.reg .seq) (.cond (.seq (.reg .seq) .leaf) .leaf)) (.seq (.reg .seq) .leaf)))
set_option maxRecDepth 100000 in
theorem T48 (m1 : Int × Int × Int × Int × Int × Int) (w : World) (R : Option Addr → World → Prop) (h : S48 m1 w R) : C48 (m1.1, m1.2.1, m1.2.2.1, m1.2.2.2.1, m1.2.2.2.2.1, m1.2.2.2.2.2) w R := by
  have e : fnT Tryd.prog ⟨FF, MAY, (fun _ _ => False)⟩ pl48 Tryd.f48 [.agg #[.int .i64 (m1.1), .int .i64 (m1.2.1), .int .i64 (m1.2.2.1), .int .i64 (m1.2.2.2.1), .int .i64 (m1.2.2.2.2.1), .int .i64 (m1.2.2.2.2.2)]] w [(.one .ptr)] (fun s w => R s w) = S48 m1 w R := by kernel_rfl
  exact (fn_calls okF okM Tryd.func48 (by kernel_rfl) (by kernel_rfl) (e.mpr h)).mono fun _ _ ⟨s, he, hR⟩ => ⟨s, he, hR⟩

/-- slices.Clone[[]int64,int64] -/
def S163 (s1 : Slc) (w : World) (R : Slc → World → Prop) : Prop :=
  Br s1.p.isNone (R (⟨none, 0, 0⟩ : Slc) w) (Nw w (.cells #[] 2) fun vw2 =>
    Rn Tryd.prog (Builtin.append_ #[24, 24] 24 #[Slc.v ((⟨some ⟨w.heap.size, 0, none⟩, 0, 0⟩ : Slc)), Slc.v s1]) vw2 Slc.v fun (x3 : Slc) vw4 =>
    R x3 vw4)
def pl163 : Plan := (.seq (.reg .seq) (.seq (.seq (.reg .seq) (.cond (.seq (.reg .seq) .leaf) .leaf)) (.seq (.reg .seq) .leaf)))
set_option maxRecDepth 100000 in
theorem T163 (s1 : Slc) (w : World) (R : Slc → World → Prop) (h : S163 s1 w R) : C163 s1 w R := by
  have e : fnT Tryd.prog ⟨FF, MAY, (fun _ _ => False)⟩ pl163 Tryd.f163 [Slc.v s1] w [(.one .slc)] (fun s w => R s w) = S163 s1 w R := by kernel_rfl
  exact (fn_calls okF okM Tryd.func163 (by kernel_rfl) (by kernel_rfl) (e.mpr h)).mono fun _ _ ⟨s, he, hR⟩ => ⟨s, he, hR⟩

/-- foliant/state.copied -/
def S110 (g1 : TyA29) (w : World) (R : (TyA29) → World → Prop) : Prop :=
  Nw w (.cells (Sig.cells LiA29 g1).toArray 30) fun vw2 =>
  Nw vw2 (.cells #[.int .i64 0, .int .i64 0, .int .i64 0, .int .i64 0, .int .i64 0, .int .i64 0, .int .i64 0, .int .i64 0, .int .i64 0, .int .i64 0, Slc.v ((⟨none, 0, 0⟩ : Slc)), .int .i64 0, .int .i64 0, .int .i64 0, .int .i64 0, .int .i64 0, .int .i64 0, .int .i64 0, .int .i64 0, .int .i64 0, .int .i64 0, .int .i64 0, .int .i64 0, .int .i64 0, .int .i64 0, .int .i64 0, .int .i64 0, .int .i64 0, .string ((⟨#[]⟩ : ByteArray)), .int .i64 0] 30) fun vw3 =>
  Ld vw3 ((⟨w.heap.size, 0, none⟩ : Addr).add 10) Slc.v fun (x4 : Slc) =>
  C163 x4 vw3 fun r5 vw6 =>
    St vw6 ((⟨w.heap.size, 0, none⟩ : Addr).add 10) (Slc.v r5) fun vw7 =>
    LdT vw7 (⟨w.heap.size, 0, none⟩ : Addr) 0 LiA29 fun (x8 : TyA29) =>
    StT (⟨vw2.heap.size, 0, none⟩ : Addr) 0 LiA29 x8 vw7 fun vw9 =>
    LdT vw9 (⟨vw2.heap.size, 0, none⟩ : Addr) 0 LiA29 fun (x10 : TyA29) =>
    R x10 vw9
def pl110 : Plan := (.seq (.reg .seq) (.seq (.reg .seq) (.seq (.reg .seq) .leaf)))
set_option maxRecDepth 100000 in
theorem T110 (g1 : TyA29) (w : World) (R : (TyA29) → World → Prop) (h : S110 g1 w R) : C110 g1 w R := by
  have e : fnT Tryd.prog ⟨FF, MAY, (fun _ _ => False)⟩ pl110 Tryd.f110 [.agg (Sig.cells LiA29 g1).toArray] w [(.agg [(.int .i64), (.int .i64), (.int .i64), (.int .i64), (.int .i64), (.int .i64), (.int .i64), (.int .i64), (.int .i64), (.int .i64), .slc, (.int .i64), (.int .i64), (.int .i64), (.int .i64), (.int .i64), (.int .i64), (.int .i64), (.int .i64), (.int .i64), (.int .i64), (.int .i64), (.int .i64), (.int .i64), (.int .i64), (.int .i64), (.int .i64), (.int .i64), .str, (.int .i64)])] (fun s w => R s w) = S110 g1 w R := by kernel_rfl
  exact (fn_calls okF okM Tryd.func110 (by kernel_rfl) (by kernel_rfl) (e.mpr h)).mono fun _ _ ⟨s, he, hR⟩ => ⟨s, he, hR⟩

/-- foliant/state.known -/
def S111 (name1 : ByteArray) (w : World) (R : Bool → World → Prop) : Prop :=
  Nw w (.cells #[.string ((⟨#[113]⟩ : ByteArray)), .string ((⟨#[81]⟩ : ByteArray)), .string ((⟨#[99, 109]⟩ : ByteArray)), .string ((⟨#[119]⟩ : ByteArray)), .string ((⟨#[77]⟩ : ByteArray)), .string ((⟨#[74]⟩ : ByteArray)), .string ((⟨#[106]⟩ : ByteArray)), .string ((⟨#[100]⟩ : ByteArray)), .string ((⟨#[105]⟩ : ByteArray)), .string ((⟨#[114, 105]⟩ : ByteArray)), .string ((⟨#[103, 115]⟩ : ByteArray)), .string ((⟨#[103]⟩ : ByteArray)), .string ((⟨#[71]⟩ : ByteArray)), .string ((⟨#[114, 103]⟩ : ByteArray)), .string ((⟨#[82, 71]⟩ : ByteArray)), .string ((⟨#[107]⟩ : ByteArray)), .string ((⟨#[75]⟩ : ByteArray)), .string ((⟨#[84, 99]⟩ : ByteArray)), .string ((⟨#[84, 119]⟩ : ByteArray)), .string ((⟨#[84, 122]⟩ : ByteArray)), .string ((⟨#[84, 76]⟩ : ByteArray)), .string ((⟨#[84, 115]⟩ : ByteArray)), .string ((⟨#[84, 102]⟩ : ByteArray)), .string ((⟨#[84, 114]⟩ : ByteArray))] 9) fun vw2 =>
  C140 (⟨some ⟨w.heap.size, 0, none⟩, 24, 24⟩ : Slc) name1 vw2 fun r3 vw4 =>
    R r3 vw4
def pl111 : Plan := (.seq (.reg .seq) (.seq (.reg .seq) .leaf))
set_option maxRecDepth 100000 in
theorem T111 (name1 : ByteArray) (w : World) (R : Bool → World → Prop) (h : S111 name1 w R) : C111 name1 w R := by
  have e : fnT Tryd.prog ⟨FF, MAY, (fun _ _ => False)⟩ pl111 Tryd.f111 [.string name1] w [(.one .bool)] (fun s w => R s w) = S111 name1 w R := by kernel_rfl
  exact (fn_calls okF okM Tryd.func111 (by kernel_rfl) (by kernel_rfl) (e.mpr h)).mono fun _ _ ⟨s, he, hR⟩ => ⟨s, he, hR⟩

/-- (*foliant/state.Machine).Do$1 -/
def S112_nil (c1 : Addr) (w : World) (R : World → Prop) : Prop :=
  R w
def pl112_nil : Plan := (.seq (.reg .seq) (.cond (.seq (.reg .seq) (.seq (.seq (.reg .seq) (.cond (.reg .seq) .leaf)) (.reg .seq))) .leaf))
set_option maxRecDepth 100000 in
theorem T112_nil (c1 : Addr) (w : World) (R : World → Prop) (h : S112_nil c1 w R) : CD112 c1 none w R := by
  have e : fnTS Tryd.prog FF MAY pl112_nil Tryd.f112 [.pointer (some c1)] none w R = S112_nil c1 w R := by kernel_rfl
  exact fnS_calls okF okM Tryd.func112 (by kernel_rfl) (by kernel_rfl) (e.mpr h)

/-- (*foliant/state.Machine).Do$1 -/
def S112_T178 (c1 : Addr) (u2 : Int) (w : World) (R : World → Prop) : Prop :=
  Nw w (.cells #[.int .i64 0] 178) fun vw3 =>
  St vw3 (⟨w.heap.size, 0, none⟩ : Addr) (.int .i64 u2) fun vw4 =>
  Ld vw4 (⟨w.heap.size, 0, none⟩ : Addr) (Value.int .i64) fun (x5 : Int) =>
  St vw4 c1 (.int .i64 x5) fun vw6 =>
  R vw6
def pl112_T178 : Plan := (.seq (.reg .seq) (.cond (.seq (.reg .seq) (.seq (.seq (.reg .seq) (.cond (.reg .seq) .leaf)) (.reg .seq))) .leaf))
set_option maxRecDepth 100000 in
theorem T112_T178 (c1 : Addr) (u2 : Int) (w : World) (R : World → Prop) (h : S112_T178 c1 u2 w R) : CD112 c1 (some (.iface 178 (.agg #[.int .i64 u2]))) w R := by
  have e : fnTS Tryd.prog FF MAY pl112_T178 Tryd.f112 [.pointer (some c1)] (some (.iface 178 (.agg #[.int .i64 u2]))) w R = S112_T178 c1 u2 w R := by kernel_rfl
  exact fnS_calls okF okM Tryd.func112 (by kernel_rfl) (by kernel_rfl) (e.mpr h)

/-- foliant/state.must -/
def S113 (vok1 : Bool) (ve2 : Int) (w : World) (R : World → Prop) (PR : Value → World → Prop) : Prop :=
  Br (!vok1) (PR (.iface 178 (.agg #[.int .i64 ve2])) w) (R w)
def pl113 : Plan := (.seq (.reg .seq) (.cond (.reg .seq) .leaf))
set_option maxRecDepth 100000 in
theorem T113 (vok1 : Bool) (ve2 : Int) (w : World) (R : World → Prop) (PR : Value → World → Prop) (h : S113 vok1 ve2 w R PR) : C113 vok1 ve2 w R PR := by
  have e : fnT Tryd.prog ⟨FF, MAY, PR⟩ pl113 Tryd.f113 [.bool vok1, .int .i64 ve2] w [] (fun _ w => R w) = S113 vok1 ve2 w R PR := by kernel_rfl
  exact (fn_callsP okF okM Tryd.func113 (by kernel_rfl) (by kernel_rfl) (e.mpr h)).mono fun _ _ he => he.elim (fun ⟨_, he, hR⟩ => .inl ⟨he, hR⟩) .inr

/-- foliant/state.number -/
def S199 (o1 : Int × Int × Int × ByteArray × Slc × Slc) (w : World) (R : Int → World → Prop) (PR : Value → World → Prop) : Prop :=
  Nw w (.cells #[.int .i64 (o1.1), .int .i64 (o1.2.1), .int .i64 (o1.2.2.1), .string o1.2.2.2.1, Slc.v o1.2.2.2.2.1, Slc.v o1.2.2.2.2.2] 81) fun vw2 =>
  Ld vw2 (⟨w.heap.size, 0, none⟩ : Addr) (Value.int .i64) fun (x3 : Int) =>
  Ld vw2 ((⟨w.heap.size, 0, none⟩ : Addr).add 1) (Value.int .i64) fun (x4 : Int) =>
  Ld vw2 ((⟨w.heap.size, 0, none⟩ : Addr).add 2) (Value.int .i64) fun (x5 : Int) =>
  Ld vw2 ((⟨w.heap.size, 0, none⟩ : Addr).add 3) Value.string fun (x6 : ByteArray) =>
  Ld vw2 ((⟨w.heap.size, 0, none⟩ : Addr).add 4) Slc.v fun (x7 : Slc) =>
  Ld vw2 ((⟨w.heap.size, 0, none⟩ : Addr).add 5) Slc.v fun (x8 : Slc) =>
  C143 (x3, x4, x5, x6, x7, x8) vw2 fun r9 r10 vw11 =>
    C113 r10 2 vw11 (fun vw12 =>
      R r9 vw12) PR
def pl199 : Plan := (.seq (.reg .seq) (.seq (.reg .seq) (.seq (.reg .seq) (.seq (.reg .seq) .leaf))))
set_option maxRecDepth 100000 in
theorem T199 (o1 : Int × Int × Int × ByteArray × Slc × Slc) (w : World) (R : Int → World → Prop) (PR : Value → World → Prop) (h : S199 o1 w R PR) : C199 (o1.1, o1.2.1, o1.2.2.1, o1.2.2.2.1, o1.2.2.2.2.1, o1.2.2.2.2.2) w R PR := by
  have e : fnT Tryd.prog ⟨FF, MAY, PR⟩ pl199 Tryd.f199 [.agg #[.int .i64 (o1.1), .int .i64 (o1.2.1), .int .i64 (o1.2.2.1), .string o1.2.2.2.1, Slc.v o1.2.2.2.2.1, Slc.v o1.2.2.2.2.2]] w [(.one (.int .i64))] (fun s w => R s w) = S199 o1 w R PR := by kernel_rfl
  exact (fn_callsP okF okM Tryd.func199 (by kernel_rfl) (by kernel_rfl) (e.mpr h)).mono fun _ _ he => he.elim (fun ⟨s, he, hR⟩ => .inl ⟨s, he, hR⟩) .inr

def S198L1 (x3 : Slc) (R : Slc → World → Prop) (PR : Value → World → Prop) (I6 : (Slc × Int) → World → Prop) (s4 : Slc × Int) (vw5 : World) : Prop :=
  Br (decide (s4.2 < ((x3.len : Nat) : Int))) (0 ≤ s4.2 ∧ s4.2 < (x3.len : Nat) ∧ Nn x3.p fun a7 =>
    Ld vw5 (a7.add ((s4.2).toNat * 6)) (Value.int .i64) fun (x8 : Int) =>
    Ld vw5 ((a7.add ((s4.2).toNat * 6)).add 1) (Value.int .i64) fun (x9 : Int) =>
    Ld vw5 ((a7.add ((s4.2).toNat * 6)).add 2) (Value.int .i64) fun (x10 : Int) =>
    Ld vw5 ((a7.add ((s4.2).toNat * 6)).add 3) Value.string fun (x11 : ByteArray) =>
    Ld vw5 ((a7.add ((s4.2).toNat * 6)).add 4) Slc.v fun (x12 : Slc) =>
    Ld vw5 ((a7.add ((s4.2).toNat * 6)).add 5) Slc.v fun (x13 : Slc) =>
    Nw vw5 (.cells #[.int .i64 0, .int .i64 0, .int .i64 0, .string ((⟨#[]⟩ : ByteArray)), Slc.v ((⟨none, 0, 0⟩ : Slc)), Slc.v ((⟨none, 0, 0⟩ : Slc))] 81) fun vw14 =>
    St vw14 (⟨vw5.heap.size, 0, none⟩ : Addr) (.int .i64 x8) fun vw15 =>
    St vw15 ((⟨vw5.heap.size, 0, none⟩ : Addr).add 1) (.int .i64 x9) fun vw16 =>
    St vw16 ((⟨vw5.heap.size, 0, none⟩ : Addr).add 2) (.int .i64 x10) fun vw17 =>
    St vw17 ((⟨vw5.heap.size, 0, none⟩ : Addr).add 3) (.string x11) fun vw18 =>
    St vw18 ((⟨vw5.heap.size, 0, none⟩ : Addr).add 4) (Slc.v x12) fun vw19 =>
    St vw19 ((⟨vw5.heap.size, 0, none⟩ : Addr).add 5) (Slc.v x13) fun vw20 =>
    Ld vw20 (⟨vw5.heap.size, 0, none⟩ : Addr) (Value.int .i64) fun (x21 : Int) =>
    Ld vw20 ((⟨vw5.heap.size, 0, none⟩ : Addr).add 1) (Value.int .i64) fun (x22 : Int) =>
    Ld vw20 ((⟨vw5.heap.size, 0, none⟩ : Addr).add 2) (Value.int .i64) fun (x23 : Int) =>
    Ld vw20 ((⟨vw5.heap.size, 0, none⟩ : Addr).add 3) Value.string fun (x24 : ByteArray) =>
    Ld vw20 ((⟨vw5.heap.size, 0, none⟩ : Addr).add 4) Slc.v fun (x25 : Slc) =>
    Ld vw20 ((⟨vw5.heap.size, 0, none⟩ : Addr).add 5) Slc.v fun (x26 : Slc) =>
    C199 (x21, x22, x23, x24, x25, x26) vw20 (fun r27 vw28 =>
      Nw vw28 (.cells #[.int .i64 r27] 2) fun vw29 =>
      Rn Tryd.prog (Builtin.append_ #[24, 24] 24 #[Slc.v s4.1, Slc.v ((⟨some ⟨vw28.heap.size, 0, none⟩, 1, 1⟩ : Slc))]) vw29 Slc.v fun (x30 : Slc) vw31 =>
      I6 (x30, IntKind.i64.wrap (s4.2 + 1)) vw31) PR) (R s4.1 vw5)
/-- foliant/state.numbers -/
def S198 (o1 : ByteArray × Slc × ByteArray) (w : World) (R : Slc → World → Prop) (PR : Value → World → Prop) : Prop :=
  Nw w (.cells #[.string o1.1, Slc.v o1.2.1, .string o1.2.2] 63) fun vw2 =>
  Ld vw2 ((⟨w.heap.size, 0, none⟩ : Addr).add 1) Slc.v fun (x3 : Slc) =>
  Lp (σ := Slc × Int) (S198L1 x3 R PR) ((⟨none, 0, 0⟩ : Slc), 0) vw2
def pl198 : Plan := (.seq (.reg .seq) (.seq (.reg .seq) (.seq (.seq (.reg .seq) (.block (.loop [(3, (.one .slc)), (9, (.one (.int .i64)))] [7, 8] (.seq (.reg .seq) (.seq (.cond .leaf .leaf) (.seq (.block (.seq (.reg .seq) (.reg .seq))) (.reg .seq))))))) (.seq (.reg .seq) .leaf))))
set_option maxRecDepth 100000 in
theorem T198 (o1 : ByteArray × Slc × ByteArray) (w : World) (R : Slc → World → Prop) (PR : Value → World → Prop) (h : S198 o1 w R PR) : C198 (o1.1, o1.2.1, o1.2.2) w R PR := by
  have e : fnT Tryd.prog ⟨FF, MAY, PR⟩ pl198 Tryd.f198 [.agg #[.string o1.1, Slc.v o1.2.1, .string o1.2.2]] w [(.one .slc)] (fun s w => R s w) = S198 o1 w R PR := by kernel_rfl
  exact (fn_callsP okF okM Tryd.func198 (by kernel_rfl) (by kernel_rfl) (e.mpr h)).mono fun _ _ he => he.elim (fun ⟨s, he, hR⟩ => .inl ⟨s, he, hR⟩) .inr

/-- foliant/state.turn -/
def S164 (g1 : Option Addr) (o2 : ByteArray × Slc × ByteArray) (w : World) (R : World → Prop) (PR : Value → World → Prop) : Prop :=
  Nw w (.cells #[.string o2.1, Slc.v o2.2.1, .string o2.2.2] 63) fun vw3 =>
  Ld vw3 (⟨w.heap.size, 0, none⟩ : Addr) Value.string fun (x4 : ByteArray) =>
  Ld vw3 ((⟨w.heap.size, 0, none⟩ : Addr).add 1) Slc.v fun (x5 : Slc) =>
  Ld vw3 ((⟨w.heap.size, 0, none⟩ : Addr).add 2) Value.string fun (x6 : ByteArray) =>
  C198 (x4, x5, x6) vw3 (fun r7 vw8 =>
    ∃ vS36 : World → Prop, vS36 vw8.drew ∧ 0 ≤ (0 : Int) ∧ (0 : Int) < (r7.len : Nat) ∧ Nn r7.p fun a37 =>
    LdS vS36 (a37.add (((0 : Int)).toNat * 1)) (Value.int .i64) fun (x38 : Int) =>
    0 ≤ (1 : Int) ∧ (1 : Int) < (r7.len : Nat) ∧ Nn r7.p fun a39 =>
    LdS vS36 (a39.add (((1 : Int)).toNat * 1)) (Value.int .i64) fun (x40 : Int) =>
    0 ≤ (2 : Int) ∧ (2 : Int) < (r7.len : Nat) ∧ Nn r7.p fun a41 =>
    LdS vS36 (a41.add (((2 : Int)).toNat * 1)) (Value.int .i64) fun (x42 : Int) =>
    0 ≤ (3 : Int) ∧ (3 : Int) < (r7.len : Nat) ∧ Nn r7.p fun a43 =>
    LdS vS36 (a43.add (((3 : Int)).toNat * 1)) (Value.int .i64) fun (x44 : Int) =>
    0 ≤ (4 : Int) ∧ (4 : Int) < (r7.len : Nat) ∧ Nn r7.p fun a45 =>
    LdS vS36 (a45.add (((4 : Int)).toNat * 1)) (Value.int .i64) fun (x46 : Int) =>
    0 ≤ (5 : Int) ∧ (5 : Int) < (r7.len : Nat) ∧ Nn r7.p fun a47 =>
    LdS vS36 (a47.add (((5 : Int)).toNat * 1)) (Value.int .i64) fun (x48 : Int) =>
    (Nw vw8.drew (.cells #[.int .i64 0, .int .i64 0, .int .i64 0, .int .i64 0, .int .i64 0, .int .i64 0] 23) fun vw49 =>
      St vw49 (⟨vw8.drew.heap.size, 0, none⟩ : Addr) (.int .i64 x38) fun vw50 =>
      St vw50 ((⟨vw8.drew.heap.size, 0, none⟩ : Addr).add 1) (.int .i64 x40) fun vw51 =>
      St vw51 ((⟨vw8.drew.heap.size, 0, none⟩ : Addr).add 2) (.int .i64 x42) fun vw52 =>
      St vw52 ((⟨vw8.drew.heap.size, 0, none⟩ : Addr).add 3) (.int .i64 x44) fun vw53 =>
      St vw53 ((⟨vw8.drew.heap.size, 0, none⟩ : Addr).add 4) (.int .i64 x46) fun vw54 =>
      St vw54 ((⟨vw8.drew.heap.size, 0, none⟩ : Addr).add 5) (.int .i64 x48) fun vw55 =>
      ∃ vS56 : World → Prop, vS56 vw55.drew ∧ LdS vS56 (⟨vw8.drew.heap.size, 0, none⟩ : Addr) (Value.int .i64) fun (x57 : Int) =>
      LdS vS56 ((⟨vw8.drew.heap.size, 0, none⟩ : Addr).add 1) (Value.int .i64) fun (x58 : Int) =>
      LdS vS56 ((⟨vw8.drew.heap.size, 0, none⟩ : Addr).add 2) (Value.int .i64) fun (x59 : Int) =>
      LdS vS56 ((⟨vw8.drew.heap.size, 0, none⟩ : Addr).add 3) (Value.int .i64) fun (x60 : Int) =>
      LdS vS56 ((⟨vw8.drew.heap.size, 0, none⟩ : Addr).add 4) (Value.int .i64) fun (x61 : Int) =>
      LdS vS56 ((⟨vw8.drew.heap.size, 0, none⟩ : Addr).add 5) (Value.int .i64) fun (x62 : Int) =>
      Nn g1 fun a63 =>
      LdS vS56 a63 (Value.int .i64) fun (x64 : Int) =>
      LdS vS56 (a63.add 1) (Value.int .i64) fun (x65 : Int) =>
      LdS vS56 (a63.add 2) (Value.int .i64) fun (x66 : Int) =>
      LdS vS56 (a63.add 3) (Value.int .i64) fun (x67 : Int) =>
      LdS vS56 (a63.add 4) (Value.int .i64) fun (x68 : Int) =>
      LdS vS56 (a63.add 5) (Value.int .i64) fun (x69 : Int) =>
      C18 (x57, x58, x59, x60, x61, x62) (x64, x65, x66, x67, x68, x69) vw55.drew fun r70 r71 vw72 =>
        St vw72 (⟨vw8.drew.heap.size, 0, none⟩ : Addr) (.int .i64 (r70.1)) fun vw73 =>
        St vw73 ((⟨vw8.drew.heap.size, 0, none⟩ : Addr).add 1) (.int .i64 (r70.2.1)) fun vw74 =>
        St vw74 ((⟨vw8.drew.heap.size, 0, none⟩ : Addr).add 2) (.int .i64 (r70.2.2.1)) fun vw75 =>
        St vw75 ((⟨vw8.drew.heap.size, 0, none⟩ : Addr).add 3) (.int .i64 (r70.2.2.2.1)) fun vw76 =>
        St vw76 ((⟨vw8.drew.heap.size, 0, none⟩ : Addr).add 4) (.int .i64 (r70.2.2.2.2.1)) fun vw77 =>
        St vw77 ((⟨vw8.drew.heap.size, 0, none⟩ : Addr).add 5) (.int .i64 (r70.2.2.2.2.2)) fun vw78 =>
        C113 (r71 == 0) r71 vw78 (fun vw79 =>
          Ld vw79 (⟨vw8.drew.heap.size, 0, none⟩ : Addr) (Value.int .i64) fun (x80 : Int) =>
          Ld vw79 ((⟨vw8.drew.heap.size, 0, none⟩ : Addr).add 1) (Value.int .i64) fun (x81 : Int) =>
          Ld vw79 ((⟨vw8.drew.heap.size, 0, none⟩ : Addr).add 2) (Value.int .i64) fun (x82 : Int) =>
          Ld vw79 ((⟨vw8.drew.heap.size, 0, none⟩ : Addr).add 3) (Value.int .i64) fun (x83 : Int) =>
          Ld vw79 ((⟨vw8.drew.heap.size, 0, none⟩ : Addr).add 4) (Value.int .i64) fun (x84 : Int) =>
          Ld vw79 ((⟨vw8.drew.heap.size, 0, none⟩ : Addr).add 5) (Value.int .i64) fun (x85 : Int) =>
          Nn g1 fun a86 =>
          St vw79 a86 (.int .i64 x80) fun vw87 =>
          St vw87 (a86.add 1) (.int .i64 x81) fun vw88 =>
          St vw88 (a86.add 2) (.int .i64 x82) fun vw89 =>
          St vw89 (a86.add 3) (.int .i64 x83) fun vw90 =>
          St vw90 (a86.add 4) (.int .i64 x84) fun vw91 =>
          St vw91 (a86.add 5) (.int .i64 x85) fun vw92 =>
          R vw92) PR) ∧
    (Nw vw8.drew (.cells #[.int .i64 0, .int .i64 0, .int .i64 0, .int .i64 0, .int .i64 0, .int .i64 0] 23) fun vw93 =>
      vS36 vw93 ∧ St vw93 (⟨vw8.drew.heap.size, 0, none⟩ : Addr) (.int .i64 x38) fun vw94 =>
      St vw94 ((⟨vw8.drew.heap.size, 0, none⟩ : Addr).add 1) (.int .i64 x40) fun vw95 =>
      St vw95 ((⟨vw8.drew.heap.size, 0, none⟩ : Addr).add 2) (.int .i64 x42) fun vw96 =>
      St vw96 ((⟨vw8.drew.heap.size, 0, none⟩ : Addr).add 3) (.int .i64 x44) fun vw97 =>
      St vw97 ((⟨vw8.drew.heap.size, 0, none⟩ : Addr).add 4) (.int .i64 x46) fun vw98 =>
      St vw98 ((⟨vw8.drew.heap.size, 0, none⟩ : Addr).add 5) (.int .i64 x48) fun vw99 =>
      ∃ vS100 : World → Prop, vS100 vw99.drew ∧ LdS vS100 (⟨vw8.drew.heap.size, 0, none⟩ : Addr) (Value.int .i64) fun (x101 : Int) =>
      LdS vS100 ((⟨vw8.drew.heap.size, 0, none⟩ : Addr).add 1) (Value.int .i64) fun (x102 : Int) =>
      LdS vS100 ((⟨vw8.drew.heap.size, 0, none⟩ : Addr).add 2) (Value.int .i64) fun (x103 : Int) =>
      LdS vS100 ((⟨vw8.drew.heap.size, 0, none⟩ : Addr).add 3) (Value.int .i64) fun (x104 : Int) =>
      LdS vS100 ((⟨vw8.drew.heap.size, 0, none⟩ : Addr).add 4) (Value.int .i64) fun (x105 : Int) =>
      LdS vS100 ((⟨vw8.drew.heap.size, 0, none⟩ : Addr).add 5) (Value.int .i64) fun (x106 : Int) =>
      Nn g1 fun a107 =>
      LdS vS100 a107 (Value.int .i64) fun (x108 : Int) =>
      LdS vS100 (a107.add 1) (Value.int .i64) fun (x109 : Int) =>
      LdS vS100 (a107.add 2) (Value.int .i64) fun (x110 : Int) =>
      LdS vS100 (a107.add 3) (Value.int .i64) fun (x111 : Int) =>
      LdS vS100 (a107.add 4) (Value.int .i64) fun (x112 : Int) =>
      LdS vS100 (a107.add 5) (Value.int .i64) fun (x113 : Int) =>
      C18 (x101, x102, x103, x104, x105, x106) (x108, x109, x110, x111, x112, x113) vw99.drew fun r114 r115 vw116 =>
        St vw116 (⟨vw8.drew.heap.size, 0, none⟩ : Addr) (.int .i64 (r114.1)) fun vw117 =>
        St vw117 ((⟨vw8.drew.heap.size, 0, none⟩ : Addr).add 1) (.int .i64 (r114.2.1)) fun vw118 =>
        St vw118 ((⟨vw8.drew.heap.size, 0, none⟩ : Addr).add 2) (.int .i64 (r114.2.2.1)) fun vw119 =>
        St vw119 ((⟨vw8.drew.heap.size, 0, none⟩ : Addr).add 3) (.int .i64 (r114.2.2.2.1)) fun vw120 =>
        St vw120 ((⟨vw8.drew.heap.size, 0, none⟩ : Addr).add 4) (.int .i64 (r114.2.2.2.2.1)) fun vw121 =>
        St vw121 ((⟨vw8.drew.heap.size, 0, none⟩ : Addr).add 5) (.int .i64 (r114.2.2.2.2.2)) fun vw122 =>
        C113 (r115 == 0) r115 vw122 (fun vw123 =>
          Ld vw123 (⟨vw8.drew.heap.size, 0, none⟩ : Addr) (Value.int .i64) fun (x124 : Int) =>
          Ld vw123 ((⟨vw8.drew.heap.size, 0, none⟩ : Addr).add 1) (Value.int .i64) fun (x125 : Int) =>
          Ld vw123 ((⟨vw8.drew.heap.size, 0, none⟩ : Addr).add 2) (Value.int .i64) fun (x126 : Int) =>
          Ld vw123 ((⟨vw8.drew.heap.size, 0, none⟩ : Addr).add 3) (Value.int .i64) fun (x127 : Int) =>
          Ld vw123 ((⟨vw8.drew.heap.size, 0, none⟩ : Addr).add 4) (Value.int .i64) fun (x128 : Int) =>
          Ld vw123 ((⟨vw8.drew.heap.size, 0, none⟩ : Addr).add 5) (Value.int .i64) fun (x129 : Int) =>
          Nn g1 fun a130 =>
          St vw123 a130 (.int .i64 x124) fun vw131 =>
          St vw131 (a130.add 1) (.int .i64 x125) fun vw132 =>
          St vw132 (a130.add 2) (.int .i64 x126) fun vw133 =>
          St vw133 (a130.add 3) (.int .i64 x127) fun vw134 =>
          St vw134 (a130.add 4) (.int .i64 x128) fun vw135 =>
          St vw135 (a130.add 5) (.int .i64 x129) fun vw136 =>
          R vw136) PR)) PR
def pl164 : Plan := (.seq (.reg .seq) (.seq (.reg .seq) (.seq (.reg (.held [18] (.take 0 (.take 1 (.take 2 (.take 3 (.take 4 (.take 5 (.take 6 (.take 7 (.take 8 (.take 9 (.take 10 (.take 11 (.take 12 (.take 13 (.take 14 (.take 15 (.take 16 (.take 17 (.effs 18 (some [19]) (.eff 19 (some [20]) (.eff 20 (some []) .done)) (.eff 19 none (.eff 18 (some [20]) (.eff 20 (some []) .done)))))))))))))))))))))))) (.seq (.reg (.held [5] (.take 0 (.take 1 (.take 2 (.take 3 (.take 4 (.eff 5 (some [9]) (.take 6 (.take 7 (.take 8 (.eff 9 (some []) (.take 10 .done))))))))))))) (.seq (.reg .seq) (.reg .seq))))))
set_option maxRecDepth 100000 in
theorem T164 (g1 : Option Addr) (o2 : ByteArray × Slc × ByteArray) (w : World) (R : World → Prop) (PR : Value → World → Prop) (h : S164 g1 o2 w R PR) : C164 g1 (o2.1, o2.2.1, o2.2.2) w R PR := by
  have e : fnT Tryd.prog ⟨FF, MAY, PR⟩ pl164 Tryd.f164 [.pointer g1, .agg #[.string o2.1, Slc.v o2.2.1, .string o2.2.2]] w [] (fun _ w => R w) = S164 g1 o2 w R PR := by kernel_rfl
  exact (fn_callsP okF okM Tryd.func164 (by kernel_rfl) (by kernel_rfl) (e.mpr h)).mono fun _ _ he => he.elim (fun ⟨_, he, hR⟩ => .inl ⟨he, hR⟩) .inr

/-- foliant/state.above -/
def S165 (o1 : Int × Int × Int × ByteArray × Slc × Slc) (w : World) (R : Int → World → Prop) (PR : Value → World → Prop) : Prop :=
  Nw w (.cells #[.int .i64 (o1.1), .int .i64 (o1.2.1), .int .i64 (o1.2.2.1), .string o1.2.2.2.1, Slc.v o1.2.2.2.2.1, Slc.v o1.2.2.2.2.2] 81) fun vw2 =>
  Ld vw2 (⟨w.heap.size, 0, none⟩ : Addr) (Value.int .i64) fun (x3 : Int) =>
  Ld vw2 ((⟨w.heap.size, 0, none⟩ : Addr).add 1) (Value.int .i64) fun (x4 : Int) =>
  Ld vw2 ((⟨w.heap.size, 0, none⟩ : Addr).add 2) (Value.int .i64) fun (x5 : Int) =>
  Ld vw2 ((⟨w.heap.size, 0, none⟩ : Addr).add 3) Value.string fun (x6 : ByteArray) =>
  Ld vw2 ((⟨w.heap.size, 0, none⟩ : Addr).add 4) Slc.v fun (x7 : Slc) =>
  Ld vw2 ((⟨w.heap.size, 0, none⟩ : Addr).add 5) Slc.v fun (x8 : Slc) =>
  C199 (x3, x4, x5, x6, x7, x8) vw2 (fun r9 vw10 =>
    C113 (decide (r9 ≥ 0)) 2 vw10 (fun vw11 =>
      R r9 vw11) PR) PR
def pl165 : Plan := (.seq (.reg .seq) (.seq (.reg .seq) (.seq (.reg .seq) (.seq (.reg .seq) .leaf))))
set_option maxRecDepth 100000 in
theorem T165 (o1 : Int × Int × Int × ByteArray × Slc × Slc) (w : World) (R : Int → World → Prop) (PR : Value → World → Prop) (h : S165 o1 w R PR) : C165 (o1.1, o1.2.1, o1.2.2.1, o1.2.2.2.1, o1.2.2.2.2.1, o1.2.2.2.2.2) w R PR := by
  have e : fnT Tryd.prog ⟨FF, MAY, PR⟩ pl165 Tryd.f165 [.agg #[.int .i64 (o1.1), .int .i64 (o1.2.1), .int .i64 (o1.2.2.1), .string o1.2.2.2.1, Slc.v o1.2.2.2.2.1, Slc.v o1.2.2.2.2.2]] w [(.one (.int .i64))] (fun s w => R s w) = S165 o1 w R PR := by kernel_rfl
  exact (fn_callsP okF okM Tryd.func165 (by kernel_rfl) (by kernel_rfl) (e.mpr h)).mono fun _ _ he => he.elim (fun ⟨s, he, hR⟩ => .inl ⟨s, he, hR⟩) .inr

/-- foliant/state.whole -/
def S166 (o1 : Int × Int × Int × ByteArray × Slc × Slc) (most2 : Int) (w : World) (R : Int → World → Prop) (PR : Value → World → Prop) : Prop :=
  Nw w (.cells #[.int .i64 (o1.1), .int .i64 (o1.2.1), .int .i64 (o1.2.2.1), .string o1.2.2.2.1, Slc.v o1.2.2.2.2.1, Slc.v o1.2.2.2.2.2] 81) fun vw3 =>
  Ld vw3 (⟨w.heap.size, 0, none⟩ : Addr) (Value.int .i64) fun (x4 : Int) =>
  Ld vw3 ((⟨w.heap.size, 0, none⟩ : Addr).add 1) (Value.int .i64) fun (x5 : Int) =>
  Ld vw3 ((⟨w.heap.size, 0, none⟩ : Addr).add 2) (Value.int .i64) fun (x6 : Int) =>
  Ld vw3 ((⟨w.heap.size, 0, none⟩ : Addr).add 3) Value.string fun (x7 : ByteArray) =>
  Ld vw3 ((⟨w.heap.size, 0, none⟩ : Addr).add 4) Slc.v fun (x8 : Slc) =>
  Ld vw3 ((⟨w.heap.size, 0, none⟩ : Addr).add 5) Slc.v fun (x9 : Slc) =>
  C199 (x4, x5, x6, x7, x8, x9) vw3 (fun r10 vw11 =>
    Br (decide (r10 ≥ 0)) (Br (decide (r10 ≤ (IntKind.i64.wrap (most2 * 10000)))) (C113 ((Int.tmod r10 10000) == 0) 2 vw11 (fun vw12 =>
          R (IntKind.i64.wrap (Int.tdiv r10 10000)) vw12) PR) (C113 false 2 vw11 (fun vw13 =>
          R (IntKind.i64.wrap (Int.tdiv r10 10000)) vw13) PR)) (C113 false 2 vw11 (fun vw14 =>
        R (IntKind.i64.wrap (Int.tdiv r10 10000)) vw14) PR)) PR
def pl166 : Plan := (.seq (.reg .seq) (.seq (.reg .seq) (.seq (.reg .seq) (.seq (.reg .seq) .leaf))))
set_option maxRecDepth 100000 in
theorem T166 (o1 : Int × Int × Int × ByteArray × Slc × Slc) (most2 : Int) (w : World) (R : Int → World → Prop) (PR : Value → World → Prop) (h : S166 o1 most2 w R PR) : C166 (o1.1, o1.2.1, o1.2.2.1, o1.2.2.2.1, o1.2.2.2.2.1, o1.2.2.2.2.2) most2 w R PR := by
  have e : fnT Tryd.prog ⟨FF, MAY, PR⟩ pl166 Tryd.f166 [.agg #[.int .i64 (o1.1), .int .i64 (o1.2.1), .int .i64 (o1.2.2.1), .string o1.2.2.2.1, Slc.v o1.2.2.2.2.1, Slc.v o1.2.2.2.2.2], .int .i64 most2] w [(.one (.int .i64))] (fun s w => R s w) = S166 o1 most2 w R PR := by kernel_rfl
  exact (fn_callsP okF okM Tryd.func166 (by kernel_rfl) (by kernel_rfl) (e.mpr h)).mono fun _ _ he => he.elim (fun ⟨s, he, hR⟩ => .inl ⟨s, he, hR⟩) .inr

def S167L1 (w : World) (g1 : Option Addr) (x6 : Slc) (R : World → Prop) (PR : Value → World → Prop) (I80 : (Slc × Int) → World → Prop) (s78 : Slc × Int) (vw79 : World) : Prop :=
  Br (decide (s78.2 < ((x6.len : Nat) : Int))) (0 ≤ s78.2 ∧ s78.2 < (x6.len : Nat) ∧ Nn x6.p fun a81 =>
    Ld vw79 (a81.add ((s78.2).toNat * 6)) (Value.int .i64) fun (x82 : Int) =>
    Ld vw79 ((a81.add ((s78.2).toNat * 6)).add 1) (Value.int .i64) fun (x83 : Int) =>
    Ld vw79 ((a81.add ((s78.2).toNat * 6)).add 2) (Value.int .i64) fun (x84 : Int) =>
    Ld vw79 ((a81.add ((s78.2).toNat * 6)).add 3) Value.string fun (x85 : ByteArray) =>
    Ld vw79 ((a81.add ((s78.2).toNat * 6)).add 4) Slc.v fun (x86 : Slc) =>
    Ld vw79 ((a81.add ((s78.2).toNat * 6)).add 5) Slc.v fun (x87 : Slc) =>
    Nw vw79 (.cells #[.int .i64 0, .int .i64 0, .int .i64 0, .string ((⟨#[]⟩ : ByteArray)), Slc.v ((⟨none, 0, 0⟩ : Slc)), Slc.v ((⟨none, 0, 0⟩ : Slc))] 81) fun vw88 =>
    St vw88 (⟨vw79.heap.size, 0, none⟩ : Addr) (.int .i64 x82) fun vw89 =>
    St vw89 ((⟨vw79.heap.size, 0, none⟩ : Addr).add 1) (.int .i64 x83) fun vw90 =>
    St vw90 ((⟨vw79.heap.size, 0, none⟩ : Addr).add 2) (.int .i64 x84) fun vw91 =>
    St vw91 ((⟨vw79.heap.size, 0, none⟩ : Addr).add 3) (.string x85) fun vw92 =>
    St vw92 ((⟨vw79.heap.size, 0, none⟩ : Addr).add 4) (Slc.v x86) fun vw93 =>
    St vw93 ((⟨vw79.heap.size, 0, none⟩ : Addr).add 5) (Slc.v x87) fun vw94 =>
    Ld vw94 (⟨vw79.heap.size, 0, none⟩ : Addr) (Value.int .i64) fun (x95 : Int) =>
    Ld vw94 ((⟨vw79.heap.size, 0, none⟩ : Addr).add 1) (Value.int .i64) fun (x96 : Int) =>
    Ld vw94 ((⟨vw79.heap.size, 0, none⟩ : Addr).add 2) (Value.int .i64) fun (x97 : Int) =>
    Ld vw94 ((⟨vw79.heap.size, 0, none⟩ : Addr).add 3) Value.string fun (x98 : ByteArray) =>
    Ld vw94 ((⟨vw79.heap.size, 0, none⟩ : Addr).add 4) Slc.v fun (x99 : Slc) =>
    Ld vw94 ((⟨vw79.heap.size, 0, none⟩ : Addr).add 5) Slc.v fun (x100 : Slc) =>
    C165 (x95, x96, x97, x98, x99, x100) vw94 (fun r101 vw102 =>
      Nw vw102 (.cells #[.int .i64 r101] 2) fun vw103 =>
      Rn Tryd.prog (Builtin.append_ #[24, 24] 24 #[Slc.v s78.1, Slc.v ((⟨some ⟨vw102.heap.size, 0, none⟩, 1, 1⟩ : Slc))]) vw103 Slc.v fun (x104 : Slc) vw105 =>
      I80 (x104, IntKind.i64.wrap (s78.2 + 1)) vw105) PR) (Ld vw79 ((⟨w.heap.size, 0, none⟩ : Addr).add 1) Slc.v fun (x106 : Slc) =>
    0 ≤ (1 : Int) ∧ (1 : Int) < (x106.len : Nat) ∧ Nn x106.p fun a107 =>
    Ld vw79 (a107.add (((1 : Int)).toNat * 6)) (Value.int .i64) fun (x108 : Int) =>
    Ld vw79 ((a107.add (((1 : Int)).toNat * 6)).add 1) (Value.int .i64) fun (x109 : Int) =>
    Ld vw79 ((a107.add (((1 : Int)).toNat * 6)).add 2) (Value.int .i64) fun (x110 : Int) =>
    Ld vw79 ((a107.add (((1 : Int)).toNat * 6)).add 3) Value.string fun (x111 : ByteArray) =>
    Ld vw79 ((a107.add (((1 : Int)).toNat * 6)).add 4) Slc.v fun (x112 : Slc) =>
    Ld vw79 ((a107.add (((1 : Int)).toNat * 6)).add 5) Slc.v fun (x113 : Slc) =>
    C165 (x108, x109, x110, x111, x112, x113) vw79 (fun r114 vw115 =>
      Nn g1 fun a116 =>
      St vw115 (a116.add 11) (.int .i64 r114) fun vw117 =>
      Nn g1 fun a118 =>
      St vw117 (a118.add 10) (Slc.v s78.1) fun vw119 =>
      R vw119) PR)
def S167L2 (w : World) (g1 : Option Addr) (x6 : Slc) (R : World → Prop) (PR : Value → World → Prop) (I31 : Int → World → Prop) (s29 : Int) (vw30 : World) : Prop :=
  Br (decide (s29 < ((x6.len : Nat) : Int))) (0 ≤ s29 ∧ s29 < (x6.len : Nat) ∧ Nn x6.p fun a32 =>
    Ld vw30 (a32.add ((s29).toNat * 6)) (Value.int .i64) fun (x33 : Int) =>
    Ld vw30 ((a32.add ((s29).toNat * 6)).add 1) (Value.int .i64) fun (x34 : Int) =>
    Ld vw30 ((a32.add ((s29).toNat * 6)).add 2) (Value.int .i64) fun (x35 : Int) =>
    Ld vw30 ((a32.add ((s29).toNat * 6)).add 3) Value.string fun (x36 : ByteArray) =>
    Ld vw30 ((a32.add ((s29).toNat * 6)).add 4) Slc.v fun (x37 : Slc) =>
    Ld vw30 ((a32.add ((s29).toNat * 6)).add 5) Slc.v fun (x38 : Slc) =>
    Nw vw30 (.cells #[.int .i64 0, .int .i64 0, .int .i64 0, .string ((⟨#[]⟩ : ByteArray)), Slc.v ((⟨none, 0, 0⟩ : Slc)), Slc.v ((⟨none, 0, 0⟩ : Slc))] 81) fun vw39 =>
    St vw39 (⟨vw30.heap.size, 0, none⟩ : Addr) (.int .i64 x33) fun vw40 =>
    St vw40 ((⟨vw30.heap.size, 0, none⟩ : Addr).add 1) (.int .i64 x34) fun vw41 =>
    St vw41 ((⟨vw30.heap.size, 0, none⟩ : Addr).add 2) (.int .i64 x35) fun vw42 =>
    St vw42 ((⟨vw30.heap.size, 0, none⟩ : Addr).add 3) (.string x36) fun vw43 =>
    St vw43 ((⟨vw30.heap.size, 0, none⟩ : Addr).add 4) (Slc.v x37) fun vw44 =>
    St vw44 ((⟨vw30.heap.size, 0, none⟩ : Addr).add 5) (Slc.v x38) fun vw45 =>
    Ld vw45 (⟨vw30.heap.size, 0, none⟩ : Addr) (Value.int .i64) fun (x46 : Int) =>
    Br (x46 == 2) (C113 true 28 vw45 (fun vw47 =>
        I31 (IntKind.i64.wrap (s29 + 1)) vw47) PR) (Ld vw45 (⟨vw30.heap.size, 0, none⟩ : Addr) (Value.int .i64) fun (x48 : Int) =>
      C113 (x48 == 3) 28 vw45 (fun vw49 =>
        I31 (IntKind.i64.wrap (s29 + 1)) vw49) PR)) (Lp (σ := Slc × Int) (S167L1 w g1 x6 R PR) ((⟨none, 0, 0⟩ : Slc), 0) vw30)
/-- foliant/state.dash -/
def S167 (g1 : Option Addr) (o2 : ByteArray × Slc × ByteArray) (w : World) (R : World → Prop) (PR : Value → World → Prop) : Prop :=
  Nw w (.cells #[.string o2.1, Slc.v o2.2.1, .string o2.2.2] 63) fun vw3 =>
  Ld vw3 ((⟨w.heap.size, 0, none⟩ : Addr).add 1) Slc.v fun (x4 : Slc) =>
  0 ≤ (0 : Int) ∧ (0 : Int) < (x4.len : Nat) ∧ Nn x4.p fun a5 =>
  Ld vw3 ((a5.add (((0 : Int)).toNat * 6)).add 5) Slc.v fun (x6 : Slc) =>
  C113 (decide (((x6.len : Nat) : Int) ≤ 32)) 6 vw3 (fun vw7 =>
    Lp (σ := Int) (S167L2 w g1 x6 R PR) 0 vw7) PR
def pl167 : Plan := (.seq (.reg .seq) (.seq (.reg .seq) (.seq (.reg .seq) (.seq (.seq (.reg .seq) (.block (.loop [(21, (.one (.int .i64)))] [0, 3, 4, 19, 20] (.seq (.reg .seq) (.seq (.cond .leaf .leaf) (.seq (.block (.seq (.reg .seq) (.reg .seq))) (.reg .seq))))))) (.seq (.reg .seq) (.seq (.seq (.reg .seq) (.block (.loop [(7, (.one .slc)), (37, (.one (.int .i64)))] [0, 3, 35, 36] (.seq (.reg .seq) (.seq (.cond .leaf .leaf) (.seq (.block (.seq (.reg .seq) (.reg .seq))) (.reg .seq))))))) (.seq (.reg .seq) (.reg .seq))))))))
set_option maxRecDepth 100000 in
theorem T167 (g1 : Option Addr) (o2 : ByteArray × Slc × ByteArray) (w : World) (R : World → Prop) (PR : Value → World → Prop) (h : S167 g1 o2 w R PR) : C167 g1 (o2.1, o2.2.1, o2.2.2) w R PR := by
  have e : fnT Tryd.prog ⟨FF, MAY, PR⟩ pl167 Tryd.f167 [.pointer g1, .agg #[.string o2.1, Slc.v o2.2.1, .string o2.2.2]] w [] (fun _ w => R w) = S167 g1 o2 w R PR := by kernel_rfl
  exact (fn_callsP okF okM Tryd.func167 (by kernel_rfl) (by kernel_rfl) (e.mpr h)).mono fun _ _ he => he.elim (fun ⟨_, he, hR⟩ => .inl ⟨he, hR⟩) .inr

def S168L1 (space1 : Int) (vw3 : World) (vw4 : World) (r23 : Slc) (R : (Int × Int × Int × Int × Int) → World → Prop) (PR : Value → World → Prop) (I27 : Int → World → Prop) (s25 : Int) (vw26 : World) : Prop :=
  Br (decide (s25 < ((r23.len : Nat) : Int))) (0 ≤ s25 ∧ s25 < (r23.len : Nat) ∧ Nn r23.p fun a28 =>
    Ld vw26 (a28.add ((s25).toNat * 1)) (Value.int .i64) fun (x29 : Int) =>
    Br (decide (x29 ≥ 0)) (C113 (decide (x29 ≤ 10000)) 2 vw26 (fun vw30 =>
        0 ≤ s25 ∧ s25 < (4 : Nat) ∧ St vw30 ((⟨vw4.heap.size, 0, none⟩ : Addr).add ((s25).toNat * 1)) (.int .i64 x29) fun vw31 =>
        I27 (IntKind.i64.wrap (s25 + 1)) vw31) PR) (C113 false 2 vw26 (fun vw32 =>
        0 ≤ s25 ∧ s25 < (4 : Nat) ∧ St vw32 ((⟨vw4.heap.size, 0, none⟩ : Addr).add ((s25).toNat * 1)) (.int .i64 x29) fun vw33 =>
        I27 (IntKind.i64.wrap (s25 + 1)) vw33) PR)) (Ld vw26 (⟨vw4.heap.size, 0, none⟩ : Addr) (Value.int .i64) fun (x34 : Int) =>
    Ld vw26 ((⟨vw4.heap.size, 0, none⟩ : Addr).add 1) (Value.int .i64) fun (x35 : Int) =>
    Ld vw26 ((⟨vw4.heap.size, 0, none⟩ : Addr).add 2) (Value.int .i64) fun (x36 : Int) =>
    Ld vw26 ((⟨vw4.heap.size, 0, none⟩ : Addr).add 3) (Value.int .i64) fun (x37 : Int) =>
    St vw26 (⟨vw3.heap.size, 0, none⟩ : Addr) (.int .i64 space1) fun vw38 =>
    St vw38 ((⟨vw3.heap.size, 0, none⟩ : Addr).add 1) (.int .i64 x34) fun vw39 =>
    St vw39 ((⟨vw3.heap.size, 0, none⟩ : Addr).add 2) (.int .i64 x35) fun vw40 =>
    St vw40 ((⟨vw3.heap.size, 0, none⟩ : Addr).add 3) (.int .i64 x36) fun vw41 =>
    St vw41 ((⟨vw3.heap.size, 0, none⟩ : Addr).add 4) (.int .i64 x37) fun vw42 =>
    Ld vw42 (⟨vw3.heap.size, 0, none⟩ : Addr) (Value.int .i64) fun (x43 : Int) =>
    Ld vw42 ((⟨vw3.heap.size, 0, none⟩ : Addr).add 1) (Value.int .i64) fun (x44 : Int) =>
    Ld vw42 ((⟨vw3.heap.size, 0, none⟩ : Addr).add 2) (Value.int .i64) fun (x45 : Int) =>
    Ld vw42 ((⟨vw3.heap.size, 0, none⟩ : Addr).add 3) (Value.int .i64) fun (x46 : Int) =>
    Ld vw42 ((⟨vw3.heap.size, 0, none⟩ : Addr).add 4) (Value.int .i64) fun (x47 : Int) =>
    R (x43, x44, x45, x46, x47) vw42)
/-- foliant/state.color -/
def S168 (space1 : Int) (o2 : ByteArray × Slc × ByteArray) (w : World) (R : (Int × Int × Int × Int × Int) → World → Prop) (PR : Value → World → Prop) : Prop :=
  Nw w (.cells #[.string o2.1, Slc.v o2.2.1, .string o2.2.2] 63) fun vw3 =>
  Nw vw3 (.cells #[.int .i64 0, .int .i64 0, .int .i64 0, .int .i64 0, .int .i64 0] 26) fun vw4 =>
  Nw vw4 (.cells #[.int .i64 0, .int .i64 0, .int .i64 0, .int .i64 0] 266) fun vw5 =>
  Ld vw5 (⟨w.heap.size, 0, none⟩ : Addr) Value.string fun (x20 : ByteArray) =>
  Ld vw5 ((⟨w.heap.size, 0, none⟩ : Addr).add 1) Slc.v fun (x21 : Slc) =>
  Ld vw5 ((⟨w.heap.size, 0, none⟩ : Addr).add 2) Value.string fun (x22 : ByteArray) =>
  C198 (x20, x21, x22) vw5 (fun r23 vw24 =>
    Lp (σ := Int) (S168L1 space1 vw3 vw4 r23 R PR) 0 vw24) PR
def pl168 : Plan := (.seq (.reg .seq) (.seq (.reg .seq) (.seq (.seq (.reg .seq) (.block (.loop [(11, (.one (.int .i64)))] [0, 4, 5, 9, 10] (.seq (.reg .seq) (.seq (.cond .leaf .leaf) (.seq (.block (.seq (.reg .seq) (.seq (.reg .seq) (.reg .seq)))) (.reg .seq))))))) (.seq (.reg .seq) .leaf))))
set_option maxRecDepth 100000 in
theorem T168 (space1 : Int) (o2 : ByteArray × Slc × ByteArray) (w : World) (R : (Int × Int × Int × Int × Int) → World → Prop) (PR : Value → World → Prop) (h : S168 space1 o2 w R PR) : C168 space1 (o2.1, o2.2.1, o2.2.2) w R PR := by
  have e : fnT Tryd.prog ⟨FF, MAY, PR⟩ pl168 Tryd.f168 [.int .i64 space1, .agg #[.string o2.1, Slc.v o2.2.1, .string o2.2.2]] w [(.agg [(.int .i64), (.int .i64), (.int .i64), (.int .i64), (.int .i64)])] (fun s w => R s w) = S168 space1 o2 w R PR := by kernel_rfl
  exact (fn_callsP okF okM Tryd.func168 (by kernel_rfl) (by kernel_rfl) (e.mpr h)).mono fun _ _ he => he.elim (fun ⟨s, he, hR⟩ => .inl ⟨s, he, hR⟩) .inr

/-- foliant/state.text -/
def S169 (t1 : Option Addr) (o2 : ByteArray × Slc × ByteArray) (w : World) (R : Bool → World → Prop) (PR : Value → World → Prop) : Prop :=
  Nw w (.cells #[.string o2.1, Slc.v o2.2.1, .string o2.2.2] 63) fun vw3 =>
  Ld vw3 (⟨w.heap.size, 0, none⟩ : Addr) Value.string fun (x4 : ByteArray) =>
  Br (x4.toList == (⟨#[84, 99]⟩ : ByteArray).toList) (Ld vw3 ((⟨w.heap.size, 0, none⟩ : Addr).add 1) Slc.v fun (x5 : Slc) =>
    0 ≤ (0 : Int) ∧ (0 : Int) < (x5.len : Nat) ∧ Nn x5.p fun a6 =>
    Ld vw3 (a6.add (((0 : Int)).toNat * 6)) (Value.int .i64) fun (x7 : Int) =>
    Ld vw3 ((a6.add (((0 : Int)).toNat * 6)).add 1) (Value.int .i64) fun (x8 : Int) =>
    Ld vw3 ((a6.add (((0 : Int)).toNat * 6)).add 2) (Value.int .i64) fun (x9 : Int) =>
    Ld vw3 ((a6.add (((0 : Int)).toNat * 6)).add 3) Value.string fun (x10 : ByteArray) =>
    Ld vw3 ((a6.add (((0 : Int)).toNat * 6)).add 4) Slc.v fun (x11 : Slc) =>
    Ld vw3 ((a6.add (((0 : Int)).toNat * 6)).add 5) Slc.v fun (x12 : Slc) =>
    C199 (x7, x8, x9, x10, x11, x12) vw3 (fun r13 vw14 =>
      Nn t1 fun a15 =>
      St vw14 a15 (.int .i64 r13) fun vw16 =>
      R true vw16) PR) (Br (x4.toList == (⟨#[84, 119]⟩ : ByteArray).toList) (Ld vw3 ((⟨w.heap.size, 0, none⟩ : Addr).add 1) Slc.v fun (x17 : Slc) =>
      0 ≤ (0 : Int) ∧ (0 : Int) < (x17.len : Nat) ∧ Nn x17.p fun a18 =>
      Ld vw3 (a18.add (((0 : Int)).toNat * 6)) (Value.int .i64) fun (x19 : Int) =>
      Ld vw3 ((a18.add (((0 : Int)).toNat * 6)).add 1) (Value.int .i64) fun (x20 : Int) =>
      Ld vw3 ((a18.add (((0 : Int)).toNat * 6)).add 2) (Value.int .i64) fun (x21 : Int) =>
      Ld vw3 ((a18.add (((0 : Int)).toNat * 6)).add 3) Value.string fun (x22 : ByteArray) =>
      Ld vw3 ((a18.add (((0 : Int)).toNat * 6)).add 4) Slc.v fun (x23 : Slc) =>
      Ld vw3 ((a18.add (((0 : Int)).toNat * 6)).add 5) Slc.v fun (x24 : Slc) =>
      C199 (x19, x20, x21, x22, x23, x24) vw3 (fun r25 vw26 =>
        Nn t1 fun a27 =>
        St vw26 (a27.add 1) (.int .i64 r25) fun vw28 =>
        R true vw28) PR) (Br (x4.toList == (⟨#[84, 122]⟩ : ByteArray).toList) (Ld vw3 ((⟨w.heap.size, 0, none⟩ : Addr).add 1) Slc.v fun (x29 : Slc) =>
        0 ≤ (0 : Int) ∧ (0 : Int) < (x29.len : Nat) ∧ Nn x29.p fun a30 =>
        Ld vw3 (a30.add (((0 : Int)).toNat * 6)) (Value.int .i64) fun (x31 : Int) =>
        Ld vw3 ((a30.add (((0 : Int)).toNat * 6)).add 1) (Value.int .i64) fun (x32 : Int) =>
        Ld vw3 ((a30.add (((0 : Int)).toNat * 6)).add 2) (Value.int .i64) fun (x33 : Int) =>
        Ld vw3 ((a30.add (((0 : Int)).toNat * 6)).add 3) Value.string fun (x34 : ByteArray) =>
        Ld vw3 ((a30.add (((0 : Int)).toNat * 6)).add 4) Slc.v fun (x35 : Slc) =>
        Ld vw3 ((a30.add (((0 : Int)).toNat * 6)).add 5) Slc.v fun (x36 : Slc) =>
        C199 (x31, x32, x33, x34, x35, x36) vw3 (fun r37 vw38 =>
          Nn t1 fun a39 =>
          St vw38 (a39.add 2) (.int .i64 r37) fun vw40 =>
          R true vw40) PR) (Br (x4.toList == (⟨#[84, 76]⟩ : ByteArray).toList) (Ld vw3 ((⟨w.heap.size, 0, none⟩ : Addr).add 1) Slc.v fun (x41 : Slc) =>
          0 ≤ (0 : Int) ∧ (0 : Int) < (x41.len : Nat) ∧ Nn x41.p fun a42 =>
          Ld vw3 (a42.add (((0 : Int)).toNat * 6)) (Value.int .i64) fun (x43 : Int) =>
          Ld vw3 ((a42.add (((0 : Int)).toNat * 6)).add 1) (Value.int .i64) fun (x44 : Int) =>
          Ld vw3 ((a42.add (((0 : Int)).toNat * 6)).add 2) (Value.int .i64) fun (x45 : Int) =>
          Ld vw3 ((a42.add (((0 : Int)).toNat * 6)).add 3) Value.string fun (x46 : ByteArray) =>
          Ld vw3 ((a42.add (((0 : Int)).toNat * 6)).add 4) Slc.v fun (x47 : Slc) =>
          Ld vw3 ((a42.add (((0 : Int)).toNat * 6)).add 5) Slc.v fun (x48 : Slc) =>
          C199 (x43, x44, x45, x46, x47, x48) vw3 (fun r49 vw50 =>
            Nn t1 fun a51 =>
            St vw50 (a51.add 3) (.int .i64 r49) fun vw52 =>
            R true vw52) PR) (Br (x4.toList == (⟨#[84, 115]⟩ : ByteArray).toList) (Ld vw3 ((⟨w.heap.size, 0, none⟩ : Addr).add 1) Slc.v fun (x53 : Slc) =>
            0 ≤ (0 : Int) ∧ (0 : Int) < (x53.len : Nat) ∧ Nn x53.p fun a54 =>
            Ld vw3 (a54.add (((0 : Int)).toNat * 6)) (Value.int .i64) fun (x55 : Int) =>
            Ld vw3 ((a54.add (((0 : Int)).toNat * 6)).add 1) (Value.int .i64) fun (x56 : Int) =>
            Ld vw3 ((a54.add (((0 : Int)).toNat * 6)).add 2) (Value.int .i64) fun (x57 : Int) =>
            Ld vw3 ((a54.add (((0 : Int)).toNat * 6)).add 3) Value.string fun (x58 : ByteArray) =>
            Ld vw3 ((a54.add (((0 : Int)).toNat * 6)).add 4) Slc.v fun (x59 : Slc) =>
            Ld vw3 ((a54.add (((0 : Int)).toNat * 6)).add 5) Slc.v fun (x60 : Slc) =>
            C199 (x55, x56, x57, x58, x59, x60) vw3 (fun r61 vw62 =>
              Nn t1 fun a63 =>
              St vw62 (a63.add 5) (.int .i64 r61) fun vw64 =>
              R true vw64) PR) (Br (x4.toList == (⟨#[84, 102]⟩ : ByteArray).toList) (Ld vw3 ((⟨w.heap.size, 0, none⟩ : Addr).add 1) Slc.v fun (x65 : Slc) =>
              0 ≤ (1 : Int) ∧ (1 : Int) < (x65.len : Nat) ∧ Nn x65.p fun a66 =>
              Ld vw3 (a66.add (((1 : Int)).toNat * 6)) (Value.int .i64) fun (x67 : Int) =>
              Ld vw3 ((a66.add (((1 : Int)).toNat * 6)).add 1) (Value.int .i64) fun (x68 : Int) =>
              Ld vw3 ((a66.add (((1 : Int)).toNat * 6)).add 2) (Value.int .i64) fun (x69 : Int) =>
              Ld vw3 ((a66.add (((1 : Int)).toNat * 6)).add 3) Value.string fun (x70 : ByteArray) =>
              Ld vw3 ((a66.add (((1 : Int)).toNat * 6)).add 4) Slc.v fun (x71 : Slc) =>
              Ld vw3 ((a66.add (((1 : Int)).toNat * 6)).add 5) Slc.v fun (x72 : Slc) =>
              C199 (x67, x68, x69, x70, x71, x72) vw3 (fun r73 vw74 =>
                Ld vw74 ((⟨w.heap.size, 0, none⟩ : Addr).add 1) Slc.v fun (x75 : Slc) =>
                0 ≤ (0 : Int) ∧ (0 : Int) < (x75.len : Nat) ∧ Nn x75.p fun a76 =>
                Ld vw74 ((a76.add (((0 : Int)).toNat * 6)).add 3) Value.string fun (x77 : ByteArray) =>
                Nn t1 fun a78 =>
                St vw74 (a78.add 6) (.string x77) fun vw79 =>
                Nn t1 fun a80 =>
                St vw79 (a80.add 4) (.int .i64 r73) fun vw81 =>
                R true vw81) PR) (Br (x4.toList == (⟨#[84, 114]⟩ : ByteArray).toList) (Ld vw3 ((⟨w.heap.size, 0, none⟩ : Addr).add 1) Slc.v fun (x82 : Slc) =>
                0 ≤ (0 : Int) ∧ (0 : Int) < (x82.len : Nat) ∧ Nn x82.p fun a83 =>
                Ld vw3 (a83.add (((0 : Int)).toNat * 6)) (Value.int .i64) fun (x84 : Int) =>
                Ld vw3 ((a83.add (((0 : Int)).toNat * 6)).add 1) (Value.int .i64) fun (x85 : Int) =>
                Ld vw3 ((a83.add (((0 : Int)).toNat * 6)).add 2) (Value.int .i64) fun (x86 : Int) =>
                Ld vw3 ((a83.add (((0 : Int)).toNat * 6)).add 3) Value.string fun (x87 : ByteArray) =>
                Ld vw3 ((a83.add (((0 : Int)).toNat * 6)).add 4) Slc.v fun (x88 : Slc) =>
                Ld vw3 ((a83.add (((0 : Int)).toNat * 6)).add 5) Slc.v fun (x89 : Slc) =>
                C166 (x84, x85, x86, x87, x88, x89) 7 vw3 (fun r90 vw91 =>
                  Nn t1 fun a92 =>
                  St vw91 (a92.add 7) (.int .i64 r90) fun vw93 =>
                  R true vw93) PR) (R false vw3)))))))
def pl169 : Plan := (.seq (.reg .seq) (.seq (.seq (.reg .seq) (.block (.seq (.reg .seq) (.cond (.reg .seq) (.seq (.reg .seq) (.cond (.reg .seq) (.seq (.reg .seq) (.cond (.reg .seq) (.seq (.reg .seq) (.cond (.reg .seq) (.seq (.reg .seq) (.cond (.reg .seq) (.seq (.reg .seq) (.cond (.seq (.reg .seq) (.reg .seq)) (.seq (.reg .seq) (.cond (.reg .seq) (.seq (.reg .seq) .leaf))))))))))))))))) (.seq (.reg .seq) .leaf)))
set_option maxRecDepth 100000 in
theorem T169 (t1 : Option Addr) (o2 : ByteArray × Slc × ByteArray) (w : World) (R : Bool → World → Prop) (PR : Value → World → Prop) (h : S169 t1 o2 w R PR) : C169 t1 (o2.1, o2.2.1, o2.2.2) w R PR := by
  have e : fnT Tryd.prog ⟨FF, MAY, PR⟩ pl169 Tryd.f169 [.pointer t1, .agg #[.string o2.1, Slc.v o2.2.1, .string o2.2.2]] w [(.one .bool)] (fun s w => R s w) = S169 t1 o2 w R PR := by kernel_rfl
  exact (fn_callsP okF okM Tryd.func169 (by kernel_rfl) (by kernel_rfl) (e.mpr h)).mono fun _ _ he => he.elim (fun ⟨s, he, hR⟩ => .inl ⟨s, he, hR⟩) .inr

/-- foliant/state.change -/
def S114 (g1 : Option Addr) (o2 : ByteArray × Slc × ByteArray) (w : World) (R : Bool → World → Prop) (PR : Value → World → Prop) : Prop :=
  Nw w (.cells #[.string o2.1, Slc.v o2.2.1, .string o2.2.2] 63) fun vw3 =>
  Ld vw3 (⟨w.heap.size, 0, none⟩ : Addr) Value.string fun (x4 : ByteArray) =>
  Br (x4.toList == (⟨#[99, 109]⟩ : ByteArray).toList) (Ld vw3 (⟨w.heap.size, 0, none⟩ : Addr) Value.string fun (x716 : ByteArray) =>
    Ld vw3 ((⟨w.heap.size, 0, none⟩ : Addr).add 1) Slc.v fun (x717 : Slc) =>
    Ld vw3 ((⟨w.heap.size, 0, none⟩ : Addr).add 2) Value.string fun (x718 : ByteArray) =>
    C164 g1 (x716, x717, x718) vw3 (fun vw719 =>
      R true vw719) PR) (Br (x4.toList == (⟨#[119]⟩ : ByteArray).toList) (Ld vw3 ((⟨w.heap.size, 0, none⟩ : Addr).add 1) Slc.v fun (x720 : Slc) =>
      0 ≤ (0 : Int) ∧ (0 : Int) < (x720.len : Nat) ∧ Nn x720.p fun a721 =>
      Ld vw3 (a721.add (((0 : Int)).toNat * 6)) (Value.int .i64) fun (x722 : Int) =>
      Ld vw3 ((a721.add (((0 : Int)).toNat * 6)).add 1) (Value.int .i64) fun (x723 : Int) =>
      Ld vw3 ((a721.add (((0 : Int)).toNat * 6)).add 2) (Value.int .i64) fun (x724 : Int) =>
      Ld vw3 ((a721.add (((0 : Int)).toNat * 6)).add 3) Value.string fun (x725 : ByteArray) =>
      Ld vw3 ((a721.add (((0 : Int)).toNat * 6)).add 4) Slc.v fun (x726 : Slc) =>
      Ld vw3 ((a721.add (((0 : Int)).toNat * 6)).add 5) Slc.v fun (x727 : Slc) =>
      C165 (x722, x723, x724, x725, x726, x727) vw3 (fun r728 vw729 =>
        Nn g1 fun a730 =>
        St vw729 (a730.add 6) (.int .i64 r728) fun vw731 =>
        R true vw731) PR) (Br (x4.toList == (⟨#[77]⟩ : ByteArray).toList) (Ld vw3 ((⟨w.heap.size, 0, none⟩ : Addr).add 1) Slc.v fun (x732 : Slc) =>
        0 ≤ (0 : Int) ∧ (0 : Int) < (x732.len : Nat) ∧ Nn x732.p fun a733 =>
        Ld vw3 (a733.add (((0 : Int)).toNat * 6)) (Value.int .i64) fun (x734 : Int) =>
        Ld vw3 ((a733.add (((0 : Int)).toNat * 6)).add 1) (Value.int .i64) fun (x735 : Int) =>
        Ld vw3 ((a733.add (((0 : Int)).toNat * 6)).add 2) (Value.int .i64) fun (x736 : Int) =>
        Ld vw3 ((a733.add (((0 : Int)).toNat * 6)).add 3) Value.string fun (x737 : ByteArray) =>
        Ld vw3 ((a733.add (((0 : Int)).toNat * 6)).add 4) Slc.v fun (x738 : Slc) =>
        Ld vw3 ((a733.add (((0 : Int)).toNat * 6)).add 5) Slc.v fun (x739 : Slc) =>
        C165 (x734, x735, x736, x737, x738, x739) vw3 (fun r740 vw741 =>
          Nn g1 fun a742 =>
          St vw741 (a742.add 9) (.int .i64 r740) fun vw743 =>
          R true vw743) PR) (Br (x4.toList == (⟨#[74]⟩ : ByteArray).toList) (Ld vw3 ((⟨w.heap.size, 0, none⟩ : Addr).add 1) Slc.v fun (x744 : Slc) =>
          0 ≤ (0 : Int) ∧ (0 : Int) < (x744.len : Nat) ∧ Nn x744.p fun a745 =>
          Ld vw3 (a745.add (((0 : Int)).toNat * 6)) (Value.int .i64) fun (x746 : Int) =>
          Ld vw3 ((a745.add (((0 : Int)).toNat * 6)).add 1) (Value.int .i64) fun (x747 : Int) =>
          Ld vw3 ((a745.add (((0 : Int)).toNat * 6)).add 2) (Value.int .i64) fun (x748 : Int) =>
          Ld vw3 ((a745.add (((0 : Int)).toNat * 6)).add 3) Value.string fun (x749 : ByteArray) =>
          Ld vw3 ((a745.add (((0 : Int)).toNat * 6)).add 4) Slc.v fun (x750 : Slc) =>
          Ld vw3 ((a745.add (((0 : Int)).toNat * 6)).add 5) Slc.v fun (x751 : Slc) =>
          C166 (x746, x747, x748, x749, x750, x751) 2 vw3 (fun r752 vw753 =>
            Nn g1 fun a754 =>
            St vw753 (a754.add 7) (.int .i64 r752) fun vw755 =>
            R true vw755) PR) (Br (x4.toList == (⟨#[106]⟩ : ByteArray).toList) (Ld vw3 ((⟨w.heap.size, 0, none⟩ : Addr).add 1) Slc.v fun (x756 : Slc) =>
            0 ≤ (0 : Int) ∧ (0 : Int) < (x756.len : Nat) ∧ Nn x756.p fun a757 =>
            Ld vw3 (a757.add (((0 : Int)).toNat * 6)) (Value.int .i64) fun (x758 : Int) =>
            Ld vw3 ((a757.add (((0 : Int)).toNat * 6)).add 1) (Value.int .i64) fun (x759 : Int) =>
            Ld vw3 ((a757.add (((0 : Int)).toNat * 6)).add 2) (Value.int .i64) fun (x760 : Int) =>
            Ld vw3 ((a757.add (((0 : Int)).toNat * 6)).add 3) Value.string fun (x761 : ByteArray) =>
            Ld vw3 ((a757.add (((0 : Int)).toNat * 6)).add 4) Slc.v fun (x762 : Slc) =>
            Ld vw3 ((a757.add (((0 : Int)).toNat * 6)).add 5) Slc.v fun (x763 : Slc) =>
            C166 (x758, x759, x760, x761, x762, x763) 2 vw3 (fun r764 vw765 =>
              Nn g1 fun a766 =>
              St vw765 (a766.add 8) (.int .i64 r764) fun vw767 =>
              R true vw767) PR) (Br (x4.toList == (⟨#[100]⟩ : ByteArray).toList) (Ld vw3 (⟨w.heap.size, 0, none⟩ : Addr) Value.string fun (x768 : ByteArray) =>
              Ld vw3 ((⟨w.heap.size, 0, none⟩ : Addr).add 1) Slc.v fun (x769 : Slc) =>
              Ld vw3 ((⟨w.heap.size, 0, none⟩ : Addr).add 2) Value.string fun (x770 : ByteArray) =>
              C167 g1 (x768, x769, x770) vw3 (fun vw771 =>
                R true vw771) PR) (Br (x4.toList == (⟨#[103]⟩ : ByteArray).toList) (Ld vw3 (⟨w.heap.size, 0, none⟩ : Addr) Value.string fun (x772 : ByteArray) =>
                Ld vw3 ((⟨w.heap.size, 0, none⟩ : Addr).add 1) Slc.v fun (x773 : Slc) =>
                Ld vw3 ((⟨w.heap.size, 0, none⟩ : Addr).add 2) Value.string fun (x774 : ByteArray) =>
                C168 0 (x772, x773, x774) vw3 (fun r775 vw776 =>
                  Nn g1 fun a777 =>
                  St vw776 (a777.add 12) (.int .i64 (r775.1)) fun vw778 =>
                  St vw778 ((a777.add 12).add 1) (.int .i64 (r775.2.1)) fun vw779 =>
                  St vw779 ((a777.add 12).add 2) (.int .i64 (r775.2.2.1)) fun vw780 =>
                  St vw780 ((a777.add 12).add 3) (.int .i64 (r775.2.2.2.1)) fun vw781 =>
                  St vw781 ((a777.add 12).add 4) (.int .i64 (r775.2.2.2.2)) fun vw782 =>
                  R true vw782) PR) (Br (x4.toList == (⟨#[71]⟩ : ByteArray).toList) (Ld vw3 (⟨w.heap.size, 0, none⟩ : Addr) Value.string fun (x783 : ByteArray) =>
                  Ld vw3 ((⟨w.heap.size, 0, none⟩ : Addr).add 1) Slc.v fun (x784 : Slc) =>
                  Ld vw3 ((⟨w.heap.size, 0, none⟩ : Addr).add 2) Value.string fun (x785 : ByteArray) =>
                  C168 0 (x783, x784, x785) vw3 (fun r786 vw787 =>
                    Nn g1 fun a788 =>
                    St vw787 (a788.add 17) (.int .i64 (r786.1)) fun vw789 =>
                    St vw789 ((a788.add 17).add 1) (.int .i64 (r786.2.1)) fun vw790 =>
                    St vw790 ((a788.add 17).add 2) (.int .i64 (r786.2.2.1)) fun vw791 =>
                    St vw791 ((a788.add 17).add 3) (.int .i64 (r786.2.2.2.1)) fun vw792 =>
                    St vw792 ((a788.add 17).add 4) (.int .i64 (r786.2.2.2.2)) fun vw793 =>
                    R true vw793) PR) (Br (x4.toList == (⟨#[114, 103]⟩ : ByteArray).toList) (Ld vw3 (⟨w.heap.size, 0, none⟩ : Addr) Value.string fun (x794 : ByteArray) =>
                    Ld vw3 ((⟨w.heap.size, 0, none⟩ : Addr).add 1) Slc.v fun (x795 : Slc) =>
                    Ld vw3 ((⟨w.heap.size, 0, none⟩ : Addr).add 2) Value.string fun (x796 : ByteArray) =>
                    C168 1 (x794, x795, x796) vw3 (fun r797 vw798 =>
                      Nn g1 fun a799 =>
                      St vw798 (a799.add 12) (.int .i64 (r797.1)) fun vw800 =>
                      St vw800 ((a799.add 12).add 1) (.int .i64 (r797.2.1)) fun vw801 =>
                      St vw801 ((a799.add 12).add 2) (.int .i64 (r797.2.2.1)) fun vw802 =>
                      St vw802 ((a799.add 12).add 3) (.int .i64 (r797.2.2.2.1)) fun vw803 =>
                      St vw803 ((a799.add 12).add 4) (.int .i64 (r797.2.2.2.2)) fun vw804 =>
                      R true vw804) PR) (Br (x4.toList == (⟨#[82, 71]⟩ : ByteArray).toList) (Ld vw3 (⟨w.heap.size, 0, none⟩ : Addr) Value.string fun (x805 : ByteArray) =>
                      Ld vw3 ((⟨w.heap.size, 0, none⟩ : Addr).add 1) Slc.v fun (x806 : Slc) =>
                      Ld vw3 ((⟨w.heap.size, 0, none⟩ : Addr).add 2) Value.string fun (x807 : ByteArray) =>
                      C168 1 (x805, x806, x807) vw3 (fun r808 vw809 =>
                        Nn g1 fun a810 =>
                        St vw809 (a810.add 17) (.int .i64 (r808.1)) fun vw811 =>
                        St vw811 ((a810.add 17).add 1) (.int .i64 (r808.2.1)) fun vw812 =>
                        St vw812 ((a810.add 17).add 2) (.int .i64 (r808.2.2.1)) fun vw813 =>
                        St vw813 ((a810.add 17).add 3) (.int .i64 (r808.2.2.2.1)) fun vw814 =>
                        St vw814 ((a810.add 17).add 4) (.int .i64 (r808.2.2.2.2)) fun vw815 =>
                        R true vw815) PR) (Br (x4.toList == (⟨#[107]⟩ : ByteArray).toList) (Ld vw3 (⟨w.heap.size, 0, none⟩ : Addr) Value.string fun (x816 : ByteArray) =>
                        Ld vw3 ((⟨w.heap.size, 0, none⟩ : Addr).add 1) Slc.v fun (x817 : Slc) =>
                        Ld vw3 ((⟨w.heap.size, 0, none⟩ : Addr).add 2) Value.string fun (x818 : ByteArray) =>
                        C168 2 (x816, x817, x818) vw3 (fun r819 vw820 =>
                          Nn g1 fun a821 =>
                          St vw820 (a821.add 12) (.int .i64 (r819.1)) fun vw822 =>
                          St vw822 ((a821.add 12).add 1) (.int .i64 (r819.2.1)) fun vw823 =>
                          St vw823 ((a821.add 12).add 2) (.int .i64 (r819.2.2.1)) fun vw824 =>
                          St vw824 ((a821.add 12).add 3) (.int .i64 (r819.2.2.2.1)) fun vw825 =>
                          St vw825 ((a821.add 12).add 4) (.int .i64 (r819.2.2.2.2)) fun vw826 =>
                          R true vw826) PR) (Br (x4.toList == (⟨#[75]⟩ : ByteArray).toList) (Ld vw3 (⟨w.heap.size, 0, none⟩ : Addr) Value.string fun (x827 : ByteArray) =>
                          Ld vw3 ((⟨w.heap.size, 0, none⟩ : Addr).add 1) Slc.v fun (x828 : Slc) =>
                          Ld vw3 ((⟨w.heap.size, 0, none⟩ : Addr).add 2) Value.string fun (x829 : ByteArray) =>
                          C168 2 (x827, x828, x829) vw3 (fun r830 vw831 =>
                            Nn g1 fun a832 =>
                            St vw831 (a832.add 17) (.int .i64 (r830.1)) fun vw833 =>
                            St vw833 ((a832.add 17).add 1) (.int .i64 (r830.2.1)) fun vw834 =>
                            St vw834 ((a832.add 17).add 2) (.int .i64 (r830.2.2.1)) fun vw835 =>
                            St vw835 ((a832.add 17).add 3) (.int .i64 (r830.2.2.2.1)) fun vw836 =>
                            St vw836 ((a832.add 17).add 4) (.int .i64 (r830.2.2.2.2)) fun vw837 =>
                            R true vw837) PR) (Br (x4.toList == (⟨#[105]⟩ : ByteArray).toList) (R true vw3) (Br (x4.toList == (⟨#[114, 105]⟩ : ByteArray).toList) (Br (x4.toList == (⟨#[114, 105]⟩ : ByteArray).toList) (R true vw3) (Nn g1 fun a838 =>
                                Ld vw3.drew (⟨w.heap.size, 0, none⟩ : Addr) Value.string fun (x839 : ByteArray) =>
                                Ld vw3.drew ((⟨w.heap.size, 0, none⟩ : Addr).add 1) Slc.v fun (x840 : Slc) =>
                                Ld vw3.drew ((⟨w.heap.size, 0, none⟩ : Addr).add 2) Value.string fun (x841 : ByteArray) =>
                                C169 (some (a838.add 22)) (x839, x840, x841) vw3.drew (fun r842 vw843 =>
                                  R r842 vw843) PR)) (Br (x4.toList == (⟨#[103, 115]⟩ : ByteArray).toList) (R true vw3) (Nn g1 fun a844 =>
                                Ld vw3.drew (⟨w.heap.size, 0, none⟩ : Addr) Value.string fun (x845 : ByteArray) =>
                                Ld vw3.drew ((⟨w.heap.size, 0, none⟩ : Addr).add 1) Slc.v fun (x846 : Slc) =>
                                Ld vw3.drew ((⟨w.heap.size, 0, none⟩ : Addr).add 2) Value.string fun (x847 : ByteArray) =>
                                C169 (some (a844.add 22)) (x845, x846, x847) vw3.drew (fun r848 vw849 =>
                                  R r848 vw849) PR)))))))))))))))
def pl114 : Plan := (.seq (.reg .seq) (.seq (.seq (.reg .seq) (.block (.seq (.block (.seq (.block (.block (.seq (.block (.seq (.block (.seq (.block (.seq (.block (.seq (.block (.seq (.block (.seq (.block (.seq (.block (.seq (.block (.seq (.block (.seq (.block (.seq (.block (.seq (.seq (.seq (.reg .seq) (.cond .leaf .leaf)) (.seq (.seq (.reg .seq) (.cond .leaf .leaf)) (.seq (.seq (.reg .seq) (.cond .leaf .leaf)) (.seq (.seq (.reg .seq) (.cond .leaf .leaf)) (.seq (.seq (.reg .seq) (.cond .leaf .leaf)) (.seq (.seq (.reg .seq) (.cond .leaf .leaf)) (.seq (.seq (.reg .seq) (.cond .leaf .leaf)) (.seq (.seq (.reg .seq) (.cond .leaf .leaf)) (.seq (.seq (.reg .seq) (.cond .leaf .leaf)) (.seq (.seq (.reg .seq) (.cond .leaf .leaf)) (.seq (.seq (.reg .seq) (.cond .leaf .leaf)) (.seq (.seq (.reg .seq) (.cond .leaf .leaf)) (.seq (.seq (.reg .seq) (.cond .leaf .leaf)) (.seq (.seq (.reg .seq) (.cond .leaf (.reg .seq))) (.cond .leaf .leaf))))))))))))))) .leaf)) (.seq (.reg .seq) .leaf))) (.seq (.reg .seq) .leaf))) (.seq (.reg .seq) .leaf))) (.seq (.reg .seq) .leaf))) (.seq (.reg .seq) .leaf))) (.seq (.reg .seq) .leaf))) (.seq (.reg .seq) .leaf))) (.seq (.reg .seq) .leaf))) (.seq (.reg .seq) .leaf))) (.seq (.reg .seq) .leaf))) (.seq (.reg .seq) .leaf))) (.seq (.reg .seq) .leaf)))) (.seq (.seq (.reg .seq) .leaf) .leaf))) (.seq (.seq (.reg (.tail 4)) .leaf) .leaf)))) (.seq (.reg .seq) .leaf)))
set_option maxRecDepth 100000 in
theorem T114 (g1 : Option Addr) (o2 : ByteArray × Slc × ByteArray) (w : World) (R : Bool → World → Prop) (PR : Value → World → Prop) (h : S114 g1 o2 w R PR) : C114 g1 (o2.1, o2.2.1, o2.2.2) w R PR := by
  have e : fnT Tryd.prog ⟨FF, MAY, PR⟩ pl114 Tryd.f114 [.pointer g1, .agg #[.string o2.1, Slc.v o2.2.1, .string o2.2.2]] w [(.one .bool)] (fun s w => R s w) = S114 g1 o2 w R PR := by kernel_rfl
  exact (fn_callsP okF okM Tryd.func114 (by kernel_rfl) (by kernel_rfl) (e.mpr h)).mono fun _ _ he => he.elim (fun ⟨s, he, hR⟩ => .inl ⟨s, he, hR⟩) .inr

def S53P (vw3 : World) (R : Int → World → Prop) (x20 : Value) (vw19 : World) : Prop :=
  CD112 (⟨vw3.heap.size, 0, none⟩ : Addr) (some x20) vw19 fun vw21 =>
    Ld vw21 (⟨vw3.heap.size, 0, none⟩ : Addr) (Value.int .i64) fun (x22 : Int) =>
    R x22 vw21
/-- (*foliant/state.Machine).Do -/
def S53 (x1 : Option Addr) (o2 : ByteArray × Slc × ByteArray) (w : World) (R : Int → World → Prop) : Prop :=
  Nw w (.cells #[.string o2.1, Slc.v o2.2.1, .string o2.2.2] 63) fun vw3 =>
  Nw vw3 (.cells #[.int .i64 0] 38) fun vw4 =>
  Br x1.isNone (St vw4 (⟨vw3.heap.size, 0, none⟩ : Addr) (.int .i64 1) fun vw5 =>
    Ld vw5 (⟨vw3.heap.size, 0, none⟩ : Addr) (Value.int .i64) fun (x6 : Int) =>
    R x6 vw5) (Ld vw4 (⟨w.heap.size, 0, none⟩ : Addr) Value.string fun (x7 : ByteArray) =>
    C111 x7 vw4 fun r8 vw9 =>
      Br (!r8) (St vw9 (⟨vw3.heap.size, 0, none⟩ : Addr) (.int .i64 8) fun vw10 =>
        Ld vw10 (⟨vw3.heap.size, 0, none⟩ : Addr) (Value.int .i64) fun (x11 : Int) =>
        R x11 vw10) (Ld vw9 (⟨w.heap.size, 0, none⟩ : Addr) Value.string fun (x12 : ByteArray) =>
        Ld vw9 ((⟨w.heap.size, 0, none⟩ : Addr).add 1) Slc.v fun (x13 : Slc) =>
        Ld vw9 ((⟨w.heap.size, 0, none⟩ : Addr).add 2) Value.string fun (x14 : ByteArray) =>
        C80 (x12, x13, x14) vw9 fun r15 vw16 =>
          Br (r15 != 0) (St vw16 (⟨vw3.heap.size, 0, none⟩ : Addr) (.int .i64 r15) fun vw17 =>
            Ld vw17 (⟨vw3.heap.size, 0, none⟩ : Addr) (Value.int .i64) fun (x18 : Int) =>
            R x18 vw17) (Nn x1 fun a23 =>
            Ld vw16 (a23.add 30) Slc.v fun (x24 : Slc) =>
            Ld vw16 (⟨w.heap.size, 0, none⟩ : Addr) Value.string fun (x25 : ByteArray) =>
            Br (x25.toList == (⟨#[113]⟩ : ByteArray).toList) (C113 (decide (((x24.len : Nat) : Int) < 28)) 6 vw16 (fun vw26 =>
                ∃ vS27 : World → Prop, vS27 vw26.drew ∧ Nn x1 fun a28 =>
                LdS vS27 (a28.add 30) Slc.v fun (x29 : Slc) =>
                0 ≤ ((x24.len : Nat) : Int) ∧ ((x24.len : Nat) : Int) ≤ ((x29.cap : Nat) : Int) ∧ 0 ≤ ((x24.len : Nat) : Int) ∧ ((x24.len : Nat) : Int) ≤ (((((x24.len : Nat) : Int)).toNat : Nat) : Int) ∧ Nn x1 fun a30 =>
                LdST vS27 a30 0 LiA29 fun (x31 : TyA29) =>
                C110 x31 vw26.drew fun r32 vw33 =>
                  vS27 vw33 ∧ Nw vw33 (.cells #[.int .i64 (r32.1), .int .i64 (r32.2.1), .int .i64 (r32.2.2.1), .int .i64 (r32.2.2.2.1), .int .i64 (r32.2.2.2.2.1), .int .i64 (r32.2.2.2.2.2.1), .int .i64 (r32.2.2.2.2.2.2.1), .int .i64 (r32.2.2.2.2.2.2.2.1), .int .i64 (r32.2.2.2.2.2.2.2.2.1), .int .i64 (r32.2.2.2.2.2.2.2.2.2.1), Slc.v r32.2.2.2.2.2.2.2.2.2.2.1, .int .i64 (r32.2.2.2.2.2.2.2.2.2.2.2.1), .int .i64 (r32.2.2.2.2.2.2.2.2.2.2.2.2.1), .int .i64 (r32.2.2.2.2.2.2.2.2.2.2.2.2.2.1), .int .i64 (r32.2.2.2.2.2.2.2.2.2.2.2.2.2.2.1), .int .i64 (r32.2.2.2.2.2.2.2.2.2.2.2.2.2.2.2.1), .int .i64 (r32.2.2.2.2.2.2.2.2.2.2.2.2.2.2.2.2.1), .int .i64 (r32.2.2.2.2.2.2.2.2.2.2.2.2.2.2.2.2.2.1), .int .i64 (r32.2.2.2.2.2.2.2.2.2.2.2.2.2.2.2.2.2.2.1), .int .i64 (r32.2.2.2.2.2.2.2.2.2.2.2.2.2.2.2.2.2.2.2.1), .int .i64 (r32.2.2.2.2.2.2.2.2.2.2.2.2.2.2.2.2.2.2.2.2.1), .int .i64 (r32.2.2.2.2.2.2.2.2.2.2.2.2.2.2.2.2.2.2.2.2.2.1), .int .i64 (r32.2.2.2.2.2.2.2.2.2.2.2.2.2.2.2.2.2.2.2.2.2.2.1), .int .i64 (r32.2.2.2.2.2.2.2.2.2.2.2.2.2.2.2.2.2.2.2.2.2.2.2.1), .int .i64 (r32.2.2.2.2.2.2.2.2.2.2.2.2.2.2.2.2.2.2.2.2.2.2.2.2.1), .int .i64 (r32.2.2.2.2.2.2.2.2.2.2.2.2.2.2.2.2.2.2.2.2.2.2.2.2.2.1), .int .i64 (r32.2.2.2.2.2.2.2.2.2.2.2.2.2.2.2.2.2.2.2.2.2.2.2.2.2.2.1), .int .i64 (r32.2.2.2.2.2.2.2.2.2.2.2.2.2.2.2.2.2.2.2.2.2.2.2.2.2.2.2.1), .string r32.2.2.2.2.2.2.2.2.2.2.2.2.2.2.2.2.2.2.2.2.2.2.2.2.2.2.2.2.1, .int .i64 (r32.2.2.2.2.2.2.2.2.2.2.2.2.2.2.2.2.2.2.2.2.2.2.2.2.2.2.2.2.2)] 30) fun vw34 =>
                  vS27 vw34 ∧ Rn Tryd.prog (Builtin.append_ #[106, 106] 106 #[Slc.v (x29.cut 30 0 ((((x24.len : Nat) : Int)).toNat) ((((x24.len : Nat) : Int)).toNat)), Slc.v ((⟨some ⟨vw33.heap.size, 0, none⟩, 1, 1⟩ : Slc))]) vw34 Slc.v fun (x35 : Slc) vw36 =>
                  Nn x1 fun a37 =>
                  St vw36 (a37.add 30) (Slc.v x35) fun vw38 =>
                  St vw38 (⟨vw3.heap.size, 0, none⟩ : Addr) (.int .i64 0) fun vw39 =>
                  CD112 (⟨vw3.heap.size, 0, none⟩ : Addr) none vw39 fun vw40 =>
                    Ld vw40 (⟨vw3.heap.size, 0, none⟩ : Addr) (Value.int .i64) fun (x41 : Int) =>
                    R x41 vw40) (S53P vw3 R)) (Br (x25.toList == (⟨#[81]⟩ : ByteArray).toList) (C113 (decide (((x24.len : Nat) : Int) > 0)) 29 vw16 (fun vw42 =>
                  ∃ vS43 : World → Prop, vS43 vw42.drew ∧ Nn x1 fun a44 =>
                  LdS vS43 (a44.add 30) Slc.v fun (x45 : Slc) =>
                  0 ≤ (IntKind.i64.wrap (((x24.len : Nat) : Int) - 1)) ∧ (IntKind.i64.wrap (((x24.len : Nat) : Int) - 1)) < (x45.len : Nat) ∧ Nn x45.p fun a46 =>
                  LdST vS43 (a46.add ((IntKind.i64.wrap (((x24.len : Nat) : Int) - 1)).toNat * 30)) 0 LiA29 fun (x47 : TyA29) =>
                  Nn x1 fun a48 =>
                  LdS vS43 (a48.add 30) Slc.v fun (x49 : Slc) =>
                  0 ≤ (IntKind.i64.wrap (((x24.len : Nat) : Int) - 1)) ∧ (IntKind.i64.wrap (((x24.len : Nat) : Int) - 1)) ≤ ((x49.cap : Nat) : Int) ∧ 0 ≤ (IntKind.i64.wrap (((x24.len : Nat) : Int) - 1)) ∧ (IntKind.i64.wrap (((x24.len : Nat) : Int) - 1)) ≤ (((IntKind.i64.wrap (((x24.len : Nat) : Int) - 1)).toNat : Nat) : Int) ∧ Nn x1 fun a50 =>
                  StT a50 0 LiA29 x47 vw42.drew fun vw51 =>
                  Nn x1 fun a52 =>
                  St vw51 (a52.add 30) (Slc.v (x49.cut 30 0 ((IntKind.i64.wrap (((x24.len : Nat) : Int) - 1)).toNat) ((IntKind.i64.wrap (((x24.len : Nat) : Int) - 1)).toNat))) fun vw53 =>
                  St vw53 (⟨vw3.heap.size, 0, none⟩ : Addr) (.int .i64 0) fun vw54 =>
                  CD112 (⟨vw3.heap.size, 0, none⟩ : Addr) none vw54 fun vw55 =>
                    Ld vw55 (⟨vw3.heap.size, 0, none⟩ : Addr) (Value.int .i64) fun (x56 : Int) =>
                    R x56 vw55) (S53P vw3 R)) (Nn x1 fun a57 =>
                LdT vw16 a57 0 LiA29 fun (x58 : TyA29) =>
                C110 x58 vw16 fun r59 vw60 =>
                  Nw vw60 (.cells #[.int .i64 0, .int .i64 0, .int .i64 0, .int .i64 0, .int .i64 0, .int .i64 0, .int .i64 0, .int .i64 0, .int .i64 0, .int .i64 0, Slc.v ((⟨none, 0, 0⟩ : Slc)), .int .i64 0, .int .i64 0, .int .i64 0, .int .i64 0, .int .i64 0, .int .i64 0, .int .i64 0, .int .i64 0, .int .i64 0, .int .i64 0, .int .i64 0, .int .i64 0, .int .i64 0, .int .i64 0, .int .i64 0, .int .i64 0, .int .i64 0, .string ((⟨#[]⟩ : ByteArray)), .int .i64 0] 30) fun vw61 =>
                  StT (⟨vw60.heap.size, 0, none⟩ : Addr) 0 LiA29 r59 vw61 fun vw62 =>
                  Ld vw62 (⟨w.heap.size, 0, none⟩ : Addr) Value.string fun (x63 : ByteArray) =>
                  Ld vw62 ((⟨w.heap.size, 0, none⟩ : Addr).add 1) Slc.v fun (x64 : Slc) =>
                  Ld vw62 ((⟨w.heap.size, 0, none⟩ : Addr).add 2) Value.string fun (x65 : ByteArray) =>
                  C114 (some (⟨vw60.heap.size, 0, none⟩ : Addr)) (x63, x64, x65) vw62 (fun r66 vw67 =>
                    Br r66 (LdT vw67 (⟨vw60.heap.size, 0, none⟩ : Addr) 0 LiA29 fun (x68 : TyA29) =>
                      Nn x1 fun a69 =>
                      StT a69 0 LiA29 x68 vw67 fun vw70 =>
                      St vw70 (⟨vw3.heap.size, 0, none⟩ : Addr) (.int .i64 0) fun vw71 =>
                      CD112 (⟨vw3.heap.size, 0, none⟩ : Addr) none vw71 fun vw72 =>
                        Ld vw72 (⟨vw3.heap.size, 0, none⟩ : Addr) (Value.int .i64) fun (x73 : Int) =>
                        R x73 vw72) (St vw67 (⟨vw3.heap.size, 0, none⟩ : Addr) (.int .i64 0) fun vw74 =>
                      CD112 (⟨vw3.heap.size, 0, none⟩ : Addr) none vw74 fun vw75 =>
                        Ld vw75 (⟨vw3.heap.size, 0, none⟩ : Addr) (Value.int .i64) fun (x76 : Int) =>
                        R x76 vw75)) (S53P vw3 R))))))
def pl53 : DPlan := (.pre (.reg .seq) (.pre (.seq (.reg .seq) (.cond (.seq (.reg .seq) .leaf) .leaf)) (.pre (.seq (.reg .seq) (.cond (.seq (.reg .seq) .leaf) .leaf)) (.pre (.seq (.reg .seq) (.seq (.reg .seq) (.cond (.seq (.reg .seq) .leaf) .leaf))) (.here [4] (.seq (.reg .seq) (.seq (.seq (.reg .seq) (.block (.seq (.reg .seq) (.cond (.seq (.reg .seq) (.reg (.held [14] (.take 0 (.take 1 (.take 2 (.take 3 (.take 4 (.take 5 (.take 6 (.take 7 (.take 8 (.take 9 (.take 10 (.take 11 (.eff 12 none (.eff 13 none (.eff 14 (some [17]) (.take 15 (.take 16 (.eff 17 (some []) .done))))))))))))))))))))) (.seq (.reg .seq) (.cond (.seq (.reg .seq) (.reg (.held [21] (.take 0 (.take 1 (.take 2 (.take 3 (.take 4 (.take 5 (.take 6 (.take 7 (.take 8 (.take 9 (.take 10 (.take 11 (.take 12 (.take 13 (.take 14 (.take 15 (.take 16 (.take 17 (.take 18 (.take 19 (.take 20 (.eff 21 (some [24]) (.take 22 (.take 23 (.eff 24 (some []) .done)))))))))))))))))))))))))))) (.seq (.reg .seq) (.seq (.reg .seq) (.cond (.reg .seq) .leaf))))))))) (.seq (.reg .seq) .leaf))))))))
set_option maxRecDepth 100000 in
theorem T53 (x1 : Option Addr) (o2 : ByteArray × Slc × ByteArray) (w : World) (R : Int → World → Prop) (h : S53 x1 o2 w R) : C53 x1 (o2.1, o2.2.1, o2.2.2) w R := by
  have e : fnTD Tryd.prog FF MAY (fun _ _ => False) pl53 Tryd.f53 [.pointer x1, .agg #[.string o2.1, Slc.v o2.2.1, .string o2.2.2]] w [(.one (.int .i64))] (fun s w => R s w) = S53 x1 o2 w R := by kernel_rfl
  exact (fnD_calls okF okM Tryd.func53 (by kernel_rfl) (by kernel_rfl) (e.mpr h)).mono fun _ _ ⟨s, he, hR⟩ => ⟨s, he, hR⟩

/-- (*foliant/state.Machine).State -/
def S52 (x1 : Option Addr) (w : World) (R : (TyA29) → World → Prop) : Prop :=
  Nw w (.cells #[.int .i64 0, .int .i64 0, .int .i64 0, .int .i64 0, .int .i64 0, .int .i64 0, .int .i64 0, .int .i64 0, .int .i64 0, .int .i64 0, Slc.v ((⟨none, 0, 0⟩ : Slc)), .int .i64 0, .int .i64 0, .int .i64 0, .int .i64 0, .int .i64 0, .int .i64 0, .int .i64 0, .int .i64 0, .int .i64 0, .int .i64 0, .int .i64 0, .int .i64 0, .int .i64 0, .int .i64 0, .int .i64 0, .int .i64 0, .int .i64 0, .string ((⟨#[]⟩ : ByteArray)), .int .i64 0] 30) fun vw2 =>
  Br x1.isNone (StT (⟨w.heap.size, 0, none⟩ : Addr) 0 LiA29 ((0, 0, 0, 0, 0, 0, 0, 0, 0, 0, (⟨none, 0, 0⟩ : Slc), 0, 0, 0, 0, 0, 0, 0, 0, 0, 0, 0, 0, 0, 0, 0, 0, 0, (⟨#[]⟩ : ByteArray), 0) : TyA29) vw2 fun vw4 =>
    LdT vw4 (⟨w.heap.size, 0, none⟩ : Addr) 0 LiA29 fun (x5 : TyA29) =>
    R x5 vw4) (Nn x1 fun a6 =>
    LdT vw2 a6 0 LiA29 fun (x7 : TyA29) =>
    C110 x7 vw2 fun r8 vw9 =>
      StT (⟨w.heap.size, 0, none⟩ : Addr) 0 LiA29 r8 vw9 fun vw10 =>
      LdT vw10 (⟨w.heap.size, 0, none⟩ : Addr) 0 LiA29 fun (x11 : TyA29) =>
      R x11 vw10)
def pl52 : Plan := (.seq (.reg .seq) (.seq (.seq (.reg .seq) (.cond (.seq (.reg .seq) .leaf) .leaf)) (.seq (.reg .seq) .leaf)))
set_option maxRecDepth 100000 in
theorem T52 (x1 : Option Addr) (w : World) (R : (TyA29) → World → Prop) (h : S52 x1 w R) : C52 x1 w R := by
  have e : fnT Tryd.prog ⟨FF, MAY, (fun _ _ => False)⟩ pl52 Tryd.f52 [.pointer x1] w [(.agg [(.int .i64), (.int .i64), (.int .i64), (.int .i64), (.int .i64), (.int .i64), (.int .i64), (.int .i64), (.int .i64), (.int .i64), .slc, (.int .i64), (.int .i64), (.int .i64), (.int .i64), (.int .i64), (.int .i64), (.int .i64), (.int .i64), (.int .i64), (.int .i64), (.int .i64), (.int .i64), (.int .i64), (.int .i64), (.int .i64), (.int .i64), (.int .i64), .str, (.int .i64)])] (fun s w => R s w) = S52 x1 w R := by kernel_rfl
  exact (fn_calls okF okM Tryd.func52 (by kernel_rfl) (by kernel_rfl) (e.mpr h)).mono fun _ _ ⟨s, he, hR⟩ => ⟨s, he, hR⟩

/-- (*foliant/state.Machine).Depth -/
def S55 (x1 : Option Addr) (w : World) (R : Int → World → Prop) : Prop :=
  Br x1.isNone (R 0 w) (Nn x1 fun a2 =>
    Ld w (a2.add 30) Slc.v fun (x3 : Slc) =>
    R ((x3.len : Nat) : Int) w)
def pl55 : Plan := (.seq (.reg .seq) (.seq (.seq (.reg .seq) (.cond (.seq (.reg .seq) .leaf) .leaf)) (.seq (.reg .seq) .leaf)))
set_option maxRecDepth 100000 in
theorem T55 (x1 : Option Addr) (w : World) (R : Int → World → Prop) (h : S55 x1 w R) : C55 x1 w R := by
  have e : fnT Tryd.prog ⟨FF, MAY, (fun _ _ => False)⟩ pl55 Tryd.f55 [.pointer x1] w [(.one (.int .i64))] (fun s w => R s w) = S55 x1 w R := by kernel_rfl
  exact (fn_calls okF okM Tryd.func55 (by kernel_rfl) (by kernel_rfl) (e.mpr h)).mono fun _ _ ⟨s, he, hR⟩ => ⟨s, he, hR⟩

def S120L1 (s11 : Slc) (s22 : Slc) (R : Bool → World → Prop) (I5 : Int → World → Prop) (s3 : Int) (vw4 : World) : Prop :=
  Br (decide (s3 < ((s11.len : Nat) : Int))) (0 ≤ s3 ∧ s3 < (s11.len : Nat) ∧ Nn s11.p fun a6 =>
    Ld vw4.drew (a6.add ((s3).toNat * 1)) (Value.int .i64) fun (x7 : Int) =>
    0 ≤ s3 ∧ s3 < (s22.len : Nat) ∧ Nn s22.p fun a8 =>
    Ld vw4.drew (a8.add ((s3).toNat * 1)) (Value.int .i64) fun (x9 : Int) =>
    Br (x7 != x9) (R false vw4.drew) (I5 (IntKind.i64.wrap (s3 + 1)) vw4.drew)) (R true vw4)
/-- slices.Equal[[]int64,int64] -/
def S120 (s11 : Slc) (s22 : Slc) (w : World) (R : Bool → World → Prop) : Prop :=
  Br (((s11.len : Nat) : Int) != ((s22.len : Nat) : Int)) (R false w) (Lp (σ := Int) (S120L1 s11 s22 R) 0 w)
def pl120 : Plan := (.seq (.reg .seq) (.seq (.seq (.reg .seq) (.cond (.seq (.reg .seq) .leaf) .leaf)) (.seq (.seq (.reg .seq) (.block (.loop [(13, (.one (.int .i64)))] [0, 1, 12] (.seq (.reg .seq) (.seq (.cond .leaf .leaf) (.seq (.block (.seq (.reg .seq) (.seq (.reg .still) (.cond (.seq (.reg .seq) .leaf) .leaf)))) (.reg .seq))))))) (.seq (.reg .seq) .leaf))))
set_option maxRecDepth 100000 in
theorem T120 (s11 : Slc) (s22 : Slc) (w : World) (R : Bool → World → Prop) (h : S120 s11 s22 w R) : C120 s11 s22 w R := by
  have e : fnT Tryd.prog ⟨FF, MAY, (fun _ _ => False)⟩ pl120 Tryd.f120 [Slc.v s11, Slc.v s22] w [(.one .bool)] (fun s w => R s w) = S120 s11 s22 w R := by kernel_rfl
  exact (fn_calls okF okM Tryd.func120 (by kernel_rfl) (by kernel_rfl) (e.mpr h)).mono fun _ _ ⟨s, he, hR⟩ => ⟨s, he, hR⟩

/-- foliant/state.Same -/
def S57 (a1 : TyA29) (b2 : TyA29) (w : World) (R : Bool → World → Prop) : Prop :=
  Nw w (.cells (Sig.cells LiA29 a1).toArray 30) fun vw3 =>
  Nw vw3 (.cells (Sig.cells LiA29 b2).toArray 30) fun vw4 =>
  Ld vw4 (⟨w.heap.size, 0, none⟩ : Addr) (Value.int .i64) fun (x5 : Int) =>
  Ld vw4 ((⟨w.heap.size, 0, none⟩ : Addr).add 1) (Value.int .i64) fun (x6 : Int) =>
  Ld vw4 ((⟨w.heap.size, 0, none⟩ : Addr).add 2) (Value.int .i64) fun (x7 : Int) =>
  Ld vw4 ((⟨w.heap.size, 0, none⟩ : Addr).add 3) (Value.int .i64) fun (x8 : Int) =>
  Ld vw4 ((⟨w.heap.size, 0, none⟩ : Addr).add 4) (Value.int .i64) fun (x9 : Int) =>
  Ld vw4 ((⟨w.heap.size, 0, none⟩ : Addr).add 5) (Value.int .i64) fun (x10 : Int) =>
  Ld vw4 (⟨vw3.heap.size, 0, none⟩ : Addr) (Value.int .i64) fun (x11 : Int) =>
  Ld vw4 ((⟨vw3.heap.size, 0, none⟩ : Addr).add 1) (Value.int .i64) fun (x12 : Int) =>
  Ld vw4 ((⟨vw3.heap.size, 0, none⟩ : Addr).add 2) (Value.int .i64) fun (x13 : Int) =>
  Ld vw4 ((⟨vw3.heap.size, 0, none⟩ : Addr).add 3) (Value.int .i64) fun (x14 : Int) =>
  Ld vw4 ((⟨vw3.heap.size, 0, none⟩ : Addr).add 4) (Value.int .i64) fun (x15 : Int) =>
  Ld vw4 ((⟨vw3.heap.size, 0, none⟩ : Addr).add 5) (Value.int .i64) fun (x16 : Int) =>
  Lt (((x5 == x11) && ((x6 == x12) && ((x7 == x13) && ((x8 == x14) && ((x9 == x15) && ((x10 == x16) && true))))))) fun (x17 : Bool) =>
  Br x17 (Ld vw4 ((⟨w.heap.size, 0, none⟩ : Addr).add 6) (Value.int .i64) fun (x18 : Int) =>
    Ld vw4 ((⟨vw3.heap.size, 0, none⟩ : Addr).add 6) (Value.int .i64) fun (x19 : Int) =>
    Br (x18 == x19) (Ld vw4 ((⟨w.heap.size, 0, none⟩ : Addr).add 7) (Value.int .i64) fun (x20 : Int) =>
      Ld vw4 ((⟨vw3.heap.size, 0, none⟩ : Addr).add 7) (Value.int .i64) fun (x21 : Int) =>
      Br (x20 == x21) (Ld vw4 ((⟨w.heap.size, 0, none⟩ : Addr).add 8) (Value.int .i64) fun (x22 : Int) =>
        Ld vw4 ((⟨vw3.heap.size, 0, none⟩ : Addr).add 8) (Value.int .i64) fun (x23 : Int) =>
        Br (x22 == x23) (Ld vw4 ((⟨w.heap.size, 0, none⟩ : Addr).add 9) (Value.int .i64) fun (x24 : Int) =>
          Ld vw4 ((⟨vw3.heap.size, 0, none⟩ : Addr).add 9) (Value.int .i64) fun (x25 : Int) =>
          Br (x24 == x25) (Ld vw4 ((⟨w.heap.size, 0, none⟩ : Addr).add 10) Slc.v fun (x26 : Slc) =>
            Ld vw4 ((⟨vw3.heap.size, 0, none⟩ : Addr).add 10) Slc.v fun (x27 : Slc) =>
            C120 x26 x27 vw4 fun r28 vw29 =>
              Br r28 (Ld vw29 ((⟨w.heap.size, 0, none⟩ : Addr).add 11) (Value.int .i64) fun (x30 : Int) =>
                Ld vw29 ((⟨vw3.heap.size, 0, none⟩ : Addr).add 11) (Value.int .i64) fun (x31 : Int) =>
                Br (x30 == x31) (Ld vw29 ((⟨w.heap.size, 0, none⟩ : Addr).add 12) (Value.int .i64) fun (x32 : Int) =>
                  Ld vw29 (((⟨w.heap.size, 0, none⟩ : Addr).add 12).add 1) (Value.int .i64) fun (x33 : Int) =>
                  Ld vw29 (((⟨w.heap.size, 0, none⟩ : Addr).add 12).add 2) (Value.int .i64) fun (x34 : Int) =>
                  Ld vw29 (((⟨w.heap.size, 0, none⟩ : Addr).add 12).add 3) (Value.int .i64) fun (x35 : Int) =>
                  Ld vw29 (((⟨w.heap.size, 0, none⟩ : Addr).add 12).add 4) (Value.int .i64) fun (x36 : Int) =>
                  Ld vw29 ((⟨vw3.heap.size, 0, none⟩ : Addr).add 12) (Value.int .i64) fun (x37 : Int) =>
                  Ld vw29 (((⟨vw3.heap.size, 0, none⟩ : Addr).add 12).add 1) (Value.int .i64) fun (x38 : Int) =>
                  Ld vw29 (((⟨vw3.heap.size, 0, none⟩ : Addr).add 12).add 2) (Value.int .i64) fun (x39 : Int) =>
                  Ld vw29 (((⟨vw3.heap.size, 0, none⟩ : Addr).add 12).add 3) (Value.int .i64) fun (x40 : Int) =>
                  Ld vw29 (((⟨vw3.heap.size, 0, none⟩ : Addr).add 12).add 4) (Value.int .i64) fun (x41 : Int) =>
                  Lt (((x32 == x37) && ((x33 == x38) && ((x34 == x39) && ((x35 == x40) && ((x36 == x41) && true)))))) fun (x42 : Bool) =>
                  Br x42 (Ld vw29 ((⟨w.heap.size, 0, none⟩ : Addr).add 17) (Value.int .i64) fun (x43 : Int) =>
                    Ld vw29 (((⟨w.heap.size, 0, none⟩ : Addr).add 17).add 1) (Value.int .i64) fun (x44 : Int) =>
                    Ld vw29 (((⟨w.heap.size, 0, none⟩ : Addr).add 17).add 2) (Value.int .i64) fun (x45 : Int) =>
                    Ld vw29 (((⟨w.heap.size, 0, none⟩ : Addr).add 17).add 3) (Value.int .i64) fun (x46 : Int) =>
                    Ld vw29 (((⟨w.heap.size, 0, none⟩ : Addr).add 17).add 4) (Value.int .i64) fun (x47 : Int) =>
                    Ld vw29 ((⟨vw3.heap.size, 0, none⟩ : Addr).add 17) (Value.int .i64) fun (x48 : Int) =>
                    Ld vw29 (((⟨vw3.heap.size, 0, none⟩ : Addr).add 17).add 1) (Value.int .i64) fun (x49 : Int) =>
                    Ld vw29 (((⟨vw3.heap.size, 0, none⟩ : Addr).add 17).add 2) (Value.int .i64) fun (x50 : Int) =>
                    Ld vw29 (((⟨vw3.heap.size, 0, none⟩ : Addr).add 17).add 3) (Value.int .i64) fun (x51 : Int) =>
                    Ld vw29 (((⟨vw3.heap.size, 0, none⟩ : Addr).add 17).add 4) (Value.int .i64) fun (x52 : Int) =>
                    Lt (((x43 == x48) && ((x44 == x49) && ((x45 == x50) && ((x46 == x51) && ((x47 == x52) && true)))))) fun (x53 : Bool) =>
                    Br x53 (Ld vw29 ((⟨w.heap.size, 0, none⟩ : Addr).add 22) (Value.int .i64) fun (x54 : Int) =>
                      Ld vw29 (((⟨w.heap.size, 0, none⟩ : Addr).add 22).add 1) (Value.int .i64) fun (x55 : Int) =>
                      Ld vw29 (((⟨w.heap.size, 0, none⟩ : Addr).add 22).add 2) (Value.int .i64) fun (x56 : Int) =>
                      Ld vw29 (((⟨w.heap.size, 0, none⟩ : Addr).add 22).add 3) (Value.int .i64) fun (x57 : Int) =>
                      Ld vw29 (((⟨w.heap.size, 0, none⟩ : Addr).add 22).add 4) (Value.int .i64) fun (x58 : Int) =>
                      Ld vw29 (((⟨w.heap.size, 0, none⟩ : Addr).add 22).add 5) (Value.int .i64) fun (x59 : Int) =>
                      Ld vw29 (((⟨w.heap.size, 0, none⟩ : Addr).add 22).add 6) Value.string fun (x60 : ByteArray) =>
                      Ld vw29 (((⟨w.heap.size, 0, none⟩ : Addr).add 22).add 7) (Value.int .i64) fun (x61 : Int) =>
                      Ld vw29 ((⟨vw3.heap.size, 0, none⟩ : Addr).add 22) (Value.int .i64) fun (x62 : Int) =>
                      Ld vw29 (((⟨vw3.heap.size, 0, none⟩ : Addr).add 22).add 1) (Value.int .i64) fun (x63 : Int) =>
                      Ld vw29 (((⟨vw3.heap.size, 0, none⟩ : Addr).add 22).add 2) (Value.int .i64) fun (x64 : Int) =>
                      Ld vw29 (((⟨vw3.heap.size, 0, none⟩ : Addr).add 22).add 3) (Value.int .i64) fun (x65 : Int) =>
                      Ld vw29 (((⟨vw3.heap.size, 0, none⟩ : Addr).add 22).add 4) (Value.int .i64) fun (x66 : Int) =>
                      Ld vw29 (((⟨vw3.heap.size, 0, none⟩ : Addr).add 22).add 5) (Value.int .i64) fun (x67 : Int) =>
                      Ld vw29 (((⟨vw3.heap.size, 0, none⟩ : Addr).add 22).add 6) Value.string fun (x68 : ByteArray) =>
                      Ld vw29 (((⟨vw3.heap.size, 0, none⟩ : Addr).add 22).add 7) (Value.int .i64) fun (x69 : Int) =>
                      Lt (((x54 == x62) && ((x55 == x63) && ((x56 == x64) && ((x57 == x65) && ((x58 == x66) && ((x59 == x67) && ((x60.toList == x68.toList) && ((x61 == x69) && true))))))))) fun (x70 : Bool) =>
                      R x70 vw29) (R false vw29)) (R false vw29)) (R false vw29)) (R false vw29)) (R false vw4)) (R false vw4)) (R false vw4)) (R false vw4)) (R false vw4)
def pl57 : Plan := (.seq (.reg .seq) (.seq (.reg .seq) .leaf))
set_option maxRecDepth 100000 in
theorem T57 (a1 : TyA29) (b2 : TyA29) (w : World) (R : Bool → World → Prop) (h : S57 a1 b2 w R) : C57 a1 b2 w R := by
  have e : fnT Tryd.prog ⟨FF, MAY, (fun _ _ => False)⟩ pl57 Tryd.f57 [.agg (Sig.cells LiA29 a1).toArray, .agg (Sig.cells LiA29 b2).toArray] w [(.one .bool)] (fun s w => R s w) = S57 a1 b2 w R := by kernel_rfl
  exact (fn_calls okF okM Tryd.func57 (by kernel_rfl) (by kernel_rfl) (e.mpr h)).mono fun _ _ ⟨s, he, hR⟩ => ⟨s, he, hR⟩

def S115L1 (w : World) (name1 : ByteArray) (R : Bool → World → Prop) (I34 : Int → World → Prop) (s32 : Int) (vw33 : World) : Prop :=
  Br (decide (s32 < 29)) (0 ≤ s32 ∧ s32 < (29 : Nat) ∧ Ld vw33 ((⟨w.heap.size, 0, none⟩ : Addr).add ((s32).toNat * 1)) Value.string fun (x35 : ByteArray) =>
    Br (x35.toList == name1.toList) (Br (!(name1.toList == (⟨#[]⟩ : ByteArray).toList)) (R true vw33) (I34 (IntKind.i64.wrap (s32 + 1)) vw33)) (I34 (IntKind.i64.wrap (s32 + 1)) vw33)) (R false vw33)
/-- foliant/foliantref44.Known -/
def S115 (name1 : ByteArray) (w : World) (R : Bool → World → Prop) : Prop :=
  Nw w (.cells #[.string ((⟨#[]⟩ : ByteArray)), .string ((⟨#[]⟩ : ByteArray)), .string ((⟨#[]⟩ : ByteArray)), .string ((⟨#[]⟩ : ByteArray)), .string ((⟨#[]⟩ : ByteArray)), .string ((⟨#[]⟩ : ByteArray)), .string ((⟨#[]⟩ : ByteArray)), .string ((⟨#[]⟩ : ByteArray)), .string ((⟨#[]⟩ : ByteArray)), .string ((⟨#[]⟩ : ByteArray)), .string ((⟨#[]⟩ : ByteArray)), .string ((⟨#[]⟩ : ByteArray)), .string ((⟨#[]⟩ : ByteArray)), .string ((⟨#[]⟩ : ByteArray)), .string ((⟨#[]⟩ : ByteArray)), .string ((⟨#[]⟩ : ByteArray)), .string ((⟨#[]⟩ : ByteArray)), .string ((⟨#[]⟩ : ByteArray)), .string ((⟨#[]⟩ : ByteArray)), .string ((⟨#[]⟩ : ByteArray)), .string ((⟨#[]⟩ : ByteArray)), .string ((⟨#[]⟩ : ByteArray)), .string ((⟨#[]⟩ : ByteArray)), .string ((⟨#[]⟩ : ByteArray)), .string ((⟨#[]⟩ : ByteArray)), .string ((⟨#[]⟩ : ByteArray)), .string ((⟨#[]⟩ : ByteArray)), .string ((⟨#[]⟩ : ByteArray)), .string ((⟨#[]⟩ : ByteArray))] 237) fun vw2 =>
  St vw2 (⟨w.heap.size, 0, none⟩ : Addr) (.string ((⟨#[113]⟩ : ByteArray))) fun vw3 =>
  St vw3 ((⟨w.heap.size, 0, none⟩ : Addr).add 1) (.string ((⟨#[81]⟩ : ByteArray))) fun vw4 =>
  St vw4 ((⟨w.heap.size, 0, none⟩ : Addr).add 2) (.string ((⟨#[99, 109]⟩ : ByteArray))) fun vw5 =>
  St vw5 ((⟨w.heap.size, 0, none⟩ : Addr).add 3) (.string ((⟨#[119]⟩ : ByteArray))) fun vw6 =>
  St vw6 ((⟨w.heap.size, 0, none⟩ : Addr).add 4) (.string ((⟨#[74]⟩ : ByteArray))) fun vw7 =>
  St vw7 ((⟨w.heap.size, 0, none⟩ : Addr).add 5) (.string ((⟨#[106]⟩ : ByteArray))) fun vw8 =>
  St vw8 ((⟨w.heap.size, 0, none⟩ : Addr).add 6) (.string ((⟨#[77]⟩ : ByteArray))) fun vw9 =>
  St vw9 ((⟨w.heap.size, 0, none⟩ : Addr).add 7) (.string ((⟨#[100]⟩ : ByteArray))) fun vw10 =>
  St vw10 ((⟨w.heap.size, 0, none⟩ : Addr).add 8) (.string ((⟨#[114, 105]⟩ : ByteArray))) fun vw11 =>
  St vw11 ((⟨w.heap.size, 0, none⟩ : Addr).add 9) (.string ((⟨#[105]⟩ : ByteArray))) fun vw12 =>
  St vw12 ((⟨w.heap.size, 0, none⟩ : Addr).add 10) (.string ((⟨#[103, 115]⟩ : ByteArray))) fun vw13 =>
  St vw13 ((⟨w.heap.size, 0, none⟩ : Addr).add 11) (.string ((⟨#[103]⟩ : ByteArray))) fun vw14 =>
  St vw14 ((⟨w.heap.size, 0, none⟩ : Addr).add 12) (.string ((⟨#[71]⟩ : ByteArray))) fun vw15 =>
  St vw15 ((⟨w.heap.size, 0, none⟩ : Addr).add 13) (.string ((⟨#[114, 103]⟩ : ByteArray))) fun vw16 =>
  St vw16 ((⟨w.heap.size, 0, none⟩ : Addr).add 14) (.string ((⟨#[82, 71]⟩ : ByteArray))) fun vw17 =>
  St vw17 ((⟨w.heap.size, 0, none⟩ : Addr).add 15) (.string ((⟨#[107]⟩ : ByteArray))) fun vw18 =>
  St vw18 ((⟨w.heap.size, 0, none⟩ : Addr).add 16) (.string ((⟨#[75]⟩ : ByteArray))) fun vw19 =>
  St vw19 ((⟨w.heap.size, 0, none⟩ : Addr).add 17) (.string ((⟨#[84, 99]⟩ : ByteArray))) fun vw20 =>
  St vw20 ((⟨w.heap.size, 0, none⟩ : Addr).add 18) (.string ((⟨#[84, 119]⟩ : ByteArray))) fun vw21 =>
  St vw21 ((⟨w.heap.size, 0, none⟩ : Addr).add 19) (.string ((⟨#[84, 122]⟩ : ByteArray))) fun vw22 =>
  St vw22 ((⟨w.heap.size, 0, none⟩ : Addr).add 20) (.string ((⟨#[84, 76]⟩ : ByteArray))) fun vw23 =>
  St vw23 ((⟨w.heap.size, 0, none⟩ : Addr).add 21) (.string ((⟨#[84, 102]⟩ : ByteArray))) fun vw24 =>
  St vw24 ((⟨w.heap.size, 0, none⟩ : Addr).add 22) (.string ((⟨#[84, 114]⟩ : ByteArray))) fun vw25 =>
  St vw25 ((⟨w.heap.size, 0, none⟩ : Addr).add 23) (.string ((⟨#[84, 115]⟩ : ByteArray))) fun vw26 =>
  St vw26 ((⟨w.heap.size, 0, none⟩ : Addr).add 24) (.string ((⟨#[]⟩ : ByteArray))) fun vw27 =>
  St vw27 ((⟨w.heap.size, 0, none⟩ : Addr).add 25) (.string ((⟨#[]⟩ : ByteArray))) fun vw28 =>
  St vw28 ((⟨w.heap.size, 0, none⟩ : Addr).add 26) (.string ((⟨#[]⟩ : ByteArray))) fun vw29 =>
  St vw29 ((⟨w.heap.size, 0, none⟩ : Addr).add 27) (.string ((⟨#[]⟩ : ByteArray))) fun vw30 =>
  St vw30 ((⟨w.heap.size, 0, none⟩ : Addr).add 28) (.string ((⟨#[]⟩ : ByteArray))) fun vw31 =>
  Lp (σ := Int) (S115L1 w name1 R) 0 vw31
def pl115 : Plan := (.seq (.reg .seq) (.seq (.reg .seq) (.seq (.seq (.reg .seq) (.block (.loop [(4, (.one (.int .i64)))] [0, 3] (.seq (.seq (.reg .seq) (.cond .leaf .leaf)) (.seq (.block (.seq (.reg .seq) (.cond (.seq (.reg .seq) .leaf) .leaf))) (.reg .seq)))))) (.seq (.reg .seq) .leaf))))
set_option maxRecDepth 100000 in
theorem T115 (name1 : ByteArray) (w : World) (R : Bool → World → Prop) (h : S115 name1 w R) : C115 name1 w R := by
  have e : fnT Tryd.prog ⟨FF, MAY, (fun _ _ => False)⟩ pl115 Tryd.f115 [.string name1] w [(.one .bool)] (fun s w => R s w) = S115 name1 w R := by kernel_rfl
  exact (fn_calls okF okM Tryd.func115 (by kernel_rfl) (by kernel_rfl) (e.mpr h)).mono fun _ _ ⟨s, he, hR⟩ => ⟨s, he, hR⟩

def S116L1 (w : World) (R : Slc → Bool → World → Prop) (I5 : (Slc × Int) → World → Prop) (s3 : Slc × Int) (vw4 : World) : Prop :=
  Ld vw4 ((⟨w.heap.size, 0, none⟩ : Addr).add 1) Slc.v fun (x7 : Slc) =>
  Br (decide (s3.2 < ((x7.len : Nat) : Int))) (Ld vw4 ((⟨w.heap.size, 0, none⟩ : Addr).add 1) Slc.v fun (x14 : Slc) =>
    0 ≤ s3.2 ∧ s3.2 < (x14.len : Nat) ∧ Nn x14.p fun a15 =>
    Ld vw4 (a15.add ((s3.2).toNat * 6)) (Value.int .i64) fun (x16 : Int) =>
    Br (x16 != 2) (Ld vw4 ((⟨w.heap.size, 0, none⟩ : Addr).add 1) Slc.v fun (x17 : Slc) =>
      0 ≤ s3.2 ∧ s3.2 < (x17.len : Nat) ∧ Nn x17.p fun a18 =>
      Ld vw4 (a18.add ((s3.2).toNat * 6)) (Value.int .i64) fun (x19 : Int) =>
      Br (x19 != 3) (I5 (s3.1, IntKind.i64.wrap (s3.2 + 1)) vw4) (Ld vw4 ((⟨w.heap.size, 0, none⟩ : Addr).add 1) Slc.v fun (x20 : Slc) =>
        0 ≤ s3.2 ∧ s3.2 < (x20.len : Nat) ∧ Nn x20.p fun a21 =>
        Ld vw4 (a21.add ((s3.2).toNat * 6)) (Value.int .i64) fun (x22 : Int) =>
        Ld vw4 ((a21.add ((s3.2).toNat * 6)).add 1) (Value.int .i64) fun (x23 : Int) =>
        Ld vw4 ((a21.add ((s3.2).toNat * 6)).add 2) (Value.int .i64) fun (x24 : Int) =>
        Ld vw4 ((a21.add ((s3.2).toNat * 6)).add 3) Value.string fun (x25 : ByteArray) =>
        Ld vw4 ((a21.add ((s3.2).toNat * 6)).add 4) Slc.v fun (x26 : Slc) =>
        Ld vw4 ((a21.add ((s3.2).toNat * 6)).add 5) Slc.v fun (x27 : Slc) =>
        C157 (x22, x23, x24, x25, x26, x27) vw4 fun r28 r29 vw30 =>
          Br (!r29) (R (⟨none, 0, 0⟩ : Slc) false vw30) (Nw vw30 (.cells #[.int .i64 r28] 2) fun vw31 =>
            Rn Tryd.prog (Builtin.append_ #[24, 24] 24 #[Slc.v s3.1, Slc.v ((⟨some ⟨vw30.heap.size, 0, none⟩, 1, 1⟩ : Slc))]) vw31 Slc.v fun (x32 : Slc) vw33 =>
            I5 (x32, IntKind.i64.wrap (s3.2 + 1)) vw33))) (Ld vw4 ((⟨w.heap.size, 0, none⟩ : Addr).add 1) Slc.v fun (x34 : Slc) =>
      0 ≤ s3.2 ∧ s3.2 < (x34.len : Nat) ∧ Nn x34.p fun a35 =>
      Ld vw4 (a35.add ((s3.2).toNat * 6)) (Value.int .i64) fun (x36 : Int) =>
      Ld vw4 ((a35.add ((s3.2).toNat * 6)).add 1) (Value.int .i64) fun (x37 : Int) =>
      Ld vw4 ((a35.add ((s3.2).toNat * 6)).add 2) (Value.int .i64) fun (x38 : Int) =>
      Ld vw4 ((a35.add ((s3.2).toNat * 6)).add 3) Value.string fun (x39 : ByteArray) =>
      Ld vw4 ((a35.add ((s3.2).toNat * 6)).add 4) Slc.v fun (x40 : Slc) =>
      Ld vw4 ((a35.add ((s3.2).toNat * 6)).add 5) Slc.v fun (x41 : Slc) =>
      C157 (x36, x37, x38, x39, x40, x41) vw4 fun r42 r43 vw44 =>
        Br (!r43) (R (⟨none, 0, 0⟩ : Slc) false vw44) (Nw vw44 (.cells #[.int .i64 r42] 2) fun vw45 =>
          Rn Tryd.prog (Builtin.append_ #[24, 24] 24 #[Slc.v s3.1, Slc.v ((⟨some ⟨vw44.heap.size, 0, none⟩, 1, 1⟩ : Slc))]) vw45 Slc.v fun (x46 : Slc) vw47 =>
          I5 (x46, IntKind.i64.wrap (s3.2 + 1)) vw47))) (R s3.1 true vw4)
/-- foliant/foliantref44.numbers -/
def S116 (o1 : ByteArray × Slc × ByteArray) (w : World) (R : Slc → Bool → World → Prop) : Prop :=
  Nw w (.cells #[.string o1.1, Slc.v o1.2.1, .string o1.2.2] 63) fun vw2 =>
  Lp (σ := Slc × Int) (S116L1 w R) ((⟨none, 0, 0⟩ : Slc), 0) vw2
def pl116 : Plan := (.seq (.reg .seq) (.seq (.reg .seq) (.seq (.seq (.reg .seq) (.block (.loop [(4, (.one .slc)), (5, (.one (.int .i64)))] [1] (.seq (.seq (.reg .seq) (.cond .leaf .leaf)) (.seq (.block (.seq (.seq (.reg .seq) (.cond .leaf .leaf)) (.seq (.reg .seq) (.seq (.seq (.reg .seq) (.cond (.seq (.reg .seq) .leaf) .leaf)) (.reg .seq))))) (.reg .seq)))))) (.seq (.reg .seq) .leaf))))
set_option maxRecDepth 100000 in
theorem T116 (o1 : ByteArray × Slc × ByteArray) (w : World) (R : Slc → Bool → World → Prop) (h : S116 o1 w R) : C116 (o1.1, o1.2.1, o1.2.2) w R := by
  have e : fnT Tryd.prog ⟨FF, MAY, (fun _ _ => False)⟩ pl116 Tryd.f116 [.agg #[.string o1.1, Slc.v o1.2.1, .string o1.2.2]] w [(.one .slc), (.one .bool)] (fun s w => R s.1 s.2 w) = S116 o1 w R := by kernel_rfl
  exact (fn_calls okF okM Tryd.func116 (by kernel_rfl) (by kernel_rfl) (e.mpr h)).mono fun _ _ ⟨s, he, hR⟩ => ⟨s.1, s.2, he, hR⟩

/-- foliant/foliantref44.whole -/
def S170 (n1 : Int) (most2 : Int) (w : World) (R : Bool → World → Prop) : Prop :=
  Br (decide (n1 ≥ 0)) (Br ((Int.tmod n1 10000) == 0) (R (decide ((IntKind.i64.wrap (Int.tdiv n1 10000)) ≤ most2)) w) (R false w)) (R false w)
def pl170 : Plan := (.seq (.reg .seq) (.seq (.reg .seq) .leaf))
set_option maxRecDepth 100000 in
theorem T170 (n1 : Int) (most2 : Int) (w : World) (R : Bool → World → Prop) (h : S170 n1 most2 w R) : C170 n1 most2 w R := by
  have e : fnT Tryd.prog ⟨FF, MAY, (fun _ _ => False)⟩ pl170 Tryd.f170 [.int .i64 n1, .int .i64 most2] w [(.one .bool)] (fun s w => R s w) = S170 n1 most2 w R := by kernel_rfl
  exact (fn_calls okF okM Tryd.func170 (by kernel_rfl) (by kernel_rfl) (e.mpr h)).mono fun _ _ ⟨s, he, hR⟩ => ⟨s, he, hR⟩

/-- foliant/foliantref44.text -/
def S117 (t1 : Int × Int × Int × Int × Int × Int × ByteArray × Int) (o2 : ByteArray × Slc × ByteArray) (n3 : Slc) (w : World) (R : (Int × Int × Int × Int × Int × Int × ByteArray × Int) → Bool → Int → World → Prop) : Prop :=
  Nw w (.cells #[.int .i64 (t1.1), .int .i64 (t1.2.1), .int .i64 (t1.2.2.1), .int .i64 (t1.2.2.2.1), .int .i64 (t1.2.2.2.2.1), .int .i64 (t1.2.2.2.2.2.1), .string t1.2.2.2.2.2.2.1, .int .i64 (t1.2.2.2.2.2.2.2)] 28) fun vw4 =>
  Nw vw4 (.cells #[.string o2.1, Slc.v o2.2.1, .string o2.2.2] 63) fun vw5 =>
  Nw vw5 (.cells #[.int .i64 0, .int .i64 0, .int .i64 0, .int .i64 0, .int .i64 0, .int .i64 0, .string ((⟨#[]⟩ : ByteArray)), .int .i64 0] 28) fun vw6 =>
  Ld vw6 (⟨vw4.heap.size, 0, none⟩ : Addr) Value.string fun (x7 : ByteArray) =>
  Br (x7.toList == (⟨#[84, 99]⟩ : ByteArray).toList) (0 ≤ (0 : Int) ∧ (0 : Int) < (n3.len : Nat) ∧ Nn n3.p fun a8 =>
    Ld vw6 (a8.add (((0 : Int)).toNat * 1)) (Value.int .i64) fun (x9 : Int) =>
    St vw6 (⟨w.heap.size, 0, none⟩ : Addr) (.int .i64 x9) fun vw10 =>
    Ld vw10 (⟨w.heap.size, 0, none⟩ : Addr) (Value.int .i64) fun (x11 : Int) =>
    Ld vw10 ((⟨w.heap.size, 0, none⟩ : Addr).add 1) (Value.int .i64) fun (x12 : Int) =>
    Ld vw10 ((⟨w.heap.size, 0, none⟩ : Addr).add 2) (Value.int .i64) fun (x13 : Int) =>
    Ld vw10 ((⟨w.heap.size, 0, none⟩ : Addr).add 3) (Value.int .i64) fun (x14 : Int) =>
    Ld vw10 ((⟨w.heap.size, 0, none⟩ : Addr).add 4) (Value.int .i64) fun (x15 : Int) =>
    Ld vw10 ((⟨w.heap.size, 0, none⟩ : Addr).add 5) (Value.int .i64) fun (x16 : Int) =>
    Ld vw10 ((⟨w.heap.size, 0, none⟩ : Addr).add 6) Value.string fun (x17 : ByteArray) =>
    Ld vw10 ((⟨w.heap.size, 0, none⟩ : Addr).add 7) (Value.int .i64) fun (x18 : Int) =>
    St vw10 (⟨vw5.heap.size, 0, none⟩ : Addr) (.int .i64 x11) fun vw19 =>
    St vw19 ((⟨vw5.heap.size, 0, none⟩ : Addr).add 1) (.int .i64 x12) fun vw20 =>
    St vw20 ((⟨vw5.heap.size, 0, none⟩ : Addr).add 2) (.int .i64 x13) fun vw21 =>
    St vw21 ((⟨vw5.heap.size, 0, none⟩ : Addr).add 3) (.int .i64 x14) fun vw22 =>
    St vw22 ((⟨vw5.heap.size, 0, none⟩ : Addr).add 4) (.int .i64 x15) fun vw23 =>
    St vw23 ((⟨vw5.heap.size, 0, none⟩ : Addr).add 5) (.int .i64 x16) fun vw24 =>
    St vw24 ((⟨vw5.heap.size, 0, none⟩ : Addr).add 6) (.string x17) fun vw25 =>
    St vw25 ((⟨vw5.heap.size, 0, none⟩ : Addr).add 7) (.int .i64 x18) fun vw26 =>
    Ld vw26 (⟨vw5.heap.size, 0, none⟩ : Addr) (Value.int .i64) fun (x27 : Int) =>
    Ld vw26 ((⟨vw5.heap.size, 0, none⟩ : Addr).add 1) (Value.int .i64) fun (x28 : Int) =>
    Ld vw26 ((⟨vw5.heap.size, 0, none⟩ : Addr).add 2) (Value.int .i64) fun (x29 : Int) =>
    Ld vw26 ((⟨vw5.heap.size, 0, none⟩ : Addr).add 3) (Value.int .i64) fun (x30 : Int) =>
    Ld vw26 ((⟨vw5.heap.size, 0, none⟩ : Addr).add 4) (Value.int .i64) fun (x31 : Int) =>
    Ld vw26 ((⟨vw5.heap.size, 0, none⟩ : Addr).add 5) (Value.int .i64) fun (x32 : Int) =>
    Ld vw26 ((⟨vw5.heap.size, 0, none⟩ : Addr).add 6) Value.string fun (x33 : ByteArray) =>
    Ld vw26 ((⟨vw5.heap.size, 0, none⟩ : Addr).add 7) (Value.int .i64) fun (x34 : Int) =>
    R (x27, x28, x29, x30, x31, x32, x33, x34) true 0 vw26) (Br (x7.toList == (⟨#[84, 119]⟩ : ByteArray).toList) (0 ≤ (0 : Int) ∧ (0 : Int) < (n3.len : Nat) ∧ Nn n3.p fun a35 =>
      Ld vw6 (a35.add (((0 : Int)).toNat * 1)) (Value.int .i64) fun (x36 : Int) =>
      St vw6 ((⟨w.heap.size, 0, none⟩ : Addr).add 1) (.int .i64 x36) fun vw37 =>
      Ld vw37 (⟨w.heap.size, 0, none⟩ : Addr) (Value.int .i64) fun (x38 : Int) =>
      Ld vw37 ((⟨w.heap.size, 0, none⟩ : Addr).add 1) (Value.int .i64) fun (x39 : Int) =>
      Ld vw37 ((⟨w.heap.size, 0, none⟩ : Addr).add 2) (Value.int .i64) fun (x40 : Int) =>
      Ld vw37 ((⟨w.heap.size, 0, none⟩ : Addr).add 3) (Value.int .i64) fun (x41 : Int) =>
      Ld vw37 ((⟨w.heap.size, 0, none⟩ : Addr).add 4) (Value.int .i64) fun (x42 : Int) =>
      Ld vw37 ((⟨w.heap.size, 0, none⟩ : Addr).add 5) (Value.int .i64) fun (x43 : Int) =>
      Ld vw37 ((⟨w.heap.size, 0, none⟩ : Addr).add 6) Value.string fun (x44 : ByteArray) =>
      Ld vw37 ((⟨w.heap.size, 0, none⟩ : Addr).add 7) (Value.int .i64) fun (x45 : Int) =>
      St vw37 (⟨vw5.heap.size, 0, none⟩ : Addr) (.int .i64 x38) fun vw46 =>
      St vw46 ((⟨vw5.heap.size, 0, none⟩ : Addr).add 1) (.int .i64 x39) fun vw47 =>
      St vw47 ((⟨vw5.heap.size, 0, none⟩ : Addr).add 2) (.int .i64 x40) fun vw48 =>
      St vw48 ((⟨vw5.heap.size, 0, none⟩ : Addr).add 3) (.int .i64 x41) fun vw49 =>
      St vw49 ((⟨vw5.heap.size, 0, none⟩ : Addr).add 4) (.int .i64 x42) fun vw50 =>
      St vw50 ((⟨vw5.heap.size, 0, none⟩ : Addr).add 5) (.int .i64 x43) fun vw51 =>
      St vw51 ((⟨vw5.heap.size, 0, none⟩ : Addr).add 6) (.string x44) fun vw52 =>
      St vw52 ((⟨vw5.heap.size, 0, none⟩ : Addr).add 7) (.int .i64 x45) fun vw53 =>
      Ld vw53 (⟨vw5.heap.size, 0, none⟩ : Addr) (Value.int .i64) fun (x54 : Int) =>
      Ld vw53 ((⟨vw5.heap.size, 0, none⟩ : Addr).add 1) (Value.int .i64) fun (x55 : Int) =>
      Ld vw53 ((⟨vw5.heap.size, 0, none⟩ : Addr).add 2) (Value.int .i64) fun (x56 : Int) =>
      Ld vw53 ((⟨vw5.heap.size, 0, none⟩ : Addr).add 3) (Value.int .i64) fun (x57 : Int) =>
      Ld vw53 ((⟨vw5.heap.size, 0, none⟩ : Addr).add 4) (Value.int .i64) fun (x58 : Int) =>
      Ld vw53 ((⟨vw5.heap.size, 0, none⟩ : Addr).add 5) (Value.int .i64) fun (x59 : Int) =>
      Ld vw53 ((⟨vw5.heap.size, 0, none⟩ : Addr).add 6) Value.string fun (x60 : ByteArray) =>
      Ld vw53 ((⟨vw5.heap.size, 0, none⟩ : Addr).add 7) (Value.int .i64) fun (x61 : Int) =>
      R (x54, x55, x56, x57, x58, x59, x60, x61) true 0 vw53) (Br (x7.toList == (⟨#[84, 122]⟩ : ByteArray).toList) (0 ≤ (0 : Int) ∧ (0 : Int) < (n3.len : Nat) ∧ Nn n3.p fun a62 =>
        Ld vw6 (a62.add (((0 : Int)).toNat * 1)) (Value.int .i64) fun (x63 : Int) =>
        St vw6 ((⟨w.heap.size, 0, none⟩ : Addr).add 2) (.int .i64 x63) fun vw64 =>
        Ld vw64 (⟨w.heap.size, 0, none⟩ : Addr) (Value.int .i64) fun (x65 : Int) =>
        Ld vw64 ((⟨w.heap.size, 0, none⟩ : Addr).add 1) (Value.int .i64) fun (x66 : Int) =>
        Ld vw64 ((⟨w.heap.size, 0, none⟩ : Addr).add 2) (Value.int .i64) fun (x67 : Int) =>
        Ld vw64 ((⟨w.heap.size, 0, none⟩ : Addr).add 3) (Value.int .i64) fun (x68 : Int) =>
        Ld vw64 ((⟨w.heap.size, 0, none⟩ : Addr).add 4) (Value.int .i64) fun (x69 : Int) =>
        Ld vw64 ((⟨w.heap.size, 0, none⟩ : Addr).add 5) (Value.int .i64) fun (x70 : Int) =>
        Ld vw64 ((⟨w.heap.size, 0, none⟩ : Addr).add 6) Value.string fun (x71 : ByteArray) =>
        Ld vw64 ((⟨w.heap.size, 0, none⟩ : Addr).add 7) (Value.int .i64) fun (x72 : Int) =>
        St vw64 (⟨vw5.heap.size, 0, none⟩ : Addr) (.int .i64 x65) fun vw73 =>
        St vw73 ((⟨vw5.heap.size, 0, none⟩ : Addr).add 1) (.int .i64 x66) fun vw74 =>
        St vw74 ((⟨vw5.heap.size, 0, none⟩ : Addr).add 2) (.int .i64 x67) fun vw75 =>
        St vw75 ((⟨vw5.heap.size, 0, none⟩ : Addr).add 3) (.int .i64 x68) fun vw76 =>
        St vw76 ((⟨vw5.heap.size, 0, none⟩ : Addr).add 4) (.int .i64 x69) fun vw77 =>
        St vw77 ((⟨vw5.heap.size, 0, none⟩ : Addr).add 5) (.int .i64 x70) fun vw78 =>
        St vw78 ((⟨vw5.heap.size, 0, none⟩ : Addr).add 6) (.string x71) fun vw79 =>
        St vw79 ((⟨vw5.heap.size, 0, none⟩ : Addr).add 7) (.int .i64 x72) fun vw80 =>
        Ld vw80 (⟨vw5.heap.size, 0, none⟩ : Addr) (Value.int .i64) fun (x81 : Int) =>
        Ld vw80 ((⟨vw5.heap.size, 0, none⟩ : Addr).add 1) (Value.int .i64) fun (x82 : Int) =>
        Ld vw80 ((⟨vw5.heap.size, 0, none⟩ : Addr).add 2) (Value.int .i64) fun (x83 : Int) =>
        Ld vw80 ((⟨vw5.heap.size, 0, none⟩ : Addr).add 3) (Value.int .i64) fun (x84 : Int) =>
        Ld vw80 ((⟨vw5.heap.size, 0, none⟩ : Addr).add 4) (Value.int .i64) fun (x85 : Int) =>
        Ld vw80 ((⟨vw5.heap.size, 0, none⟩ : Addr).add 5) (Value.int .i64) fun (x86 : Int) =>
        Ld vw80 ((⟨vw5.heap.size, 0, none⟩ : Addr).add 6) Value.string fun (x87 : ByteArray) =>
        Ld vw80 ((⟨vw5.heap.size, 0, none⟩ : Addr).add 7) (Value.int .i64) fun (x88 : Int) =>
        R (x81, x82, x83, x84, x85, x86, x87, x88) true 0 vw80) (Br (x7.toList == (⟨#[84, 76]⟩ : ByteArray).toList) (0 ≤ (0 : Int) ∧ (0 : Int) < (n3.len : Nat) ∧ Nn n3.p fun a89 =>
          Ld vw6 (a89.add (((0 : Int)).toNat * 1)) (Value.int .i64) fun (x90 : Int) =>
          St vw6 ((⟨w.heap.size, 0, none⟩ : Addr).add 3) (.int .i64 x90) fun vw91 =>
          Ld vw91 (⟨w.heap.size, 0, none⟩ : Addr) (Value.int .i64) fun (x92 : Int) =>
          Ld vw91 ((⟨w.heap.size, 0, none⟩ : Addr).add 1) (Value.int .i64) fun (x93 : Int) =>
          Ld vw91 ((⟨w.heap.size, 0, none⟩ : Addr).add 2) (Value.int .i64) fun (x94 : Int) =>
          Ld vw91 ((⟨w.heap.size, 0, none⟩ : Addr).add 3) (Value.int .i64) fun (x95 : Int) =>
          Ld vw91 ((⟨w.heap.size, 0, none⟩ : Addr).add 4) (Value.int .i64) fun (x96 : Int) =>
          Ld vw91 ((⟨w.heap.size, 0, none⟩ : Addr).add 5) (Value.int .i64) fun (x97 : Int) =>
          Ld vw91 ((⟨w.heap.size, 0, none⟩ : Addr).add 6) Value.string fun (x98 : ByteArray) =>
          Ld vw91 ((⟨w.heap.size, 0, none⟩ : Addr).add 7) (Value.int .i64) fun (x99 : Int) =>
          St vw91 (⟨vw5.heap.size, 0, none⟩ : Addr) (.int .i64 x92) fun vw100 =>
          St vw100 ((⟨vw5.heap.size, 0, none⟩ : Addr).add 1) (.int .i64 x93) fun vw101 =>
          St vw101 ((⟨vw5.heap.size, 0, none⟩ : Addr).add 2) (.int .i64 x94) fun vw102 =>
          St vw102 ((⟨vw5.heap.size, 0, none⟩ : Addr).add 3) (.int .i64 x95) fun vw103 =>
          St vw103 ((⟨vw5.heap.size, 0, none⟩ : Addr).add 4) (.int .i64 x96) fun vw104 =>
          St vw104 ((⟨vw5.heap.size, 0, none⟩ : Addr).add 5) (.int .i64 x97) fun vw105 =>
          St vw105 ((⟨vw5.heap.size, 0, none⟩ : Addr).add 6) (.string x98) fun vw106 =>
          St vw106 ((⟨vw5.heap.size, 0, none⟩ : Addr).add 7) (.int .i64 x99) fun vw107 =>
          Ld vw107 (⟨vw5.heap.size, 0, none⟩ : Addr) (Value.int .i64) fun (x108 : Int) =>
          Ld vw107 ((⟨vw5.heap.size, 0, none⟩ : Addr).add 1) (Value.int .i64) fun (x109 : Int) =>
          Ld vw107 ((⟨vw5.heap.size, 0, none⟩ : Addr).add 2) (Value.int .i64) fun (x110 : Int) =>
          Ld vw107 ((⟨vw5.heap.size, 0, none⟩ : Addr).add 3) (Value.int .i64) fun (x111 : Int) =>
          Ld vw107 ((⟨vw5.heap.size, 0, none⟩ : Addr).add 4) (Value.int .i64) fun (x112 : Int) =>
          Ld vw107 ((⟨vw5.heap.size, 0, none⟩ : Addr).add 5) (Value.int .i64) fun (x113 : Int) =>
          Ld vw107 ((⟨vw5.heap.size, 0, none⟩ : Addr).add 6) Value.string fun (x114 : ByteArray) =>
          Ld vw107 ((⟨vw5.heap.size, 0, none⟩ : Addr).add 7) (Value.int .i64) fun (x115 : Int) =>
          R (x108, x109, x110, x111, x112, x113, x114, x115) true 0 vw107) (Br (x7.toList == (⟨#[84, 115]⟩ : ByteArray).toList) (0 ≤ (0 : Int) ∧ (0 : Int) < (n3.len : Nat) ∧ Nn n3.p fun a116 =>
            Ld vw6 (a116.add (((0 : Int)).toNat * 1)) (Value.int .i64) fun (x117 : Int) =>
            St vw6 ((⟨w.heap.size, 0, none⟩ : Addr).add 5) (.int .i64 x117) fun vw118 =>
            Ld vw118 (⟨w.heap.size, 0, none⟩ : Addr) (Value.int .i64) fun (x119 : Int) =>
            Ld vw118 ((⟨w.heap.size, 0, none⟩ : Addr).add 1) (Value.int .i64) fun (x120 : Int) =>
            Ld vw118 ((⟨w.heap.size, 0, none⟩ : Addr).add 2) (Value.int .i64) fun (x121 : Int) =>
            Ld vw118 ((⟨w.heap.size, 0, none⟩ : Addr).add 3) (Value.int .i64) fun (x122 : Int) =>
            Ld vw118 ((⟨w.heap.size, 0, none⟩ : Addr).add 4) (Value.int .i64) fun (x123 : Int) =>
            Ld vw118 ((⟨w.heap.size, 0, none⟩ : Addr).add 5) (Value.int .i64) fun (x124 : Int) =>
            Ld vw118 ((⟨w.heap.size, 0, none⟩ : Addr).add 6) Value.string fun (x125 : ByteArray) =>
            Ld vw118 ((⟨w.heap.size, 0, none⟩ : Addr).add 7) (Value.int .i64) fun (x126 : Int) =>
            St vw118 (⟨vw5.heap.size, 0, none⟩ : Addr) (.int .i64 x119) fun vw127 =>
            St vw127 ((⟨vw5.heap.size, 0, none⟩ : Addr).add 1) (.int .i64 x120) fun vw128 =>
            St vw128 ((⟨vw5.heap.size, 0, none⟩ : Addr).add 2) (.int .i64 x121) fun vw129 =>
            St vw129 ((⟨vw5.heap.size, 0, none⟩ : Addr).add 3) (.int .i64 x122) fun vw130 =>
            St vw130 ((⟨vw5.heap.size, 0, none⟩ : Addr).add 4) (.int .i64 x123) fun vw131 =>
            St vw131 ((⟨vw5.heap.size, 0, none⟩ : Addr).add 5) (.int .i64 x124) fun vw132 =>
            St vw132 ((⟨vw5.heap.size, 0, none⟩ : Addr).add 6) (.string x125) fun vw133 =>
            St vw133 ((⟨vw5.heap.size, 0, none⟩ : Addr).add 7) (.int .i64 x126) fun vw134 =>
            Ld vw134 (⟨vw5.heap.size, 0, none⟩ : Addr) (Value.int .i64) fun (x135 : Int) =>
            Ld vw134 ((⟨vw5.heap.size, 0, none⟩ : Addr).add 1) (Value.int .i64) fun (x136 : Int) =>
            Ld vw134 ((⟨vw5.heap.size, 0, none⟩ : Addr).add 2) (Value.int .i64) fun (x137 : Int) =>
            Ld vw134 ((⟨vw5.heap.size, 0, none⟩ : Addr).add 3) (Value.int .i64) fun (x138 : Int) =>
            Ld vw134 ((⟨vw5.heap.size, 0, none⟩ : Addr).add 4) (Value.int .i64) fun (x139 : Int) =>
            Ld vw134 ((⟨vw5.heap.size, 0, none⟩ : Addr).add 5) (Value.int .i64) fun (x140 : Int) =>
            Ld vw134 ((⟨vw5.heap.size, 0, none⟩ : Addr).add 6) Value.string fun (x141 : ByteArray) =>
            Ld vw134 ((⟨vw5.heap.size, 0, none⟩ : Addr).add 7) (Value.int .i64) fun (x142 : Int) =>
            R (x135, x136, x137, x138, x139, x140, x141, x142) true 0 vw134) (Br (x7.toList == (⟨#[84, 102]⟩ : ByteArray).toList) (Ld vw6 ((⟨vw4.heap.size, 0, none⟩ : Addr).add 1) Slc.v fun (x143 : Slc) =>
              0 ≤ (0 : Int) ∧ (0 : Int) < (x143.len : Nat) ∧ Nn x143.p fun a144 =>
              Ld vw6 ((a144.add (((0 : Int)).toNat * 6)).add 3) Value.string fun (x145 : ByteArray) =>
              St vw6 ((⟨w.heap.size, 0, none⟩ : Addr).add 6) (.string x145) fun vw146 =>
              0 ≤ (0 : Int) ∧ (0 : Int) < (n3.len : Nat) ∧ Nn n3.p fun a147 =>
              Ld vw146 (a147.add (((0 : Int)).toNat * 1)) (Value.int .i64) fun (x148 : Int) =>
              St vw146 ((⟨w.heap.size, 0, none⟩ : Addr).add 4) (.int .i64 x148) fun vw149 =>
              Ld vw149 (⟨w.heap.size, 0, none⟩ : Addr) (Value.int .i64) fun (x150 : Int) =>
              Ld vw149 ((⟨w.heap.size, 0, none⟩ : Addr).add 1) (Value.int .i64) fun (x151 : Int) =>
              Ld vw149 ((⟨w.heap.size, 0, none⟩ : Addr).add 2) (Value.int .i64) fun (x152 : Int) =>
              Ld vw149 ((⟨w.heap.size, 0, none⟩ : Addr).add 3) (Value.int .i64) fun (x153 : Int) =>
              Ld vw149 ((⟨w.heap.size, 0, none⟩ : Addr).add 4) (Value.int .i64) fun (x154 : Int) =>
              Ld vw149 ((⟨w.heap.size, 0, none⟩ : Addr).add 5) (Value.int .i64) fun (x155 : Int) =>
              Ld vw149 ((⟨w.heap.size, 0, none⟩ : Addr).add 6) Value.string fun (x156 : ByteArray) =>
              Ld vw149 ((⟨w.heap.size, 0, none⟩ : Addr).add 7) (Value.int .i64) fun (x157 : Int) =>
              St vw149 (⟨vw5.heap.size, 0, none⟩ : Addr) (.int .i64 x150) fun vw158 =>
              St vw158 ((⟨vw5.heap.size, 0, none⟩ : Addr).add 1) (.int .i64 x151) fun vw159 =>
              St vw159 ((⟨vw5.heap.size, 0, none⟩ : Addr).add 2) (.int .i64 x152) fun vw160 =>
              St vw160 ((⟨vw5.heap.size, 0, none⟩ : Addr).add 3) (.int .i64 x153) fun vw161 =>
              St vw161 ((⟨vw5.heap.size, 0, none⟩ : Addr).add 4) (.int .i64 x154) fun vw162 =>
              St vw162 ((⟨vw5.heap.size, 0, none⟩ : Addr).add 5) (.int .i64 x155) fun vw163 =>
              St vw163 ((⟨vw5.heap.size, 0, none⟩ : Addr).add 6) (.string x156) fun vw164 =>
              St vw164 ((⟨vw5.heap.size, 0, none⟩ : Addr).add 7) (.int .i64 x157) fun vw165 =>
              Ld vw165 (⟨vw5.heap.size, 0, none⟩ : Addr) (Value.int .i64) fun (x166 : Int) =>
              Ld vw165 ((⟨vw5.heap.size, 0, none⟩ : Addr).add 1) (Value.int .i64) fun (x167 : Int) =>
              Ld vw165 ((⟨vw5.heap.size, 0, none⟩ : Addr).add 2) (Value.int .i64) fun (x168 : Int) =>
              Ld vw165 ((⟨vw5.heap.size, 0, none⟩ : Addr).add 3) (Value.int .i64) fun (x169 : Int) =>
              Ld vw165 ((⟨vw5.heap.size, 0, none⟩ : Addr).add 4) (Value.int .i64) fun (x170 : Int) =>
              Ld vw165 ((⟨vw5.heap.size, 0, none⟩ : Addr).add 5) (Value.int .i64) fun (x171 : Int) =>
              Ld vw165 ((⟨vw5.heap.size, 0, none⟩ : Addr).add 6) Value.string fun (x172 : ByteArray) =>
              Ld vw165 ((⟨vw5.heap.size, 0, none⟩ : Addr).add 7) (Value.int .i64) fun (x173 : Int) =>
              R (x166, x167, x168, x169, x170, x171, x172, x173) true 0 vw165) (Br (x7.toList == (⟨#[84, 114]⟩ : ByteArray).toList) (0 ≤ (0 : Int) ∧ (0 : Int) < (n3.len : Nat) ∧ Nn n3.p fun a174 =>
                Ld vw6 (a174.add (((0 : Int)).toNat * 1)) (Value.int .i64) fun (x175 : Int) =>
                C170 x175 7 vw6 fun r176 vw177 =>
                  Br (!r176) (Ld vw177 (⟨w.heap.size, 0, none⟩ : Addr) (Value.int .i64) fun (x178 : Int) =>
                    Ld vw177 ((⟨w.heap.size, 0, none⟩ : Addr).add 1) (Value.int .i64) fun (x179 : Int) =>
                    Ld vw177 ((⟨w.heap.size, 0, none⟩ : Addr).add 2) (Value.int .i64) fun (x180 : Int) =>
                    Ld vw177 ((⟨w.heap.size, 0, none⟩ : Addr).add 3) (Value.int .i64) fun (x181 : Int) =>
                    Ld vw177 ((⟨w.heap.size, 0, none⟩ : Addr).add 4) (Value.int .i64) fun (x182 : Int) =>
                    Ld vw177 ((⟨w.heap.size, 0, none⟩ : Addr).add 5) (Value.int .i64) fun (x183 : Int) =>
                    Ld vw177 ((⟨w.heap.size, 0, none⟩ : Addr).add 6) Value.string fun (x184 : ByteArray) =>
                    Ld vw177 ((⟨w.heap.size, 0, none⟩ : Addr).add 7) (Value.int .i64) fun (x185 : Int) =>
                    St vw177 (⟨vw5.heap.size, 0, none⟩ : Addr) (.int .i64 x178) fun vw186 =>
                    St vw186 ((⟨vw5.heap.size, 0, none⟩ : Addr).add 1) (.int .i64 x179) fun vw187 =>
                    St vw187 ((⟨vw5.heap.size, 0, none⟩ : Addr).add 2) (.int .i64 x180) fun vw188 =>
                    St vw188 ((⟨vw5.heap.size, 0, none⟩ : Addr).add 3) (.int .i64 x181) fun vw189 =>
                    St vw189 ((⟨vw5.heap.size, 0, none⟩ : Addr).add 4) (.int .i64 x182) fun vw190 =>
                    St vw190 ((⟨vw5.heap.size, 0, none⟩ : Addr).add 5) (.int .i64 x183) fun vw191 =>
                    St vw191 ((⟨vw5.heap.size, 0, none⟩ : Addr).add 6) (.string x184) fun vw192 =>
                    St vw192 ((⟨vw5.heap.size, 0, none⟩ : Addr).add 7) (.int .i64 x185) fun vw193 =>
                    Ld vw193 (⟨vw5.heap.size, 0, none⟩ : Addr) (Value.int .i64) fun (x194 : Int) =>
                    Ld vw193 ((⟨vw5.heap.size, 0, none⟩ : Addr).add 1) (Value.int .i64) fun (x195 : Int) =>
                    Ld vw193 ((⟨vw5.heap.size, 0, none⟩ : Addr).add 2) (Value.int .i64) fun (x196 : Int) =>
                    Ld vw193 ((⟨vw5.heap.size, 0, none⟩ : Addr).add 3) (Value.int .i64) fun (x197 : Int) =>
                    Ld vw193 ((⟨vw5.heap.size, 0, none⟩ : Addr).add 4) (Value.int .i64) fun (x198 : Int) =>
                    Ld vw193 ((⟨vw5.heap.size, 0, none⟩ : Addr).add 5) (Value.int .i64) fun (x199 : Int) =>
                    Ld vw193 ((⟨vw5.heap.size, 0, none⟩ : Addr).add 6) Value.string fun (x200 : ByteArray) =>
                    Ld vw193 ((⟨vw5.heap.size, 0, none⟩ : Addr).add 7) (Value.int .i64) fun (x201 : Int) =>
                    R (x194, x195, x196, x197, x198, x199, x200, x201) true 2 vw193) (0 ≤ (0 : Int) ∧ (0 : Int) < (n3.len : Nat) ∧ Nn n3.p fun a202 =>
                    Ld vw177 (a202.add (((0 : Int)).toNat * 1)) (Value.int .i64) fun (x203 : Int) =>
                    St vw177 ((⟨w.heap.size, 0, none⟩ : Addr).add 7) (.int .i64 (IntKind.i64.wrap (Int.tdiv x203 10000))) fun vw204 =>
                    Ld vw204 (⟨w.heap.size, 0, none⟩ : Addr) (Value.int .i64) fun (x205 : Int) =>
                    Ld vw204 ((⟨w.heap.size, 0, none⟩ : Addr).add 1) (Value.int .i64) fun (x206 : Int) =>
                    Ld vw204 ((⟨w.heap.size, 0, none⟩ : Addr).add 2) (Value.int .i64) fun (x207 : Int) =>
                    Ld vw204 ((⟨w.heap.size, 0, none⟩ : Addr).add 3) (Value.int .i64) fun (x208 : Int) =>
                    Ld vw204 ((⟨w.heap.size, 0, none⟩ : Addr).add 4) (Value.int .i64) fun (x209 : Int) =>
                    Ld vw204 ((⟨w.heap.size, 0, none⟩ : Addr).add 5) (Value.int .i64) fun (x210 : Int) =>
                    Ld vw204 ((⟨w.heap.size, 0, none⟩ : Addr).add 6) Value.string fun (x211 : ByteArray) =>
                    Ld vw204 ((⟨w.heap.size, 0, none⟩ : Addr).add 7) (Value.int .i64) fun (x212 : Int) =>
                    St vw204 (⟨vw5.heap.size, 0, none⟩ : Addr) (.int .i64 x205) fun vw213 =>
                    St vw213 ((⟨vw5.heap.size, 0, none⟩ : Addr).add 1) (.int .i64 x206) fun vw214 =>
                    St vw214 ((⟨vw5.heap.size, 0, none⟩ : Addr).add 2) (.int .i64 x207) fun vw215 =>
                    St vw215 ((⟨vw5.heap.size, 0, none⟩ : Addr).add 3) (.int .i64 x208) fun vw216 =>
                    St vw216 ((⟨vw5.heap.size, 0, none⟩ : Addr).add 4) (.int .i64 x209) fun vw217 =>
                    St vw217 ((⟨vw5.heap.size, 0, none⟩ : Addr).add 5) (.int .i64 x210) fun vw218 =>
                    St vw218 ((⟨vw5.heap.size, 0, none⟩ : Addr).add 6) (.string x211) fun vw219 =>
                    St vw219 ((⟨vw5.heap.size, 0, none⟩ : Addr).add 7) (.int .i64 x212) fun vw220 =>
                    Ld vw220 (⟨vw5.heap.size, 0, none⟩ : Addr) (Value.int .i64) fun (x221 : Int) =>
                    Ld vw220 ((⟨vw5.heap.size, 0, none⟩ : Addr).add 1) (Value.int .i64) fun (x222 : Int) =>
                    Ld vw220 ((⟨vw5.heap.size, 0, none⟩ : Addr).add 2) (Value.int .i64) fun (x223 : Int) =>
                    Ld vw220 ((⟨vw5.heap.size, 0, none⟩ : Addr).add 3) (Value.int .i64) fun (x224 : Int) =>
                    Ld vw220 ((⟨vw5.heap.size, 0, none⟩ : Addr).add 4) (Value.int .i64) fun (x225 : Int) =>
                    Ld vw220 ((⟨vw5.heap.size, 0, none⟩ : Addr).add 5) (Value.int .i64) fun (x226 : Int) =>
                    Ld vw220 ((⟨vw5.heap.size, 0, none⟩ : Addr).add 6) Value.string fun (x227 : ByteArray) =>
                    Ld vw220 ((⟨vw5.heap.size, 0, none⟩ : Addr).add 7) (Value.int .i64) fun (x228 : Int) =>
                    R (x221, x222, x223, x224, x225, x226, x227, x228) true 0 vw220)) (Ld vw6 (⟨w.heap.size, 0, none⟩ : Addr) (Value.int .i64) fun (x229 : Int) =>
                Ld vw6 ((⟨w.heap.size, 0, none⟩ : Addr).add 1) (Value.int .i64) fun (x230 : Int) =>
                Ld vw6 ((⟨w.heap.size, 0, none⟩ : Addr).add 2) (Value.int .i64) fun (x231 : Int) =>
                Ld vw6 ((⟨w.heap.size, 0, none⟩ : Addr).add 3) (Value.int .i64) fun (x232 : Int) =>
                Ld vw6 ((⟨w.heap.size, 0, none⟩ : Addr).add 4) (Value.int .i64) fun (x233 : Int) =>
                Ld vw6 ((⟨w.heap.size, 0, none⟩ : Addr).add 5) (Value.int .i64) fun (x234 : Int) =>
                Ld vw6 ((⟨w.heap.size, 0, none⟩ : Addr).add 6) Value.string fun (x235 : ByteArray) =>
                Ld vw6 ((⟨w.heap.size, 0, none⟩ : Addr).add 7) (Value.int .i64) fun (x236 : Int) =>
                St vw6 (⟨vw5.heap.size, 0, none⟩ : Addr) (.int .i64 x229) fun vw237 =>
                St vw237 ((⟨vw5.heap.size, 0, none⟩ : Addr).add 1) (.int .i64 x230) fun vw238 =>
                St vw238 ((⟨vw5.heap.size, 0, none⟩ : Addr).add 2) (.int .i64 x231) fun vw239 =>
                St vw239 ((⟨vw5.heap.size, 0, none⟩ : Addr).add 3) (.int .i64 x232) fun vw240 =>
                St vw240 ((⟨vw5.heap.size, 0, none⟩ : Addr).add 4) (.int .i64 x233) fun vw241 =>
                St vw241 ((⟨vw5.heap.size, 0, none⟩ : Addr).add 5) (.int .i64 x234) fun vw242 =>
                St vw242 ((⟨vw5.heap.size, 0, none⟩ : Addr).add 6) (.string x235) fun vw243 =>
                St vw243 ((⟨vw5.heap.size, 0, none⟩ : Addr).add 7) (.int .i64 x236) fun vw244 =>
                Ld vw244 (⟨vw5.heap.size, 0, none⟩ : Addr) (Value.int .i64) fun (x245 : Int) =>
                Ld vw244 ((⟨vw5.heap.size, 0, none⟩ : Addr).add 1) (Value.int .i64) fun (x246 : Int) =>
                Ld vw244 ((⟨vw5.heap.size, 0, none⟩ : Addr).add 2) (Value.int .i64) fun (x247 : Int) =>
                Ld vw244 ((⟨vw5.heap.size, 0, none⟩ : Addr).add 3) (Value.int .i64) fun (x248 : Int) =>
                Ld vw244 ((⟨vw5.heap.size, 0, none⟩ : Addr).add 4) (Value.int .i64) fun (x249 : Int) =>
                Ld vw244 ((⟨vw5.heap.size, 0, none⟩ : Addr).add 5) (Value.int .i64) fun (x250 : Int) =>
                Ld vw244 ((⟨vw5.heap.size, 0, none⟩ : Addr).add 6) Value.string fun (x251 : ByteArray) =>
                Ld vw244 ((⟨vw5.heap.size, 0, none⟩ : Addr).add 7) (Value.int .i64) fun (x252 : Int) =>
                R (x245, x246, x247, x248, x249, x250, x251, x252) false 0 vw244)))))))
def pl117 : Plan := (.seq (.reg .seq) (.seq (.seq (.reg .seq) (.block (.seq (.reg .seq) (.cond (.reg .seq) (.seq (.reg .seq) (.cond (.reg .seq) (.seq (.reg .seq) (.cond (.reg .seq) (.seq (.reg .seq) (.cond (.reg .seq) (.seq (.reg .seq) (.cond (.reg .seq) (.seq (.reg .seq) (.cond (.seq (.reg .seq) (.reg .seq)) (.seq (.reg .seq) (.cond (.seq (.seq (.reg .seq) (.cond (.seq (.reg .seq) .leaf) .leaf)) (.reg .seq)) (.seq (.reg .seq) .leaf))))))))))))))))) (.seq (.reg .seq) .leaf)))
set_option maxRecDepth 100000 in
theorem T117 (t1 : Int × Int × Int × Int × Int × Int × ByteArray × Int) (o2 : ByteArray × Slc × ByteArray) (n3 : Slc) (w : World) (R : (Int × Int × Int × Int × Int × Int × ByteArray × Int) → Bool → Int → World → Prop) (h : S117 t1 o2 n3 w R) : C117 (t1.1, t1.2.1, t1.2.2.1, t1.2.2.2.1, t1.2.2.2.2.1, t1.2.2.2.2.2.1, t1.2.2.2.2.2.2.1, t1.2.2.2.2.2.2.2) (o2.1, o2.2.1, o2.2.2) n3 w R := by
  have e : fnT Tryd.prog ⟨FF, MAY, (fun _ _ => False)⟩ pl117 Tryd.f117 [.agg #[.int .i64 (t1.1), .int .i64 (t1.2.1), .int .i64 (t1.2.2.1), .int .i64 (t1.2.2.2.1), .int .i64 (t1.2.2.2.2.1), .int .i64 (t1.2.2.2.2.2.1), .string t1.2.2.2.2.2.2.1, .int .i64 (t1.2.2.2.2.2.2.2)], .agg #[.string o2.1, Slc.v o2.2.1, .string o2.2.2], Slc.v n3] w [(.agg [(.int .i64), (.int .i64), (.int .i64), (.int .i64), (.int .i64), (.int .i64), .str, (.int .i64)]), (.one .bool), (.one (.int .i64))] (fun s w => R s.1 s.2.1 s.2.2 w) = S117 t1 o2 n3 w R := by kernel_rfl
  exact (fn_calls okF okM Tryd.func117 (by kernel_rfl) (by kernel_rfl) (e.mpr h)).mono fun _ _ ⟨s, he, hR⟩ => ⟨s.1, s.2.1, s.2.2, he, hR⟩

def S171L1 (w : World) (n1 : Slc) (R : (Int × Int × Int × Int × Int) → Bool → World → Prop) (I22 : Int → World → Prop) (s20 : Int) (vw21 : World) : Prop :=
  Br (decide (s20 < ((n1.len : Nat) : Int))) (0 ≤ s20 ∧ s20 < (n1.len : Nat) ∧ Nn n1.p fun a23 =>
    Ld vw21 (a23.add ((s20).toNat * 1)) (Value.int .i64) fun (x24 : Int) =>
    Br (decide (x24 < 0)) (St vw21 (⟨w.heap.size, 0, none⟩ : Addr) (.int .i64 0) fun vw25 =>
      St vw25 ((⟨w.heap.size, 0, none⟩ : Addr).add 1) (.int .i64 0) fun vw26 =>
      St vw26 ((⟨w.heap.size, 0, none⟩ : Addr).add 2) (.int .i64 0) fun vw27 =>
      St vw27 ((⟨w.heap.size, 0, none⟩ : Addr).add 3) (.int .i64 0) fun vw28 =>
      St vw28 ((⟨w.heap.size, 0, none⟩ : Addr).add 4) (.int .i64 0) fun vw29 =>
      Ld vw29 (⟨w.heap.size, 0, none⟩ : Addr) (Value.int .i64) fun (x30 : Int) =>
      Ld vw29 ((⟨w.heap.size, 0, none⟩ : Addr).add 1) (Value.int .i64) fun (x31 : Int) =>
      Ld vw29 ((⟨w.heap.size, 0, none⟩ : Addr).add 2) (Value.int .i64) fun (x32 : Int) =>
      Ld vw29 ((⟨w.heap.size, 0, none⟩ : Addr).add 3) (Value.int .i64) fun (x33 : Int) =>
      Ld vw29 ((⟨w.heap.size, 0, none⟩ : Addr).add 4) (Value.int .i64) fun (x34 : Int) =>
      R (x30, x31, x32, x33, x34) false vw29) (0 ≤ s20 ∧ s20 < (n1.len : Nat) ∧ Nn n1.p fun a35 =>
      Ld vw21 (a35.add ((s20).toNat * 1)) (Value.int .i64) fun (x36 : Int) =>
      Br (decide (x36 > 10000)) (St vw21 (⟨w.heap.size, 0, none⟩ : Addr) (.int .i64 0) fun vw37 =>
        St vw37 ((⟨w.heap.size, 0, none⟩ : Addr).add 1) (.int .i64 0) fun vw38 =>
        St vw38 ((⟨w.heap.size, 0, none⟩ : Addr).add 2) (.int .i64 0) fun vw39 =>
        St vw39 ((⟨w.heap.size, 0, none⟩ : Addr).add 3) (.int .i64 0) fun vw40 =>
        St vw40 ((⟨w.heap.size, 0, none⟩ : Addr).add 4) (.int .i64 0) fun vw41 =>
        Ld vw41 (⟨w.heap.size, 0, none⟩ : Addr) (Value.int .i64) fun (x42 : Int) =>
        Ld vw41 ((⟨w.heap.size, 0, none⟩ : Addr).add 1) (Value.int .i64) fun (x43 : Int) =>
        Ld vw41 ((⟨w.heap.size, 0, none⟩ : Addr).add 2) (Value.int .i64) fun (x44 : Int) =>
        Ld vw41 ((⟨w.heap.size, 0, none⟩ : Addr).add 3) (Value.int .i64) fun (x45 : Int) =>
        Ld vw41 ((⟨w.heap.size, 0, none⟩ : Addr).add 4) (Value.int .i64) fun (x46 : Int) =>
        R (x42, x43, x44, x45, x46) false vw41) (I22 (IntKind.i64.wrap (s20 + 1)) vw21))) (Br (((n1.len : Nat) : Int) == 1) (0 ≤ (0 : Int) ∧ (0 : Int) < (n1.len : Nat) ∧ Nn n1.p fun a47 =>
      Ld vw21 (a47.add (((0 : Int)).toNat * 1)) (Value.int .i64) fun (x48 : Int) =>
      St vw21 (⟨w.heap.size, 0, none⟩ : Addr) (.int .i64 0) fun vw49 =>
      St vw49 ((⟨w.heap.size, 0, none⟩ : Addr).add 1) (.int .i64 x48) fun vw50 =>
      St vw50 ((⟨w.heap.size, 0, none⟩ : Addr).add 2) (.int .i64 0) fun vw51 =>
      St vw51 ((⟨w.heap.size, 0, none⟩ : Addr).add 3) (.int .i64 0) fun vw52 =>
      St vw52 ((⟨w.heap.size, 0, none⟩ : Addr).add 4) (.int .i64 0) fun vw53 =>
      Ld vw53 (⟨w.heap.size, 0, none⟩ : Addr) (Value.int .i64) fun (x54 : Int) =>
      Ld vw53 ((⟨w.heap.size, 0, none⟩ : Addr).add 1) (Value.int .i64) fun (x55 : Int) =>
      Ld vw53 ((⟨w.heap.size, 0, none⟩ : Addr).add 2) (Value.int .i64) fun (x56 : Int) =>
      Ld vw53 ((⟨w.heap.size, 0, none⟩ : Addr).add 3) (Value.int .i64) fun (x57 : Int) =>
      Ld vw53 ((⟨w.heap.size, 0, none⟩ : Addr).add 4) (Value.int .i64) fun (x58 : Int) =>
      R (x54, x55, x56, x57, x58) true vw53) (Br (((n1.len : Nat) : Int) == 3) (0 ≤ (0 : Int) ∧ (0 : Int) < (n1.len : Nat) ∧ Nn n1.p fun a59 =>
        Ld vw21.drew (a59.add (((0 : Int)).toNat * 1)) (Value.int .i64) fun (x60 : Int) =>
        0 ≤ (1 : Int) ∧ (1 : Int) < (n1.len : Nat) ∧ Nn n1.p fun a61 =>
        Ld vw21.drew (a61.add (((1 : Int)).toNat * 1)) (Value.int .i64) fun (x62 : Int) =>
        0 ≤ (2 : Int) ∧ (2 : Int) < (n1.len : Nat) ∧ Nn n1.p fun a63 =>
        Ld vw21.drew (a63.add (((2 : Int)).toNat * 1)) (Value.int .i64) fun (x64 : Int) =>
        St vw21.drew (⟨w.heap.size, 0, none⟩ : Addr) (.int .i64 1) fun vw65 =>
        St vw65 ((⟨w.heap.size, 0, none⟩ : Addr).add 1) (.int .i64 x60) fun vw66 =>
        St vw66 ((⟨w.heap.size, 0, none⟩ : Addr).add 2) (.int .i64 x62) fun vw67 =>
        St vw67 ((⟨w.heap.size, 0, none⟩ : Addr).add 3) (.int .i64 x64) fun vw68 =>
        St vw68 ((⟨w.heap.size, 0, none⟩ : Addr).add 4) (.int .i64 0) fun vw69 =>
        Ld vw69 (⟨w.heap.size, 0, none⟩ : Addr) (Value.int .i64) fun (x70 : Int) =>
        Ld vw69 ((⟨w.heap.size, 0, none⟩ : Addr).add 1) (Value.int .i64) fun (x71 : Int) =>
        Ld vw69 ((⟨w.heap.size, 0, none⟩ : Addr).add 2) (Value.int .i64) fun (x72 : Int) =>
        Ld vw69 ((⟨w.heap.size, 0, none⟩ : Addr).add 3) (Value.int .i64) fun (x73 : Int) =>
        Ld vw69 ((⟨w.heap.size, 0, none⟩ : Addr).add 4) (Value.int .i64) fun (x74 : Int) =>
        R (x70, x71, x72, x73, x74) true vw69) (Br (((n1.len : Nat) : Int) == 4) (0 ≤ (0 : Int) ∧ (0 : Int) < (n1.len : Nat) ∧ Nn n1.p fun a75 =>
          Ld vw21.drew (a75.add (((0 : Int)).toNat * 1)) (Value.int .i64) fun (x76 : Int) =>
          0 ≤ (1 : Int) ∧ (1 : Int) < (n1.len : Nat) ∧ Nn n1.p fun a77 =>
          Ld vw21.drew (a77.add (((1 : Int)).toNat * 1)) (Value.int .i64) fun (x78 : Int) =>
          0 ≤ (2 : Int) ∧ (2 : Int) < (n1.len : Nat) ∧ Nn n1.p fun a79 =>
          Ld vw21.drew (a79.add (((2 : Int)).toNat * 1)) (Value.int .i64) fun (x80 : Int) =>
          0 ≤ (3 : Int) ∧ (3 : Int) < (n1.len : Nat) ∧ Nn n1.p fun a81 =>
          Ld vw21.drew (a81.add (((3 : Int)).toNat * 1)) (Value.int .i64) fun (x82 : Int) =>
          St vw21.drew (⟨w.heap.size, 0, none⟩ : Addr) (.int .i64 2) fun vw83 =>
          St vw83 ((⟨w.heap.size, 0, none⟩ : Addr).add 1) (.int .i64 x76) fun vw84 =>
          St vw84 ((⟨w.heap.size, 0, none⟩ : Addr).add 2) (.int .i64 x78) fun vw85 =>
          St vw85 ((⟨w.heap.size, 0, none⟩ : Addr).add 3) (.int .i64 x80) fun vw86 =>
          St vw86 ((⟨w.heap.size, 0, none⟩ : Addr).add 4) (.int .i64 x82) fun vw87 =>
          Ld vw87 (⟨w.heap.size, 0, none⟩ : Addr) (Value.int .i64) fun (x88 : Int) =>
          Ld vw87 ((⟨w.heap.size, 0, none⟩ : Addr).add 1) (Value.int .i64) fun (x89 : Int) =>
          Ld vw87 ((⟨w.heap.size, 0, none⟩ : Addr).add 2) (Value.int .i64) fun (x90 : Int) =>
          Ld vw87 ((⟨w.heap.size, 0, none⟩ : Addr).add 3) (Value.int .i64) fun (x91 : Int) =>
          Ld vw87 ((⟨w.heap.size, 0, none⟩ : Addr).add 4) (Value.int .i64) fun (x92 : Int) =>
          R (x88, x89, x90, x91, x92) true vw87) (St vw21 (⟨w.heap.size, 0, none⟩ : Addr) (.int .i64 0) fun vw93 =>
          St vw93 ((⟨w.heap.size, 0, none⟩ : Addr).add 1) (.int .i64 0) fun vw94 =>
          St vw94 ((⟨w.heap.size, 0, none⟩ : Addr).add 2) (.int .i64 0) fun vw95 =>
          St vw95 ((⟨w.heap.size, 0, none⟩ : Addr).add 3) (.int .i64 0) fun vw96 =>
          St vw96 ((⟨w.heap.size, 0, none⟩ : Addr).add 4) (.int .i64 0) fun vw97 =>
          Ld vw97 (⟨w.heap.size, 0, none⟩ : Addr) (Value.int .i64) fun (x98 : Int) =>
          Ld vw97 ((⟨w.heap.size, 0, none⟩ : Addr).add 1) (Value.int .i64) fun (x99 : Int) =>
          Ld vw97 ((⟨w.heap.size, 0, none⟩ : Addr).add 2) (Value.int .i64) fun (x100 : Int) =>
          Ld vw97 ((⟨w.heap.size, 0, none⟩ : Addr).add 3) (Value.int .i64) fun (x101 : Int) =>
          Ld vw97 ((⟨w.heap.size, 0, none⟩ : Addr).add 4) (Value.int .i64) fun (x102 : Int) =>
          R (x98, x99, x100, x101, x102) false vw97))))
/-- foliant/foliantref44.colour -/
def S171 (n1 : Slc) (w : World) (R : (Int × Int × Int × Int × Int) → Bool → World → Prop) : Prop :=
  Nw w (.cells #[.int .i64 0, .int .i64 0, .int .i64 0, .int .i64 0, .int .i64 0] 26) fun vw2 =>
  Lp (σ := Int) (S171L1 w n1 R) 0 vw2
def pl171 : Plan := (.seq (.reg .seq) (.seq (.seq (.reg .seq) (.block (.loop [(4, (.one (.int .i64)))] [0, 2] (.seq (.seq (.reg .seq) (.cond .leaf .leaf)) (.seq (.block (.seq (.reg .seq) (.cond (.seq (.reg .seq) .leaf) .leaf))) (.reg .seq)))))) (.seq (.seq (.reg .seq) (.block (.seq (.reg .seq) (.cond (.seq (.reg .seq) .leaf) (.seq (.reg .seq) (.cond (.seq (.reg (.tail 9)) .leaf) (.seq (.reg .seq) (.cond (.seq (.reg (.tail 12)) .leaf) .leaf)))))))) (.seq (.reg .seq) .leaf))))
set_option maxRecDepth 100000 in
theorem T171 (n1 : Slc) (w : World) (R : (Int × Int × Int × Int × Int) → Bool → World → Prop) (h : S171 n1 w R) : C171 n1 w R := by
  have e : fnT Tryd.prog ⟨FF, MAY, (fun _ _ => False)⟩ pl171 Tryd.f171 [Slc.v n1] w [(.agg [(.int .i64), (.int .i64), (.int .i64), (.int .i64), (.int .i64)]), (.one .bool)] (fun s w => R s.1 s.2 w) = S171 n1 w R := by kernel_rfl
  exact (fn_calls okF okM Tryd.func171 (by kernel_rfl) (by kernel_rfl) (e.mpr h)).mono fun _ _ ⟨s, he, hR⟩ => ⟨s.1, s.2, he, hR⟩

/-- foliant/foliantref44.paint -/
def S118 (g1 : TyA29) (name2 : ByteArray) (n3 : Slc) (w : World) (R : (TyA29) → Int → World → Prop) : Prop :=
  Nw w (.cells (Sig.cells LiA29 g1).toArray 30) fun vw4 =>
  Nw vw4 (.cells #[.int .i64 0, .int .i64 0, .int .i64 0, .int .i64 0, .int .i64 0, .int .i64 0, .int .i64 0, .int .i64 0, .int .i64 0, .int .i64 0, Slc.v ((⟨none, 0, 0⟩ : Slc)), .int .i64 0, .int .i64 0, .int .i64 0, .int .i64 0, .int .i64 0, .int .i64 0, .int .i64 0, .int .i64 0, .int .i64 0, .int .i64 0, .int .i64 0, .int .i64 0, .int .i64 0, .int .i64 0, .int .i64 0, .int .i64 0, .int .i64 0, .string ((⟨#[]⟩ : ByteArray)), .int .i64 0] 30) fun vw5 =>
  C171 n3 vw5 fun r6 r7 vw8 =>
    Nw vw8 (.cells #[.int .i64 0, .int .i64 0, .int .i64 0, .int .i64 0, .int .i64 0] 26) fun vw9 =>
    St vw9 (⟨vw8.heap.size, 0, none⟩ : Addr) (.int .i64 (r6.1)) fun vw10 =>
    St vw10 ((⟨vw8.heap.size, 0, none⟩ : Addr).add 1) (.int .i64 (r6.2.1)) fun vw11 =>
    St vw11 ((⟨vw8.heap.size, 0, none⟩ : Addr).add 2) (.int .i64 (r6.2.2.1)) fun vw12 =>
    St vw12 ((⟨vw8.heap.size, 0, none⟩ : Addr).add 3) (.int .i64 (r6.2.2.2.1)) fun vw13 =>
    St vw13 ((⟨vw8.heap.size, 0, none⟩ : Addr).add 4) (.int .i64 (r6.2.2.2.2)) fun vw14 =>
    Br (!r7) (LdT vw14 (⟨w.heap.size, 0, none⟩ : Addr) 0 LiA29 fun (x17 : TyA29) =>
      StT (⟨vw4.heap.size, 0, none⟩ : Addr) 0 LiA29 x17 vw14 fun vw18 =>
      LdT vw18 (⟨vw4.heap.size, 0, none⟩ : Addr) 0 LiA29 fun (x19 : TyA29) =>
      R x19 2 vw18) (Br (name2.toList == (⟨#[103]⟩ : ByteArray).toList) (Ld vw14 (⟨vw8.heap.size, 0, none⟩ : Addr) (Value.int .i64) fun (x20 : Int) =>
        Ld vw14 ((⟨vw8.heap.size, 0, none⟩ : Addr).add 1) (Value.int .i64) fun (x21 : Int) =>
        Ld vw14 ((⟨vw8.heap.size, 0, none⟩ : Addr).add 2) (Value.int .i64) fun (x22 : Int) =>
        Ld vw14 ((⟨vw8.heap.size, 0, none⟩ : Addr).add 3) (Value.int .i64) fun (x23 : Int) =>
        Ld vw14 ((⟨vw8.heap.size, 0, none⟩ : Addr).add 4) (Value.int .i64) fun (x24 : Int) =>
        St vw14 ((⟨w.heap.size, 0, none⟩ : Addr).add 12) (.int .i64 x20) fun vw25 =>
        St vw25 (((⟨w.heap.size, 0, none⟩ : Addr).add 12).add 1) (.int .i64 x21) fun vw26 =>
        St vw26 (((⟨w.heap.size, 0, none⟩ : Addr).add 12).add 2) (.int .i64 x22) fun vw27 =>
        St vw27 (((⟨w.heap.size, 0, none⟩ : Addr).add 12).add 3) (.int .i64 x23) fun vw28 =>
        St vw28 (((⟨w.heap.size, 0, none⟩ : Addr).add 12).add 4) (.int .i64 x24) fun vw29 =>
        LdT vw29 (⟨w.heap.size, 0, none⟩ : Addr) 0 LiA29 fun (x30 : TyA29) =>
        StT (⟨vw4.heap.size, 0, none⟩ : Addr) 0 LiA29 x30 vw29 fun vw31 =>
        LdT vw31 (⟨vw4.heap.size, 0, none⟩ : Addr) 0 LiA29 fun (x32 : TyA29) =>
        R x32 0 vw31) (Br (name2.toList == (⟨#[114, 103]⟩ : ByteArray).toList) (Ld vw14 (⟨vw8.heap.size, 0, none⟩ : Addr) (Value.int .i64) fun (x33 : Int) =>
          Ld vw14 ((⟨vw8.heap.size, 0, none⟩ : Addr).add 1) (Value.int .i64) fun (x34 : Int) =>
          Ld vw14 ((⟨vw8.heap.size, 0, none⟩ : Addr).add 2) (Value.int .i64) fun (x35 : Int) =>
          Ld vw14 ((⟨vw8.heap.size, 0, none⟩ : Addr).add 3) (Value.int .i64) fun (x36 : Int) =>
          Ld vw14 ((⟨vw8.heap.size, 0, none⟩ : Addr).add 4) (Value.int .i64) fun (x37 : Int) =>
          St vw14 ((⟨w.heap.size, 0, none⟩ : Addr).add 12) (.int .i64 x33) fun vw38 =>
          St vw38 (((⟨w.heap.size, 0, none⟩ : Addr).add 12).add 1) (.int .i64 x34) fun vw39 =>
          St vw39 (((⟨w.heap.size, 0, none⟩ : Addr).add 12).add 2) (.int .i64 x35) fun vw40 =>
          St vw40 (((⟨w.heap.size, 0, none⟩ : Addr).add 12).add 3) (.int .i64 x36) fun vw41 =>
          St vw41 (((⟨w.heap.size, 0, none⟩ : Addr).add 12).add 4) (.int .i64 x37) fun vw42 =>
          LdT vw42 (⟨w.heap.size, 0, none⟩ : Addr) 0 LiA29 fun (x43 : TyA29) =>
          StT (⟨vw4.heap.size, 0, none⟩ : Addr) 0 LiA29 x43 vw42 fun vw44 =>
          LdT vw44 (⟨vw4.heap.size, 0, none⟩ : Addr) 0 LiA29 fun (x45 : TyA29) =>
          R x45 0 vw44) (Br (name2.toList == (⟨#[107]⟩ : ByteArray).toList) (Ld vw14 (⟨vw8.heap.size, 0, none⟩ : Addr) (Value.int .i64) fun (x46 : Int) =>
            Ld vw14 ((⟨vw8.heap.size, 0, none⟩ : Addr).add 1) (Value.int .i64) fun (x47 : Int) =>
            Ld vw14 ((⟨vw8.heap.size, 0, none⟩ : Addr).add 2) (Value.int .i64) fun (x48 : Int) =>
            Ld vw14 ((⟨vw8.heap.size, 0, none⟩ : Addr).add 3) (Value.int .i64) fun (x49 : Int) =>
            Ld vw14 ((⟨vw8.heap.size, 0, none⟩ : Addr).add 4) (Value.int .i64) fun (x50 : Int) =>
            St vw14 ((⟨w.heap.size, 0, none⟩ : Addr).add 12) (.int .i64 x46) fun vw51 =>
            St vw51 (((⟨w.heap.size, 0, none⟩ : Addr).add 12).add 1) (.int .i64 x47) fun vw52 =>
            St vw52 (((⟨w.heap.size, 0, none⟩ : Addr).add 12).add 2) (.int .i64 x48) fun vw53 =>
            St vw53 (((⟨w.heap.size, 0, none⟩ : Addr).add 12).add 3) (.int .i64 x49) fun vw54 =>
            St vw54 (((⟨w.heap.size, 0, none⟩ : Addr).add 12).add 4) (.int .i64 x50) fun vw55 =>
            LdT vw55 (⟨w.heap.size, 0, none⟩ : Addr) 0 LiA29 fun (x56 : TyA29) =>
            StT (⟨vw4.heap.size, 0, none⟩ : Addr) 0 LiA29 x56 vw55 fun vw57 =>
            LdT vw57 (⟨vw4.heap.size, 0, none⟩ : Addr) 0 LiA29 fun (x58 : TyA29) =>
            R x58 0 vw57) (Ld vw14 (⟨vw8.heap.size, 0, none⟩ : Addr) (Value.int .i64) fun (x59 : Int) =>
            Ld vw14 ((⟨vw8.heap.size, 0, none⟩ : Addr).add 1) (Value.int .i64) fun (x60 : Int) =>
            Ld vw14 ((⟨vw8.heap.size, 0, none⟩ : Addr).add 2) (Value.int .i64) fun (x61 : Int) =>
            Ld vw14 ((⟨vw8.heap.size, 0, none⟩ : Addr).add 3) (Value.int .i64) fun (x62 : Int) =>
            Ld vw14 ((⟨vw8.heap.size, 0, none⟩ : Addr).add 4) (Value.int .i64) fun (x63 : Int) =>
            St vw14 ((⟨w.heap.size, 0, none⟩ : Addr).add 17) (.int .i64 x59) fun vw64 =>
            St vw64 (((⟨w.heap.size, 0, none⟩ : Addr).add 17).add 1) (.int .i64 x60) fun vw65 =>
            St vw65 (((⟨w.heap.size, 0, none⟩ : Addr).add 17).add 2) (.int .i64 x61) fun vw66 =>
            St vw66 (((⟨w.heap.size, 0, none⟩ : Addr).add 17).add 3) (.int .i64 x62) fun vw67 =>
            St vw67 (((⟨w.heap.size, 0, none⟩ : Addr).add 17).add 4) (.int .i64 x63) fun vw68 =>
            LdT vw68 (⟨w.heap.size, 0, none⟩ : Addr) 0 LiA29 fun (x69 : TyA29) =>
            StT (⟨vw4.heap.size, 0, none⟩ : Addr) 0 LiA29 x69 vw68 fun vw70 =>
            LdT vw70 (⟨vw4.heap.size, 0, none⟩ : Addr) 0 LiA29 fun (x71 : TyA29) =>
            R x71 0 vw70))))
def pl118 : Plan := (.seq (.reg .seq) (.seq (.reg .seq) (.seq (.seq (.reg .seq) (.cond (.seq (.reg .seq) .leaf) .leaf)) (.seq (.seq (.reg .seq) (.cond (.reg .seq) (.reg .seq))) (.seq (.reg .seq) .leaf)))))
set_option maxRecDepth 100000 in
theorem T118 (g1 : TyA29) (name2 : ByteArray) (n3 : Slc) (w : World) (R : (TyA29) → Int → World → Prop) (h : S118 g1 name2 n3 w R) : C118 g1 name2 n3 w R := by
  have e : fnT Tryd.prog ⟨FF, MAY, (fun _ _ => False)⟩ pl118 Tryd.f118 [.agg (Sig.cells LiA29 g1).toArray, .string name2, Slc.v n3] w [(.agg [(.int .i64), (.int .i64), (.int .i64), (.int .i64), (.int .i64), (.int .i64), (.int .i64), (.int .i64), (.int .i64), (.int .i64), .slc, (.int .i64), (.int .i64), (.int .i64), (.int .i64), (.int .i64), (.int .i64), (.int .i64), (.int .i64), (.int .i64), (.int .i64), (.int .i64), (.int .i64), (.int .i64), (.int .i64), (.int .i64), (.int .i64), (.int .i64), .str, (.int .i64)]), (.one (.int .i64))] (fun s w => R s.1 s.2 w) = S118 g1 name2 n3 w R := by kernel_rfl
  exact (fn_calls okF okM Tryd.func118 (by kernel_rfl) (by kernel_rfl) (e.mpr h)).mono fun _ _ ⟨s, he, hR⟩ => ⟨s.1, s.2, he, hR⟩

def S173L1 (w : World) (R : Slc → Int → World → Prop) (I28 : (Slc × Int) → World → Prop) (s26 : Slc × Int) (vw27 : World) : Prop :=
  Ld vw27 ((⟨w.heap.size, 0, none⟩ : Addr).add 5) Slc.v fun (x30 : Slc) =>
  Br (decide (s26.2 < ((x30.len : Nat) : Int))) (Ld vw27 ((⟨w.heap.size, 0, none⟩ : Addr).add 5) Slc.v fun (x31 : Slc) =>
    0 ≤ s26.2 ∧ s26.2 < (x31.len : Nat) ∧ Nn x31.p fun a32 =>
    Ld vw27 (a32.add ((s26.2).toNat * 6)) (Value.int .i64) fun (x33 : Int) =>
    Ld vw27 ((a32.add ((s26.2).toNat * 6)).add 1) (Value.int .i64) fun (x34 : Int) =>
    Ld vw27 ((a32.add ((s26.2).toNat * 6)).add 2) (Value.int .i64) fun (x35 : Int) =>
    Ld vw27 ((a32.add ((s26.2).toNat * 6)).add 3) Value.string fun (x36 : ByteArray) =>
    Ld vw27 ((a32.add ((s26.2).toNat * 6)).add 4) Slc.v fun (x37 : Slc) =>
    Ld vw27 ((a32.add ((s26.2).toNat * 6)).add 5) Slc.v fun (x38 : Slc) =>
    C157 (x33, x34, x35, x36, x37, x38) vw27 fun r39 r40 vw41 =>
      Br (!r40) (R (⟨none, 0, 0⟩ : Slc) 2 vw41) (Br (decide (r39 < 0)) (R (⟨none, 0, 0⟩ : Slc) 2 vw41) (Nw vw41 (.cells #[.int .i64 r39] 2) fun vw42 =>
          Rn Tryd.prog (Builtin.append_ #[24, 24] 24 #[Slc.v s26.1, Slc.v ((⟨some ⟨vw41.heap.size, 0, none⟩, 1, 1⟩ : Slc))]) vw42 Slc.v fun (x43 : Slc) vw44 =>
          I28 (x43, IntKind.i64.wrap (s26.2 + 1)) vw44))) (R s26.1 0 vw27)
def S173L2 (w : World) (R : Slc → Int → World → Prop) (I18 : Int → World → Prop) (s16 : Int) (vw17 : World) : Prop :=
  Ld vw17 ((⟨w.heap.size, 0, none⟩ : Addr).add 5) Slc.v fun (x19 : Slc) =>
  Br (decide (s16 < ((x19.len : Nat) : Int))) (Ld vw17 ((⟨w.heap.size, 0, none⟩ : Addr).add 5) Slc.v fun (x20 : Slc) =>
    0 ≤ s16 ∧ s16 < (x20.len : Nat) ∧ Nn x20.p fun a21 =>
    Ld vw17 (a21.add ((s16).toNat * 6)) (Value.int .i64) fun (x22 : Int) =>
    Br (x22 != 2) (Ld vw17 ((⟨w.heap.size, 0, none⟩ : Addr).add 5) Slc.v fun (x23 : Slc) =>
      0 ≤ s16 ∧ s16 < (x23.len : Nat) ∧ Nn x23.p fun a24 =>
      Ld vw17 (a24.add ((s16).toNat * 6)) (Value.int .i64) fun (x25 : Int) =>
      Br (x25 != 3) (R (⟨none, 0, 0⟩ : Slc) 28 vw17) (I18 (IntKind.i64.wrap (s16 + 1)) vw17)) (I18 (IntKind.i64.wrap (s16 + 1)) vw17)) (Lp (σ := Slc × Int) (S173L1 w R) ((⟨none, 0, 0⟩ : Slc), 0) vw17)
/-- foliant/foliantref44.dash -/
def S173 (o1 : Int × Int × Int × ByteArray × Slc × Slc) (w : World) (R : Slc → Int → World → Prop) : Prop :=
  Nw w (.cells #[.int .i64 (o1.1), .int .i64 (o1.2.1), .int .i64 (o1.2.2.1), .string o1.2.2.2.1, Slc.v o1.2.2.2.2.1, Slc.v o1.2.2.2.2.2] 81) fun vw2 =>
  Ld vw2 ((⟨w.heap.size, 0, none⟩ : Addr).add 5) Slc.v fun (x4 : Slc) =>
  Br (decide (((x4.len : Nat) : Int) > 32)) (R (⟨none, 0, 0⟩ : Slc) 6 vw2) (Lp (σ := Int) (S173L2 w R) 0 vw2)
def pl173 : Plan := (.seq (.reg .seq) (.seq (.seq (.reg .seq) (.cond (.seq (.reg .seq) .leaf) .leaf)) (.seq (.seq (.reg .seq) (.block (.loop [(4, (.one (.int .i64)))] [1] (.seq (.seq (.reg .seq) (.cond .leaf .leaf)) (.seq (.block (.seq (.reg .seq) (.cond (.seq (.reg .seq) .leaf) .leaf))) (.reg .seq)))))) (.seq (.reg .seq) (.seq (.seq (.reg .seq) (.block (.loop [(5, (.one .slc)), (6, (.one (.int .i64)))] [1] (.seq (.seq (.reg .seq) (.cond .leaf .leaf)) (.seq (.block (.seq (.reg .seq) (.seq (.seq (.reg .seq) (.cond (.seq (.reg .seq) .leaf) .leaf)) (.reg .seq)))) (.reg .seq)))))) (.seq (.reg .seq) .leaf))))))
set_option maxRecDepth 100000 in
theorem T173 (o1 : Int × Int × Int × ByteArray × Slc × Slc) (w : World) (R : Slc → Int → World → Prop) (h : S173 o1 w R) : C173 (o1.1, o1.2.1, o1.2.2.1, o1.2.2.2.1, o1.2.2.2.2.1, o1.2.2.2.2.2) w R := by
  have e : fnT Tryd.prog ⟨FF, MAY, (fun _ _ => False)⟩ pl173 Tryd.f173 [.agg #[.int .i64 (o1.1), .int .i64 (o1.2.1), .int .i64 (o1.2.2.1), .string o1.2.2.2.1, Slc.v o1.2.2.2.2.1, Slc.v o1.2.2.2.2.2]] w [(.one .slc), (.one (.int .i64))] (fun s w => R s.1 s.2 w) = S173 o1 w R := by kernel_rfl
  exact (fn_calls okF okM Tryd.func173 (by kernel_rfl) (by kernel_rfl) (e.mpr h)).mono fun _ _ ⟨s, he, hR⟩ => ⟨s.1, s.2, he, hR⟩

def S119J1 (w : World) (vw5 : World) (R : (TyA29) → Int → World → Prop) (s57 : Addr × Int) (vw58 : World) : Prop :=
  Br (s57.2 != 0) (LdT vw58 (⟨w.heap.size, 0, none⟩ : Addr) 0 LiA29 fun (x59 : TyA29) =>
    StT (⟨vw5.heap.size, 0, none⟩ : Addr) 0 LiA29 x59 vw58 fun vw60 =>
    LdT vw60 (⟨vw5.heap.size, 0, none⟩ : Addr) 0 LiA29 fun (x61 : TyA29) =>
    R x61 s57.2 vw60) (Ld vw58 s57.1 (Value.int .i64) fun (x62 : Int) =>
    Ld vw58 (s57.1.add 1) (Value.int .i64) fun (x63 : Int) =>
    Ld vw58 (s57.1.add 2) (Value.int .i64) fun (x64 : Int) =>
    Ld vw58 (s57.1.add 3) (Value.int .i64) fun (x65 : Int) =>
    Ld vw58 (s57.1.add 4) (Value.int .i64) fun (x66 : Int) =>
    Ld vw58 (s57.1.add 5) (Value.int .i64) fun (x67 : Int) =>
    St vw58 (⟨w.heap.size, 0, none⟩ : Addr) (.int .i64 x62) fun vw68 =>
    St vw68 ((⟨w.heap.size, 0, none⟩ : Addr).add 1) (.int .i64 x63) fun vw69 =>
    St vw69 ((⟨w.heap.size, 0, none⟩ : Addr).add 2) (.int .i64 x64) fun vw70 =>
    St vw70 ((⟨w.heap.size, 0, none⟩ : Addr).add 3) (.int .i64 x65) fun vw71 =>
    St vw71 ((⟨w.heap.size, 0, none⟩ : Addr).add 4) (.int .i64 x66) fun vw72 =>
    St vw72 ((⟨w.heap.size, 0, none⟩ : Addr).add 5) (.int .i64 x67) fun vw73 =>
    LdT vw73 (⟨w.heap.size, 0, none⟩ : Addr) 0 LiA29 fun (x74 : TyA29) =>
    StT (⟨vw5.heap.size, 0, none⟩ : Addr) 0 LiA29 x74 vw73 fun vw75 =>
    LdT vw75 (⟨vw5.heap.size, 0, none⟩ : Addr) 0 LiA29 fun (x76 : TyA29) =>
    R x76 0 vw75)
def S119J2 (w : World) (n3 : Slc) (vw4 : World) (vw5 : World) (x7 : ByteArray) (R : (TyA29) → Int → World → Prop) (s151 : Bool) (vw152 : World) : Prop :=
  Br s151 (0 ≤ (0 : Int) ∧ (0 : Int) < (n3.len : Nat) ∧ Nn n3.p fun a159 =>
    Ld vw152 (a159.add (((0 : Int)).toNat * 1)) (Value.int .i64) fun (x160 : Int) =>
    C170 x160 2 vw152 fun r161 vw162 =>
      Br (!r161) (LdT vw162 (⟨w.heap.size, 0, none⟩ : Addr) 0 LiA29 fun (x163 : TyA29) =>
        StT (⟨vw5.heap.size, 0, none⟩ : Addr) 0 LiA29 x163 vw162 fun vw164 =>
        LdT vw164 (⟨vw5.heap.size, 0, none⟩ : Addr) 0 LiA29 fun (x165 : TyA29) =>
        R x165 2 vw164) (Ld vw162 (⟨vw4.heap.size, 0, none⟩ : Addr) Value.string fun (x166 : ByteArray) =>
        Br (x166.toList == (⟨#[74]⟩ : ByteArray).toList) (0 ≤ (0 : Int) ∧ (0 : Int) < (n3.len : Nat) ∧ Nn n3.p fun a167 =>
          Ld vw162 (a167.add (((0 : Int)).toNat * 1)) (Value.int .i64) fun (x168 : Int) =>
          St vw162 ((⟨w.heap.size, 0, none⟩ : Addr).add 7) (.int .i64 (IntKind.i64.wrap (Int.tdiv x168 10000))) fun vw169 =>
          LdT vw169 (⟨w.heap.size, 0, none⟩ : Addr) 0 LiA29 fun (x170 : TyA29) =>
          StT (⟨vw5.heap.size, 0, none⟩ : Addr) 0 LiA29 x170 vw169 fun vw171 =>
          LdT vw171 (⟨vw5.heap.size, 0, none⟩ : Addr) 0 LiA29 fun (x172 : TyA29) =>
          R x172 0 vw171) (0 ≤ (0 : Int) ∧ (0 : Int) < (n3.len : Nat) ∧ Nn n3.p fun a173 =>
          Ld vw162 (a173.add (((0 : Int)).toNat * 1)) (Value.int .i64) fun (x174 : Int) =>
          St vw162 ((⟨w.heap.size, 0, none⟩ : Addr).add 8) (.int .i64 (IntKind.i64.wrap (Int.tdiv x174 10000))) fun vw175 =>
          LdT vw175 (⟨w.heap.size, 0, none⟩ : Addr) 0 LiA29 fun (x176 : TyA29) =>
          StT (⟨vw5.heap.size, 0, none⟩ : Addr) 0 LiA29 x176 vw175 fun vw177 =>
          LdT vw177 (⟨vw5.heap.size, 0, none⟩ : Addr) 0 LiA29 fun (x178 : TyA29) =>
          R x178 0 vw177))) (Br (x7.toList == (⟨#[100]⟩ : ByteArray).toList) (Ld vw152 ((⟨vw4.heap.size, 0, none⟩ : Addr).add 1) Slc.v fun (x179 : Slc) =>
      0 ≤ (0 : Int) ∧ (0 : Int) < (x179.len : Nat) ∧ Nn x179.p fun a180 =>
      Ld vw152 (a180.add (((0 : Int)).toNat * 6)) (Value.int .i64) fun (x181 : Int) =>
      Ld vw152 ((a180.add (((0 : Int)).toNat * 6)).add 1) (Value.int .i64) fun (x182 : Int) =>
      Ld vw152 ((a180.add (((0 : Int)).toNat * 6)).add 2) (Value.int .i64) fun (x183 : Int) =>
      Ld vw152 ((a180.add (((0 : Int)).toNat * 6)).add 3) Value.string fun (x184 : ByteArray) =>
      Ld vw152 ((a180.add (((0 : Int)).toNat * 6)).add 4) Slc.v fun (x185 : Slc) =>
      Ld vw152 ((a180.add (((0 : Int)).toNat * 6)).add 5) Slc.v fun (x186 : Slc) =>
      C173 (x181, x182, x183, x184, x185, x186) vw152 fun r187 r188 vw189 =>
        Br (r188 != 0) (LdT vw189 (⟨w.heap.size, 0, none⟩ : Addr) 0 LiA29 fun (x192 : TyA29) =>
          StT (⟨vw5.heap.size, 0, none⟩ : Addr) 0 LiA29 x192 vw189 fun vw193 =>
          LdT vw193 (⟨vw5.heap.size, 0, none⟩ : Addr) 0 LiA29 fun (x194 : TyA29) =>
          R x194 r188 vw193) (Br (decide (((n3.len : Nat) : Int) < 1)) (LdT vw189 (⟨w.heap.size, 0, none⟩ : Addr) 0 LiA29 fun (x201 : TyA29) =>
            StT (⟨vw5.heap.size, 0, none⟩ : Addr) 0 LiA29 x201 vw189 fun vw202 =>
            LdT vw202 (⟨vw5.heap.size, 0, none⟩ : Addr) 0 LiA29 fun (x203 : TyA29) =>
            R x203 2 vw202) (0 ≤ (0 : Int) ∧ (0 : Int) < (n3.len : Nat) ∧ Nn n3.p fun a204 =>
            Ld vw189 (a204.add (((0 : Int)).toNat * 1)) (Value.int .i64) fun (x205 : Int) =>
            Br (decide (x205 < 0)) (LdT vw189 (⟨w.heap.size, 0, none⟩ : Addr) 0 LiA29 fun (x206 : TyA29) =>
              StT (⟨vw5.heap.size, 0, none⟩ : Addr) 0 LiA29 x206 vw189 fun vw207 =>
              LdT vw207 (⟨vw5.heap.size, 0, none⟩ : Addr) 0 LiA29 fun (x208 : TyA29) =>
              R x208 2 vw207) (St vw189 ((⟨w.heap.size, 0, none⟩ : Addr).add 10) (Slc.v r187) fun vw209 =>
              0 ≤ (0 : Int) ∧ (0 : Int) < (n3.len : Nat) ∧ Nn n3.p fun a210 =>
              Ld vw209 (a210.add (((0 : Int)).toNat * 1)) (Value.int .i64) fun (x211 : Int) =>
              St vw209 ((⟨w.heap.size, 0, none⟩ : Addr).add 11) (.int .i64 x211) fun vw212 =>
              LdT vw212 (⟨w.heap.size, 0, none⟩ : Addr) 0 LiA29 fun (x213 : TyA29) =>
              StT (⟨vw5.heap.size, 0, none⟩ : Addr) 0 LiA29 x213 vw212 fun vw214 =>
              LdT vw214 (⟨vw5.heap.size, 0, none⟩ : Addr) 0 LiA29 fun (x215 : TyA29) =>
              R x215 0 vw214)))) (LdT vw152 (⟨w.heap.size, 0, none⟩ : Addr) 0 LiA29 fun (x216 : TyA29) =>
      StT (⟨vw5.heap.size, 0, none⟩ : Addr) 0 LiA29 x216 vw152 fun vw217 =>
      LdT vw217 (⟨vw5.heap.size, 0, none⟩ : Addr) 0 LiA29 fun (x218 : TyA29) =>
      R x218 0 vw217))
def S119J3 (w : World) (n3 : Slc) (vw4 : World) (vw5 : World) (x7 : ByteArray) (R : (TyA29) → Int → World → Prop) (s127 : Bool) (vw128 : World) : Prop :=
  Br s127 (0 ≤ (0 : Int) ∧ (0 : Int) < (n3.len : Nat) ∧ Nn n3.p fun a133 =>
    Ld vw128 (a133.add (((0 : Int)).toNat * 1)) (Value.int .i64) fun (x134 : Int) =>
    Br (decide (x134 < 0)) (LdT vw128 (⟨w.heap.size, 0, none⟩ : Addr) 0 LiA29 fun (x135 : TyA29) =>
      StT (⟨vw5.heap.size, 0, none⟩ : Addr) 0 LiA29 x135 vw128 fun vw136 =>
      LdT vw136 (⟨vw5.heap.size, 0, none⟩ : Addr) 0 LiA29 fun (x137 : TyA29) =>
      R x137 2 vw136) (Ld vw128 (⟨vw4.heap.size, 0, none⟩ : Addr) Value.string fun (x138 : ByteArray) =>
      Br (x138.toList == (⟨#[119]⟩ : ByteArray).toList) (0 ≤ (0 : Int) ∧ (0 : Int) < (n3.len : Nat) ∧ Nn n3.p fun a139 =>
        Ld vw128 (a139.add (((0 : Int)).toNat * 1)) (Value.int .i64) fun (x140 : Int) =>
        St vw128 ((⟨w.heap.size, 0, none⟩ : Addr).add 6) (.int .i64 x140) fun vw141 =>
        LdT vw141 (⟨w.heap.size, 0, none⟩ : Addr) 0 LiA29 fun (x142 : TyA29) =>
        StT (⟨vw5.heap.size, 0, none⟩ : Addr) 0 LiA29 x142 vw141 fun vw143 =>
        LdT vw143 (⟨vw5.heap.size, 0, none⟩ : Addr) 0 LiA29 fun (x144 : TyA29) =>
        R x144 0 vw143) (0 ≤ (0 : Int) ∧ (0 : Int) < (n3.len : Nat) ∧ Nn n3.p fun a145 =>
        Ld vw128 (a145.add (((0 : Int)).toNat * 1)) (Value.int .i64) fun (x146 : Int) =>
        St vw128 ((⟨w.heap.size, 0, none⟩ : Addr).add 9) (.int .i64 x146) fun vw147 =>
        LdT vw147 (⟨w.heap.size, 0, none⟩ : Addr) 0 LiA29 fun (x148 : TyA29) =>
        StT (⟨vw5.heap.size, 0, none⟩ : Addr) 0 LiA29 x148 vw147 fun vw149 =>
        LdT vw149 (⟨vw5.heap.size, 0, none⟩ : Addr) 0 LiA29 fun (x150 : TyA29) =>
        R x150 0 vw149))) (Join (S119J2 w n3 vw4 vw5 x7 R) fun (vJ219 : Bool → World → Prop) =>
      Br (x7.toList == (⟨#[74]⟩ : ByteArray).toList) (vJ219 (x7.toList == (⟨#[74]⟩ : ByteArray).toList) vw128) (vJ219 (x7.toList == (⟨#[106]⟩ : ByteArray).toList) vw128))
/-- foliant/foliantref44.line -/
def S119 (g1 : TyA29) (o2 : ByteArray × Slc × ByteArray) (n3 : Slc) (w : World) (R : (TyA29) → Int → World → Prop) : Prop :=
  Nw w (.cells (Sig.cells LiA29 g1).toArray 30) fun vw4 =>
  Nw vw4 (.cells #[.string o2.1, Slc.v o2.2.1, .string o2.2.2] 63) fun vw5 =>
  Nw vw5 (.cells #[.int .i64 0, .int .i64 0, .int .i64 0, .int .i64 0, .int .i64 0, .int .i64 0, .int .i64 0, .int .i64 0, .int .i64 0, .int .i64 0, Slc.v ((⟨none, 0, 0⟩ : Slc)), .int .i64 0, .int .i64 0, .int .i64 0, .int .i64 0, .int .i64 0, .int .i64 0, .int .i64 0, .int .i64 0, .int .i64 0, .int .i64 0, .int .i64 0, .int .i64 0, .int .i64 0, .int .i64 0, .int .i64 0, .int .i64 0, .int .i64 0, .string ((⟨#[]⟩ : ByteArray)), .int .i64 0] 30) fun vw6 =>
  Ld vw6 (⟨vw4.heap.size, 0, none⟩ : Addr) Value.string fun (x7 : ByteArray) =>
  Br (x7.toList == (⟨#[99, 109]⟩ : ByteArray).toList) (Join (S119J1 w vw5 R) fun (vJ77 : (Addr × Int) → World → Prop) =>
      ∃ vS78 : World → Prop, vS78 vw6.drew ∧ 0 ≤ (0 : Int) ∧ (0 : Int) < (n3.len : Nat) ∧ Nn n3.p fun a79 =>
      LdS vS78 (a79.add (((0 : Int)).toNat * 1)) (Value.int .i64) fun (x80 : Int) =>
      0 ≤ (1 : Int) ∧ (1 : Int) < (n3.len : Nat) ∧ Nn n3.p fun a81 =>
      LdS vS78 (a81.add (((1 : Int)).toNat * 1)) (Value.int .i64) fun (x82 : Int) =>
      0 ≤ (2 : Int) ∧ (2 : Int) < (n3.len : Nat) ∧ Nn n3.p fun a83 =>
      LdS vS78 (a83.add (((2 : Int)).toNat * 1)) (Value.int .i64) fun (x84 : Int) =>
      0 ≤ (3 : Int) ∧ (3 : Int) < (n3.len : Nat) ∧ Nn n3.p fun a85 =>
      LdS vS78 (a85.add (((3 : Int)).toNat * 1)) (Value.int .i64) fun (x86 : Int) =>
      0 ≤ (4 : Int) ∧ (4 : Int) < (n3.len : Nat) ∧ Nn n3.p fun a87 =>
      LdS vS78 (a87.add (((4 : Int)).toNat * 1)) (Value.int .i64) fun (x88 : Int) =>
      0 ≤ (5 : Int) ∧ (5 : Int) < (n3.len : Nat) ∧ Nn n3.p fun a89 =>
      LdS vS78 (a89.add (((5 : Int)).toNat * 1)) (Value.int .i64) fun (x90 : Int) =>
      LdS vS78 (⟨w.heap.size, 0, none⟩ : Addr) (Value.int .i64) fun (x91 : Int) =>
      LdS vS78 ((⟨w.heap.size, 0, none⟩ : Addr).add 1) (Value.int .i64) fun (x92 : Int) =>
      LdS vS78 ((⟨w.heap.size, 0, none⟩ : Addr).add 2) (Value.int .i64) fun (x93 : Int) =>
      LdS vS78 ((⟨w.heap.size, 0, none⟩ : Addr).add 3) (Value.int .i64) fun (x94 : Int) =>
      LdS vS78 ((⟨w.heap.size, 0, none⟩ : Addr).add 4) (Value.int .i64) fun (x95 : Int) =>
      LdS vS78 ((⟨w.heap.size, 0, none⟩ : Addr).add 5) (Value.int .i64) fun (x96 : Int) =>
      (vS78 vw6.drew ∧ (C172 (x80, x82, x84, x86, x88, x90) (x91, x92, x93, x94, x95, x96) vw6.drew fun r97 r98 vw99 =>
            Nw vw99 (.cells #[.int .i64 0, .int .i64 0, .int .i64 0, .int .i64 0, .int .i64 0, .int .i64 0] 23) fun vw100 =>
            St vw100 (⟨vw99.heap.size, 0, none⟩ : Addr) (.int .i64 (r97.1)) fun vw101 =>
            St vw101 ((⟨vw99.heap.size, 0, none⟩ : Addr).add 1) (.int .i64 (r97.2.1)) fun vw102 =>
            St vw102 ((⟨vw99.heap.size, 0, none⟩ : Addr).add 2) (.int .i64 (r97.2.2.1)) fun vw103 =>
            St vw103 ((⟨vw99.heap.size, 0, none⟩ : Addr).add 3) (.int .i64 (r97.2.2.2.1)) fun vw104 =>
            St vw104 ((⟨vw99.heap.size, 0, none⟩ : Addr).add 4) (.int .i64 (r97.2.2.2.2.1)) fun vw105 =>
            St vw105 ((⟨vw99.heap.size, 0, none⟩ : Addr).add 5) (.int .i64 (r97.2.2.2.2.2)) fun vw106 =>
            vJ77 ((⟨vw99.heap.size, 0, none⟩ : Addr), r98) vw106) ∧
        (Nw vw6.drew (.cells #[.int .i64 0, .int .i64 0, .int .i64 0, .int .i64 0, .int .i64 0, .int .i64 0] 23) fun vw107 =>
          vS78 vw107 ∧ C172 (x80, x82, x84, x86, x88, x90) (x91, x92, x93, x94, x95, x96) vw107 fun r108 r109 vw110 =>
            St vw110 (⟨vw6.drew.heap.size, 0, none⟩ : Addr) (.int .i64 (r108.1)) fun vw111 =>
            St vw111 ((⟨vw6.drew.heap.size, 0, none⟩ : Addr).add 1) (.int .i64 (r108.2.1)) fun vw112 =>
            St vw112 ((⟨vw6.drew.heap.size, 0, none⟩ : Addr).add 2) (.int .i64 (r108.2.2.1)) fun vw113 =>
            St vw113 ((⟨vw6.drew.heap.size, 0, none⟩ : Addr).add 3) (.int .i64 (r108.2.2.2.1)) fun vw114 =>
            St vw114 ((⟨vw6.drew.heap.size, 0, none⟩ : Addr).add 4) (.int .i64 (r108.2.2.2.2.1)) fun vw115 =>
            St vw115 ((⟨vw6.drew.heap.size, 0, none⟩ : Addr).add 5) (.int .i64 (r108.2.2.2.2.2)) fun vw116 =>
            vJ77 ((⟨vw6.drew.heap.size, 0, none⟩ : Addr), r109) vw116)) ∧
      (Nw vw6.drew (.cells #[.int .i64 0, .int .i64 0, .int .i64 0, .int .i64 0, .int .i64 0, .int .i64 0] 23) fun vw117 =>
        vS78 vw117 ∧ vS78 vw117 ∧ C172 (x80, x82, x84, x86, x88, x90) (x91, x92, x93, x94, x95, x96) vw117 fun r118 r119 vw120 =>
          St vw120 (⟨vw6.drew.heap.size, 0, none⟩ : Addr) (.int .i64 (r118.1)) fun vw121 =>
          St vw121 ((⟨vw6.drew.heap.size, 0, none⟩ : Addr).add 1) (.int .i64 (r118.2.1)) fun vw122 =>
          St vw122 ((⟨vw6.drew.heap.size, 0, none⟩ : Addr).add 2) (.int .i64 (r118.2.2.1)) fun vw123 =>
          St vw123 ((⟨vw6.drew.heap.size, 0, none⟩ : Addr).add 3) (.int .i64 (r118.2.2.2.1)) fun vw124 =>
          St vw124 ((⟨vw6.drew.heap.size, 0, none⟩ : Addr).add 4) (.int .i64 (r118.2.2.2.2.1)) fun vw125 =>
          St vw125 ((⟨vw6.drew.heap.size, 0, none⟩ : Addr).add 5) (.int .i64 (r118.2.2.2.2.2)) fun vw126 =>
          vJ77 ((⟨vw6.drew.heap.size, 0, none⟩ : Addr), r119) vw126)) (Join (S119J3 w n3 vw4 vw5 x7 R) fun (vJ220 : Bool → World → Prop) =>
      Br (x7.toList == (⟨#[119]⟩ : ByteArray).toList) (vJ220 (x7.toList == (⟨#[119]⟩ : ByteArray).toList) vw6) (vJ220 (x7.toList == (⟨#[77]⟩ : ByteArray).toList) vw6))
def pl119 : Plan := (.seq (.reg .seq) (.seq (.seq (.reg .seq) (.block (.seq (.reg .seq) (.cond (.join [(8, (.one .addr)), (9, (.one (.int .i64)))] [3, 6] (.reg (.held [21] (.take 0 (.take 1 (.take 2 (.take 3 (.take 4 (.take 5 (.take 6 (.take 7 (.take 8 (.take 9 (.take 10 (.take 11 (.take 12 (.take 13 (.take 14 (.take 15 (.take 16 (.take 17 (.take 19 (.take 20 (.effs 18 none (.effs 21 (some [25]) (.take 22 (.take 23 (.take 24 (.eff 25 (some [26]) (.eff 26 (some []) (.take 27 .done)))))) (.eff 25 none (.eff 21 (some [26]) (.take 22 (.take 23 (.take 24 (.eff 26 (some []) (.take 27 .done)))))))) (.eff 25 none (.eff 18 none (.eff 21 (some [26]) (.take 22 (.take 23 (.take 24 (.eff 26 (some []) (.take 27 .done))))))))))))))))))))))))))))))) (.seq (.seq (.reg .seq) (.cond (.seq (.reg .seq) .leaf) .leaf)) (.reg .seq))) (.join [(47, (.one .bool))] [2, 3, 4, 6, 13] (.seq (.reg .seq) (.cond .leaf (.reg .seq))) (.cond (.seq (.seq (.reg .seq) (.cond (.seq (.reg .seq) .leaf) .leaf)) (.seq (.reg .seq) (.cond (.reg .seq) (.reg .seq)))) (.join [(66, (.one .bool))] [2, 3, 4, 6, 13] (.seq (.reg .seq) (.cond .leaf (.reg .seq))) (.cond (.seq (.seq (.reg .seq) (.cond (.seq (.reg .seq) .leaf) .leaf)) (.seq (.reg .seq) (.cond (.reg .seq) (.reg .seq)))) (.seq (.reg .seq) (.cond (.seq (.reg .seq) (.seq (.seq (.reg .seq) (.cond (.seq (.reg .seq) .leaf) .leaf)) (.seq (.seq (.reg .seq) (.cond (.seq (.reg .seq) .leaf) .leaf)) (.seq (.reg .seq) (.reg .seq))))) .leaf)))))))))) (.seq (.reg .seq) .leaf)))
set_option maxRecDepth 100000 in
theorem T119 (g1 : TyA29) (o2 : ByteArray × Slc × ByteArray) (n3 : Slc) (w : World) (R : (TyA29) → Int → World → Prop) (h : S119 g1 o2 n3 w R) : C119 g1 (o2.1, o2.2.1, o2.2.2) n3 w R := by
  have e : fnT Tryd.prog ⟨FF, MAY, (fun _ _ => False)⟩ pl119 Tryd.f119 [.agg (Sig.cells LiA29 g1).toArray, .agg #[.string o2.1, Slc.v o2.2.1, .string o2.2.2], Slc.v n3] w [(.agg [(.int .i64), (.int .i64), (.int .i64), (.int .i64), (.int .i64), (.int .i64), (.int .i64), (.int .i64), (.int .i64), (.int .i64), .slc, (.int .i64), (.int .i64), (.int .i64), (.int .i64), (.int .i64), (.int .i64), (.int .i64), (.int .i64), (.int .i64), (.int .i64), (.int .i64), (.int .i64), (.int .i64), (.int .i64), (.int .i64), (.int .i64), (.int .i64), .str, (.int .i64)]), (.one (.int .i64))] (fun s w => R s.1 s.2 w) = S119 g1 o2 n3 w R := by kernel_rfl
  exact (fn_calls okF okM Tryd.func119 (by kernel_rfl) (by kernel_rfl) (e.mpr h)).mono fun _ _ ⟨s, he, hR⟩ => ⟨s.1, s.2, he, hR⟩

def S54J1 (w : World) (vw4 : World) (vw126 : World) (R : (TyA107) → Int → World → Prop) (s231 : Int) (vw232 : World) : Prop :=
  Br (s231 == 0) (LdT vw232 (⟨vw126.heap.size, 0, none⟩ : Addr) 0 LiA29 fun (x233 : TyA29) =>
    StT (⟨w.heap.size, 0, none⟩ : Addr) 0 LiA29 x233 vw232 fun vw234 =>
    LdT vw234 (⟨w.heap.size, 0, none⟩ : Addr) 0 LiA107 fun (x235 : TyA107) =>
    StT (⟨vw4.heap.size, 0, none⟩ : Addr) 0 LiA107 x235 vw234 fun vw236 =>
    LdT vw236 (⟨vw4.heap.size, 0, none⟩ : Addr) 0 LiA107 fun (x237 : TyA107) =>
    R x237 s231 vw236) (LdT vw232 (⟨w.heap.size, 0, none⟩ : Addr) 0 LiA107 fun (x238 : TyA107) =>
    StT (⟨vw4.heap.size, 0, none⟩ : Addr) 0 LiA107 x238 vw232 fun vw239 =>
    LdT vw239 (⟨vw4.heap.size, 0, none⟩ : Addr) 0 LiA107 fun (x240 : TyA107) =>
    R x240 s231 vw239)
def S54J2 (w : World) (vw3 : World) (vw4 : World) (r95 : Slc) (R : (TyA107) → Int → World → Prop) (s101 : Unit) (vw102 : World) : Prop :=
  Ld vw102 ((⟨w.heap.size, 0, none⟩ : Addr).add 22) (Value.int .i64) fun (x103 : Int) =>
  Ld vw102 (((⟨w.heap.size, 0, none⟩ : Addr).add 22).add 1) (Value.int .i64) fun (x104 : Int) =>
  Ld vw102 (((⟨w.heap.size, 0, none⟩ : Addr).add 22).add 2) (Value.int .i64) fun (x105 : Int) =>
  Ld vw102 (((⟨w.heap.size, 0, none⟩ : Addr).add 22).add 3) (Value.int .i64) fun (x106 : Int) =>
  Ld vw102 (((⟨w.heap.size, 0, none⟩ : Addr).add 22).add 4) (Value.int .i64) fun (x107 : Int) =>
  Ld vw102 (((⟨w.heap.size, 0, none⟩ : Addr).add 22).add 5) (Value.int .i64) fun (x108 : Int) =>
  Ld vw102 (((⟨w.heap.size, 0, none⟩ : Addr).add 22).add 6) Value.string fun (x109 : ByteArray) =>
  Ld vw102 (((⟨w.heap.size, 0, none⟩ : Addr).add 22).add 7) (Value.int .i64) fun (x110 : Int) =>
  Ld vw102 (⟨vw3.heap.size, 0, none⟩ : Addr) Value.string fun (x111 : ByteArray) =>
  Ld vw102 ((⟨vw3.heap.size, 0, none⟩ : Addr).add 1) Slc.v fun (x112 : Slc) =>
  Ld vw102 ((⟨vw3.heap.size, 0, none⟩ : Addr).add 2) Value.string fun (x113 : ByteArray) =>
  C117 (x103, x104, x105, x106, x107, x108, x109, x110) (x111, x112, x113) r95 vw102 fun r114 r115 r116 vw117 =>
    Nw vw117 (.cells #[.int .i64 0, .int .i64 0, .int .i64 0, .int .i64 0, .int .i64 0, .int .i64 0, .string ((⟨#[]⟩ : ByteArray)), .int .i64 0] 28) fun vw118 =>
    St vw118 (⟨vw117.heap.size, 0, none⟩ : Addr) (.int .i64 (r114.1)) fun vw119 =>
    St vw119 ((⟨vw117.heap.size, 0, none⟩ : Addr).add 1) (.int .i64 (r114.2.1)) fun vw120 =>
    St vw120 ((⟨vw117.heap.size, 0, none⟩ : Addr).add 2) (.int .i64 (r114.2.2.1)) fun vw121 =>
    St vw121 ((⟨vw117.heap.size, 0, none⟩ : Addr).add 3) (.int .i64 (r114.2.2.2.1)) fun vw122 =>
    St vw122 ((⟨vw117.heap.size, 0, none⟩ : Addr).add 4) (.int .i64 (r114.2.2.2.2.1)) fun vw123 =>
    St vw123 ((⟨vw117.heap.size, 0, none⟩ : Addr).add 5) (.int .i64 (r114.2.2.2.2.2.1)) fun vw124 =>
    St vw124 ((⟨vw117.heap.size, 0, none⟩ : Addr).add 6) (.string r114.2.2.2.2.2.2.1) fun vw125 =>
    St vw125 ((⟨vw117.heap.size, 0, none⟩ : Addr).add 7) (.int .i64 (r114.2.2.2.2.2.2.2)) fun vw126 =>
    Br r115 (Br (r116 == 0) (Ld vw126 (⟨vw117.heap.size, 0, none⟩ : Addr) (Value.int .i64) fun (x147 : Int) =>
        Ld vw126 ((⟨vw117.heap.size, 0, none⟩ : Addr).add 1) (Value.int .i64) fun (x148 : Int) =>
        Ld vw126 ((⟨vw117.heap.size, 0, none⟩ : Addr).add 2) (Value.int .i64) fun (x149 : Int) =>
        Ld vw126 ((⟨vw117.heap.size, 0, none⟩ : Addr).add 3) (Value.int .i64) fun (x150 : Int) =>
        Ld vw126 ((⟨vw117.heap.size, 0, none⟩ : Addr).add 4) (Value.int .i64) fun (x151 : Int) =>
        Ld vw126 ((⟨vw117.heap.size, 0, none⟩ : Addr).add 5) (Value.int .i64) fun (x152 : Int) =>
        Ld vw126 ((⟨vw117.heap.size, 0, none⟩ : Addr).add 6) Value.string fun (x153 : ByteArray) =>
        Ld vw126 ((⟨vw117.heap.size, 0, none⟩ : Addr).add 7) (Value.int .i64) fun (x154 : Int) =>
        St vw126 ((⟨w.heap.size, 0, none⟩ : Addr).add 22) (.int .i64 x147) fun vw155 =>
        St vw155 (((⟨w.heap.size, 0, none⟩ : Addr).add 22).add 1) (.int .i64 x148) fun vw156 =>
        St vw156 (((⟨w.heap.size, 0, none⟩ : Addr).add 22).add 2) (.int .i64 x149) fun vw157 =>
        St vw157 (((⟨w.heap.size, 0, none⟩ : Addr).add 22).add 3) (.int .i64 x150) fun vw158 =>
        St vw158 (((⟨w.heap.size, 0, none⟩ : Addr).add 22).add 4) (.int .i64 x151) fun vw159 =>
        St vw159 (((⟨w.heap.size, 0, none⟩ : Addr).add 22).add 5) (.int .i64 x152) fun vw160 =>
        St vw160 (((⟨w.heap.size, 0, none⟩ : Addr).add 22).add 6) (.string x153) fun vw161 =>
        St vw161 (((⟨w.heap.size, 0, none⟩ : Addr).add 22).add 7) (.int .i64 x154) fun vw162 =>
        LdT vw162 (⟨w.heap.size, 0, none⟩ : Addr) 0 LiA107 fun (x163 : TyA107) =>
        StT (⟨vw4.heap.size, 0, none⟩ : Addr) 0 LiA107 x163 vw162 fun vw164 =>
        LdT vw164 (⟨vw4.heap.size, 0, none⟩ : Addr) 0 LiA107 fun (x165 : TyA107) =>
        R x165 r116 vw164) (LdT vw126 (⟨w.heap.size, 0, none⟩ : Addr) 0 LiA107 fun (x166 : TyA107) =>
        StT (⟨vw4.heap.size, 0, none⟩ : Addr) 0 LiA107 x166 vw126 fun vw167 =>
        LdT vw167 (⟨vw4.heap.size, 0, none⟩ : Addr) 0 LiA107 fun (x168 : TyA107) =>
        R x168 r116 vw167)) (LdT vw126 (⟨w.heap.size, 0, none⟩ : Addr) 0 LiA29 fun (x169 : TyA29) =>
      Nw vw126 (.cells #[.int .i64 0, .int .i64 0, .int .i64 0, .int .i64 0, .int .i64 0, .int .i64 0, .int .i64 0, .int .i64 0, .int .i64 0, .int .i64 0, Slc.v ((⟨none, 0, 0⟩ : Slc)), .int .i64 0, .int .i64 0, .int .i64 0, .int .i64 0, .int .i64 0, .int .i64 0, .int .i64 0, .int .i64 0, .int .i64 0, .int .i64 0, .int .i64 0, .int .i64 0, .int .i64 0, .int .i64 0, .int .i64 0, .int .i64 0, .int .i64 0, .string ((⟨#[]⟩ : ByteArray)), .int .i64 0] 30) fun vw170 =>
      StT (⟨vw126.heap.size, 0, none⟩ : Addr) 0 LiA29 x169 vw170 fun vw171 =>
      Join (S54J1 w vw4 vw126 R) fun (vJ241 : Int → World → Prop) =>
        Ld vw171 (⟨vw3.heap.size, 0, none⟩ : Addr) Value.string fun (x242 : ByteArray) =>
        Br (decide ((((x242).size : Nat) : Int) < 3)) (Ld vw171 (⟨vw3.heap.size, 0, none⟩ : Addr) Value.string fun (x243 : ByteArray) =>
          Br (x243.toList == (⟨#[103]⟩ : ByteArray).toList) (LdT vw171 (⟨vw126.heap.size, 0, none⟩ : Addr) 0 LiA29 fun (x244 : TyA29) =>
            Ld vw171 (⟨vw3.heap.size, 0, none⟩ : Addr) Value.string fun (x245 : ByteArray) =>
            C118 x244 x245 r95 vw171 fun r246 r247 vw248 =>
              StT (⟨vw126.heap.size, 0, none⟩ : Addr) 0 LiA29 r246 vw248 fun vw249 =>
              vJ241 r247 vw249) (Ld vw171 (⟨vw3.heap.size, 0, none⟩ : Addr) Value.string fun (x250 : ByteArray) =>
            Br (x250.toList == (⟨#[71]⟩ : ByteArray).toList) (LdT vw171 (⟨vw126.heap.size, 0, none⟩ : Addr) 0 LiA29 fun (x251 : TyA29) =>
              Ld vw171 (⟨vw3.heap.size, 0, none⟩ : Addr) Value.string fun (x252 : ByteArray) =>
              C118 x251 x252 r95 vw171 fun r253 r254 vw255 =>
                StT (⟨vw126.heap.size, 0, none⟩ : Addr) 0 LiA29 r253 vw255 fun vw256 =>
                vJ241 r254 vw256) (Ld vw171 (⟨vw3.heap.size, 0, none⟩ : Addr) Value.string fun (x257 : ByteArray) =>
              Br (x257.toList == (⟨#[114, 103]⟩ : ByteArray).toList) (LdT vw171 (⟨vw126.heap.size, 0, none⟩ : Addr) 0 LiA29 fun (x258 : TyA29) =>
                Ld vw171 (⟨vw3.heap.size, 0, none⟩ : Addr) Value.string fun (x259 : ByteArray) =>
                C118 x258 x259 r95 vw171 fun r260 r261 vw262 =>
                  StT (⟨vw126.heap.size, 0, none⟩ : Addr) 0 LiA29 r260 vw262 fun vw263 =>
                  vJ241 r261 vw263) (Ld vw171 (⟨vw3.heap.size, 0, none⟩ : Addr) Value.string fun (x264 : ByteArray) =>
                Br (x264.toList == (⟨#[82, 71]⟩ : ByteArray).toList) (LdT vw171 (⟨vw126.heap.size, 0, none⟩ : Addr) 0 LiA29 fun (x265 : TyA29) =>
                  Ld vw171 (⟨vw3.heap.size, 0, none⟩ : Addr) Value.string fun (x266 : ByteArray) =>
                  C118 x265 x266 r95 vw171 fun r267 r268 vw269 =>
                    StT (⟨vw126.heap.size, 0, none⟩ : Addr) 0 LiA29 r267 vw269 fun vw270 =>
                    vJ241 r268 vw270) (Ld vw171 (⟨vw3.heap.size, 0, none⟩ : Addr) Value.string fun (x271 : ByteArray) =>
                  Br (x271.toList == (⟨#[107]⟩ : ByteArray).toList) (LdT vw171 (⟨vw126.heap.size, 0, none⟩ : Addr) 0 LiA29 fun (x272 : TyA29) =>
                    Ld vw171 (⟨vw3.heap.size, 0, none⟩ : Addr) Value.string fun (x273 : ByteArray) =>
                    C118 x272 x273 r95 vw171 fun r274 r275 vw276 =>
                      StT (⟨vw126.heap.size, 0, none⟩ : Addr) 0 LiA29 r274 vw276 fun vw277 =>
                      vJ241 r275 vw277) (Ld vw171 (⟨vw3.heap.size, 0, none⟩ : Addr) Value.string fun (x278 : ByteArray) =>
                    Br (x278.toList == (⟨#[75]⟩ : ByteArray).toList) (LdT vw171 (⟨vw126.heap.size, 0, none⟩ : Addr) 0 LiA29 fun (x279 : TyA29) =>
                      Ld vw171 (⟨vw3.heap.size, 0, none⟩ : Addr) Value.string fun (x280 : ByteArray) =>
                      C118 x279 x280 r95 vw171 fun r281 r282 vw283 =>
                        StT (⟨vw126.heap.size, 0, none⟩ : Addr) 0 LiA29 r281 vw283 fun vw284 =>
                        vJ241 r282 vw284) (LdT vw171 (⟨vw126.heap.size, 0, none⟩ : Addr) 0 LiA29 fun (x285 : TyA29) =>
                      Ld vw171 (⟨vw3.heap.size, 0, none⟩ : Addr) Value.string fun (x286 : ByteArray) =>
                      Ld vw171 ((⟨vw3.heap.size, 0, none⟩ : Addr).add 1) Slc.v fun (x287 : Slc) =>
                      Ld vw171 ((⟨vw3.heap.size, 0, none⟩ : Addr).add 2) Value.string fun (x288 : ByteArray) =>
                      C119 x285 (x286, x287, x288) r95 vw171 fun r289 r290 vw291 =>
                        StT (⟨vw126.heap.size, 0, none⟩ : Addr) 0 LiA29 r289 vw291 fun vw292 =>
                        vJ241 r290 vw292))))))) (LdT vw171 (⟨vw126.heap.size, 0, none⟩ : Addr) 0 LiA29 fun (x293 : TyA29) =>
          Ld vw171 (⟨vw3.heap.size, 0, none⟩ : Addr) Value.string fun (x294 : ByteArray) =>
          Ld vw171 ((⟨vw3.heap.size, 0, none⟩ : Addr).add 1) Slc.v fun (x295 : Slc) =>
          Ld vw171 ((⟨vw3.heap.size, 0, none⟩ : Addr).add 2) Value.string fun (x296 : ByteArray) =>
          C119 x293 (x294, x295, x296) r95 vw171 fun r297 r298 vw299 =>
            StT (⟨vw126.heap.size, 0, none⟩ : Addr) 0 LiA29 r297 vw299 fun vw300 =>
            vJ241 r298 vw300))
def S54J3 (w : World) (vw3 : World) (vw4 : World) (R : (TyA107) → Int → World → Prop) (s90 : Unit) (vw91 : World) : Prop :=
  Ld vw91 (⟨vw3.heap.size, 0, none⟩ : Addr) Value.string fun (x92 : ByteArray) =>
  Ld vw91 ((⟨vw3.heap.size, 0, none⟩ : Addr).add 1) Slc.v fun (x93 : Slc) =>
  Ld vw91 ((⟨vw3.heap.size, 0, none⟩ : Addr).add 2) Value.string fun (x94 : ByteArray) =>
  C116 (x92, x93, x94) vw91 fun r95 r96 vw97 =>
    Join (S54J2 w vw3 vw4 r95 R) fun (vJ301 : Unit → World → Prop) =>
      Br (!r96) (Ld vw97 (⟨vw3.heap.size, 0, none⟩ : Addr) Value.string fun (x302 : ByteArray) =>
        Br (!(x302.toList == (⟨#[100]⟩ : ByteArray).toList)) (LdT vw97 (⟨w.heap.size, 0, none⟩ : Addr) 0 LiA107 fun (x303 : TyA107) =>
          StT (⟨vw4.heap.size, 0, none⟩ : Addr) 0 LiA107 x303 vw97 fun vw304 =>
          LdT vw304 (⟨vw4.heap.size, 0, none⟩ : Addr) 0 LiA107 fun (x305 : TyA107) =>
          R x305 2 vw304) (vJ301 () vw97)) (vJ301 () vw97)
/-- foliant/foliantref44.Do -/
def S54 (x1 : TyA107) (o2 : ByteArray × Slc × ByteArray) (w : World) (R : (TyA107) → Int → World → Prop) : Prop :=
  Nw w (.cells (Sig.cells LiA107 x1).toArray 108) fun vw3 =>
  Nw vw3 (.cells #[.string o2.1, Slc.v o2.2.1, .string o2.2.2] 63) fun vw4 =>
  Nw vw4 (.cells #[.int .i64 0, .int .i64 0, .int .i64 0, .int .i64 0, .int .i64 0, .int .i64 0, .int .i64 0, .int .i64 0, .int .i64 0, .int .i64 0, Slc.v ((⟨none, 0, 0⟩ : Slc)), .int .i64 0, .int .i64 0, .int .i64 0, .int .i64 0, .int .i64 0, .int .i64 0, .int .i64 0, .int .i64 0, .int .i64 0, .int .i64 0, .int .i64 0, .int .i64 0, .int .i64 0, .int .i64 0, .int .i64 0, .int .i64 0, .int .i64 0, .string ((⟨#[]⟩ : ByteArray)), .int .i64 0, Slc.v ((⟨none, 0, 0⟩ : Slc))] 108) fun vw5 =>
  Ld vw5 (⟨vw3.heap.size, 0, none⟩ : Addr) Value.string fun (x11 : ByteArray) =>
  C115 x11 vw5 fun r12 vw13 =>
    Br (!r12) (LdT vw13 (⟨w.heap.size, 0, none⟩ : Addr) 0 LiA107 fun (x14 : TyA107) =>
      StT (⟨vw4.heap.size, 0, none⟩ : Addr) 0 LiA107 x14 vw13 fun vw15 =>
      LdT vw15 (⟨vw4.heap.size, 0, none⟩ : Addr) 0 LiA107 fun (x16 : TyA107) =>
      R x16 8 vw15) (Ld vw13 (⟨vw3.heap.size, 0, none⟩ : Addr) Value.string fun (x24 : ByteArray) =>
      Ld vw13 ((⟨vw3.heap.size, 0, none⟩ : Addr).add 1) Slc.v fun (x25 : Slc) =>
      Ld vw13 ((⟨vw3.heap.size, 0, none⟩ : Addr).add 2) Value.string fun (x26 : ByteArray) =>
      C43 (x24, x25, x26) vw13 fun r27 vw28 =>
        Br (r27 != 0) (LdT vw28 (⟨w.heap.size, 0, none⟩ : Addr) 0 LiA107 fun (x29 : TyA107) =>
          StT (⟨vw4.heap.size, 0, none⟩ : Addr) 0 LiA107 x29 vw28 fun vw30 =>
          LdT vw30 (⟨vw4.heap.size, 0, none⟩ : Addr) 0 LiA107 fun (x31 : TyA107) =>
          R x31 r27 vw30) (Join (S54J3 w vw3 vw4 R) fun (vJ306 : Unit → World → Prop) =>
            Ld vw28 (⟨vw3.heap.size, 0, none⟩ : Addr) Value.string fun (x307 : ByteArray) =>
            Br (x307.toList == (⟨#[113]⟩ : ByteArray).toList) (Ld vw28 ((⟨w.heap.size, 0, none⟩ : Addr).add 30) Slc.v fun (x308 : Slc) =>
              Br (decide (((x308.len : Nat) : Int) ≥ 28)) (LdT vw28 (⟨w.heap.size, 0, none⟩ : Addr) 0 LiA107 fun (x309 : TyA107) =>
                StT (⟨vw4.heap.size, 0, none⟩ : Addr) 0 LiA107 x309 vw28 fun vw310 =>
                LdT vw310 (⟨vw4.heap.size, 0, none⟩ : Addr) 0 LiA107 fun (x311 : TyA107) =>
                R x311 6 vw310) (∃ vS312 : World → Prop, vS312 vw28.drew ∧ LdS vS312 ((⟨w.heap.size, 0, none⟩ : Addr).add 30) Slc.v fun (x313 : Slc) =>
                LdST vS312 (⟨w.heap.size, 0, none⟩ : Addr) 0 LiA29 fun (x314 : TyA29) =>
                (Nw vw28.drew (.cells #[] 30) fun vw315 =>
                  vS312 vw315 ∧ (Rn Tryd.prog (Builtin.append_ #[106, 106] 106 #[Slc.v ((⟨some ⟨vw28.drew.heap.size, 0, none⟩, 0, 0⟩ : Slc)), Slc.v x313]) vw315 Slc.v fun (x316 : Slc) vw317 =>
                    vS312 vw317 ∧ Nw vw317 (.cells #[.int .i64 (x314.1), .int .i64 (x314.2.1), .int .i64 (x314.2.2.1), .int .i64 (x314.2.2.2.1), .int .i64 (x314.2.2.2.2.1), .int .i64 (x314.2.2.2.2.2.1), .int .i64 (x314.2.2.2.2.2.2.1), .int .i64 (x314.2.2.2.2.2.2.2.1), .int .i64 (x314.2.2.2.2.2.2.2.2.1), .int .i64 (x314.2.2.2.2.2.2.2.2.2.1), Slc.v x314.2.2.2.2.2.2.2.2.2.2.1, .int .i64 (x314.2.2.2.2.2.2.2.2.2.2.2.1), .int .i64 (x314.2.2.2.2.2.2.2.2.2.2.2.2.1), .int .i64 (x314.2.2.2.2.2.2.2.2.2.2.2.2.2.1), .int .i64 (x314.2.2.2.2.2.2.2.2.2.2.2.2.2.2.1), .int .i64 (x314.2.2.2.2.2.2.2.2.2.2.2.2.2.2.2.1), .int .i64 (x314.2.2.2.2.2.2.2.2.2.2.2.2.2.2.2.2.1), .int .i64 (x314.2.2.2.2.2.2.2.2.2.2.2.2.2.2.2.2.2.1), .int .i64 (x314.2.2.2.2.2.2.2.2.2.2.2.2.2.2.2.2.2.2.1), .int .i64 (x314.2.2.2.2.2.2.2.2.2.2.2.2.2.2.2.2.2.2.2.1), .int .i64 (x314.2.2.2.2.2.2.2.2.2.2.2.2.2.2.2.2.2.2.2.2.1), .int .i64 (x314.2.2.2.2.2.2.2.2.2.2.2.2.2.2.2.2.2.2.2.2.2.1), .int .i64 (x314.2.2.2.2.2.2.2.2.2.2.2.2.2.2.2.2.2.2.2.2.2.2.1), .int .i64 (x314.2.2.2.2.2.2.2.2.2.2.2.2.2.2.2.2.2.2.2.2.2.2.2.1), .int .i64 (x314.2.2.2.2.2.2.2.2.2.2.2.2.2.2.2.2.2.2.2.2.2.2.2.2.1), .int .i64 (x314.2.2.2.2.2.2.2.2.2.2.2.2.2.2.2.2.2.2.2.2.2.2.2.2.2.1), .int .i64 (x314.2.2.2.2.2.2.2.2.2.2.2.2.2.2.2.2.2.2.2.2.2.2.2.2.2.2.1), .int .i64 (x314.2.2.2.2.2.2.2.2.2.2.2.2.2.2.2.2.2.2.2.2.2.2.2.2.2.2.2.1), .string x314.2.2.2.2.2.2.2.2.2.2.2.2.2.2.2.2.2.2.2.2.2.2.2.2.2.2.2.2.1, .int .i64 (x314.2.2.2.2.2.2.2.2.2.2.2.2.2.2.2.2.2.2.2.2.2.2.2.2.2.2.2.2.2)] 30) fun vw318 =>
                    vS312 vw318 ∧ Rn Tryd.prog (Builtin.append_ #[106, 106] 106 #[Slc.v x316, Slc.v ((⟨some ⟨vw317.heap.size, 0, none⟩, 1, 1⟩ : Slc))]) vw318 Slc.v fun (x319 : Slc) vw320 =>
                    St vw320 ((⟨w.heap.size, 0, none⟩ : Addr).add 30) (Slc.v x319) fun vw321 =>
                    LdT vw321 (⟨w.heap.size, 0, none⟩ : Addr) 0 LiA107 fun (x322 : TyA107) =>
                    StT (⟨vw4.heap.size, 0, none⟩ : Addr) 0 LiA107 x322 vw321 fun vw323 =>
                    LdT vw323 (⟨vw4.heap.size, 0, none⟩ : Addr) 0 LiA107 fun (x324 : TyA107) =>
                    R x324 0 vw323) ∧
                  (Nw vw315 (.cells #[.int .i64 (x314.1), .int .i64 (x314.2.1), .int .i64 (x314.2.2.1), .int .i64 (x314.2.2.2.1), .int .i64 (x314.2.2.2.2.1), .int .i64 (x314.2.2.2.2.2.1), .int .i64 (x314.2.2.2.2.2.2.1), .int .i64 (x314.2.2.2.2.2.2.2.1), .int .i64 (x314.2.2.2.2.2.2.2.2.1), .int .i64 (x314.2.2.2.2.2.2.2.2.2.1), Slc.v x314.2.2.2.2.2.2.2.2.2.2.1, .int .i64 (x314.2.2.2.2.2.2.2.2.2.2.2.1), .int .i64 (x314.2.2.2.2.2.2.2.2.2.2.2.2.1), .int .i64 (x314.2.2.2.2.2.2.2.2.2.2.2.2.2.1), .int .i64 (x314.2.2.2.2.2.2.2.2.2.2.2.2.2.2.1), .int .i64 (x314.2.2.2.2.2.2.2.2.2.2.2.2.2.2.2.1), .int .i64 (x314.2.2.2.2.2.2.2.2.2.2.2.2.2.2.2.2.1), .int .i64 (x314.2.2.2.2.2.2.2.2.2.2.2.2.2.2.2.2.2.1), .int .i64 (x314.2.2.2.2.2.2.2.2.2.2.2.2.2.2.2.2.2.2.1), .int .i64 (x314.2.2.2.2.2.2.2.2.2.2.2.2.2.2.2.2.2.2.2.1), .int .i64 (x314.2.2.2.2.2.2.2.2.2.2.2.2.2.2.2.2.2.2.2.2.1), .int .i64 (x314.2.2.2.2.2.2.2.2.2.2.2.2.2.2.2.2.2.2.2.2.2.1), .int .i64 (x314.2.2.2.2.2.2.2.2.2.2.2.2.2.2.2.2.2.2.2.2.2.2.1), .int .i64 (x314.2.2.2.2.2.2.2.2.2.2.2.2.2.2.2.2.2.2.2.2.2.2.2.1), .int .i64 (x314.2.2.2.2.2.2.2.2.2.2.2.2.2.2.2.2.2.2.2.2.2.2.2.2.1), .int .i64 (x314.2.2.2.2.2.2.2.2.2.2.2.2.2.2.2.2.2.2.2.2.2.2.2.2.2.1), .int .i64 (x314.2.2.2.2.2.2.2.2.2.2.2.2.2.2.2.2.2.2.2.2.2.2.2.2.2.2.1), .int .i64 (x314.2.2.2.2.2.2.2.2.2.2.2.2.2.2.2.2.2.2.2.2.2.2.2.2.2.2.2.1), .string x314.2.2.2.2.2.2.2.2.2.2.2.2.2.2.2.2.2.2.2.2.2.2.2.2.2.2.2.2.1, .int .i64 (x314.2.2.2.2.2.2.2.2.2.2.2.2.2.2.2.2.2.2.2.2.2.2.2.2.2.2.2.2.2)] 30) fun vw325 =>
                    vS312 vw325 ∧ Rn Tryd.prog (Builtin.append_ #[106, 106] 106 #[Slc.v ((⟨some ⟨vw28.drew.heap.size, 0, none⟩, 0, 0⟩ : Slc)), Slc.v x313]) vw325 Slc.v fun (x326 : Slc) vw327 =>
                    vS312 vw327 ∧ Rn Tryd.prog (Builtin.append_ #[106, 106] 106 #[Slc.v x326, Slc.v ((⟨some ⟨vw315.heap.size, 0, none⟩, 1, 1⟩ : Slc))]) vw327 Slc.v fun (x328 : Slc) vw329 =>
                    St vw329 ((⟨w.heap.size, 0, none⟩ : Addr).add 30) (Slc.v x328) fun vw330 =>
                    LdT vw330 (⟨w.heap.size, 0, none⟩ : Addr) 0 LiA107 fun (x331 : TyA107) =>
                    StT (⟨vw4.heap.size, 0, none⟩ : Addr) 0 LiA107 x331 vw330 fun vw332 =>
                    LdT vw332 (⟨vw4.heap.size, 0, none⟩ : Addr) 0 LiA107 fun (x333 : TyA107) =>
                    R x333 0 vw332)) ∧
                (Nw vw28.drew (.cells #[.int .i64 (x314.1), .int .i64 (x314.2.1), .int .i64 (x314.2.2.1), .int .i64 (x314.2.2.2.1), .int .i64 (x314.2.2.2.2.1), .int .i64 (x314.2.2.2.2.2.1), .int .i64 (x314.2.2.2.2.2.2.1), .int .i64 (x314.2.2.2.2.2.2.2.1), .int .i64 (x314.2.2.2.2.2.2.2.2.1), .int .i64 (x314.2.2.2.2.2.2.2.2.2.1), Slc.v x314.2.2.2.2.2.2.2.2.2.2.1, .int .i64 (x314.2.2.2.2.2.2.2.2.2.2.2.1), .int .i64 (x314.2.2.2.2.2.2.2.2.2.2.2.2.1), .int .i64 (x314.2.2.2.2.2.2.2.2.2.2.2.2.2.1), .int .i64 (x314.2.2.2.2.2.2.2.2.2.2.2.2.2.2.1), .int .i64 (x314.2.2.2.2.2.2.2.2.2.2.2.2.2.2.2.1), .int .i64 (x314.2.2.2.2.2.2.2.2.2.2.2.2.2.2.2.2.1), .int .i64 (x314.2.2.2.2.2.2.2.2.2.2.2.2.2.2.2.2.2.1), .int .i64 (x314.2.2.2.2.2.2.2.2.2.2.2.2.2.2.2.2.2.2.1), .int .i64 (x314.2.2.2.2.2.2.2.2.2.2.2.2.2.2.2.2.2.2.2.1), .int .i64 (x314.2.2.2.2.2.2.2.2.2.2.2.2.2.2.2.2.2.2.2.2.1), .int .i64 (x314.2.2.2.2.2.2.2.2.2.2.2.2.2.2.2.2.2.2.2.2.2.1), .int .i64 (x314.2.2.2.2.2.2.2.2.2.2.2.2.2.2.2.2.2.2.2.2.2.2.1), .int .i64 (x314.2.2.2.2.2.2.2.2.2.2.2.2.2.2.2.2.2.2.2.2.2.2.2.1), .int .i64 (x314.2.2.2.2.2.2.2.2.2.2.2.2.2.2.2.2.2.2.2.2.2.2.2.2.1), .int .i64 (x314.2.2.2.2.2.2.2.2.2.2.2.2.2.2.2.2.2.2.2.2.2.2.2.2.2.1), .int .i64 (x314.2.2.2.2.2.2.2.2.2.2.2.2.2.2.2.2.2.2.2.2.2.2.2.2.2.2.1), .int .i64 (x314.2.2.2.2.2.2.2.2.2.2.2.2.2.2.2.2.2.2.2.2.2.2.2.2.2.2.2.1), .string x314.2.2.2.2.2.2.2.2.2.2.2.2.2.2.2.2.2.2.2.2.2.2.2.2.2.2.2.2.1, .int .i64 (x314.2.2.2.2.2.2.2.2.2.2.2.2.2.2.2.2.2.2.2.2.2.2.2.2.2.2.2.2.2)] 30) fun vw334 =>
                  vS312 vw334 ∧ Nw vw334 (.cells #[] 30) fun vw335 =>
                  vS312 vw335 ∧ Rn Tryd.prog (Builtin.append_ #[106, 106] 106 #[Slc.v ((⟨some ⟨vw334.heap.size, 0, none⟩, 0, 0⟩ : Slc)), Slc.v x313]) vw335 Slc.v fun (x336 : Slc) vw337 =>
                  vS312 vw337 ∧ Rn Tryd.prog (Builtin.append_ #[106, 106] 106 #[Slc.v x336, Slc.v ((⟨some ⟨vw28.drew.heap.size, 0, none⟩, 1, 1⟩ : Slc))]) vw337 Slc.v fun (x338 : Slc) vw339 =>
                  St vw339 ((⟨w.heap.size, 0, none⟩ : Addr).add 30) (Slc.v x338) fun vw340 =>
                  LdT vw340 (⟨w.heap.size, 0, none⟩ : Addr) 0 LiA107 fun (x341 : TyA107) =>
                  StT (⟨vw4.heap.size, 0, none⟩ : Addr) 0 LiA107 x341 vw340 fun vw342 =>
                  LdT vw342 (⟨vw4.heap.size, 0, none⟩ : Addr) 0 LiA107 fun (x343 : TyA107) =>
                  R x343 0 vw342))) (Br (x307.toList == (⟨#[81]⟩ : ByteArray).toList) (Ld vw28 ((⟨w.heap.size, 0, none⟩ : Addr).add 30) Slc.v fun (x344 : Slc) =>
                Br (((x344.len : Nat) : Int) == 0) (LdT vw28 (⟨w.heap.size, 0, none⟩ : Addr) 0 LiA107 fun (x345 : TyA107) =>
                  StT (⟨vw4.heap.size, 0, none⟩ : Addr) 0 LiA107 x345 vw28 fun vw346 =>
                  LdT vw346 (⟨vw4.heap.size, 0, none⟩ : Addr) 0 LiA107 fun (x347 : TyA107) =>
                  R x347 29 vw346) (Ld vw28 ((⟨w.heap.size, 0, none⟩ : Addr).add 30) Slc.v fun (x348 : Slc) =>
                  Ld vw28 ((⟨w.heap.size, 0, none⟩ : Addr).add 30) Slc.v fun (x349 : Slc) =>
                  0 ≤ (IntKind.i64.wrap (((x349.len : Nat) : Int) - 1)) ∧ (IntKind.i64.wrap (((x349.len : Nat) : Int) - 1)) < (x348.len : Nat) ∧ Nn x348.p fun a350 =>
                  LdT vw28 (a350.add ((IntKind.i64.wrap (((x349.len : Nat) : Int) - 1)).toNat * 30)) 0 LiA29 fun (x351 : TyA29) =>
                  StT (⟨w.heap.size, 0, none⟩ : Addr) 0 LiA29 x351 vw28 fun vw352 =>
                  Ld vw352 ((⟨w.heap.size, 0, none⟩ : Addr).add 30) Slc.v fun (x353 : Slc) =>
                  Ld vw352 ((⟨w.heap.size, 0, none⟩ : Addr).add 30) Slc.v fun (x354 : Slc) =>
                  0 ≤ (IntKind.i64.wrap (((x354.len : Nat) : Int) - 1)) ∧ (IntKind.i64.wrap (((x354.len : Nat) : Int) - 1)) ≤ ((x353.cap : Nat) : Int) ∧ St vw352 ((⟨w.heap.size, 0, none⟩ : Addr).add 30) (Slc.v (x353.cut 30 0 ((IntKind.i64.wrap (((x354.len : Nat) : Int) - 1)).toNat) x353.cap)) fun vw355 =>
                  LdT vw355 (⟨w.heap.size, 0, none⟩ : Addr) 0 LiA107 fun (x356 : TyA107) =>
                  StT (⟨vw4.heap.size, 0, none⟩ : Addr) 0 LiA107 x356 vw355 fun vw357 =>
                  LdT vw357 (⟨vw4.heap.size, 0, none⟩ : Addr) 0 LiA107 fun (x358 : TyA107) =>
                  R x358 0 vw357)) (Br (x307.toList == (⟨#[105]⟩ : ByteArray).toList) (Br (x307.toList == (⟨#[105]⟩ : ByteArray).toList) (LdT vw28 (⟨w.heap.size, 0, none⟩ : Addr) 0 LiA107 fun (x359 : TyA107) =>
                    StT (⟨vw4.heap.size, 0, none⟩ : Addr) 0 LiA107 x359 vw28 fun vw360 =>
                    LdT vw360 (⟨vw4.heap.size, 0, none⟩ : Addr) 0 LiA107 fun (x361 : TyA107) =>
                    R x361 0 vw360) (vJ306 () vw28)) (Br (x307.toList == (⟨#[114, 105]⟩ : ByteArray).toList) (Br (x307.toList == (⟨#[114, 105]⟩ : ByteArray).toList) (LdT vw28 (⟨w.heap.size, 0, none⟩ : Addr) 0 LiA107 fun (x362 : TyA107) =>
                      StT (⟨vw4.heap.size, 0, none⟩ : Addr) 0 LiA107 x362 vw28 fun vw363 =>
                      LdT vw363 (⟨vw4.heap.size, 0, none⟩ : Addr) 0 LiA107 fun (x364 : TyA107) =>
                      R x364 0 vw363) (vJ306 () vw28)) (Br (x307.toList == (⟨#[103, 115]⟩ : ByteArray).toList) (LdT vw28 (⟨w.heap.size, 0, none⟩ : Addr) 0 LiA107 fun (x365 : TyA107) =>
                      StT (⟨vw4.heap.size, 0, none⟩ : Addr) 0 LiA107 x365 vw28 fun vw366 =>
                      LdT vw366 (⟨vw4.heap.size, 0, none⟩ : Addr) 0 LiA107 fun (x367 : TyA107) =>
                      R x367 0 vw366) (vJ306 () vw28)))))))
def pl54 : Plan := (.seq (.reg .seq) (.seq (.seq (.reg .seq) (.cond (.seq (.reg .seq) .leaf) .leaf)) (.seq (.seq (.reg .seq) (.seq (.reg .seq) (.cond (.seq (.reg .seq) .leaf) .leaf))) (.join [] [2, 3, 4] (.seq (.reg .seq) (.block (.seq (.reg .seq) (.cond (.seq (.seq (.reg .seq) (.cond (.seq (.reg .seq) .leaf) .leaf)) (.seq (.reg (.held [7] (.take 1 (.take 2 (.take 4 (.take 5 (.effs 0 none (.effs 3 none (.eff 6 none (.eff 7 (some [9]) (.take 8 (.eff 9 (some []) .done)))) (.eff 6 none (.eff 3 none (.eff 7 (some [9]) (.take 8 (.eff 9 (some []) .done)))))) (.eff 6 none (.eff 0 none (.eff 3 none (.eff 7 (some [9]) (.take 8 (.eff 9 (some []) .done))))))))))))) (.seq (.reg .seq) .leaf))) (.seq (.reg .seq) (.cond (.seq (.seq (.reg .seq) (.cond (.seq (.reg .seq) .leaf) .leaf)) (.seq (.reg .seq) (.seq (.reg .seq) (.seq (.reg .seq) .leaf)))) (.seq (.seq (.reg .seq) (.cond .leaf (.seq (.reg .seq) (.cond .leaf (.reg .seq))))) (.cond (.seq (.reg .seq) .leaf) .leaf)))))))) (.seq (.reg .seq) (.join [] [2, 3, 4, 7] (.seq (.reg .seq) (.cond (.seq (.reg .seq) .leaf) .leaf)) (.seq (.reg .seq) (.seq (.seq (.reg .seq) (.cond (.seq (.seq (.reg .seq) (.cond (.reg .seq) .leaf)) (.seq (.reg .seq) .leaf)) .leaf)) (.seq (.reg .seq) (.join [(11, (.one (.int .i64)))] [2, 4, 12] (.seq (.reg .seq) (.cond (.reg .seq) (.reg .seq))) (.seq (.seq (.reg .seq) (.cond (.reg .seq) .leaf)) (.seq (.reg .seq) .leaf))))))))))))
set_option maxRecDepth 100000 in
theorem T54 (x1 : TyA107) (o2 : ByteArray × Slc × ByteArray) (w : World) (R : (TyA107) → Int → World → Prop) (h : S54 x1 o2 w R) : C54 x1 (o2.1, o2.2.1, o2.2.2) w R := by
  have e : fnT Tryd.prog ⟨FF, MAY, (fun _ _ => False)⟩ pl54 Tryd.f54 [.agg (Sig.cells LiA107 x1).toArray, .agg #[.string o2.1, Slc.v o2.2.1, .string o2.2.2]] w [(.agg [(.int .i64), (.int .i64), (.int .i64), (.int .i64), (.int .i64), (.int .i64), (.int .i64), (.int .i64), (.int .i64), (.int .i64), .slc, (.int .i64), (.int .i64), (.int .i64), (.int .i64), (.int .i64), (.int .i64), (.int .i64), (.int .i64), (.int .i64), (.int .i64), (.int .i64), (.int .i64), (.int .i64), (.int .i64), (.int .i64), (.int .i64), (.int .i64), .str, (.int .i64), .slc]), (.one (.int .i64))] (fun s w => R s.1 s.2 w) = S54 x1 o2 w R := by kernel_rfl
  exact (fn_calls okF okM Tryd.func54 (by kernel_rfl) (by kernel_rfl) (e.mpr h)).mono fun _ _ ⟨s, he, hR⟩ => ⟨s.1, s.2, he, hR⟩

def S50J1 (w : World) (vw3 : World) (R : Bool → World → Prop) (s22 : Unit) (vw23 : World) : Prop :=
  Ld vw23 (⟨w.heap.size, 0, none⟩ : Addr) (Value.int .i64) fun (x24 : Int) =>
  Ld vw23 ((⟨w.heap.size, 0, none⟩ : Addr).add 1) (Value.int .i64) fun (x25 : Int) =>
  Ld vw23 ((⟨w.heap.size, 0, none⟩ : Addr).add 2) (Value.int .i64) fun (x26 : Int) =>
  Ld vw23 ((⟨w.heap.size, 0, none⟩ : Addr).add 3) (Value.int .i64) fun (x27 : Int) =>
  Ld vw23 ((⟨w.heap.size, 0, none⟩ : Addr).add 4) (Value.int .i64) fun (x28 : Int) =>
  Ld vw23 ((⟨w.heap.size, 0, none⟩ : Addr).add 5) (Value.int .i64) fun (x29 : Int) =>
  Ld vw23 (⟨vw3.heap.size, 0, none⟩ : Addr) (Value.int .i64) fun (x30 : Int) =>
  Ld vw23 ((⟨vw3.heap.size, 0, none⟩ : Addr).add 1) (Value.int .i64) fun (x31 : Int) =>
  Ld vw23 ((⟨vw3.heap.size, 0, none⟩ : Addr).add 2) (Value.int .i64) fun (x32 : Int) =>
  Ld vw23 ((⟨vw3.heap.size, 0, none⟩ : Addr).add 3) (Value.int .i64) fun (x33 : Int) =>
  Ld vw23 ((⟨vw3.heap.size, 0, none⟩ : Addr).add 4) (Value.int .i64) fun (x34 : Int) =>
  Ld vw23 ((⟨vw3.heap.size, 0, none⟩ : Addr).add 5) (Value.int .i64) fun (x35 : Int) =>
  Lt (((x24 == x30) && ((x25 == x31) && ((x26 == x32) && ((x27 == x33) && ((x28 == x34) && ((x29 == x35) && true))))))) fun (x36 : Bool) =>
  Br x36 (Ld vw23 ((⟨w.heap.size, 0, none⟩ : Addr).add 6) (Value.int .i64) fun (x37 : Int) =>
    Ld vw23 ((⟨vw3.heap.size, 0, none⟩ : Addr).add 6) (Value.int .i64) fun (x38 : Int) =>
    Br (x37 == x38) (Ld vw23 ((⟨w.heap.size, 0, none⟩ : Addr).add 7) (Value.int .i64) fun (x39 : Int) =>
      Ld vw23 ((⟨vw3.heap.size, 0, none⟩ : Addr).add 7) (Value.int .i64) fun (x40 : Int) =>
      Br (x39 == x40) (Ld vw23 ((⟨w.heap.size, 0, none⟩ : Addr).add 8) (Value.int .i64) fun (x41 : Int) =>
        Ld vw23 ((⟨vw3.heap.size, 0, none⟩ : Addr).add 8) (Value.int .i64) fun (x42 : Int) =>
        Br (x41 == x42) (Ld vw23 ((⟨w.heap.size, 0, none⟩ : Addr).add 9) (Value.int .i64) fun (x43 : Int) =>
          Ld vw23 ((⟨vw3.heap.size, 0, none⟩ : Addr).add 9) (Value.int .i64) fun (x44 : Int) =>
          Br (x43 == x44) (Ld vw23 ((⟨w.heap.size, 0, none⟩ : Addr).add 11) (Value.int .i64) fun (x45 : Int) =>
            Ld vw23 ((⟨vw3.heap.size, 0, none⟩ : Addr).add 11) (Value.int .i64) fun (x46 : Int) =>
            Br (x45 == x46) (Ld vw23 ((⟨w.heap.size, 0, none⟩ : Addr).add 12) (Value.int .i64) fun (x47 : Int) =>
              Ld vw23 (((⟨w.heap.size, 0, none⟩ : Addr).add 12).add 1) (Value.int .i64) fun (x48 : Int) =>
              Ld vw23 (((⟨w.heap.size, 0, none⟩ : Addr).add 12).add 2) (Value.int .i64) fun (x49 : Int) =>
              Ld vw23 (((⟨w.heap.size, 0, none⟩ : Addr).add 12).add 3) (Value.int .i64) fun (x50 : Int) =>
              Ld vw23 (((⟨w.heap.size, 0, none⟩ : Addr).add 12).add 4) (Value.int .i64) fun (x51 : Int) =>
              Ld vw23 ((⟨vw3.heap.size, 0, none⟩ : Addr).add 12) (Value.int .i64) fun (x52 : Int) =>
              Ld vw23 (((⟨vw3.heap.size, 0, none⟩ : Addr).add 12).add 1) (Value.int .i64) fun (x53 : Int) =>
              Ld vw23 (((⟨vw3.heap.size, 0, none⟩ : Addr).add 12).add 2) (Value.int .i64) fun (x54 : Int) =>
              Ld vw23 (((⟨vw3.heap.size, 0, none⟩ : Addr).add 12).add 3) (Value.int .i64) fun (x55 : Int) =>
              Ld vw23 (((⟨vw3.heap.size, 0, none⟩ : Addr).add 12).add 4) (Value.int .i64) fun (x56 : Int) =>
              Lt (((x47 == x52) && ((x48 == x53) && ((x49 == x54) && ((x50 == x55) && ((x51 == x56) && true)))))) fun (x57 : Bool) =>
              Br x57 (Ld vw23 ((⟨w.heap.size, 0, none⟩ : Addr).add 17) (Value.int .i64) fun (x58 : Int) =>
                Ld vw23 (((⟨w.heap.size, 0, none⟩ : Addr).add 17).add 1) (Value.int .i64) fun (x59 : Int) =>
                Ld vw23 (((⟨w.heap.size, 0, none⟩ : Addr).add 17).add 2) (Value.int .i64) fun (x60 : Int) =>
                Ld vw23 (((⟨w.heap.size, 0, none⟩ : Addr).add 17).add 3) (Value.int .i64) fun (x61 : Int) =>
                Ld vw23 (((⟨w.heap.size, 0, none⟩ : Addr).add 17).add 4) (Value.int .i64) fun (x62 : Int) =>
                Ld vw23 ((⟨vw3.heap.size, 0, none⟩ : Addr).add 17) (Value.int .i64) fun (x63 : Int) =>
                Ld vw23 (((⟨vw3.heap.size, 0, none⟩ : Addr).add 17).add 1) (Value.int .i64) fun (x64 : Int) =>
                Ld vw23 (((⟨vw3.heap.size, 0, none⟩ : Addr).add 17).add 2) (Value.int .i64) fun (x65 : Int) =>
                Ld vw23 (((⟨vw3.heap.size, 0, none⟩ : Addr).add 17).add 3) (Value.int .i64) fun (x66 : Int) =>
                Ld vw23 (((⟨vw3.heap.size, 0, none⟩ : Addr).add 17).add 4) (Value.int .i64) fun (x67 : Int) =>
                Lt (((x58 == x63) && ((x59 == x64) && ((x60 == x65) && ((x61 == x66) && ((x62 == x67) && true)))))) fun (x68 : Bool) =>
                Br x68 (Ld vw23 ((⟨w.heap.size, 0, none⟩ : Addr).add 22) (Value.int .i64) fun (x69 : Int) =>
                  Ld vw23 (((⟨w.heap.size, 0, none⟩ : Addr).add 22).add 1) (Value.int .i64) fun (x70 : Int) =>
                  Ld vw23 (((⟨w.heap.size, 0, none⟩ : Addr).add 22).add 2) (Value.int .i64) fun (x71 : Int) =>
                  Ld vw23 (((⟨w.heap.size, 0, none⟩ : Addr).add 22).add 3) (Value.int .i64) fun (x72 : Int) =>
                  Ld vw23 (((⟨w.heap.size, 0, none⟩ : Addr).add 22).add 4) (Value.int .i64) fun (x73 : Int) =>
                  Ld vw23 (((⟨w.heap.size, 0, none⟩ : Addr).add 22).add 5) (Value.int .i64) fun (x74 : Int) =>
                  Ld vw23 (((⟨w.heap.size, 0, none⟩ : Addr).add 22).add 6) Value.string fun (x75 : ByteArray) =>
                  Ld vw23 (((⟨w.heap.size, 0, none⟩ : Addr).add 22).add 7) (Value.int .i64) fun (x76 : Int) =>
                  Ld vw23 ((⟨vw3.heap.size, 0, none⟩ : Addr).add 22) (Value.int .i64) fun (x77 : Int) =>
                  Ld vw23 (((⟨vw3.heap.size, 0, none⟩ : Addr).add 22).add 1) (Value.int .i64) fun (x78 : Int) =>
                  Ld vw23 (((⟨vw3.heap.size, 0, none⟩ : Addr).add 22).add 2) (Value.int .i64) fun (x79 : Int) =>
                  Ld vw23 (((⟨vw3.heap.size, 0, none⟩ : Addr).add 22).add 3) (Value.int .i64) fun (x80 : Int) =>
                  Ld vw23 (((⟨vw3.heap.size, 0, none⟩ : Addr).add 22).add 4) (Value.int .i64) fun (x81 : Int) =>
                  Ld vw23 (((⟨vw3.heap.size, 0, none⟩ : Addr).add 22).add 5) (Value.int .i64) fun (x82 : Int) =>
                  Ld vw23 (((⟨vw3.heap.size, 0, none⟩ : Addr).add 22).add 6) Value.string fun (x83 : ByteArray) =>
                  Ld vw23 (((⟨vw3.heap.size, 0, none⟩ : Addr).add 22).add 7) (Value.int .i64) fun (x84 : Int) =>
                  Lt (((x69 == x77) && ((x70 == x78) && ((x71 == x79) && ((x72 == x80) && ((x73 == x81) && ((x74 == x82) && ((x75.toList == x83.toList) && ((x76 == x84) && true))))))))) fun (x85 : Bool) =>
                  R x85 vw23) (R false vw23)) (R false vw23)) (R false vw23)) (R false vw23)) (R false vw23)) (R false vw23)) (R false vw23)) (R false vw23)
def S50L1 (w : World) (vw3 : World) (vJ86 : Unit → World → Prop) (R : Bool → World → Prop) (I89 : Int → World → Prop) (s87 : Int) (vw88 : World) : Prop :=
  Ld vw88 ((⟨w.heap.size, 0, none⟩ : Addr).add 10) Slc.v fun (x90 : Slc) =>
  Br (decide (s87 < ((x90.len : Nat) : Int))) (Ld vw88 ((⟨vw3.heap.size, 0, none⟩ : Addr).add 10) Slc.v fun (x91 : Slc) =>
    Br (decide (s87 < ((x91.len : Nat) : Int))) (Ld vw88.drew ((⟨w.heap.size, 0, none⟩ : Addr).add 10) Slc.v fun (x92 : Slc) =>
      0 ≤ s87 ∧ s87 < (x92.len : Nat) ∧ Nn x92.p fun a93 =>
      Ld vw88.drew (a93.add ((s87).toNat * 1)) (Value.int .i64) fun (x94 : Int) =>
      Ld vw88.drew ((⟨vw3.heap.size, 0, none⟩ : Addr).add 10) Slc.v fun (x95 : Slc) =>
      0 ≤ s87 ∧ s87 < (x95.len : Nat) ∧ Nn x95.p fun a96 =>
      Ld vw88.drew (a96.add ((s87).toNat * 1)) (Value.int .i64) fun (x97 : Int) =>
      Br (x94 != x97) (R false vw88.drew) (I89 (IntKind.i64.wrap (s87 + 1)) vw88.drew)) (vJ86 () vw88)) (vJ86 () vw88)
/-- foliant/foliantref44.Same -/
def S50 (a1 : TyA29) (b2 : TyA29) (w : World) (R : Bool → World → Prop) : Prop :=
  Nw w (.cells (Sig.cells LiA29 a1).toArray 30) fun vw3 =>
  Nw vw3 (.cells (Sig.cells LiA29 b2).toArray 30) fun vw4 =>
  Ld vw4 ((⟨w.heap.size, 0, none⟩ : Addr).add 10) Slc.v fun (x7 : Slc) =>
  Ld vw4 ((⟨vw3.heap.size, 0, none⟩ : Addr).add 10) Slc.v fun (x8 : Slc) =>
  Br (((x7.len : Nat) : Int) != ((x8.len : Nat) : Int)) (R false vw4) (Join (S50J1 w vw3 R) fun (vJ86 : Unit → World → Prop) =>
      Lp (σ := Int) (S50L1 w vw3 vJ86 R) 0 vw4)
def pl50 : Plan := (.seq (.reg .seq) (.seq (.seq (.reg .seq) (.cond (.seq (.reg .seq) .leaf) .leaf)) (.join [] [2, 3] (.seq (.reg .seq) (.block (.loop [(5, (.one (.int .i64)))] [2, 3] (.seq (.seq (.reg .seq) (.cond .leaf .leaf)) (.seq (.block (.seq (.reg .still) (.cond (.seq (.reg .seq) .leaf) .leaf))) (.reg .seq)))))) (.seq (.reg .seq) .leaf))))
set_option maxRecDepth 100000 in
theorem T50 (a1 : TyA29) (b2 : TyA29) (w : World) (R : Bool → World → Prop) (h : S50 a1 b2 w R) : C50 a1 b2 w R := by
  have e : fnT Tryd.prog ⟨FF, MAY, (fun _ _ => False)⟩ pl50 Tryd.f50 [.agg (Sig.cells LiA29 a1).toArray, .agg (Sig.cells LiA29 b2).toArray] w [(.one .bool)] (fun s w => R s w) = S50 a1 b2 w R := by kernel_rfl
  exact (fn_calls okF okM Tryd.func50 (by kernel_rfl) (by kernel_rfl) (e.mpr h)).mono fun _ _ ⟨s, he, hR⟩ => ⟨s, he, hR⟩

/-- foliant/foliantref44.First -/
def S51 (m1 : Int × Int × Int × Int × Int × Int) (w : World) (R : (TyA29) → World → Prop) : Prop :=
  Nw w (.cells #[.int .i64 (m1.1), .int .i64 (m1.2.1), .int .i64 (m1.2.2.1), .int .i64 (m1.2.2.2.1), .int .i64 (m1.2.2.2.2.1), .int .i64 (m1.2.2.2.2.2)] 23) fun vw2 =>
  Nw vw2 (.cells #[.int .i64 0, .int .i64 0, .int .i64 0, .int .i64 0, .int .i64 0, .int .i64 0, .int .i64 0, .int .i64 0, .int .i64 0, .int .i64 0, Slc.v ((⟨none, 0, 0⟩ : Slc)), .int .i64 0, .int .i64 0, .int .i64 0, .int .i64 0, .int .i64 0, .int .i64 0, .int .i64 0, .int .i64 0, .int .i64 0, .int .i64 0, .int .i64 0, .int .i64 0, .int .i64 0, .int .i64 0, .int .i64 0, .int .i64 0, .int .i64 0, .string ((⟨#[]⟩ : ByteArray)), .int .i64 0] 30) fun vw3 =>
  Ld vw3 (⟨w.heap.size, 0, none⟩ : Addr) (Value.int .i64) fun (x4 : Int) =>
  Ld vw3 ((⟨w.heap.size, 0, none⟩ : Addr).add 1) (Value.int .i64) fun (x5 : Int) =>
  Ld vw3 ((⟨w.heap.size, 0, none⟩ : Addr).add 2) (Value.int .i64) fun (x6 : Int) =>
  Ld vw3 ((⟨w.heap.size, 0, none⟩ : Addr).add 3) (Value.int .i64) fun (x7 : Int) =>
  Ld vw3 ((⟨w.heap.size, 0, none⟩ : Addr).add 4) (Value.int .i64) fun (x8 : Int) =>
  Ld vw3 ((⟨w.heap.size, 0, none⟩ : Addr).add 5) (Value.int .i64) fun (x9 : Int) =>
  StT (⟨vw2.heap.size, 0, none⟩ : Addr) 0 LiA29 ((x4, x5, x6, x7, x8, x9, 10000, 0, 0, 100000, (⟨none, 0, 0⟩ : Slc), 0, 0, 0, 0, 0, 0, 0, 0, 0, 0, 0, 0, 0, 1000000, 0, 0, 0, (⟨#[]⟩ : ByteArray), 0) : TyA29) vw3 fun vw10 =>
  LdT vw10 (⟨vw2.heap.size, 0, none⟩ : Addr) 0 LiA29 fun (x11 : TyA29) =>
  R x11 vw10
def pl51 : Plan := (.seq (.reg .seq) (.seq (.reg .seq) .leaf))
set_option maxRecDepth 100000 in
theorem T51 (m1 : Int × Int × Int × Int × Int × Int) (w : World) (R : (TyA29) → World → Prop) (h : S51 m1 w R) : C51 (m1.1, m1.2.1, m1.2.2.1, m1.2.2.2.1, m1.2.2.2.2.1, m1.2.2.2.2.2) w R := by
  have e : fnT Tryd.prog ⟨FF, MAY, (fun _ _ => False)⟩ pl51 Tryd.f51 [.agg #[.int .i64 (m1.1), .int .i64 (m1.2.1), .int .i64 (m1.2.2.1), .int .i64 (m1.2.2.2.1), .int .i64 (m1.2.2.2.2.1), .int .i64 (m1.2.2.2.2.2)]] w [(.agg [(.int .i64), (.int .i64), (.int .i64), (.int .i64), (.int .i64), (.int .i64), (.int .i64), (.int .i64), (.int .i64), (.int .i64), .slc, (.int .i64), (.int .i64), (.int .i64), (.int .i64), (.int .i64), (.int .i64), (.int .i64), (.int .i64), (.int .i64), (.int .i64), (.int .i64), (.int .i64), (.int .i64), (.int .i64), (.int .i64), (.int .i64), (.int .i64), .str, (.int .i64)])] (fun s w => R s w) = S51 m1 w R := by kernel_rfl
  exact (fn_calls okF okM Tryd.func51 (by kernel_rfl) (by kernel_rfl) (e.mpr h)).mono fun _ _ ⟨s, he, hR⟩ => ⟨s, he, hR⟩

end Go.Proofs.YtjbeembbnkmpeaaDoor
