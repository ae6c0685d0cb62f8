/- The formulas of 21 functions of the program, written by program (gen.py); the kernel checks each. No condition. -/
import Derived.Test.YtcblpehnkogfdaaGreatDoorFn
import Derived.Test.YtcblpehnkogfdaaGreatDoorFnFix
namespace Go.Proofs.YtcblpehnkogfdaaGreatDoor
open Sh
set_option linter.unusedVariables false
set_option maxRecDepth 100000

def C93 (m1 : Option Addr) (w : World) (R : (Option Addr × Option Addr × Option Addr × Option Addr × Option Addr × Option Addr) → World → Prop) : Prop :=
  Calls Tryz.prog 93 #[.pointer m1] w fun e w' => ∃ r0 : Option Addr × Option Addr × Option Addr × Option Addr × Option Addr × Option Addr, e = .returned (.agg #[.pointer r0.1, .pointer r0.2.1, .pointer r0.2.2.1, .pointer r0.2.2.2.1, .pointer r0.2.2.2.2.1, .pointer r0.2.2.2.2.2]) ∧ R r0 w'
theorem C93.mono {m1 : Option Addr} {w : World} {R R' : (Option Addr × Option Addr × Option Addr × Option Addr × Option Addr × Option Addr) → World → Prop} (h : C93 m1 w R) (hr : ∀ r0 w', R r0 w' → R' r0 w') : C93 m1 w R' :=
  Calls.mono h fun _ _ ⟨r0, he, hR⟩ => ⟨r0, he, hr _ _ hR⟩
def C94 (n1 : Int) (w : World) (R : Bool → World → Prop) : Prop :=
  Calls Tryz.prog 94 #[.int .i64 n1] w fun e w' => ∃ r0 : Bool, e = .returned (.bool r0) ∧ R r0 w'
theorem C94.mono {n1 : Int} {w : World} {R R' : Bool → World → Prop} (h : C94 n1 w R) (hr : ∀ r0 w', R r0 w' → R' r0 w') : C94 n1 w R' :=
  Calls.mono h fun _ _ ⟨r0, he, hR⟩ => ⟨r0, he, hr _ _ hR⟩
def C57 (m1 : Int × Int × Int × Int × Int × Int) (w : World) (R : Int → World → Prop) : Prop :=
  Calls Tryz.prog 57 #[.agg #[.int .i64 (m1.1), .int .i64 (m1.2.1), .int .i64 (m1.2.2.1), .int .i64 (m1.2.2.2.1), .int .i64 (m1.2.2.2.2.1), .int .i64 (m1.2.2.2.2.2)]] w fun e w' => ∃ r0 : Int, e = .returned (.int .i64 r0) ∧ R r0 w'
theorem C57.mono {m1 : Int × Int × Int × Int × Int × Int} {w : World} {R R' : Int → World → Prop} (h : C57 m1 w R) (hr : ∀ r0 w', R r0 w' → R' r0 w') : C57 m1 w R' :=
  Calls.mono h fun _ _ ⟨r0, he, hR⟩ => ⟨r0, he, hr _ _ hR⟩
def C133 (x1 : Value) (why2 : Option Addr) (w : World) (R : World → Prop) (PR : Value → World → Prop) : Prop :=
  Calls Tryz.prog 133 #[x1, .pointer why2] w fun e w' => (e = .returned (.tuple #[]) ∧ R w') ∨ ∃ v, e = .panicked (onePanic v) ∧ PR v w'
theorem C133.mono {x1 : Value} {why2 : Option Addr} {w : World} {R R' : World → Prop} {PR PR' : Value → World → Prop} (h : C133 x1 why2 w R PR) (hr : ∀ w', R w' → R' w') (hp : ∀ v w', PR v w' → PR' v w') : C133 x1 why2 w R' PR' :=
  Calls.mono h fun _ _ he => he.elim (fun ⟨he, hR⟩ => .inl ⟨he, hr _ hR⟩) fun ⟨v, he, hP⟩ => .inr ⟨v, he, hp _ _ hP⟩
def CD132 (c1 : Addr) (c2 : Addr) (u : Option Value) (w : World) (R : World → Prop) : Prop := CallD Tryz.prog 132 #[.pointer (some c1), .pointer (some c2)] u w R
theorem CD132.mono {c1 : Addr} {c2 : Addr} {u : Option Value} {w : World} {R R' : World → Prop} (h : CD132 c1 c2 u w R) (hr : ∀ w', R w' → R' w') : CD132 c1 c2 u w R' :=
  CallsD.mono h fun _ _ _ ⟨h1, h2, h3⟩ => ⟨h1, h2, hr _ h3⟩
def C134 (why1 : Int) (w : World) (R : World → Prop) (PR : Value → World → Prop) : Prop :=
  Calls Tryz.prog 134 #[.int .i64 why1] w fun e w' => (e = .returned (.tuple #[]) ∧ R w') ∨ ∃ v, e = .panicked (onePanic v) ∧ PR v w'
theorem C134.mono {why1 : Int} {w : World} {R R' : World → Prop} {PR PR' : Value → World → Prop} (h : C134 why1 w R PR) (hr : ∀ w', R w' → R' w') (hp : ∀ v w', PR v w' → PR' v w') : C134 why1 w R' PR' :=
  Calls.mono h fun _ _ he => he.elim (fun ⟨he, hR⟩ => .inl ⟨he, hr _ hR⟩) fun ⟨v, he, hP⟩ => .inr ⟨v, he, hp _ _ hP⟩
def C135 (l1 : Slc) (w : World) (R : Int → World → Prop) (PR : Value → World → Prop) : Prop :=
  Calls Tryz.prog 135 #[Slc.v l1] w fun e w' => (∃ r0 : Int, e = .returned (.int .i64 r0) ∧ R r0 w') ∨ ∃ v, e = .panicked (onePanic v) ∧ PR v w'
theorem C135.mono {l1 : Slc} {w : World} {R R' : Int → World → Prop} {PR PR' : Value → World → Prop} (h : C135 l1 w R PR) (hr : ∀ r0 w', R r0 w' → R' r0 w') (hp : ∀ v w', PR v w' → PR' v w') : C135 l1 w R' PR' :=
  Calls.mono h fun _ _ he => he.elim (fun ⟨r0, he, hR⟩ => .inl ⟨r0, he, hr _ _ hR⟩) fun ⟨v, he, hP⟩ => .inr ⟨v, he, hp _ _ hP⟩
def C115 (a1 : Int × Int × Int × Int × Int × Int) (b2 : Int × Int × Int × Int × Int × Int) (w : World) (R : (Int × Int × Int × Int × Int × Int) → Int → World → Prop) : Prop :=
  Calls Tryz.prog 115 #[.agg #[.int .i64 (a1.1), .int .i64 (a1.2.1), .int .i64 (a1.2.2.1), .int .i64 (a1.2.2.2.1), .int .i64 (a1.2.2.2.2.1), .int .i64 (a1.2.2.2.2.2)], .agg #[.int .i64 (b2.1), .int .i64 (b2.2.1), .int .i64 (b2.2.2.1), .int .i64 (b2.2.2.2.1), .int .i64 (b2.2.2.2.2.1), .int .i64 (b2.2.2.2.2.2)]] w fun e w' => ∃ r0 : Int × Int × Int × Int × Int × Int, ∃ r1 : Int, e = .returned (.tuple #[.agg #[.int .i64 (r0.1), .int .i64 (r0.2.1), .int .i64 (r0.2.2.1), .int .i64 (r0.2.2.2.1), .int .i64 (r0.2.2.2.2.1), .int .i64 (r0.2.2.2.2.2)], .int .i64 r1]) ∧ R r0 r1 w'
theorem C115.mono {a1 : Int × Int × Int × Int × Int × Int} {b2 : Int × Int × Int × Int × Int × Int} {w : World} {R R' : (Int × Int × Int × Int × Int × Int) → Int → World → Prop} (h : C115 a1 b2 w R) (hr : ∀ r0 r1 w', R r0 r1 w' → R' r0 r1 w') : C115 a1 b2 w R' :=
  Calls.mono h fun _ _ ⟨r0, r1, he, hR⟩ => ⟨r0, r1, he, hr _ _ _ hR⟩
def CD142 (c1 : Addr) (c2 : Addr) (u : Option Value) (w : World) (R : World → Prop) : Prop := CallD Tryz.prog 142 #[.pointer (some c1), .pointer (some c2)] u w R
theorem CD142.mono {c1 : Addr} {c2 : Addr} {u : Option Value} {w : World} {R R' : World → Prop} (h : CD142 c1 c2 u w R) (hr : ∀ w', R w' → R' w') : CD142 c1 c2 u w R' :=
  CallsD.mono h fun _ _ _ ⟨h1, h2, h3⟩ => ⟨h1, h2, hr _ h3⟩
def C122 (m1 : Int × Int × Int × Int × Int × Int) (p2 : Int × Int) (w : World) (R : (Int × Int) → Int → World → Prop) : Prop :=
  Calls Tryz.prog 122 #[.agg #[.int .i64 (m1.1), .int .i64 (m1.2.1), .int .i64 (m1.2.2.1), .int .i64 (m1.2.2.2.1), .int .i64 (m1.2.2.2.2.1), .int .i64 (m1.2.2.2.2.2)], .agg #[.int .i64 (p2.1), .int .i64 (p2.2)]] w fun e w' => ∃ r0 : Int × Int, ∃ r1 : Int, e = .returned (.tuple #[.agg #[.int .i64 (r0.1), .int .i64 (r0.2)], .int .i64 r1]) ∧ R r0 r1 w'
theorem C122.mono {m1 : Int × Int × Int × Int × Int × Int} {p2 : Int × Int} {w : World} {R R' : (Int × Int) → Int → World → Prop} (h : C122 m1 p2 w R) (hr : ∀ r0 r1 w', R r0 r1 w' → R' r0 r1 w') : C122 m1 p2 w R' :=
  Calls.mono h fun _ _ ⟨r0, r1, he, hR⟩ => ⟨r0, r1, he, hr _ _ _ hR⟩
def C143 (n1 : Int) (w : World) (R : Int → World → Prop) : Prop :=
  Calls Tryz.prog 143 #[.int .i64 n1] w fun e w' => ∃ r0 : Int, e = .returned (.int .i64 r0) ∧ R r0 w'
theorem C143.mono {n1 : Int} {w : World} {R R' : Int → World → Prop} (h : C143 n1 w R) (hr : ∀ r0 w', R r0 w' → R' r0 w') : C143 n1 w R' :=
  Calls.mono h fun _ _ ⟨r0, he, hR⟩ => ⟨r0, he, hr _ _ hR⟩
def C123 (m1 : Int × Int × Int × Int × Int × Int) (p2 : Int × Int) (w : World) (R : Int → Int → World → Prop) : Prop :=
  Calls Tryz.prog 123 #[.agg #[.int .i64 (m1.1), .int .i64 (m1.2.1), .int .i64 (m1.2.2.1), .int .i64 (m1.2.2.2.1), .int .i64 (m1.2.2.2.2.1), .int .i64 (m1.2.2.2.2.2)], .agg #[.int .i64 (p2.1), .int .i64 (p2.2)]] w fun e w' => ∃ r0 : Int, ∃ r1 : Int, e = .returned (.tuple #[.int .i64 r0, .int .i64 r1]) ∧ R r0 r1 w'
theorem C123.mono {m1 : Int × Int × Int × Int × Int × Int} {p2 : Int × Int} {w : World} {R R' : Int → Int → World → Prop} (h : C123 m1 p2 w R) (hr : ∀ r0 r1 w', R r0 r1 w' → R' r0 r1 w') : C123 m1 p2 w R' :=
  Calls.mono h fun _ _ ⟨r0, r1, he, hR⟩ => ⟨r0, r1, he, hr _ _ _ hR⟩
def C24 (w : World) (R : (Int × Int × Int × Int × Int × Int) → World → Prop) : Prop :=
  Calls Tryz.prog 24 #[] w fun e w' => ∃ r0 : Int × Int × Int × Int × Int × Int, e = .returned (.agg #[.int .i64 (r0.1), .int .i64 (r0.2.1), .int .i64 (r0.2.2.1), .int .i64 (r0.2.2.2.1), .int .i64 (r0.2.2.2.2.1), .int .i64 (r0.2.2.2.2.2)]) ∧ R r0 w'
theorem C24.mono {w : World} {R R' : (Int × Int × Int × Int × Int × Int) → World → Prop} (h : C24 w R) (hr : ∀ r0 w', R r0 w' → R' r0 w') : C24 w R' :=
  Calls.mono h fun _ _ ⟨r0, he, hR⟩ => ⟨r0, he, hr _ _ hR⟩
def C116 (x1 : Int) (y2 : Int) (w : World) (R : (Int × Int × Int × Int × Int × Int) → World → Prop) : Prop :=
  Calls Tryz.prog 116 #[.int .i64 x1, .int .i64 y2] w fun e w' => ∃ r0 : Int × Int × Int × Int × Int × Int, e = .returned (.agg #[.int .i64 (r0.1), .int .i64 (r0.2.1), .int .i64 (r0.2.2.1), .int .i64 (r0.2.2.2.1), .int .i64 (r0.2.2.2.2.1), .int .i64 (r0.2.2.2.2.2)]) ∧ R r0 w'
theorem C116.mono {x1 : Int} {y2 : Int} {w : World} {R R' : (Int × Int × Int × Int × Int × Int) → World → Prop} (h : C116 x1 y2 w R) (hr : ∀ r0 w', R r0 w' → R' r0 w') : C116 x1 y2 w R' :=
  Calls.mono h fun _ _ ⟨r0, he, hR⟩ => ⟨r0, he, hr _ _ hR⟩
def C86 (l1 : Slc) (w : World) (R : Bool → World → Prop) : Prop :=
  Calls Tryz.prog 86 #[Slc.v l1] w fun e w' => ∃ r0 : Bool, e = .returned (.bool r0) ∧ R r0 w'
theorem C86.mono {l1 : Slc} {w : World} {R R' : Bool → World → Prop} (h : C86 l1 w R) (hr : ∀ r0 w', R r0 w' → R' r0 w') : C86 l1 w R' :=
  Calls.mono h fun _ _ ⟨r0, he, hR⟩ => ⟨r0, he, hr _ _ hR⟩
def C49 (m1 : Int × Int × Int × Int × Int × Int) (w : World) (R : Int → World → Prop) : Prop :=
  Calls Tryz.prog 49 #[.agg #[.int .i64 (m1.1), .int .i64 (m1.2.1), .int .i64 (m1.2.2.1), .int .i64 (m1.2.2.2.1), .int .i64 (m1.2.2.2.2.1), .int .i64 (m1.2.2.2.2.2)]] w fun e w' => ∃ r0 : Int, e = .returned (.int .i64 r0) ∧ R r0 w'
theorem C49.mono {m1 : Int × Int × Int × Int × Int × Int} {w : World} {R R' : Int → World → Prop} (h : C49 m1 w R) (hr : ∀ r0 w', R r0 w' → R' r0 w') : C49 m1 w R' :=
  Calls.mono h fun _ _ ⟨r0, he, hR⟩ => ⟨r0, he, hr _ _ hR⟩
def C85 (a1 : Int × Int × Int × Int × Int × Int) (b2 : Int × Int × Int × Int × Int × Int) (w : World) (R : (Int × Int × Int × Int × Int × Int) → Int → World → Prop) : Prop :=
  Calls Tryz.prog 85 #[.agg #[.int .i64 (a1.1), .int .i64 (a1.2.1), .int .i64 (a1.2.2.1), .int .i64 (a1.2.2.2.1), .int .i64 (a1.2.2.2.2.1), .int .i64 (a1.2.2.2.2.2)], .agg #[.int .i64 (b2.1), .int .i64 (b2.2.1), .int .i64 (b2.2.2.1), .int .i64 (b2.2.2.2.1), .int .i64 (b2.2.2.2.2.1), .int .i64 (b2.2.2.2.2.2)]] w fun e w' => ∃ r0 : Int × Int × Int × Int × Int × Int, ∃ r1 : Int, e = .returned (.tuple #[.agg #[.int .i64 (r0.1), .int .i64 (r0.2.1), .int .i64 (r0.2.2.1), .int .i64 (r0.2.2.2.1), .int .i64 (r0.2.2.2.2.1), .int .i64 (r0.2.2.2.2.2)], .int .i64 r1]) ∧ R r0 r1 w'
theorem C85.mono {a1 : Int × Int × Int × Int × Int × Int} {b2 : Int × Int × Int × Int × Int × Int} {w : World} {R R' : (Int × Int × Int × Int × Int × Int) → Int → World → Prop} (h : C85 a1 b2 w R) (hr : ∀ r0 r1 w', R r0 r1 w' → R' r0 r1 w') : C85 a1 b2 w R' :=
  Calls.mono h fun _ _ ⟨r0, r1, he, hR⟩ => ⟨r0, r1, he, hr _ _ _ hR⟩
def C136 (m1 : Int × Int × Int × Int × Int × Int) (p2 : Int × Int) (w : World) (R : (Int × Int) → Int → World → Prop) : Prop :=
  Calls Tryz.prog 136 #[.agg #[.int .i64 (m1.1), .int .i64 (m1.2.1), .int .i64 (m1.2.2.1), .int .i64 (m1.2.2.2.1), .int .i64 (m1.2.2.2.2.1), .int .i64 (m1.2.2.2.2.2)], .agg #[.int .i64 (p2.1), .int .i64 (p2.2)]] w fun e w' => ∃ r0 : Int × Int, ∃ r1 : Int, e = .returned (.tuple #[.agg #[.int .i64 (r0.1), .int .i64 (r0.2)], .int .i64 r1]) ∧ R r0 r1 w'
theorem C136.mono {m1 : Int × Int × Int × Int × Int × Int} {p2 : Int × Int} {w : World} {R R' : (Int × Int) → Int → World → Prop} (h : C136 m1 p2 w R) (hr : ∀ r0 r1 w', R r0 r1 w' → R' r0 r1 w') : C136 m1 p2 w R' :=
  Calls.mono h fun _ _ ⟨r0, r1, he, hR⟩ => ⟨r0, r1, he, hr _ _ _ hR⟩
def C137 (m1 : Int × Int × Int × Int × Int × Int) (p2 : Int × Int) (w : World) (R : Int → Int → World → Prop) : Prop :=
  Calls Tryz.prog 137 #[.agg #[.int .i64 (m1.1), .int .i64 (m1.2.1), .int .i64 (m1.2.2.1), .int .i64 (m1.2.2.2.1), .int .i64 (m1.2.2.2.2.1), .int .i64 (m1.2.2.2.2.2)], .agg #[.int .i64 (p2.1), .int .i64 (p2.2)]] w fun e w' => ∃ r0 : Int, ∃ r1 : Int, e = .returned (.tuple #[.int .i64 r0, .int .i64 r1]) ∧ R r0 r1 w'
theorem C137.mono {m1 : Int × Int × Int × Int × Int × Int} {p2 : Int × Int} {w : World} {R R' : Int → Int → World → Prop} (h : C137 m1 p2 w R) (hr : ∀ r0 r1 w', R r0 r1 w' → R' r0 r1 w') : C137 m1 p2 w R' :=
  Calls.mono h fun _ _ ⟨r0, r1, he, hR⟩ => ⟨r0, r1, he, hr _ _ _ hR⟩
def C22 (w : World) (R : (Int × Int × Int × Int × Int × Int) → World → Prop) : Prop :=
  Calls Tryz.prog 22 #[] w fun e w' => ∃ r0 : Int × Int × Int × Int × Int × Int, e = .returned (.agg #[.int .i64 (r0.1), .int .i64 (r0.2.1), .int .i64 (r0.2.2.1), .int .i64 (r0.2.2.2.1), .int .i64 (r0.2.2.2.2.1), .int .i64 (r0.2.2.2.2.2)]) ∧ R r0 w'
theorem C22.mono {w : World} {R R' : (Int × Int × Int × Int × Int × Int) → World → Prop} (h : C22 w R) (hr : ∀ r0 w', R r0 w' → R' r0 w') : C22 w R' :=
  Calls.mono h fun _ _ ⟨r0, he, hR⟩ => ⟨r0, he, hr _ _ hR⟩
def C20 (x1 : Int) (y2 : Int) (w : World) (R : (Int × Int × Int × Int × Int × Int) → World → Prop) : Prop :=
  Calls Tryz.prog 20 #[.int .i64 x1, .int .i64 y2] w fun e w' => ∃ r0 : Int × Int × Int × Int × Int × Int, e = .returned (.agg #[.int .i64 (r0.1), .int .i64 (r0.2.1), .int .i64 (r0.2.2.1), .int .i64 (r0.2.2.2.1), .int .i64 (r0.2.2.2.2.1), .int .i64 (r0.2.2.2.2.2)]) ∧ R r0 w'
theorem C20.mono {x1 : Int} {y2 : Int} {w : World} {R R' : (Int × Int × Int × Int × Int × Int) → World → Prop} (h : C20 x1 y2 w R) (hr : ∀ r0 w', R r0 w' → R' r0 w') : C20 x1 y2 w R' :=
  Calls.mono h fun _ _ ⟨r0, he, hR⟩ => ⟨r0, he, hr _ _ hR⟩

/-- foliant/matrix.parts -/
def S93 (m1 : Option Addr) (w : World) (R : (Option Addr × Option Addr × Option Addr × Option Addr × Option Addr × Option Addr) → World → Prop) : Prop :=
  Nw w (.cells #[.pointer none, .pointer none, .pointer none, .pointer none, .pointer none, .pointer none] 139) fun vw2 =>
  Nn m1 fun a3 =>
  Nn m1 fun a4 =>
  Nn m1 fun a5 =>
  Nn m1 fun a6 =>
  Nn m1 fun a7 =>
  Nn m1 fun a8 =>
  St vw2.drew (⟨w.heap.size, 0, none⟩ : Addr) (.pointer (some a3)) fun vw9 =>
  St vw9 ((⟨w.heap.size, 0, none⟩ : Addr).add 1) (.pointer (some (a4.add 1))) fun vw10 =>
  St vw10 ((⟨w.heap.size, 0, none⟩ : Addr).add 2) (.pointer (some (a5.add 2))) fun vw11 =>
  St vw11 ((⟨w.heap.size, 0, none⟩ : Addr).add 3) (.pointer (some (a6.add 3))) fun vw12 =>
  St vw12 ((⟨w.heap.size, 0, none⟩ : Addr).add 4) (.pointer (some (a7.add 4))) fun vw13 =>
  St vw13 ((⟨w.heap.size, 0, none⟩ : Addr).add 5) (.pointer (some (a8.add 5))) fun vw14 =>
  Ld vw14 (⟨w.heap.size, 0, none⟩ : Addr) Value.pointer fun (x15 : Option Addr) =>
  Ld vw14 ((⟨w.heap.size, 0, none⟩ : Addr).add 1) Value.pointer fun (x16 : Option Addr) =>
  Ld vw14 ((⟨w.heap.size, 0, none⟩ : Addr).add 2) Value.pointer fun (x17 : Option Addr) =>
  Ld vw14 ((⟨w.heap.size, 0, none⟩ : Addr).add 3) Value.pointer fun (x18 : Option Addr) =>
  Ld vw14 ((⟨w.heap.size, 0, none⟩ : Addr).add 4) Value.pointer fun (x19 : Option Addr) =>
  Ld vw14 ((⟨w.heap.size, 0, none⟩ : Addr).add 5) Value.pointer fun (x20 : Option Addr) =>
  R (x15, x16, x17, x18, x19, x20) vw14
def pl93 : Plan := (.seq (.reg .seq) (.seq (.reg (.tail 18)) .leaf))
set_option maxRecDepth 100000 in
theorem T93 (m1 : Option Addr) (w : World) (R : (Option Addr × Option Addr × Option Addr × Option Addr × Option Addr × Option Addr) → World → Prop) (h : S93 m1 w R) : C93 m1 w R := by
  have e : fnT Tryz.prog ⟨FF, MAY, (fun _ _ => False)⟩ pl93 Tryz.f93 [.pointer m1] w [(.agg [.ptr, .ptr, .ptr, .ptr, .ptr, .ptr])] (fun s w => R s w) = S93 m1 w R := by kernel_rfl
  exact (fn_calls okF okM Tryz.func93 (by kernel_rfl) (by kernel_rfl) (e.mpr h)).mono fun _ _ ⟨s, he, hR⟩ => ⟨s, he, hR⟩

/-- foliant/matrix.out -/
def S94 (n1 : Int) (w : World) (R : Bool → World → Prop) : Prop :=
  Br (decide (n1 < (-1073741824))) (R true w) (R (decide (n1 > 1073741824)) w)
def pl94 : Plan := (.seq (.reg .seq) (.seq (.reg .seq) .leaf))
set_option maxRecDepth 100000 in
theorem T94 (n1 : Int) (w : World) (R : Bool → World → Prop) (h : S94 n1 w R) : C94 n1 w R := by
  have e : fnT Tryz.prog ⟨FF, MAY, (fun _ _ => False)⟩ pl94 Tryz.f94 [.int .i64 n1] w [(.one .bool)] (fun s w => R s w) = S94 n1 w R := by kernel_rfl
  exact (fn_calls okF okM Tryz.func94 (by kernel_rfl) (by kernel_rfl) (e.mpr h)).mono fun _ _ ⟨s, he, hR⟩ => ⟨s, he, hR⟩

def S57L1 (r3 : Option Addr × Option Addr × Option Addr × Option Addr × Option Addr × Option Addr) (R : Int → World → Prop) (I7 : Int → World → Prop) (s5 : Int) (vw6 : World) : Prop :=
  Br (decide (s5 < 6)) (0 ≤ s5 ∧ s5 < (6 : Nat) ∧ ∃ x8 : Option Addr, (#[.pointer r3.1, .pointer r3.2.1, .pointer r3.2.2.1, .pointer r3.2.2.2.1, .pointer r3.2.2.2.2.1, .pointer r3.2.2.2.2.2] : Array Value)[(s5).toNat * 1]? = some (.pointer x8) ∧ Nn x8 fun a9 =>
    Ld vw6 a9 (Value.int .i64) fun (x10 : Int) =>
    C94 x10 vw6 fun r11 vw12 =>
      Br r11 (R 2 vw12) (I7 (IntKind.i64.wrap (s5 + 1)) vw12)) (R 0 vw6)
/-- foliant/matrix.Check -/
def S57 (m1 : Int × Int × Int × Int × Int × Int) (w : World) (R : Int → World → Prop) : Prop :=
  Nw w (.cells #[.int .i64 (m1.1), .int .i64 (m1.2.1), .int .i64 (m1.2.2.1), .int .i64 (m1.2.2.2.1), .int .i64 (m1.2.2.2.2.1), .int .i64 (m1.2.2.2.2.2)] 24) fun vw2 =>
  C93 (some (⟨w.heap.size, 0, none⟩ : Addr)) vw2 fun r3 vw4 =>
    Lp (σ := Int) (S57L1 r3 R) 0 vw4
def pl57 : Plan := (.seq (.reg .seq) (.seq (.seq (.reg .seq) (.block (.loop [(6, (.one (.int .i64)))] [5] (.seq (.reg .seq) (.seq (.cond .leaf .leaf) (.seq (.block (.seq (.reg .seq) (.seq (.reg .seq) (.cond (.seq (.reg .seq) .leaf) .leaf)))) (.reg .seq))))))) (.seq (.reg .seq) .leaf)))
set_option maxRecDepth 100000 in
theorem T57 (m1 : Int × Int × Int × Int × Int × Int) (w : World) (R : Int → World → Prop) (h : S57 m1 w R) : C57 (m1.1, m1.2.1, m1.2.2.1, m1.2.2.2.1, m1.2.2.2.2.1, m1.2.2.2.2.2) w R := by
  have e : fnT Tryz.prog ⟨FF, MAY, (fun _ _ => False)⟩ pl57 Tryz.f57 [.agg #[.int .i64 (m1.1), .int .i64 (m1.2.1), .int .i64 (m1.2.2.1), .int .i64 (m1.2.2.2.1), .int .i64 (m1.2.2.2.2.1), .int .i64 (m1.2.2.2.2.2)]] w [(.one (.int .i64))] (fun s w => R s w) = S57 m1 w R := by kernel_rfl
  exact (fn_calls okF okM Tryz.func57 (by kernel_rfl) (by kernel_rfl) (e.mpr h)).mono fun _ _ ⟨s, he, hR⟩ => ⟨s, he, hR⟩

/-- foliant/matrix.caught -/
def S133_nil (why2 : Option Addr) (w : World) (R : World → Prop) (PR : Value → World → Prop) : Prop :=
  R w
def pl133_nil : Plan := (.seq (.reg .seq) (.block (.seq (.reg .seq) (.cond (.reg .seq) (.seq (.reg .seq) (.cond (.seq (.reg .seq) (.reg .seq)) (.seq (.reg .seq) (.reg .seq))))))))
set_option maxRecDepth 100000 in
theorem T133_nil (why2 : Option Addr) (w : World) (R : World → Prop) (PR : Value → World → Prop) (h : S133_nil why2 w R PR) : C133 Value.nilIface why2 w R PR := by
  have e : fnT Tryz.prog ⟨FF, MAY, PR⟩ pl133_nil Tryz.f133 [Value.nilIface, .pointer why2] w [] (fun _ w => R w) = S133_nil why2 w R PR := by kernel_rfl
  exact (fn_callsP okF okM Tryz.func133 (by kernel_rfl) (by kernel_rfl) (e.mpr h)).mono fun _ _ he => he.elim (fun ⟨_, he, hR⟩ => .inl ⟨he, hR⟩) .inr

/-- foliant/matrix.caught -/
def S133_T191 (x2 : Int) (why3 : Option Addr) (w : World) (R : World → Prop) (PR : Value → World → Prop) : Prop :=
  Nw w (.cells #[.int .i64 0] 191) fun vw4 =>
  St vw4 (⟨w.heap.size, 0, none⟩ : Addr) (.int .i64 x2) fun vw5 =>
  Ld vw5 (⟨w.heap.size, 0, none⟩ : Addr) (Value.int .i64) fun (x6 : Int) =>
  Nn why3 fun a7 =>
  St vw5 a7 (.int .i64 x6) fun vw8 =>
  R vw8
def pl133_T191 : Plan := (.seq (.reg .seq) (.block (.seq (.reg .seq) (.cond (.reg .seq) (.seq (.reg .seq) (.cond (.seq (.reg .seq) (.reg .seq)) (.seq (.reg .seq) (.reg .seq))))))))
set_option maxRecDepth 100000 in
theorem T133_T191 (x2 : Int) (why3 : Option Addr) (w : World) (R : World → Prop) (PR : Value → World → Prop) (h : S133_T191 x2 why3 w R PR) : C133 (.iface 191 (.agg #[.int .i64 x2])) why3 w R PR := by
  have e : fnT Tryz.prog ⟨FF, MAY, PR⟩ pl133_T191 Tryz.f133 [.iface 191 (.agg #[.int .i64 x2]), .pointer why3] w [] (fun _ w => R w) = S133_T191 x2 why3 w R PR := by kernel_rfl
  exact (fn_callsP okF okM Tryz.func133 (by kernel_rfl) (by kernel_rfl) (e.mpr h)).mono fun _ _ he => he.elim (fun ⟨_, he, hR⟩ => .inl ⟨he, hR⟩) .inr

/-- foliant/matrix.Mul$1 -/
def S132_nil (c1 : Addr) (c2 : Addr) (w : World) (R : World → Prop) : Prop :=
  C133 Value.nilIface (some c1) w (fun vw3 =>
    Ld vw3 c1 (Value.int .i64) fun (x4 : Int) =>
    Br (x4 != 0) (St vw3 c2 (.int .i64 0) fun vw5 =>
      St vw5 (c2.add 1) (.int .i64 0) fun vw6 =>
      St vw6 (c2.add 2) (.int .i64 0) fun vw7 =>
      St vw7 (c2.add 3) (.int .i64 0) fun vw8 =>
      St vw8 (c2.add 4) (.int .i64 0) fun vw9 =>
      St vw9 (c2.add 5) (.int .i64 0) fun vw10 =>
      R vw10) (R vw3)) (fun _ _ => False)
def pl132_nil : Plan := (.seq (.reg .seq) (.cond (.reg .seq) .leaf))
set_option maxRecDepth 100000 in
theorem T132_nil (c1 : Addr) (c2 : Addr) (w : World) (R : World → Prop) (h : S132_nil c1 c2 w R) : CD132 c1 c2 none w R := by
  have e : fnTS Tryz.prog FF MAY pl132_nil Tryz.f132 [.pointer (some c1), .pointer (some c2)] none w R = S132_nil c1 c2 w R := by kernel_rfl
  exact fnS_calls okF okM Tryz.func132 (by kernel_rfl) (by kernel_rfl) (e.mpr h)

/-- foliant/matrix.Mul$1 -/
def S132_T191 (c1 : Addr) (c2 : Addr) (u3 : Int) (w : World) (R : World → Prop) : Prop :=
  C133 (.iface 191 (.agg #[.int .i64 u3])) (some c1) w (fun vw4 =>
    Ld vw4 c1 (Value.int .i64) fun (x5 : Int) =>
    Br (x5 != 0) (St vw4 c2 (.int .i64 0) fun vw6 =>
      St vw6 (c2.add 1) (.int .i64 0) fun vw7 =>
      St vw7 (c2.add 2) (.int .i64 0) fun vw8 =>
      St vw8 (c2.add 3) (.int .i64 0) fun vw9 =>
      St vw9 (c2.add 4) (.int .i64 0) fun vw10 =>
      St vw10 (c2.add 5) (.int .i64 0) fun vw11 =>
      R vw11) (R vw4)) (fun _ _ => False)
def pl132_T191 : Plan := (.seq (.reg .seq) (.cond (.reg .seq) .leaf))
set_option maxRecDepth 100000 in
theorem T132_T191 (c1 : Addr) (c2 : Addr) (u3 : Int) (w : World) (R : World → Prop) (h : S132_T191 c1 c2 u3 w R) : CD132 c1 c2 (some (.iface 191 (.agg #[.int .i64 u3]))) w R := by
  have e : fnTS Tryz.prog FF MAY pl132_T191 Tryz.f132 [.pointer (some c1), .pointer (some c2)] (some (.iface 191 (.agg #[.int .i64 u3]))) w R = S132_T191 c1 c2 u3 w R := by kernel_rfl
  exact fnS_calls okF okM Tryz.func132 (by kernel_rfl) (by kernel_rfl) (e.mpr h)

/-- foliant/matrix.need -/
def S134 (why1 : Int) (w : World) (R : World → Prop) (PR : Value → World → Prop) : Prop :=
  Br (why1 != 0) (PR (.iface 191 (.agg #[.int .i64 why1])) w) (R w)
def pl134 : Plan := (.seq (.reg .seq) (.cond (.reg .seq) .leaf))
set_option maxRecDepth 100000 in
theorem T134 (why1 : Int) (w : World) (R : World → Prop) (PR : Value → World → Prop) (h : S134 why1 w R PR) : C134 why1 w R PR := by
  have e : fnT Tryz.prog ⟨FF, MAY, PR⟩ pl134 Tryz.f134 [.int .i64 why1] w [] (fun _ w => R w) = S134 why1 w R PR := by kernel_rfl
  exact (fn_callsP okF okM Tryz.func134 (by kernel_rfl) (by kernel_rfl) (e.mpr h)).mono fun _ _ he => he.elim (fun ⟨_, he, hR⟩ => .inl ⟨he, hR⟩) .inr

/-- foliant/matrix.dot -/
def S135 (l1 : Slc) (w : World) (R : Int → World → Prop) (PR : Value → World → Prop) : Prop :=
  C147 l1 w fun r2 r3 vw4 =>
    C134 r3 vw4 (fun vw5 =>
      C94 r2 vw5 fun r6 vw7 =>
        Br r6 (C134 2 vw7 (fun vw8 =>
            R r2 vw8) PR) (R r2 vw7)) PR
def pl135 : Plan := (.seq (.reg .seq) (.seq (.reg .seq) (.seq (.reg .seq) (.seq (.seq (.reg .seq) (.cond (.reg .seq) .leaf)) (.seq (.reg .seq) .leaf)))))
set_option maxRecDepth 100000 in
theorem T135 (l1 : Slc) (w : World) (R : Int → World → Prop) (PR : Value → World → Prop) (h : S135 l1 w R PR) : C135 l1 w R PR := by
  have e : fnT Tryz.prog ⟨FF, MAY, PR⟩ pl135 Tryz.f135 [Slc.v l1] w [(.one (.int .i64))] (fun s w => R s w) = S135 l1 w R PR := by kernel_rfl
  exact (fn_callsP okF okM Tryz.func135 (by kernel_rfl) (by kernel_rfl) (e.mpr h)).mono fun _ _ he => he.elim (fun ⟨s, he, hR⟩ => .inl ⟨s, he, hR⟩) .inr

def S115P (vw4 : World) (vw5 : World) (R : (Int × Int × Int × Int × Int × Int) → Int → World → Prop) (x8 : Value) (vw7 : World) : Prop :=
  CD132 (⟨vw5.heap.size, 0, none⟩ : Addr) (⟨vw4.heap.size, 0, none⟩ : Addr) (some x8) vw7 fun vw9 =>
    Ld vw9 (⟨vw4.heap.size, 0, none⟩ : Addr) (Value.int .i64) fun (x10 : Int) =>
    Ld vw9 ((⟨vw4.heap.size, 0, none⟩ : Addr).add 1) (Value.int .i64) fun (x11 : Int) =>
    Ld vw9 ((⟨vw4.heap.size, 0, none⟩ : Addr).add 2) (Value.int .i64) fun (x12 : Int) =>
    Ld vw9 ((⟨vw4.heap.size, 0, none⟩ : Addr).add 3) (Value.int .i64) fun (x13 : Int) =>
    Ld vw9 ((⟨vw4.heap.size, 0, none⟩ : Addr).add 4) (Value.int .i64) fun (x14 : Int) =>
    Ld vw9 ((⟨vw4.heap.size, 0, none⟩ : Addr).add 5) (Value.int .i64) fun (x15 : Int) =>
    Ld vw9 (⟨vw5.heap.size, 0, none⟩ : Addr) (Value.int .i64) fun (x16 : Int) =>
    R (x10, x11, x12, x13, x14, x15) x16 vw9
/-- foliant/matrix.Mul -/
def S115 (a1 : Int × Int × Int × Int × Int × Int) (b2 : Int × Int × Int × Int × Int × Int) (w : World) (R : (Int × Int × Int × Int × Int × Int) → Int → World → Prop) : Prop :=
  Nw w (.cells #[.int .i64 (a1.1), .int .i64 (a1.2.1), .int .i64 (a1.2.2.1), .int .i64 (a1.2.2.2.1), .int .i64 (a1.2.2.2.2.1), .int .i64 (a1.2.2.2.2.2)] 24) fun vw3 =>
  Nw vw3 (.cells #[.int .i64 (b2.1), .int .i64 (b2.2.1), .int .i64 (b2.2.2.1), .int .i64 (b2.2.2.2.1), .int .i64 (b2.2.2.2.2.1), .int .i64 (b2.2.2.2.2.2)] 24) fun vw4 =>
  Nw vw4 (.cells #[.int .i64 0, .int .i64 0, .int .i64 0, .int .i64 0, .int .i64 0, .int .i64 0] 24) fun vw5 =>
  Nw vw5 (.cells #[.int .i64 0] 43) fun vw6 =>
  Ld vw6 (⟨w.heap.size, 0, none⟩ : Addr) (Value.int .i64) fun (x17 : Int) =>
  Ld vw6 ((⟨w.heap.size, 0, none⟩ : Addr).add 1) (Value.int .i64) fun (x18 : Int) =>
  Ld vw6 ((⟨w.heap.size, 0, none⟩ : Addr).add 2) (Value.int .i64) fun (x19 : Int) =>
  Ld vw6 ((⟨w.heap.size, 0, none⟩ : Addr).add 3) (Value.int .i64) fun (x20 : Int) =>
  Ld vw6 ((⟨w.heap.size, 0, none⟩ : Addr).add 4) (Value.int .i64) fun (x21 : Int) =>
  Ld vw6 ((⟨w.heap.size, 0, none⟩ : Addr).add 5) (Value.int .i64) fun (x22 : Int) =>
  C57 (x17, x18, x19, x20, x21, x22) vw6 fun r23 vw24 =>
    C134 r23 vw24 (fun vw25 =>
      Ld vw25 (⟨vw3.heap.size, 0, none⟩ : Addr) (Value.int .i64) fun (x26 : Int) =>
      Ld vw25 ((⟨vw3.heap.size, 0, none⟩ : Addr).add 1) (Value.int .i64) fun (x27 : Int) =>
      Ld vw25 ((⟨vw3.heap.size, 0, none⟩ : Addr).add 2) (Value.int .i64) fun (x28 : Int) =>
      Ld vw25 ((⟨vw3.heap.size, 0, none⟩ : Addr).add 3) (Value.int .i64) fun (x29 : Int) =>
      Ld vw25 ((⟨vw3.heap.size, 0, none⟩ : Addr).add 4) (Value.int .i64) fun (x30 : Int) =>
      Ld vw25 ((⟨vw3.heap.size, 0, none⟩ : Addr).add 5) (Value.int .i64) fun (x31 : Int) =>
      C57 (x26, x27, x28, x29, x30, x31) vw25 fun r32 vw33 =>
        C134 r32 vw33 (fun vw34 =>
          ∃ vS35 : World → Prop, vS35 vw34.drew ∧ LdS vS35 (⟨w.heap.size, 0, none⟩ : Addr) (Value.int .i64) fun (x36 : Int) =>
          LdS vS35 (⟨vw3.heap.size, 0, none⟩ : Addr) (Value.int .i64) fun (x37 : Int) =>
          LdS vS35 ((⟨w.heap.size, 0, none⟩ : Addr).add 1) (Value.int .i64) fun (x38 : Int) =>
          LdS vS35 ((⟨vw3.heap.size, 0, none⟩ : Addr).add 2) (Value.int .i64) fun (x39 : Int) =>
          LdS vS35 (⟨w.heap.size, 0, none⟩ : Addr) (Value.int .i64) fun (x40 : Int) =>
          LdS vS35 ((⟨vw3.heap.size, 0, none⟩ : Addr).add 1) (Value.int .i64) fun (x41 : Int) =>
          LdS vS35 ((⟨w.heap.size, 0, none⟩ : Addr).add 1) (Value.int .i64) fun (x42 : Int) =>
          LdS vS35 ((⟨vw3.heap.size, 0, none⟩ : Addr).add 3) (Value.int .i64) fun (x43 : Int) =>
          LdS vS35 ((⟨w.heap.size, 0, none⟩ : Addr).add 2) (Value.int .i64) fun (x44 : Int) =>
          LdS vS35 (⟨vw3.heap.size, 0, none⟩ : Addr) (Value.int .i64) fun (x45 : Int) =>
          LdS vS35 ((⟨w.heap.size, 0, none⟩ : Addr).add 3) (Value.int .i64) fun (x46 : Int) =>
          LdS vS35 ((⟨vw3.heap.size, 0, none⟩ : Addr).add 2) (Value.int .i64) fun (x47 : Int) =>
          LdS vS35 ((⟨w.heap.size, 0, none⟩ : Addr).add 2) (Value.int .i64) fun (x48 : Int) =>
          LdS vS35 ((⟨vw3.heap.size, 0, none⟩ : Addr).add 1) (Value.int .i64) fun (x49 : Int) =>
          LdS vS35 ((⟨w.heap.size, 0, none⟩ : Addr).add 3) (Value.int .i64) fun (x50 : Int) =>
          LdS vS35 ((⟨vw3.heap.size, 0, none⟩ : Addr).add 3) (Value.int .i64) fun (x51 : Int) =>
          LdS vS35 ((⟨w.heap.size, 0, none⟩ : Addr).add 4) (Value.int .i64) fun (x52 : Int) =>
          LdS vS35 (⟨vw3.heap.size, 0, none⟩ : Addr) (Value.int .i64) fun (x53 : Int) =>
          LdS vS35 ((⟨w.heap.size, 0, none⟩ : Addr).add 5) (Value.int .i64) fun (x54 : Int) =>
          LdS vS35 ((⟨vw3.heap.size, 0, none⟩ : Addr).add 2) (Value.int .i64) fun (x55 : Int) =>
          LdS vS35 ((⟨vw3.heap.size, 0, none⟩ : Addr).add 4) (Value.int .i64) fun (x56 : Int) =>
          LdS vS35 ((⟨w.heap.size, 0, none⟩ : Addr).add 4) (Value.int .i64) fun (x57 : Int) =>
          LdS vS35 ((⟨vw3.heap.size, 0, none⟩ : Addr).add 1) (Value.int .i64) fun (x58 : Int) =>
          LdS vS35 ((⟨w.heap.size, 0, none⟩ : Addr).add 5) (Value.int .i64) fun (x59 : Int) =>
          LdS vS35 ((⟨vw3.heap.size, 0, none⟩ : Addr).add 3) (Value.int .i64) fun (x60 : Int) =>
          LdS vS35 ((⟨vw3.heap.size, 0, none⟩ : Addr).add 5) (Value.int .i64) fun (x61 : Int) =>
          ∃ le62 : World → World → Prop, ∃ B63 : World → Prop, B63 vw34.drew ∧ ∃ G64 : Slc → World → Prop, (∀ (x65 : Slc) (vw66 : World) (vw67 : World), le62 vw66 vw67 → G64 x65 vw66 → G64 x65 vw67) ∧
          ∃ G68 : Int → World → Prop, (∀ (x69 : Int) (vw70 : World) (vw71 : World), le62 vw70 vw71 → G68 x69 vw70 → G68 x69 vw71) ∧
          ∃ G72 : Slc → World → Prop, (∀ (x73 : Slc) (vw74 : World) (vw75 : World), le62 vw74 vw75 → G72 x73 vw74 → G72 x73 vw75) ∧
          ∃ G76 : Int → World → Prop, (∀ (x77 : Int) (vw78 : World) (vw79 : World), le62 vw78 vw79 → G76 x77 vw78 → G76 x77 vw79) ∧
          ∃ G80 : Slc → World → Prop, (∀ (x81 : Slc) (vw82 : World) (vw83 : World), le62 vw82 vw83 → G80 x81 vw82 → G80 x81 vw83) ∧
          ∃ G84 : Int → World → Prop, (∀ (x85 : Int) (vw86 : World) (vw87 : World), le62 vw86 vw87 → G84 x85 vw86 → G84 x85 vw87) ∧
          ∃ G88 : Slc → World → Prop, (∀ (x89 : Slc) (vw90 : World) (vw91 : World), le62 vw90 vw91 → G88 x89 vw90 → G88 x89 vw91) ∧
          ∃ G92 : Int → World → Prop, (∀ (x93 : Int) (vw94 : World) (vw95 : World), le62 vw94 vw95 → G92 x93 vw94 → G92 x93 vw95) ∧
          ∃ G96 : Slc → World → Prop, (∀ (x97 : Slc) (vw98 : World) (vw99 : World), le62 vw98 vw99 → G96 x97 vw98 → G96 x97 vw99) ∧
          ∃ G100 : Int → World → Prop, (∀ (x101 : Int) (vw102 : World) (vw103 : World), le62 vw102 vw103 → G100 x101 vw102 → G100 x101 vw103) ∧
          ∃ G104 : Slc → World → Prop, (∀ (x105 : Slc) (vw106 : World) (vw107 : World), le62 vw106 vw107 → G104 x105 vw106 → G104 x105 vw107) ∧
          ((∀ (vw108 : World), vS35 vw108 → B63 vw108 → Nw vw108 (.cells #[.int .i64 x36, .int .i64 x37, .int .i64 x38, .int .i64 x39] 2) fun vw109 =>
            vS35 vw109 ∧ B63 vw109 ∧ le62 vw108 vw109 ∧ ∃ x110 : Slc, (Slc.v ((⟨some ⟨vw108.heap.size, 0, none⟩, 4, 4⟩ : Slc)) : Value) = Slc.v x110 ∧ G64 x110 vw109) ∧
          (∀ (vw111 : World), vS35 vw111 → B63 vw111 → ∀ (x112 : Slc), G64 x112 vw111 → C135 x112 vw111 (fun r113 vw114 =>
              vS35 vw114 ∧ B63 vw114 ∧ le62 vw111 vw114 ∧ ∃ x115 : Int, (.int .i64 r113 : Value) = .int .i64 x115 ∧ G68 x115 vw114) (S115P vw4 vw5 R)) ∧
          (∀ (vw116 : World), vS35 vw116 → B63 vw116 → Nw vw116 (.cells #[.int .i64 x40, .int .i64 x41, .int .i64 x42, .int .i64 x43] 2) fun vw117 =>
            vS35 vw117 ∧ B63 vw117 ∧ le62 vw116 vw117 ∧ ∃ x118 : Slc, (Slc.v ((⟨some ⟨vw116.heap.size, 0, none⟩, 4, 4⟩ : Slc)) : Value) = Slc.v x118 ∧ G72 x118 vw117) ∧
          (∀ (vw119 : World), vS35 vw119 → B63 vw119 → ∀ (x120 : Slc), G72 x120 vw119 → C135 x120 vw119 (fun r121 vw122 =>
              vS35 vw122 ∧ B63 vw122 ∧ le62 vw119 vw122 ∧ ∃ x123 : Int, (.int .i64 r121 : Value) = .int .i64 x123 ∧ G76 x123 vw122) (S115P vw4 vw5 R)) ∧
          (∀ (vw124 : World), vS35 vw124 → B63 vw124 → Nw vw124 (.cells #[.int .i64 x44, .int .i64 x45, .int .i64 x46, .int .i64 x47] 2) fun vw125 =>
            vS35 vw125 ∧ B63 vw125 ∧ le62 vw124 vw125 ∧ ∃ x126 : Slc, (Slc.v ((⟨some ⟨vw124.heap.size, 0, none⟩, 4, 4⟩ : Slc)) : Value) = Slc.v x126 ∧ G80 x126 vw125) ∧
          (∀ (vw127 : World), vS35 vw127 → B63 vw127 → ∀ (x128 : Slc), G80 x128 vw127 → C135 x128 vw127 (fun r129 vw130 =>
              vS35 vw130 ∧ B63 vw130 ∧ le62 vw127 vw130 ∧ ∃ x131 : Int, (.int .i64 r129 : Value) = .int .i64 x131 ∧ G84 x131 vw130) (S115P vw4 vw5 R)) ∧
          (∀ (vw132 : World), vS35 vw132 → B63 vw132 → Nw vw132 (.cells #[.int .i64 x48, .int .i64 x49, .int .i64 x50, .int .i64 x51] 2) fun vw133 =>
            vS35 vw133 ∧ B63 vw133 ∧ le62 vw132 vw133 ∧ ∃ x134 : Slc, (Slc.v ((⟨some ⟨vw132.heap.size, 0, none⟩, 4, 4⟩ : Slc)) : Value) = Slc.v x134 ∧ G88 x134 vw133) ∧
          (∀ (vw135 : World), vS35 vw135 → B63 vw135 → ∀ (x136 : Slc), G88 x136 vw135 → C135 x136 vw135 (fun r137 vw138 =>
              vS35 vw138 ∧ B63 vw138 ∧ le62 vw135 vw138 ∧ ∃ x139 : Int, (.int .i64 r137 : Value) = .int .i64 x139 ∧ G92 x139 vw138) (S115P vw4 vw5 R)) ∧
          (∀ (vw140 : World), vS35 vw140 → B63 vw140 → Nw vw140 (.cells #[.int .i64 x52, .int .i64 x53, .int .i64 x54, .int .i64 x55, .int .i64 x56, .int .i64 10000] 2) fun vw141 =>
            vS35 vw141 ∧ B63 vw141 ∧ le62 vw140 vw141 ∧ ∃ x142 : Slc, (Slc.v ((⟨some ⟨vw140.heap.size, 0, none⟩, 6, 6⟩ : Slc)) : Value) = Slc.v x142 ∧ G96 x142 vw141) ∧
          (∀ (vw143 : World), vS35 vw143 → B63 vw143 → ∀ (x144 : Slc), G96 x144 vw143 → C135 x144 vw143 (fun r145 vw146 =>
              vS35 vw146 ∧ B63 vw146 ∧ le62 vw143 vw146 ∧ ∃ x147 : Int, (.int .i64 r145 : Value) = .int .i64 x147 ∧ G100 x147 vw146) (S115P vw4 vw5 R)) ∧
          (∀ (vw148 : World), vS35 vw148 → B63 vw148 → Nw vw148 (.cells #[.int .i64 x57, .int .i64 x58, .int .i64 x59, .int .i64 x60, .int .i64 x61, .int .i64 10000] 2) fun vw149 =>
            vS35 vw149 ∧ B63 vw149 ∧ le62 vw148 vw149 ∧ ∃ x150 : Slc, (Slc.v ((⟨some ⟨vw148.heap.size, 0, none⟩, 6, 6⟩ : Slc)) : Value) = Slc.v x150 ∧ G104 x150 vw149) ∧
          True) ∧
          (∀ (vw151 : World), vS35 vw151 → B63 vw151 → ∀ (x152 : Slc), G64 x152 vw151 → ∀ (x153 : Int), G68 x153 vw151 → ∀ (x154 : Slc), G72 x154 vw151 → ∀ (x155 : Int), G76 x155 vw151 → ∀ (x156 : Slc), G80 x156 vw151 → ∀ (x157 : Int), G84 x157 vw151 → ∀ (x158 : Slc), G88 x158 vw151 → ∀ (x159 : Int), G92 x159 vw151 → ∀ (x160 : Slc), G96 x160 vw151 → ∀ (x161 : Int), G100 x161 vw151 → ∀ (x162 : Slc), G104 x162 vw151 → C135 x162 vw151 (fun r163 vw164 =>
              St vw164 (⟨vw4.heap.size, 0, none⟩ : Addr) (.int .i64 x153) fun vw165 =>
              St vw165 ((⟨vw4.heap.size, 0, none⟩ : Addr).add 1) (.int .i64 x155) fun vw166 =>
              St vw166 ((⟨vw4.heap.size, 0, none⟩ : Addr).add 2) (.int .i64 x157) fun vw167 =>
              St vw167 ((⟨vw4.heap.size, 0, none⟩ : Addr).add 3) (.int .i64 x159) fun vw168 =>
              St vw168 ((⟨vw4.heap.size, 0, none⟩ : Addr).add 4) (.int .i64 x161) fun vw169 =>
              St vw169 ((⟨vw4.heap.size, 0, none⟩ : Addr).add 5) (.int .i64 r163) fun vw170 =>
              St vw170 (⟨vw5.heap.size, 0, none⟩ : Addr) (.int .i64 0) fun vw171 =>
              CD132 (⟨vw5.heap.size, 0, none⟩ : Addr) (⟨vw4.heap.size, 0, none⟩ : Addr) none vw171 fun vw172 =>
                Ld vw172 (⟨vw4.heap.size, 0, none⟩ : Addr) (Value.int .i64) fun (x173 : Int) =>
                Ld vw172 ((⟨vw4.heap.size, 0, none⟩ : Addr).add 1) (Value.int .i64) fun (x174 : Int) =>
                Ld vw172 ((⟨vw4.heap.size, 0, none⟩ : Addr).add 2) (Value.int .i64) fun (x175 : Int) =>
                Ld vw172 ((⟨vw4.heap.size, 0, none⟩ : Addr).add 3) (Value.int .i64) fun (x176 : Int) =>
                Ld vw172 ((⟨vw4.heap.size, 0, none⟩ : Addr).add 4) (Value.int .i64) fun (x177 : Int) =>
                Ld vw172 ((⟨vw4.heap.size, 0, none⟩ : Addr).add 5) (Value.int .i64) fun (x178 : Int) =>
                Ld vw172 (⟨vw5.heap.size, 0, none⟩ : Addr) (Value.int .i64) fun (x179 : Int) =>
                R (x173, x174, x175, x176, x177, x178) x179 vw172) (S115P vw4 vw5 R))) (S115P vw4 vw5 R)) (S115P vw4 vw5 R)
def pl115 : DPlan := (.pre (.reg .seq) (.here [4, 5] (.seq (.reg .seq) (.seq (.reg .seq) (.seq (.reg (.held [63] (.take 0 (.take 1 (.take 2 (.take 3 (.take 4 (.take 5 (.take 6 (.take 7 (.take 10 (.take 11 (.take 12 (.take 13 (.take 14 (.take 15 (.take 16 (.take 17 (.take 20 (.take 21 (.take 22 (.take 23 (.take 24 (.take 25 (.take 26 (.take 27 (.take 30 (.take 31 (.take 32 (.take 33 (.take 34 (.take 35 (.take 36 (.take 37 (.take 40 (.take 41 (.take 42 (.take 43 (.take 44 (.take 45 (.take 46 (.take 47 (.take 48 (.take 49 (.take 52 (.take 53 (.take 54 (.take 55 (.take 56 (.take 57 (.take 58 (.take 59 (.take 60 (.take 61 (.mono [8, 9, 18, 19, 28, 29, 38, 39, 50, 51, 62] (.eff 63 (some [64]) (.eff 64 (some [65]) (.eff 65 (some [66]) (.eff 66 (some []) .done))))))))))))))))))))))))))))))))))))))))))))))))))))))))))) .leaf)))))
set_option maxRecDepth 100000 in
theorem T115 (a1 : Int × Int × Int × Int × Int × Int) (b2 : Int × Int × Int × Int × Int × Int) (w : World) (R : (Int × Int × Int × Int × Int × Int) → Int → World → Prop) (h : S115 a1 b2 w R) : C115 (a1.1, a1.2.1, a1.2.2.1, a1.2.2.2.1, a1.2.2.2.2.1, a1.2.2.2.2.2) (b2.1, b2.2.1, b2.2.2.1, b2.2.2.2.1, b2.2.2.2.2.1, b2.2.2.2.2.2) w R := by
  have e : fnTD Tryz.prog FF MAY (fun _ _ => False) pl115 Tryz.f115 [.agg #[.int .i64 (a1.1), .int .i64 (a1.2.1), .int .i64 (a1.2.2.1), .int .i64 (a1.2.2.2.1), .int .i64 (a1.2.2.2.2.1), .int .i64 (a1.2.2.2.2.2)], .agg #[.int .i64 (b2.1), .int .i64 (b2.2.1), .int .i64 (b2.2.2.1), .int .i64 (b2.2.2.2.1), .int .i64 (b2.2.2.2.2.1), .int .i64 (b2.2.2.2.2.2)]] w [(.agg [(.int .i64), (.int .i64), (.int .i64), (.int .i64), (.int .i64), (.int .i64)]), (.one (.int .i64))] (fun s w => R s.1 s.2 w) = S115 a1 b2 w R := by kernel_rfl
  exact (fnD_calls okF okM Tryz.func115 (by kernel_rfl) (by kernel_rfl) (e.mpr h)).mono fun _ _ ⟨s, he, hR⟩ => ⟨s.1, s.2, he, hR⟩

/-- foliant/matrix.Apply$1 -/
def S142_nil (c1 : Addr) (c2 : Addr) (w : World) (R : World → Prop) : Prop :=
  C133 Value.nilIface (some c1) w (fun vw3 =>
    Ld vw3 c1 (Value.int .i64) fun (x4 : Int) =>
    Br (x4 != 0) (St vw3 c2 (.int .i64 0) fun vw5 =>
      St vw5 (c2.add 1) (.int .i64 0) fun vw6 =>
      R vw6) (R vw3)) (fun _ _ => False)
def pl142_nil : Plan := (.seq (.reg .seq) (.cond (.reg .seq) .leaf))
set_option maxRecDepth 100000 in
theorem T142_nil (c1 : Addr) (c2 : Addr) (w : World) (R : World → Prop) (h : S142_nil c1 c2 w R) : CD142 c1 c2 none w R := by
  have e : fnTS Tryz.prog FF MAY pl142_nil Tryz.f142 [.pointer (some c1), .pointer (some c2)] none w R = S142_nil c1 c2 w R := by kernel_rfl
  exact fnS_calls okF okM Tryz.func142 (by kernel_rfl) (by kernel_rfl) (e.mpr h)

/-- foliant/matrix.Apply$1 -/
def S142_T191 (c1 : Addr) (c2 : Addr) (u3 : Int) (w : World) (R : World → Prop) : Prop :=
  C133 (.iface 191 (.agg #[.int .i64 u3])) (some c1) w (fun vw4 =>
    Ld vw4 c1 (Value.int .i64) fun (x5 : Int) =>
    Br (x5 != 0) (St vw4 c2 (.int .i64 0) fun vw6 =>
      St vw6 (c2.add 1) (.int .i64 0) fun vw7 =>
      R vw7) (R vw4)) (fun _ _ => False)
def pl142_T191 : Plan := (.seq (.reg .seq) (.cond (.reg .seq) .leaf))
set_option maxRecDepth 100000 in
theorem T142_T191 (c1 : Addr) (c2 : Addr) (u3 : Int) (w : World) (R : World → Prop) (h : S142_T191 c1 c2 u3 w R) : CD142 c1 c2 (some (.iface 191 (.agg #[.int .i64 u3]))) w R := by
  have e : fnTS Tryz.prog FF MAY pl142_T191 Tryz.f142 [.pointer (some c1), .pointer (some c2)] (some (.iface 191 (.agg #[.int .i64 u3]))) w R = S142_T191 c1 c2 u3 w R := by kernel_rfl
  exact fnS_calls okF okM Tryz.func142 (by kernel_rfl) (by kernel_rfl) (e.mpr h)

def S122P (vw4 : World) (vw5 : World) (R : (Int × Int) → Int → World → Prop) (x8 : Value) (vw7 : World) : Prop :=
  CD142 (⟨vw5.heap.size, 0, none⟩ : Addr) (⟨vw4.heap.size, 0, none⟩ : Addr) (some x8) vw7 fun vw9 =>
    Ld vw9 (⟨vw4.heap.size, 0, none⟩ : Addr) (Value.int .i64) fun (x10 : Int) =>
    Ld vw9 ((⟨vw4.heap.size, 0, none⟩ : Addr).add 1) (Value.int .i64) fun (x11 : Int) =>
    Ld vw9 (⟨vw5.heap.size, 0, none⟩ : Addr) (Value.int .i64) fun (x12 : Int) =>
    R (x10, x11) x12 vw9
def S122J1 (w : World) (vw3 : World) (vw4 : World) (vw5 : World) (R : (Int × Int) → Int → World → Prop) (s30 : Unit) (vw31 : World) : Prop :=
  ∃ vS32 : World → Prop, vS32 vw31.drew ∧ LdS vS32 (⟨vw3.heap.size, 0, none⟩ : Addr) (Value.int .i64) fun (x33 : Int) =>
  LdS vS32 (⟨w.heap.size, 0, none⟩ : Addr) (Value.int .i64) fun (x34 : Int) =>
  LdS vS32 ((⟨vw3.heap.size, 0, none⟩ : Addr).add 1) (Value.int .i64) fun (x35 : Int) =>
  LdS vS32 ((⟨w.heap.size, 0, none⟩ : Addr).add 2) (Value.int .i64) fun (x36 : Int) =>
  LdS vS32 ((⟨w.heap.size, 0, none⟩ : Addr).add 4) (Value.int .i64) fun (x37 : Int) =>
  LdS vS32 (⟨vw3.heap.size, 0, none⟩ : Addr) (Value.int .i64) fun (x38 : Int) =>
  LdS vS32 ((⟨w.heap.size, 0, none⟩ : Addr).add 1) (Value.int .i64) fun (x39 : Int) =>
  LdS vS32 ((⟨vw3.heap.size, 0, none⟩ : Addr).add 1) (Value.int .i64) fun (x40 : Int) =>
  LdS vS32 ((⟨w.heap.size, 0, none⟩ : Addr).add 3) (Value.int .i64) fun (x41 : Int) =>
  LdS vS32 ((⟨w.heap.size, 0, none⟩ : Addr).add 5) (Value.int .i64) fun (x42 : Int) =>
  (Nw vw31.drew (.cells #[.int .i64 x33, .int .i64 x34, .int .i64 x35, .int .i64 x36, .int .i64 x37, .int .i64 10000] 2) fun vw43 =>
    vS32 vw43 ∧ (C135 (⟨some ⟨vw31.drew.heap.size, 0, none⟩, 6, 6⟩ : Slc) vw43 (fun r44 vw45 =>
        vS32 vw45 ∧ Nw vw45 (.cells #[.int .i64 x38, .int .i64 x39, .int .i64 x40, .int .i64 x41, .int .i64 x42, .int .i64 10000] 2) fun vw46 =>
        vS32 vw46 ∧ C135 (⟨some ⟨vw45.heap.size, 0, none⟩, 6, 6⟩ : Slc) vw46 (fun r47 vw48 =>
          St vw48 (⟨vw4.heap.size, 0, none⟩ : Addr) (.int .i64 r44) fun vw49 =>
          St vw49 ((⟨vw4.heap.size, 0, none⟩ : Addr).add 1) (.int .i64 r47) fun vw50 =>
          St vw50 (⟨vw5.heap.size, 0, none⟩ : Addr) (.int .i64 0) fun vw51 =>
          CD142 (⟨vw5.heap.size, 0, none⟩ : Addr) (⟨vw4.heap.size, 0, none⟩ : Addr) none vw51 fun vw52 =>
            Ld vw52 (⟨vw4.heap.size, 0, none⟩ : Addr) (Value.int .i64) fun (x53 : Int) =>
            Ld vw52 ((⟨vw4.heap.size, 0, none⟩ : Addr).add 1) (Value.int .i64) fun (x54 : Int) =>
            Ld vw52 (⟨vw5.heap.size, 0, none⟩ : Addr) (Value.int .i64) fun (x55 : Int) =>
            R (x53, x54) x55 vw52) (S122P vw4 vw5 R)) (S122P vw4 vw5 R)) ∧
    (Nw vw43 (.cells #[.int .i64 x38, .int .i64 x39, .int .i64 x40, .int .i64 x41, .int .i64 x42, .int .i64 10000] 2) fun vw56 =>
      vS32 vw56 ∧ C135 (⟨some ⟨vw31.drew.heap.size, 0, none⟩, 6, 6⟩ : Slc) vw56 (fun r57 vw58 =>
        vS32 vw58 ∧ C135 (⟨some ⟨vw43.heap.size, 0, none⟩, 6, 6⟩ : Slc) vw58 (fun r59 vw60 =>
          St vw60 (⟨vw4.heap.size, 0, none⟩ : Addr) (.int .i64 r57) fun vw61 =>
          St vw61 ((⟨vw4.heap.size, 0, none⟩ : Addr).add 1) (.int .i64 r59) fun vw62 =>
          St vw62 (⟨vw5.heap.size, 0, none⟩ : Addr) (.int .i64 0) fun vw63 =>
          CD142 (⟨vw5.heap.size, 0, none⟩ : Addr) (⟨vw4.heap.size, 0, none⟩ : Addr) none vw63 fun vw64 =>
            Ld vw64 (⟨vw4.heap.size, 0, none⟩ : Addr) (Value.int .i64) fun (x65 : Int) =>
            Ld vw64 ((⟨vw4.heap.size, 0, none⟩ : Addr).add 1) (Value.int .i64) fun (x66 : Int) =>
            Ld vw64 (⟨vw5.heap.size, 0, none⟩ : Addr) (Value.int .i64) fun (x67 : Int) =>
            R (x65, x66) x67 vw64) (S122P vw4 vw5 R)) (S122P vw4 vw5 R))) ∧
  (Nw vw31.drew (.cells #[.int .i64 x38, .int .i64 x39, .int .i64 x40, .int .i64 x41, .int .i64 x42, .int .i64 10000] 2) fun vw68 =>
    vS32 vw68 ∧ Nw vw68 (.cells #[.int .i64 x33, .int .i64 x34, .int .i64 x35, .int .i64 x36, .int .i64 x37, .int .i64 10000] 2) fun vw69 =>
    vS32 vw69 ∧ C135 (⟨some ⟨vw68.heap.size, 0, none⟩, 6, 6⟩ : Slc) vw69 (fun r70 vw71 =>
      vS32 vw71 ∧ C135 (⟨some ⟨vw31.drew.heap.size, 0, none⟩, 6, 6⟩ : Slc) vw71 (fun r72 vw73 =>
        St vw73 (⟨vw4.heap.size, 0, none⟩ : Addr) (.int .i64 r70) fun vw74 =>
        St vw74 ((⟨vw4.heap.size, 0, none⟩ : Addr).add 1) (.int .i64 r72) fun vw75 =>
        St vw75 (⟨vw5.heap.size, 0, none⟩ : Addr) (.int .i64 0) fun vw76 =>
        CD142 (⟨vw5.heap.size, 0, none⟩ : Addr) (⟨vw4.heap.size, 0, none⟩ : Addr) none vw76 fun vw77 =>
          Ld vw77 (⟨vw4.heap.size, 0, none⟩ : Addr) (Value.int .i64) fun (x78 : Int) =>
          Ld vw77 ((⟨vw4.heap.size, 0, none⟩ : Addr).add 1) (Value.int .i64) fun (x79 : Int) =>
          Ld vw77 (⟨vw5.heap.size, 0, none⟩ : Addr) (Value.int .i64) fun (x80 : Int) =>
          R (x78, x79) x80 vw77) (S122P vw4 vw5 R)) (S122P vw4 vw5 R))
/-- foliant/matrix.Apply -/
def S122 (m1 : Int × Int × Int × Int × Int × Int) (p2 : Int × Int) (w : World) (R : (Int × Int) → Int → World → Prop) : Prop :=
  Nw w (.cells #[.int .i64 (m1.1), .int .i64 (m1.2.1), .int .i64 (m1.2.2.1), .int .i64 (m1.2.2.2.1), .int .i64 (m1.2.2.2.2.1), .int .i64 (m1.2.2.2.2.2)] 24) fun vw3 =>
  Nw vw3 (.cells #[.int .i64 (p2.1), .int .i64 (p2.2)] 68) fun vw4 =>
  Nw vw4 (.cells #[.int .i64 0, .int .i64 0] 68) fun vw5 =>
  Nw vw5 (.cells #[.int .i64 0] 43) fun vw6 =>
  Ld vw6 (⟨w.heap.size, 0, none⟩ : Addr) (Value.int .i64) fun (x13 : Int) =>
  Ld vw6 ((⟨w.heap.size, 0, none⟩ : Addr).add 1) (Value.int .i64) fun (x14 : Int) =>
  Ld vw6 ((⟨w.heap.size, 0, none⟩ : Addr).add 2) (Value.int .i64) fun (x15 : Int) =>
  Ld vw6 ((⟨w.heap.size, 0, none⟩ : Addr).add 3) (Value.int .i64) fun (x16 : Int) =>
  Ld vw6 ((⟨w.heap.size, 0, none⟩ : Addr).add 4) (Value.int .i64) fun (x17 : Int) =>
  Ld vw6 ((⟨w.heap.size, 0, none⟩ : Addr).add 5) (Value.int .i64) fun (x18 : Int) =>
  C57 (x13, x14, x15, x16, x17, x18) vw6 fun r19 vw20 =>
    C134 r19 vw20 (fun vw21 =>
      Join (S122J1 w vw3 vw4 vw5 R) fun (vJ81 : Unit → World → Prop) =>
        Ld vw21 (⟨vw3.heap.size, 0, none⟩ : Addr) (Value.int .i64) fun (x82 : Int) =>
        C94 x82 vw21 fun r83 vw84 =>
          Br r83 (C134 2 vw84 (fun vw85 =>
              vJ81 () vw85) (S122P vw4 vw5 R)) (Ld vw84 ((⟨vw3.heap.size, 0, none⟩ : Addr).add 1) (Value.int .i64) fun (x86 : Int) =>
            C94 x86 vw84 fun r87 vw88 =>
              Br r87 (C134 2 vw88 (fun vw89 =>
                  vJ81 () vw89) (S122P vw4 vw5 R)) (vJ81 () vw88))) (S122P vw4 vw5 R)
def pl122 : DPlan := (.pre (.reg .seq) (.here [4, 5] (.seq (.reg .seq) (.join [] [2, 3, 4, 5] (.seq (.reg .seq) (.cond (.reg .seq) .leaf)) (.seq (.reg (.held [23] (.take 0 (.take 1 (.take 2 (.take 3 (.take 4 (.take 5 (.take 6 (.take 7 (.take 8 (.take 9 (.take 12 (.take 13 (.take 14 (.take 15 (.take 16 (.take 17 (.take 18 (.take 19 (.take 20 (.take 21 (.effs 10 none (.effs 11 none (.eff 22 none (.eff 23 (some [24]) (.eff 24 (some [25]) (.eff 25 (some [26]) (.eff 26 (some []) .done))))) (.eff 22 none (.eff 11 none (.eff 23 (some [24]) (.eff 24 (some [25]) (.eff 25 (some [26]) (.eff 26 (some []) .done))))))) (.eff 22 none (.eff 10 none (.eff 11 none (.eff 23 (some [24]) (.eff 24 (some [25]) (.eff 25 (some [26]) (.eff 26 (some []) .done)))))))))))))))))))))))))))))) .leaf)))))
set_option maxRecDepth 100000 in
theorem T122 (m1 : Int × Int × Int × Int × Int × Int) (p2 : Int × Int) (w : World) (R : (Int × Int) → Int → World → Prop) (h : S122 m1 p2 w R) : C122 (m1.1, m1.2.1, m1.2.2.1, m1.2.2.2.1, m1.2.2.2.2.1, m1.2.2.2.2.2) (p2.1, p2.2) w R := by
  have e : fnTD Tryz.prog FF MAY (fun _ _ => False) pl122 Tryz.f122 [.agg #[.int .i64 (m1.1), .int .i64 (m1.2.1), .int .i64 (m1.2.2.1), .int .i64 (m1.2.2.2.1), .int .i64 (m1.2.2.2.2.1), .int .i64 (m1.2.2.2.2.2)], .agg #[.int .i64 (p2.1), .int .i64 (p2.2)]] w [(.agg [(.int .i64), (.int .i64)]), (.one (.int .i64))] (fun s w => R s.1 s.2 w) = S122 m1 p2 w R := by kernel_rfl
  exact (fnD_calls okF okM Tryz.func122 (by kernel_rfl) (by kernel_rfl) (e.mpr h)).mono fun _ _ ⟨s, he, hR⟩ => ⟨s.1, s.2, he, hR⟩

def S143L1 (n1 : Int) (R : Int → World → Prop) (I4 : (Int × Int) → World → Prop) (s2 : Int × Int) (vw3 : World) : Prop :=
  Br (decide (s2.2 > 0)) ((IntKind.i64.wrap (s2.1 + s2.2)) ≠ 0 ∧ Lt (decide ((IntKind.i64.wrap (s2.1 + s2.2)) ≤ (IntKind.i64.wrap (Int.tdiv n1 (IntKind.i64.wrap (s2.1 + s2.2)))))) fun (x5 : Bool) =>
    Br x5 (I4 (IntKind.i64.wrap (s2.1 + s2.2), Int.fdiv s2.2 (2 ^ 1)) vw3) (I4 (s2.1, Int.fdiv s2.2 (2 ^ 1)) vw3)) (R s2.1 vw3)
/-- foliant/matrix.root -/
def S143 (n1 : Int) (w : World) (R : Int → World → Prop) : Prop :=
  Lp (σ := Int × Int) (S143L1 n1 R) (0, 2147483648) w
def pl143 : Plan := (.seq (.reg .seq) (.seq (.reg .seq) (.seq (.seq (.reg .seq) (.block (.loop [(3, (.one (.int .i64))), (4, (.one (.int .i64)))] [0] (.seq (.seq (.reg .seq) (.cond .leaf .leaf)) (.seq (.block (.seq (.reg .seq) (.seq (.reg .seq) (.cond (.reg .seq) .leaf)))) (.reg .seq)))))) (.seq (.reg .seq) .leaf))))
set_option maxRecDepth 100000 in
theorem T143 (n1 : Int) (w : World) (R : Int → World → Prop) (h : S143 n1 w R) : C143 n1 w R := by
  have e : fnT Tryz.prog ⟨FF, MAY, (fun _ _ => False)⟩ pl143 Tryz.f143 [.int .i64 n1] w [(.one (.int .i64))] (fun s w => R s w) = S143 n1 w R := by kernel_rfl
  exact (fn_calls okF okM Tryz.func143 (by kernel_rfl) (by kernel_rfl) (e.mpr h)).mono fun _ _ ⟨s, he, hR⟩ => ⟨s, he, hR⟩

/-- foliant/matrix.Length -/
def S123 (m1 : Int × Int × Int × Int × Int × Int) (p2 : Int × Int) (w : World) (R : Int → Int → World → Prop) : Prop :=
  Nw w (.cells #[.int .i64 (m1.1), .int .i64 (m1.2.1), .int .i64 (m1.2.2.1), .int .i64 (m1.2.2.2.1), .int .i64 (m1.2.2.2.2.1), .int .i64 (m1.2.2.2.2.2)] 24) fun vw3 =>
  Nw vw3 (.cells #[.int .i64 (p2.1), .int .i64 (p2.2)] 68) fun vw4 =>
  St vw4 ((⟨w.heap.size, 0, none⟩ : Addr).add 4) (.int .i64 0) fun vw5 =>
  St vw5 ((⟨w.heap.size, 0, none⟩ : Addr).add 5) (.int .i64 0) fun vw6 =>
  Ld vw6 (⟨w.heap.size, 0, none⟩ : Addr) (Value.int .i64) fun (x7 : Int) =>
  Ld vw6 ((⟨w.heap.size, 0, none⟩ : Addr).add 1) (Value.int .i64) fun (x8 : Int) =>
  Ld vw6 ((⟨w.heap.size, 0, none⟩ : Addr).add 2) (Value.int .i64) fun (x9 : Int) =>
  Ld vw6 ((⟨w.heap.size, 0, none⟩ : Addr).add 3) (Value.int .i64) fun (x10 : Int) =>
  Ld vw6 ((⟨w.heap.size, 0, none⟩ : Addr).add 4) (Value.int .i64) fun (x11 : Int) =>
  Ld vw6 ((⟨w.heap.size, 0, none⟩ : Addr).add 5) (Value.int .i64) fun (x12 : Int) =>
  Ld vw6 (⟨vw3.heap.size, 0, none⟩ : Addr) (Value.int .i64) fun (x13 : Int) =>
  Ld vw6 ((⟨vw3.heap.size, 0, none⟩ : Addr).add 1) (Value.int .i64) fun (x14 : Int) =>
  C122 (x7, x8, x9, x10, x11, x12) (x13, x14) vw6 fun r15 r16 vw17 =>
    Nw vw17 (.cells #[.int .i64 0, .int .i64 0] 68) fun vw18 =>
    St vw18 (⟨vw17.heap.size, 0, none⟩ : Addr) (.int .i64 (r15.1)) fun vw19 =>
    St vw19 ((⟨vw17.heap.size, 0, none⟩ : Addr).add 1) (.int .i64 (r15.2)) fun vw20 =>
    Br (r16 != 0) (R 0 r16 vw20) (Ld vw20 (⟨vw17.heap.size, 0, none⟩ : Addr) (Value.int .i64) fun (x21 : Int) =>
      Ld vw20 (⟨vw17.heap.size, 0, none⟩ : Addr) (Value.int .i64) fun (x22 : Int) =>
      Ld vw20 ((⟨vw17.heap.size, 0, none⟩ : Addr).add 1) (Value.int .i64) fun (x23 : Int) =>
      Ld vw20 ((⟨vw17.heap.size, 0, none⟩ : Addr).add 1) (Value.int .i64) fun (x24 : Int) =>
      C143 (IntKind.i64.wrap ((IntKind.i64.wrap (x21 * x22)) + (IntKind.i64.wrap (x23 * x24)))) vw20 fun r25 vw26 =>
        Br (decide (r25 > 1073741824)) (R 0 2 vw26) (R r25 0 vw26))
def pl123 : Plan := (.seq (.reg .seq) (.seq (.reg .seq) (.seq (.reg .seq) (.seq (.seq (.reg .seq) (.cond (.seq (.reg .seq) .leaf) .leaf)) (.seq (.reg .seq) (.seq (.seq (.reg .seq) (.cond (.seq (.reg .seq) .leaf) .leaf)) (.seq (.reg .seq) .leaf)))))))
set_option maxRecDepth 100000 in
theorem T123 (m1 : Int × Int × Int × Int × Int × Int) (p2 : Int × Int) (w : World) (R : Int → Int → World → Prop) (h : S123 m1 p2 w R) : C123 (m1.1, m1.2.1, m1.2.2.1, m1.2.2.2.1, m1.2.2.2.2.1, m1.2.2.2.2.2) (p2.1, p2.2) w R := by
  have e : fnT Tryz.prog ⟨FF, MAY, (fun _ _ => False)⟩ pl123 Tryz.f123 [.agg #[.int .i64 (m1.1), .int .i64 (m1.2.1), .int .i64 (m1.2.2.1), .int .i64 (m1.2.2.2.1), .int .i64 (m1.2.2.2.2.1), .int .i64 (m1.2.2.2.2.2)], .agg #[.int .i64 (p2.1), .int .i64 (p2.2)]] w [(.one (.int .i64)), (.one (.int .i64))] (fun s w => R s.1 s.2 w) = S123 m1 p2 w R := by kernel_rfl
  exact (fn_calls okF okM Tryz.func123 (by kernel_rfl) (by kernel_rfl) (e.mpr h)).mono fun _ _ ⟨s, he, hR⟩ => ⟨s.1, s.2, he, hR⟩

/-- foliant/matrix.One -/
def S24 (w : World) (R : (Int × Int × Int × Int × Int × Int) → World → Prop) : Prop :=
  Nw w (.cells #[.int .i64 0, .int .i64 0, .int .i64 0, .int .i64 0, .int .i64 0, .int .i64 0] 24) fun vw1 =>
  St vw1 (⟨w.heap.size, 0, none⟩ : Addr) (.int .i64 10000) fun vw2 =>
  St vw2 ((⟨w.heap.size, 0, none⟩ : Addr).add 1) (.int .i64 0) fun vw3 =>
  St vw3 ((⟨w.heap.size, 0, none⟩ : Addr).add 2) (.int .i64 0) fun vw4 =>
  St vw4 ((⟨w.heap.size, 0, none⟩ : Addr).add 3) (.int .i64 10000) fun vw5 =>
  St vw5 ((⟨w.heap.size, 0, none⟩ : Addr).add 4) (.int .i64 0) fun vw6 =>
  St vw6 ((⟨w.heap.size, 0, none⟩ : Addr).add 5) (.int .i64 0) fun vw7 =>
  Ld vw7 (⟨w.heap.size, 0, none⟩ : Addr) (Value.int .i64) fun (x8 : Int) =>
  Ld vw7 ((⟨w.heap.size, 0, none⟩ : Addr).add 1) (Value.int .i64) fun (x9 : Int) =>
  Ld vw7 ((⟨w.heap.size, 0, none⟩ : Addr).add 2) (Value.int .i64) fun (x10 : Int) =>
  Ld vw7 ((⟨w.heap.size, 0, none⟩ : Addr).add 3) (Value.int .i64) fun (x11 : Int) =>
  Ld vw7 ((⟨w.heap.size, 0, none⟩ : Addr).add 4) (Value.int .i64) fun (x12 : Int) =>
  Ld vw7 ((⟨w.heap.size, 0, none⟩ : Addr).add 5) (Value.int .i64) fun (x13 : Int) =>
  R (x8, x9, x10, x11, x12, x13) vw7
def pl24 : Plan := (.seq (.reg .seq) (.seq (.reg .seq) .leaf))
set_option maxRecDepth 100000 in
theorem T24 (w : World) (R : (Int × Int × Int × Int × Int × Int) → World → Prop) (h : S24 w R) : C24 w R := by
  have e : fnT Tryz.prog ⟨FF, MAY, (fun _ _ => False)⟩ pl24 Tryz.f24 [] w [(.agg [(.int .i64), (.int .i64), (.int .i64), (.int .i64), (.int .i64), (.int .i64)])] (fun s w => R s w) = S24 w R := by kernel_rfl
  exact (fn_calls okF okM Tryz.func24 (by kernel_rfl) (by kernel_rfl) (e.mpr h)).mono fun _ _ ⟨s, he, hR⟩ => ⟨s, he, hR⟩

/-- foliant/matrix.Move -/
def S116 (x1 : Int) (y2 : Int) (w : World) (R : (Int × Int × Int × Int × Int × Int) → World → Prop) : Prop :=
  Nw w (.cells #[.int .i64 0, .int .i64 0, .int .i64 0, .int .i64 0, .int .i64 0, .int .i64 0] 24) fun vw3 =>
  C24 vw3 fun r4 vw5 =>
    Nw vw5 (.cells #[.int .i64 0, .int .i64 0, .int .i64 0, .int .i64 0, .int .i64 0, .int .i64 0] 24) fun vw6 =>
    St vw6 (⟨vw5.heap.size, 0, none⟩ : Addr) (.int .i64 (r4.1)) fun vw7 =>
    St vw7 ((⟨vw5.heap.size, 0, none⟩ : Addr).add 1) (.int .i64 (r4.2.1)) fun vw8 =>
    St vw8 ((⟨vw5.heap.size, 0, none⟩ : Addr).add 2) (.int .i64 (r4.2.2.1)) fun vw9 =>
    St vw9 ((⟨vw5.heap.size, 0, none⟩ : Addr).add 3) (.int .i64 (r4.2.2.2.1)) fun vw10 =>
    St vw10 ((⟨vw5.heap.size, 0, none⟩ : Addr).add 4) (.int .i64 (r4.2.2.2.2.1)) fun vw11 =>
    St vw11 ((⟨vw5.heap.size, 0, none⟩ : Addr).add 5) (.int .i64 (r4.2.2.2.2.2)) fun vw12 =>
    St vw12 ((⟨vw5.heap.size, 0, none⟩ : Addr).add 4) (.int .i64 x1) fun vw13 =>
    St vw13 ((⟨vw5.heap.size, 0, none⟩ : Addr).add 5) (.int .i64 y2) fun vw14 =>
    Ld vw14 (⟨vw5.heap.size, 0, none⟩ : Addr) (Value.int .i64) fun (x15 : Int) =>
    Ld vw14 ((⟨vw5.heap.size, 0, none⟩ : Addr).add 1) (Value.int .i64) fun (x16 : Int) =>
    Ld vw14 ((⟨vw5.heap.size, 0, none⟩ : Addr).add 2) (Value.int .i64) fun (x17 : Int) =>
    Ld vw14 ((⟨vw5.heap.size, 0, none⟩ : Addr).add 3) (Value.int .i64) fun (x18 : Int) =>
    Ld vw14 ((⟨vw5.heap.size, 0, none⟩ : Addr).add 4) (Value.int .i64) fun (x19 : Int) =>
    Ld vw14 ((⟨vw5.heap.size, 0, none⟩ : Addr).add 5) (Value.int .i64) fun (x20 : Int) =>
    St vw14 (⟨w.heap.size, 0, none⟩ : Addr) (.int .i64 x15) fun vw21 =>
    St vw21 ((⟨w.heap.size, 0, none⟩ : Addr).add 1) (.int .i64 x16) fun vw22 =>
    St vw22 ((⟨w.heap.size, 0, none⟩ : Addr).add 2) (.int .i64 x17) fun vw23 =>
    St vw23 ((⟨w.heap.size, 0, none⟩ : Addr).add 3) (.int .i64 x18) fun vw24 =>
    St vw24 ((⟨w.heap.size, 0, none⟩ : Addr).add 4) (.int .i64 x19) fun vw25 =>
    St vw25 ((⟨w.heap.size, 0, none⟩ : Addr).add 5) (.int .i64 x20) fun vw26 =>
    Ld vw26 (⟨w.heap.size, 0, none⟩ : Addr) (Value.int .i64) fun (x27 : Int) =>
    Ld vw26 ((⟨w.heap.size, 0, none⟩ : Addr).add 1) (Value.int .i64) fun (x28 : Int) =>
    Ld vw26 ((⟨w.heap.size, 0, none⟩ : Addr).add 2) (Value.int .i64) fun (x29 : Int) =>
    Ld vw26 ((⟨w.heap.size, 0, none⟩ : Addr).add 3) (Value.int .i64) fun (x30 : Int) =>
    Ld vw26 ((⟨w.heap.size, 0, none⟩ : Addr).add 4) (Value.int .i64) fun (x31 : Int) =>
    Ld vw26 ((⟨w.heap.size, 0, none⟩ : Addr).add 5) (Value.int .i64) fun (x32 : Int) =>
    R (x27, x28, x29, x30, x31, x32) vw26
def pl116 : Plan := (.seq (.reg .seq) (.seq (.reg .seq) (.seq (.reg .seq) (.seq (.reg .seq) .leaf))))
set_option maxRecDepth 100000 in
theorem T116 (x1 : Int) (y2 : Int) (w : World) (R : (Int × Int × Int × Int × Int × Int) → World → Prop) (h : S116 x1 y2 w R) : C116 x1 y2 w R := by
  have e : fnT Tryz.prog ⟨FF, MAY, (fun _ _ => False)⟩ pl116 Tryz.f116 [.int .i64 x1, .int .i64 y2] w [(.agg [(.int .i64), (.int .i64), (.int .i64), (.int .i64), (.int .i64), (.int .i64)])] (fun s w => R s w) = S116 x1 y2 w R := by kernel_rfl
  exact (fn_calls okF okM Tryz.func116 (by kernel_rfl) (by kernel_rfl) (e.mpr h)).mono fun _ _ ⟨s, he, hR⟩ => ⟨s, he, hR⟩

def S86L1 (l1 : Slc) (R : Bool → World → Prop) (I4 : Int → World → Prop) (s2 : Int) (vw3 : World) : Prop :=
  Br (decide (s2 < ((l1.len : Nat) : Int))) (0 ≤ s2 ∧ s2 < (l1.len : Nat) ∧ Nn l1.p fun a5 =>
    Ld vw3 (a5.add ((s2).toNat * 1)) (Value.int .i64) fun (x6 : Int) =>
    Br (decide (x6 < (-1073741824))) (R false vw3) (Br (decide (x6 > 1073741824)) (R false vw3) (I4 (IntKind.i64.wrap (s2 + 1)) vw3))) (R true vw3)
/-- foliant/foliantref42.within -/
def S86 (l1 : Slc) (w : World) (R : Bool → World → Prop) : Prop :=
  Lp (σ := Int) (S86L1 l1 R) 0 w
def pl86 : Plan := (.seq (.reg .seq) (.seq (.seq (.reg .seq) (.block (.loop [(7, (.one (.int .i64)))] [5, 6] (.seq (.reg .seq) (.seq (.cond .leaf .leaf) (.seq (.block (.seq (.reg .seq) (.seq (.reg .seq) (.cond (.seq (.reg .seq) .leaf) .leaf)))) (.reg .seq))))))) (.seq (.reg .seq) .leaf)))
set_option maxRecDepth 100000 in
theorem T86 (l1 : Slc) (w : World) (R : Bool → World → Prop) (h : S86 l1 w R) : C86 l1 w R := by
  have e : fnT Tryz.prog ⟨FF, MAY, (fun _ _ => False)⟩ pl86 Tryz.f86 [Slc.v l1] w [(.one .bool)] (fun s w => R s w) = S86 l1 w R := by kernel_rfl
  exact (fn_calls okF okM Tryz.func86 (by kernel_rfl) (by kernel_rfl) (e.mpr h)).mono fun _ _ ⟨s, he, hR⟩ => ⟨s, he, hR⟩

/-- foliant/foliantref42.Check -/
def S49 (m1 : Int × Int × Int × Int × Int × Int) (w : World) (R : Int → World → Prop) : Prop :=
  Nw w (.cells #[.int .i64 (m1.1), .int .i64 (m1.2.1), .int .i64 (m1.2.2.1), .int .i64 (m1.2.2.2.1), .int .i64 (m1.2.2.2.2.1), .int .i64 (m1.2.2.2.2.2)] 24) fun vw2 =>
  Ld vw2 (⟨w.heap.size, 0, none⟩ : Addr) (Value.int .i64) fun (x3 : Int) =>
  Ld vw2 ((⟨w.heap.size, 0, none⟩ : Addr).add 1) (Value.int .i64) fun (x4 : Int) =>
  Ld vw2 ((⟨w.heap.size, 0, none⟩ : Addr).add 2) (Value.int .i64) fun (x5 : Int) =>
  Ld vw2 ((⟨w.heap.size, 0, none⟩ : Addr).add 3) (Value.int .i64) fun (x6 : Int) =>
  Ld vw2 ((⟨w.heap.size, 0, none⟩ : Addr).add 4) (Value.int .i64) fun (x7 : Int) =>
  Ld vw2 ((⟨w.heap.size, 0, none⟩ : Addr).add 5) (Value.int .i64) fun (x8 : Int) =>
  Nw vw2 (.cells #[.int .i64 x3, .int .i64 x4, .int .i64 x5, .int .i64 x6, .int .i64 x7, .int .i64 x8] 2) fun vw9 =>
  C86 (⟨some ⟨vw2.heap.size, 0, none⟩, 6, 6⟩ : Slc) vw9 fun r10 vw11 =>
    Br (!r10) (R 2 vw11) (R 0 vw11)
def pl49 : Plan := (.seq (.reg .seq) (.seq (.seq (.reg .seq) (.cond (.seq (.reg .seq) .leaf) .leaf)) (.seq (.reg .seq) .leaf)))
set_option maxRecDepth 100000 in
theorem T49 (m1 : Int × Int × Int × Int × Int × Int) (w : World) (R : Int → World → Prop) (h : S49 m1 w R) : C49 (m1.1, m1.2.1, m1.2.2.1, m1.2.2.2.1, m1.2.2.2.2.1, m1.2.2.2.2.2) w R := by
  have e : fnT Tryz.prog ⟨FF, MAY, (fun _ _ => False)⟩ pl49 Tryz.f49 [.agg #[.int .i64 (m1.1), .int .i64 (m1.2.1), .int .i64 (m1.2.2.1), .int .i64 (m1.2.2.2.1), .int .i64 (m1.2.2.2.2.1), .int .i64 (m1.2.2.2.2.2)]] w [(.one (.int .i64))] (fun s w => R s w) = S49 m1 w R := by kernel_rfl
  exact (fn_calls okF okM Tryz.func49 (by kernel_rfl) (by kernel_rfl) (e.mpr h)).mono fun _ _ ⟨s, he, hR⟩ => ⟨s, he, hR⟩

/-- foliant/foliantref42.Mul -/
def S85 (a1 : Int × Int × Int × Int × Int × Int) (b2 : Int × Int × Int × Int × Int × Int) (w : World) (R : (Int × Int × Int × Int × Int × Int) → Int → World → Prop) : Prop :=
  Nw w (.cells #[.int .i64 (a1.1), .int .i64 (a1.2.1), .int .i64 (a1.2.2.1), .int .i64 (a1.2.2.2.1), .int .i64 (a1.2.2.2.2.1), .int .i64 (a1.2.2.2.2.2)] 24) fun vw3 =>
  Nw vw3 (.cells #[.int .i64 (b2.1), .int .i64 (b2.2.1), .int .i64 (b2.2.2.1), .int .i64 (b2.2.2.2.1), .int .i64 (b2.2.2.2.2.1), .int .i64 (b2.2.2.2.2.2)] 24) fun vw4 =>
  Nw vw4 (.cells #[.int .i64 0, .int .i64 0, .int .i64 0, .int .i64 0, .int .i64 0, .int .i64 0] 24) fun vw5 =>
  Ld vw5 (⟨w.heap.size, 0, none⟩ : Addr) (Value.int .i64) fun (x34 : Int) =>
  Ld vw5 ((⟨w.heap.size, 0, none⟩ : Addr).add 1) (Value.int .i64) fun (x35 : Int) =>
  Ld vw5 ((⟨w.heap.size, 0, none⟩ : Addr).add 2) (Value.int .i64) fun (x36 : Int) =>
  Ld vw5 ((⟨w.heap.size, 0, none⟩ : Addr).add 3) (Value.int .i64) fun (x37 : Int) =>
  Ld vw5 ((⟨w.heap.size, 0, none⟩ : Addr).add 4) (Value.int .i64) fun (x38 : Int) =>
  Ld vw5 ((⟨w.heap.size, 0, none⟩ : Addr).add 5) (Value.int .i64) fun (x39 : Int) =>
  C49 (x34, x35, x36, x37, x38, x39) vw5 fun r40 vw41 =>
    Br (r40 != 0) (St vw41 (⟨vw4.heap.size, 0, none⟩ : Addr) (.int .i64 0) fun vw42 =>
      St vw42 ((⟨vw4.heap.size, 0, none⟩ : Addr).add 1) (.int .i64 0) fun vw43 =>
      St vw43 ((⟨vw4.heap.size, 0, none⟩ : Addr).add 2) (.int .i64 0) fun vw44 =>
      St vw44 ((⟨vw4.heap.size, 0, none⟩ : Addr).add 3) (.int .i64 0) fun vw45 =>
      St vw45 ((⟨vw4.heap.size, 0, none⟩ : Addr).add 4) (.int .i64 0) fun vw46 =>
      St vw46 ((⟨vw4.heap.size, 0, none⟩ : Addr).add 5) (.int .i64 0) fun vw47 =>
      Ld vw47 (⟨vw4.heap.size, 0, none⟩ : Addr) (Value.int .i64) fun (x48 : Int) =>
      Ld vw47 ((⟨vw4.heap.size, 0, none⟩ : Addr).add 1) (Value.int .i64) fun (x49 : Int) =>
      Ld vw47 ((⟨vw4.heap.size, 0, none⟩ : Addr).add 2) (Value.int .i64) fun (x50 : Int) =>
      Ld vw47 ((⟨vw4.heap.size, 0, none⟩ : Addr).add 3) (Value.int .i64) fun (x51 : Int) =>
      Ld vw47 ((⟨vw4.heap.size, 0, none⟩ : Addr).add 4) (Value.int .i64) fun (x52 : Int) =>
      Ld vw47 ((⟨vw4.heap.size, 0, none⟩ : Addr).add 5) (Value.int .i64) fun (x53 : Int) =>
      R (x48, x49, x50, x51, x52, x53) 2 vw47) (Ld vw41 (⟨vw3.heap.size, 0, none⟩ : Addr) (Value.int .i64) fun (x54 : Int) =>
      Ld vw41 ((⟨vw3.heap.size, 0, none⟩ : Addr).add 1) (Value.int .i64) fun (x55 : Int) =>
      Ld vw41 ((⟨vw3.heap.size, 0, none⟩ : Addr).add 2) (Value.int .i64) fun (x56 : Int) =>
      Ld vw41 ((⟨vw3.heap.size, 0, none⟩ : Addr).add 3) (Value.int .i64) fun (x57 : Int) =>
      Ld vw41 ((⟨vw3.heap.size, 0, none⟩ : Addr).add 4) (Value.int .i64) fun (x58 : Int) =>
      Ld vw41 ((⟨vw3.heap.size, 0, none⟩ : Addr).add 5) (Value.int .i64) fun (x59 : Int) =>
      C49 (x54, x55, x56, x57, x58, x59) vw41 fun r60 vw61 =>
        Br (r60 != 0) (St vw61 (⟨vw4.heap.size, 0, none⟩ : Addr) (.int .i64 0) fun vw62 =>
          St vw62 ((⟨vw4.heap.size, 0, none⟩ : Addr).add 1) (.int .i64 0) fun vw63 =>
          St vw63 ((⟨vw4.heap.size, 0, none⟩ : Addr).add 2) (.int .i64 0) fun vw64 =>
          St vw64 ((⟨vw4.heap.size, 0, none⟩ : Addr).add 3) (.int .i64 0) fun vw65 =>
          St vw65 ((⟨vw4.heap.size, 0, none⟩ : Addr).add 4) (.int .i64 0) fun vw66 =>
          St vw66 ((⟨vw4.heap.size, 0, none⟩ : Addr).add 5) (.int .i64 0) fun vw67 =>
          Ld vw67 (⟨vw4.heap.size, 0, none⟩ : Addr) (Value.int .i64) fun (x68 : Int) =>
          Ld vw67 ((⟨vw4.heap.size, 0, none⟩ : Addr).add 1) (Value.int .i64) fun (x69 : Int) =>
          Ld vw67 ((⟨vw4.heap.size, 0, none⟩ : Addr).add 2) (Value.int .i64) fun (x70 : Int) =>
          Ld vw67 ((⟨vw4.heap.size, 0, none⟩ : Addr).add 3) (Value.int .i64) fun (x71 : Int) =>
          Ld vw67 ((⟨vw4.heap.size, 0, none⟩ : Addr).add 4) (Value.int .i64) fun (x72 : Int) =>
          Ld vw67 ((⟨vw4.heap.size, 0, none⟩ : Addr).add 5) (Value.int .i64) fun (x73 : Int) =>
          R (x68, x69, x70, x71, x72, x73) 2 vw67) (Ld vw61 (⟨w.heap.size, 0, none⟩ : Addr) (Value.int .i64) fun (x74 : Int) =>
          Ld vw61 (⟨vw3.heap.size, 0, none⟩ : Addr) (Value.int .i64) fun (x75 : Int) =>
          Ld vw61 ((⟨w.heap.size, 0, none⟩ : Addr).add 1) (Value.int .i64) fun (x76 : Int) =>
          Ld vw61 ((⟨vw3.heap.size, 0, none⟩ : Addr).add 2) (Value.int .i64) fun (x77 : Int) =>
          Nw vw61 (.cells #[.int .i64 x74, .int .i64 x75, .int .i64 x76, .int .i64 x77] 2) fun vw78 =>
          C117 (⟨some ⟨vw61.heap.size, 0, none⟩, 4, 4⟩ : Slc) vw78 fun r79 r80 vw81 =>
            Ld vw81 (⟨w.heap.size, 0, none⟩ : Addr) (Value.int .i64) fun (x82 : Int) =>
            Ld vw81 ((⟨vw3.heap.size, 0, none⟩ : Addr).add 1) (Value.int .i64) fun (x83 : Int) =>
            Ld vw81 ((⟨w.heap.size, 0, none⟩ : Addr).add 1) (Value.int .i64) fun (x84 : Int) =>
            Ld vw81 ((⟨vw3.heap.size, 0, none⟩ : Addr).add 3) (Value.int .i64) fun (x85 : Int) =>
            Nw vw81 (.cells #[.int .i64 x82, .int .i64 x83, .int .i64 x84, .int .i64 x85] 2) fun vw86 =>
            C117 (⟨some ⟨vw81.heap.size, 0, none⟩, 4, 4⟩ : Slc) vw86 fun r87 r88 vw89 =>
              Ld vw89 ((⟨w.heap.size, 0, none⟩ : Addr).add 2) (Value.int .i64) fun (x90 : Int) =>
              Ld vw89 (⟨vw3.heap.size, 0, none⟩ : Addr) (Value.int .i64) fun (x91 : Int) =>
              Ld vw89 ((⟨w.heap.size, 0, none⟩ : Addr).add 3) (Value.int .i64) fun (x92 : Int) =>
              Ld vw89 ((⟨vw3.heap.size, 0, none⟩ : Addr).add 2) (Value.int .i64) fun (x93 : Int) =>
              Nw vw89 (.cells #[.int .i64 x90, .int .i64 x91, .int .i64 x92, .int .i64 x93] 2) fun vw94 =>
              C117 (⟨some ⟨vw89.heap.size, 0, none⟩, 4, 4⟩ : Slc) vw94 fun r95 r96 vw97 =>
                Ld vw97 ((⟨w.heap.size, 0, none⟩ : Addr).add 2) (Value.int .i64) fun (x98 : Int) =>
                Ld vw97 ((⟨vw3.heap.size, 0, none⟩ : Addr).add 1) (Value.int .i64) fun (x99 : Int) =>
                Ld vw97 ((⟨w.heap.size, 0, none⟩ : Addr).add 3) (Value.int .i64) fun (x100 : Int) =>
                Ld vw97 ((⟨vw3.heap.size, 0, none⟩ : Addr).add 3) (Value.int .i64) fun (x101 : Int) =>
                Nw vw97 (.cells #[.int .i64 x98, .int .i64 x99, .int .i64 x100, .int .i64 x101] 2) fun vw102 =>
                C117 (⟨some ⟨vw97.heap.size, 0, none⟩, 4, 4⟩ : Slc) vw102 fun r103 r104 vw105 =>
                  Ld vw105 ((⟨w.heap.size, 0, none⟩ : Addr).add 4) (Value.int .i64) fun (x106 : Int) =>
                  Ld vw105 (⟨vw3.heap.size, 0, none⟩ : Addr) (Value.int .i64) fun (x107 : Int) =>
                  Ld vw105 ((⟨w.heap.size, 0, none⟩ : Addr).add 5) (Value.int .i64) fun (x108 : Int) =>
                  Ld vw105 ((⟨vw3.heap.size, 0, none⟩ : Addr).add 2) (Value.int .i64) fun (x109 : Int) =>
                  Ld vw105 ((⟨vw3.heap.size, 0, none⟩ : Addr).add 4) (Value.int .i64) fun (x110 : Int) =>
                  Nw vw105 (.cells #[.int .i64 x106, .int .i64 x107, .int .i64 x108, .int .i64 x109, .int .i64 x110, .int .i64 10000] 2) fun vw111 =>
                  C117 (⟨some ⟨vw105.heap.size, 0, none⟩, 6, 6⟩ : Slc) vw111 fun r112 r113 vw114 =>
                    Ld vw114 ((⟨w.heap.size, 0, none⟩ : Addr).add 4) (Value.int .i64) fun (x115 : Int) =>
                    Ld vw114 ((⟨vw3.heap.size, 0, none⟩ : Addr).add 1) (Value.int .i64) fun (x116 : Int) =>
                    Ld vw114 ((⟨w.heap.size, 0, none⟩ : Addr).add 5) (Value.int .i64) fun (x117 : Int) =>
                    Ld vw114 ((⟨vw3.heap.size, 0, none⟩ : Addr).add 3) (Value.int .i64) fun (x118 : Int) =>
                    Ld vw114 ((⟨vw3.heap.size, 0, none⟩ : Addr).add 5) (Value.int .i64) fun (x119 : Int) =>
                    Nw vw114 (.cells #[.int .i64 x115, .int .i64 x116, .int .i64 x117, .int .i64 x118, .int .i64 x119, .int .i64 10000] 2) fun vw120 =>
                    C117 (⟨some ⟨vw114.heap.size, 0, none⟩, 6, 6⟩ : Slc) vw120 fun r121 r122 vw123 =>
                      Br (r80 != 0) (St vw123 (⟨vw4.heap.size, 0, none⟩ : Addr) (.int .i64 0) fun vw169 =>
                        St vw169 ((⟨vw4.heap.size, 0, none⟩ : Addr).add 1) (.int .i64 0) fun vw170 =>
                        St vw170 ((⟨vw4.heap.size, 0, none⟩ : Addr).add 2) (.int .i64 0) fun vw171 =>
                        St vw171 ((⟨vw4.heap.size, 0, none⟩ : Addr).add 3) (.int .i64 0) fun vw172 =>
                        St vw172 ((⟨vw4.heap.size, 0, none⟩ : Addr).add 4) (.int .i64 0) fun vw173 =>
                        St vw173 ((⟨vw4.heap.size, 0, none⟩ : Addr).add 5) (.int .i64 0) fun vw174 =>
                        Ld vw174 (⟨vw4.heap.size, 0, none⟩ : Addr) (Value.int .i64) fun (x175 : Int) =>
                        Ld vw174 ((⟨vw4.heap.size, 0, none⟩ : Addr).add 1) (Value.int .i64) fun (x176 : Int) =>
                        Ld vw174 ((⟨vw4.heap.size, 0, none⟩ : Addr).add 2) (Value.int .i64) fun (x177 : Int) =>
                        Ld vw174 ((⟨vw4.heap.size, 0, none⟩ : Addr).add 3) (Value.int .i64) fun (x178 : Int) =>
                        Ld vw174 ((⟨vw4.heap.size, 0, none⟩ : Addr).add 4) (Value.int .i64) fun (x179 : Int) =>
                        Ld vw174 ((⟨vw4.heap.size, 0, none⟩ : Addr).add 5) (Value.int .i64) fun (x180 : Int) =>
                        R (x175, x176, x177, x178, x179, x180) 2 vw174) (Br (r88 != 0) (St vw123 (⟨vw4.heap.size, 0, none⟩ : Addr) (.int .i64 0) fun vw181 =>
                          St vw181 ((⟨vw4.heap.size, 0, none⟩ : Addr).add 1) (.int .i64 0) fun vw182 =>
                          St vw182 ((⟨vw4.heap.size, 0, none⟩ : Addr).add 2) (.int .i64 0) fun vw183 =>
                          St vw183 ((⟨vw4.heap.size, 0, none⟩ : Addr).add 3) (.int .i64 0) fun vw184 =>
                          St vw184 ((⟨vw4.heap.size, 0, none⟩ : Addr).add 4) (.int .i64 0) fun vw185 =>
                          St vw185 ((⟨vw4.heap.size, 0, none⟩ : Addr).add 5) (.int .i64 0) fun vw186 =>
                          Ld vw186 (⟨vw4.heap.size, 0, none⟩ : Addr) (Value.int .i64) fun (x187 : Int) =>
                          Ld vw186 ((⟨vw4.heap.size, 0, none⟩ : Addr).add 1) (Value.int .i64) fun (x188 : Int) =>
                          Ld vw186 ((⟨vw4.heap.size, 0, none⟩ : Addr).add 2) (Value.int .i64) fun (x189 : Int) =>
                          Ld vw186 ((⟨vw4.heap.size, 0, none⟩ : Addr).add 3) (Value.int .i64) fun (x190 : Int) =>
                          Ld vw186 ((⟨vw4.heap.size, 0, none⟩ : Addr).add 4) (Value.int .i64) fun (x191 : Int) =>
                          Ld vw186 ((⟨vw4.heap.size, 0, none⟩ : Addr).add 5) (Value.int .i64) fun (x192 : Int) =>
                          R (x187, x188, x189, x190, x191, x192) 2 vw186) (Br (r96 != 0) (St vw123 (⟨vw4.heap.size, 0, none⟩ : Addr) (.int .i64 0) fun vw193 =>
                            St vw193 ((⟨vw4.heap.size, 0, none⟩ : Addr).add 1) (.int .i64 0) fun vw194 =>
                            St vw194 ((⟨vw4.heap.size, 0, none⟩ : Addr).add 2) (.int .i64 0) fun vw195 =>
                            St vw195 ((⟨vw4.heap.size, 0, none⟩ : Addr).add 3) (.int .i64 0) fun vw196 =>
                            St vw196 ((⟨vw4.heap.size, 0, none⟩ : Addr).add 4) (.int .i64 0) fun vw197 =>
                            St vw197 ((⟨vw4.heap.size, 0, none⟩ : Addr).add 5) (.int .i64 0) fun vw198 =>
                            Ld vw198 (⟨vw4.heap.size, 0, none⟩ : Addr) (Value.int .i64) fun (x199 : Int) =>
                            Ld vw198 ((⟨vw4.heap.size, 0, none⟩ : Addr).add 1) (Value.int .i64) fun (x200 : Int) =>
                            Ld vw198 ((⟨vw4.heap.size, 0, none⟩ : Addr).add 2) (Value.int .i64) fun (x201 : Int) =>
                            Ld vw198 ((⟨vw4.heap.size, 0, none⟩ : Addr).add 3) (Value.int .i64) fun (x202 : Int) =>
                            Ld vw198 ((⟨vw4.heap.size, 0, none⟩ : Addr).add 4) (Value.int .i64) fun (x203 : Int) =>
                            Ld vw198 ((⟨vw4.heap.size, 0, none⟩ : Addr).add 5) (Value.int .i64) fun (x204 : Int) =>
                            R (x199, x200, x201, x202, x203, x204) 2 vw198) (Br (r104 != 0) (St vw123 (⟨vw4.heap.size, 0, none⟩ : Addr) (.int .i64 0) fun vw205 =>
                              St vw205 ((⟨vw4.heap.size, 0, none⟩ : Addr).add 1) (.int .i64 0) fun vw206 =>
                              St vw206 ((⟨vw4.heap.size, 0, none⟩ : Addr).add 2) (.int .i64 0) fun vw207 =>
                              St vw207 ((⟨vw4.heap.size, 0, none⟩ : Addr).add 3) (.int .i64 0) fun vw208 =>
                              St vw208 ((⟨vw4.heap.size, 0, none⟩ : Addr).add 4) (.int .i64 0) fun vw209 =>
                              St vw209 ((⟨vw4.heap.size, 0, none⟩ : Addr).add 5) (.int .i64 0) fun vw210 =>
                              Ld vw210 (⟨vw4.heap.size, 0, none⟩ : Addr) (Value.int .i64) fun (x211 : Int) =>
                              Ld vw210 ((⟨vw4.heap.size, 0, none⟩ : Addr).add 1) (Value.int .i64) fun (x212 : Int) =>
                              Ld vw210 ((⟨vw4.heap.size, 0, none⟩ : Addr).add 2) (Value.int .i64) fun (x213 : Int) =>
                              Ld vw210 ((⟨vw4.heap.size, 0, none⟩ : Addr).add 3) (Value.int .i64) fun (x214 : Int) =>
                              Ld vw210 ((⟨vw4.heap.size, 0, none⟩ : Addr).add 4) (Value.int .i64) fun (x215 : Int) =>
                              Ld vw210 ((⟨vw4.heap.size, 0, none⟩ : Addr).add 5) (Value.int .i64) fun (x216 : Int) =>
                              R (x211, x212, x213, x214, x215, x216) 2 vw210) (Br (r113 != 0) (St vw123 (⟨vw4.heap.size, 0, none⟩ : Addr) (.int .i64 0) fun vw217 =>
                                St vw217 ((⟨vw4.heap.size, 0, none⟩ : Addr).add 1) (.int .i64 0) fun vw218 =>
                                St vw218 ((⟨vw4.heap.size, 0, none⟩ : Addr).add 2) (.int .i64 0) fun vw219 =>
                                St vw219 ((⟨vw4.heap.size, 0, none⟩ : Addr).add 3) (.int .i64 0) fun vw220 =>
                                St vw220 ((⟨vw4.heap.size, 0, none⟩ : Addr).add 4) (.int .i64 0) fun vw221 =>
                                St vw221 ((⟨vw4.heap.size, 0, none⟩ : Addr).add 5) (.int .i64 0) fun vw222 =>
                                Ld vw222 (⟨vw4.heap.size, 0, none⟩ : Addr) (Value.int .i64) fun (x223 : Int) =>
                                Ld vw222 ((⟨vw4.heap.size, 0, none⟩ : Addr).add 1) (Value.int .i64) fun (x224 : Int) =>
                                Ld vw222 ((⟨vw4.heap.size, 0, none⟩ : Addr).add 2) (Value.int .i64) fun (x225 : Int) =>
                                Ld vw222 ((⟨vw4.heap.size, 0, none⟩ : Addr).add 3) (Value.int .i64) fun (x226 : Int) =>
                                Ld vw222 ((⟨vw4.heap.size, 0, none⟩ : Addr).add 4) (Value.int .i64) fun (x227 : Int) =>
                                Ld vw222 ((⟨vw4.heap.size, 0, none⟩ : Addr).add 5) (Value.int .i64) fun (x228 : Int) =>
                                R (x223, x224, x225, x226, x227, x228) 2 vw222) (Br (r122 != 0) (St vw123 (⟨vw4.heap.size, 0, none⟩ : Addr) (.int .i64 0) fun vw229 =>
                                  St vw229 ((⟨vw4.heap.size, 0, none⟩ : Addr).add 1) (.int .i64 0) fun vw230 =>
                                  St vw230 ((⟨vw4.heap.size, 0, none⟩ : Addr).add 2) (.int .i64 0) fun vw231 =>
                                  St vw231 ((⟨vw4.heap.size, 0, none⟩ : Addr).add 3) (.int .i64 0) fun vw232 =>
                                  St vw232 ((⟨vw4.heap.size, 0, none⟩ : Addr).add 4) (.int .i64 0) fun vw233 =>
                                  St vw233 ((⟨vw4.heap.size, 0, none⟩ : Addr).add 5) (.int .i64 0) fun vw234 =>
                                  Ld vw234 (⟨vw4.heap.size, 0, none⟩ : Addr) (Value.int .i64) fun (x235 : Int) =>
                                  Ld vw234 ((⟨vw4.heap.size, 0, none⟩ : Addr).add 1) (Value.int .i64) fun (x236 : Int) =>
                                  Ld vw234 ((⟨vw4.heap.size, 0, none⟩ : Addr).add 2) (Value.int .i64) fun (x237 : Int) =>
                                  Ld vw234 ((⟨vw4.heap.size, 0, none⟩ : Addr).add 3) (Value.int .i64) fun (x238 : Int) =>
                                  Ld vw234 ((⟨vw4.heap.size, 0, none⟩ : Addr).add 4) (Value.int .i64) fun (x239 : Int) =>
                                  Ld vw234 ((⟨vw4.heap.size, 0, none⟩ : Addr).add 5) (Value.int .i64) fun (x240 : Int) =>
                                  R (x235, x236, x237, x238, x239, x240) 2 vw234) (Nw vw123 (.cells #[.int .i64 r79, .int .i64 r87, .int .i64 r95, .int .i64 r103, .int .i64 r112, .int .i64 r121] 2) fun vw241 =>
                                  C86 (⟨some ⟨vw123.heap.size, 0, none⟩, 6, 6⟩ : Slc) vw241 fun r242 vw243 =>
                                    Br (!r242) (St vw243 (⟨vw4.heap.size, 0, none⟩ : Addr) (.int .i64 0) fun vw244 =>
                                      St vw244 ((⟨vw4.heap.size, 0, none⟩ : Addr).add 1) (.int .i64 0) fun vw245 =>
                                      St vw245 ((⟨vw4.heap.size, 0, none⟩ : Addr).add 2) (.int .i64 0) fun vw246 =>
                                      St vw246 ((⟨vw4.heap.size, 0, none⟩ : Addr).add 3) (.int .i64 0) fun vw247 =>
                                      St vw247 ((⟨vw4.heap.size, 0, none⟩ : Addr).add 4) (.int .i64 0) fun vw248 =>
                                      St vw248 ((⟨vw4.heap.size, 0, none⟩ : Addr).add 5) (.int .i64 0) fun vw249 =>
                                      Ld vw249 (⟨vw4.heap.size, 0, none⟩ : Addr) (Value.int .i64) fun (x250 : Int) =>
                                      Ld vw249 ((⟨vw4.heap.size, 0, none⟩ : Addr).add 1) (Value.int .i64) fun (x251 : Int) =>
                                      Ld vw249 ((⟨vw4.heap.size, 0, none⟩ : Addr).add 2) (Value.int .i64) fun (x252 : Int) =>
                                      Ld vw249 ((⟨vw4.heap.size, 0, none⟩ : Addr).add 3) (Value.int .i64) fun (x253 : Int) =>
                                      Ld vw249 ((⟨vw4.heap.size, 0, none⟩ : Addr).add 4) (Value.int .i64) fun (x254 : Int) =>
                                      Ld vw249 ((⟨vw4.heap.size, 0, none⟩ : Addr).add 5) (Value.int .i64) fun (x255 : Int) =>
                                      R (x250, x251, x252, x253, x254, x255) 2 vw249) (St vw243 (⟨vw4.heap.size, 0, none⟩ : Addr) (.int .i64 r79) fun vw256 =>
                                      St vw256 ((⟨vw4.heap.size, 0, none⟩ : Addr).add 1) (.int .i64 r87) fun vw257 =>
                                      St vw257 ((⟨vw4.heap.size, 0, none⟩ : Addr).add 2) (.int .i64 r95) fun vw258 =>
                                      St vw258 ((⟨vw4.heap.size, 0, none⟩ : Addr).add 3) (.int .i64 r103) fun vw259 =>
                                      St vw259 ((⟨vw4.heap.size, 0, none⟩ : Addr).add 4) (.int .i64 r112) fun vw260 =>
                                      St vw260 ((⟨vw4.heap.size, 0, none⟩ : Addr).add 5) (.int .i64 r121) fun vw261 =>
                                      Ld vw261 (⟨vw4.heap.size, 0, none⟩ : Addr) (Value.int .i64) fun (x262 : Int) =>
                                      Ld vw261 ((⟨vw4.heap.size, 0, none⟩ : Addr).add 1) (Value.int .i64) fun (x263 : Int) =>
                                      Ld vw261 ((⟨vw4.heap.size, 0, none⟩ : Addr).add 2) (Value.int .i64) fun (x264 : Int) =>
                                      Ld vw261 ((⟨vw4.heap.size, 0, none⟩ : Addr).add 3) (Value.int .i64) fun (x265 : Int) =>
                                      Ld vw261 ((⟨vw4.heap.size, 0, none⟩ : Addr).add 4) (Value.int .i64) fun (x266 : Int) =>
                                      Ld vw261 ((⟨vw4.heap.size, 0, none⟩ : Addr).add 5) (Value.int .i64) fun (x267 : Int) =>
                                      R (x262, x263, x264, x265, x266, x267) 0 vw261)))))))))
def pl85 : Plan := (.seq (.reg .seq) (.seq (.seq (.reg .seq) (.cond (.seq (.reg .seq) .leaf) .leaf)) (.seq (.reg .seq) (.seq (.reg .seq) (.seq (.reg .seq) (.seq (.reg .seq) (.seq (.reg .seq) (.seq (.reg .seq) (.seq (.seq (.reg .seq) (.cond (.seq (.reg .seq) .leaf) .leaf)) (.seq (.reg .seq) .leaf))))))))))
set_option maxRecDepth 100000 in
theorem T85 (a1 : Int × Int × Int × Int × Int × Int) (b2 : Int × Int × Int × Int × Int × Int) (w : World) (R : (Int × Int × Int × Int × Int × Int) → Int → World → Prop) (h : S85 a1 b2 w R) : C85 (a1.1, a1.2.1, a1.2.2.1, a1.2.2.2.1, a1.2.2.2.2.1, a1.2.2.2.2.2) (b2.1, b2.2.1, b2.2.2.1, b2.2.2.2.1, b2.2.2.2.2.1, b2.2.2.2.2.2) w R := by
  have e : fnT Tryz.prog ⟨FF, MAY, (fun _ _ => False)⟩ pl85 Tryz.f85 [.agg #[.int .i64 (a1.1), .int .i64 (a1.2.1), .int .i64 (a1.2.2.1), .int .i64 (a1.2.2.2.1), .int .i64 (a1.2.2.2.2.1), .int .i64 (a1.2.2.2.2.2)], .agg #[.int .i64 (b2.1), .int .i64 (b2.2.1), .int .i64 (b2.2.2.1), .int .i64 (b2.2.2.2.1), .int .i64 (b2.2.2.2.2.1), .int .i64 (b2.2.2.2.2.2)]] w [(.agg [(.int .i64), (.int .i64), (.int .i64), (.int .i64), (.int .i64), (.int .i64)]), (.one (.int .i64))] (fun s w => R s.1 s.2 w) = S85 a1 b2 w R := by kernel_rfl
  exact (fn_calls okF okM Tryz.func85 (by kernel_rfl) (by kernel_rfl) (e.mpr h)).mono fun _ _ ⟨s, he, hR⟩ => ⟨s.1, s.2, he, hR⟩

/-- foliant/foliantref42.Apply -/
def S136 (m1 : Int × Int × Int × Int × Int × Int) (p2 : Int × Int) (w : World) (R : (Int × Int) → Int → World → Prop) : Prop :=
  Nw w (.cells #[.int .i64 (m1.1), .int .i64 (m1.2.1), .int .i64 (m1.2.2.1), .int .i64 (m1.2.2.2.1), .int .i64 (m1.2.2.2.2.1), .int .i64 (m1.2.2.2.2.2)] 24) fun vw3 =>
  Nw vw3 (.cells #[.int .i64 (p2.1), .int .i64 (p2.2)] 68) fun vw4 =>
  Nw vw4 (.cells #[.int .i64 0, .int .i64 0] 68) fun vw5 =>
  Ld vw5 (⟨w.heap.size, 0, none⟩ : Addr) (Value.int .i64) fun (x23 : Int) =>
  Ld vw5 ((⟨w.heap.size, 0, none⟩ : Addr).add 1) (Value.int .i64) fun (x24 : Int) =>
  Ld vw5 ((⟨w.heap.size, 0, none⟩ : Addr).add 2) (Value.int .i64) fun (x25 : Int) =>
  Ld vw5 ((⟨w.heap.size, 0, none⟩ : Addr).add 3) (Value.int .i64) fun (x26 : Int) =>
  Ld vw5 ((⟨w.heap.size, 0, none⟩ : Addr).add 4) (Value.int .i64) fun (x27 : Int) =>
  Ld vw5 ((⟨w.heap.size, 0, none⟩ : Addr).add 5) (Value.int .i64) fun (x28 : Int) =>
  C49 (x23, x24, x25, x26, x27, x28) vw5 fun r29 vw30 =>
    Br (r29 != 0) (St vw30 (⟨vw4.heap.size, 0, none⟩ : Addr) (.int .i64 0) fun vw31 =>
      St vw31 ((⟨vw4.heap.size, 0, none⟩ : Addr).add 1) (.int .i64 0) fun vw32 =>
      Ld vw32 (⟨vw4.heap.size, 0, none⟩ : Addr) (Value.int .i64) fun (x33 : Int) =>
      Ld vw32 ((⟨vw4.heap.size, 0, none⟩ : Addr).add 1) (Value.int .i64) fun (x34 : Int) =>
      R (x33, x34) 2 vw32) (Ld vw30 (⟨vw3.heap.size, 0, none⟩ : Addr) (Value.int .i64) fun (x35 : Int) =>
      Ld vw30 ((⟨vw3.heap.size, 0, none⟩ : Addr).add 1) (Value.int .i64) fun (x36 : Int) =>
      Nw vw30 (.cells #[.int .i64 x35, .int .i64 x36] 2) fun vw37 =>
      C86 (⟨some ⟨vw30.heap.size, 0, none⟩, 2, 2⟩ : Slc) vw37 fun r38 vw39 =>
        Br (!r38) (St vw39 (⟨vw4.heap.size, 0, none⟩ : Addr) (.int .i64 0) fun vw40 =>
          St vw40 ((⟨vw4.heap.size, 0, none⟩ : Addr).add 1) (.int .i64 0) fun vw41 =>
          Ld vw41 (⟨vw4.heap.size, 0, none⟩ : Addr) (Value.int .i64) fun (x42 : Int) =>
          Ld vw41 ((⟨vw4.heap.size, 0, none⟩ : Addr).add 1) (Value.int .i64) fun (x43 : Int) =>
          R (x42, x43) 2 vw41) (Ld vw39 (⟨vw3.heap.size, 0, none⟩ : Addr) (Value.int .i64) fun (x44 : Int) =>
          Ld vw39 (⟨w.heap.size, 0, none⟩ : Addr) (Value.int .i64) fun (x45 : Int) =>
          Ld vw39 ((⟨vw3.heap.size, 0, none⟩ : Addr).add 1) (Value.int .i64) fun (x46 : Int) =>
          Ld vw39 ((⟨w.heap.size, 0, none⟩ : Addr).add 2) (Value.int .i64) fun (x47 : Int) =>
          Ld vw39 ((⟨w.heap.size, 0, none⟩ : Addr).add 4) (Value.int .i64) fun (x48 : Int) =>
          Nw vw39 (.cells #[.int .i64 x44, .int .i64 x45, .int .i64 x46, .int .i64 x47, .int .i64 x48, .int .i64 10000] 2) fun vw49 =>
          C117 (⟨some ⟨vw39.heap.size, 0, none⟩, 6, 6⟩ : Slc) vw49 fun r50 r51 vw52 =>
            Ld vw52 (⟨vw3.heap.size, 0, none⟩ : Addr) (Value.int .i64) fun (x53 : Int) =>
            Ld vw52 ((⟨w.heap.size, 0, none⟩ : Addr).add 1) (Value.int .i64) fun (x54 : Int) =>
            Ld vw52 ((⟨vw3.heap.size, 0, none⟩ : Addr).add 1) (Value.int .i64) fun (x55 : Int) =>
            Ld vw52 ((⟨w.heap.size, 0, none⟩ : Addr).add 3) (Value.int .i64) fun (x56 : Int) =>
            Ld vw52 ((⟨w.heap.size, 0, none⟩ : Addr).add 5) (Value.int .i64) fun (x57 : Int) =>
            Nw vw52 (.cells #[.int .i64 x53, .int .i64 x54, .int .i64 x55, .int .i64 x56, .int .i64 x57, .int .i64 10000] 2) fun vw58 =>
            C117 (⟨some ⟨vw52.heap.size, 0, none⟩, 6, 6⟩ : Slc) vw58 fun r59 r60 vw61 =>
              Br (r51 != 0) (St vw61 (⟨vw4.heap.size, 0, none⟩ : Addr) (.int .i64 0) fun vw71 =>
                St vw71 ((⟨vw4.heap.size, 0, none⟩ : Addr).add 1) (.int .i64 0) fun vw72 =>
                Ld vw72 (⟨vw4.heap.size, 0, none⟩ : Addr) (Value.int .i64) fun (x73 : Int) =>
                Ld vw72 ((⟨vw4.heap.size, 0, none⟩ : Addr).add 1) (Value.int .i64) fun (x74 : Int) =>
                R (x73, x74) 2 vw72) (Br (r60 != 0) (St vw61 (⟨vw4.heap.size, 0, none⟩ : Addr) (.int .i64 0) fun vw75 =>
                  St vw75 ((⟨vw4.heap.size, 0, none⟩ : Addr).add 1) (.int .i64 0) fun vw76 =>
                  Ld vw76 (⟨vw4.heap.size, 0, none⟩ : Addr) (Value.int .i64) fun (x77 : Int) =>
                  Ld vw76 ((⟨vw4.heap.size, 0, none⟩ : Addr).add 1) (Value.int .i64) fun (x78 : Int) =>
                  R (x77, x78) 2 vw76) (Nw vw61 (.cells #[.int .i64 r50, .int .i64 r59] 2) fun vw79 =>
                  C86 (⟨some ⟨vw61.heap.size, 0, none⟩, 2, 2⟩ : Slc) vw79 fun r80 vw81 =>
                    Br (!r80) (St vw81 (⟨vw4.heap.size, 0, none⟩ : Addr) (.int .i64 0) fun vw82 =>
                      St vw82 ((⟨vw4.heap.size, 0, none⟩ : Addr).add 1) (.int .i64 0) fun vw83 =>
                      Ld vw83 (⟨vw4.heap.size, 0, none⟩ : Addr) (Value.int .i64) fun (x84 : Int) =>
                      Ld vw83 ((⟨vw4.heap.size, 0, none⟩ : Addr).add 1) (Value.int .i64) fun (x85 : Int) =>
                      R (x84, x85) 2 vw83) (St vw81 (⟨vw4.heap.size, 0, none⟩ : Addr) (.int .i64 r50) fun vw86 =>
                      St vw86 ((⟨vw4.heap.size, 0, none⟩ : Addr).add 1) (.int .i64 r59) fun vw87 =>
                      Ld vw87 (⟨vw4.heap.size, 0, none⟩ : Addr) (Value.int .i64) fun (x88 : Int) =>
                      Ld vw87 ((⟨vw4.heap.size, 0, none⟩ : Addr).add 1) (Value.int .i64) fun (x89 : Int) =>
                      R (x88, x89) 0 vw87)))))
def pl136 : Plan := (.seq (.reg .seq) (.seq (.seq (.reg .seq) (.cond (.seq (.reg .seq) .leaf) .leaf)) (.seq (.reg .seq) (.seq (.reg .seq) (.seq (.seq (.reg .seq) (.cond (.seq (.reg .seq) .leaf) .leaf)) (.seq (.reg .seq) .leaf))))))
set_option maxRecDepth 100000 in
theorem T136 (m1 : Int × Int × Int × Int × Int × Int) (p2 : Int × Int) (w : World) (R : (Int × Int) → Int → World → Prop) (h : S136 m1 p2 w R) : C136 (m1.1, m1.2.1, m1.2.2.1, m1.2.2.2.1, m1.2.2.2.2.1, m1.2.2.2.2.2) (p2.1, p2.2) w R := by
  have e : fnT Tryz.prog ⟨FF, MAY, (fun _ _ => False)⟩ pl136 Tryz.f136 [.agg #[.int .i64 (m1.1), .int .i64 (m1.2.1), .int .i64 (m1.2.2.1), .int .i64 (m1.2.2.2.1), .int .i64 (m1.2.2.2.2.1), .int .i64 (m1.2.2.2.2.2)], .agg #[.int .i64 (p2.1), .int .i64 (p2.2)]] w [(.agg [(.int .i64), (.int .i64)]), (.one (.int .i64))] (fun s w => R s.1 s.2 w) = S136 m1 p2 w R := by kernel_rfl
  exact (fn_calls okF okM Tryz.func136 (by kernel_rfl) (by kernel_rfl) (e.mpr h)).mono fun _ _ ⟨s, he, hR⟩ => ⟨s.1, s.2, he, hR⟩

def S137L1 (x21 : Int) (x22 : Int) (x23 : Int) (x24 : Int) (R : Int → Int → World → Prop) (I33 : (Int × Int) → World → Prop) (s31 : Int × Int) (vw32 : World) : Prop :=
  Br (decide (s31.1 < s31.2)) (Lt (IntKind.i64.wrap ((IntKind.i64.wrap (Int.tdiv (IntKind.i64.wrap ((IntKind.i64.wrap (s31.1 + s31.2)) + 1)) 2)) * (IntKind.i64.wrap (Int.tdiv (IntKind.i64.wrap ((IntKind.i64.wrap (s31.1 + s31.2)) + 1)) 2)))) fun (x34 : Int) =>
    Lt (decide (x34 ≤ (IntKind.i64.wrap ((IntKind.i64.wrap (x21 * x22)) + (IntKind.i64.wrap (x23 * x24)))))) fun (x35 : Bool) =>
    Br x35 (I33 (IntKind.i64.wrap (Int.tdiv (IntKind.i64.wrap ((IntKind.i64.wrap (s31.1 + s31.2)) + 1)) 2), s31.2) vw32) (Lt (IntKind.i64.wrap ((IntKind.i64.wrap (Int.tdiv (IntKind.i64.wrap ((IntKind.i64.wrap (s31.1 + s31.2)) + 1)) 2)) - 1)) fun (x36 : Int) =>
      I33 (s31.1, x36) vw32)) (Br (decide (s31.1 > 1073741824)) (R 0 2 vw32) (R s31.1 0 vw32))
/-- foliant/foliantref42.Length -/
def S137 (m1 : Int × Int × Int × Int × Int × Int) (p2 : Int × Int) (w : World) (R : Int → Int → World → Prop) : Prop :=
  Nw w (.cells #[.int .i64 (m1.1), .int .i64 (m1.2.1), .int .i64 (m1.2.2.1), .int .i64 (m1.2.2.2.1), .int .i64 (m1.2.2.2.2.1), .int .i64 (m1.2.2.2.2.2)] 24) fun vw3 =>
  Nw vw3 (.cells #[.int .i64 (p2.1), .int .i64 (p2.2)] 68) fun vw4 =>
  St vw4 ((⟨w.heap.size, 0, none⟩ : Addr).add 4) (.int .i64 0) fun vw5 =>
  St vw5 ((⟨w.heap.size, 0, none⟩ : Addr).add 5) (.int .i64 0) fun vw6 =>
  Ld vw6 (⟨w.heap.size, 0, none⟩ : Addr) (Value.int .i64) fun (x7 : Int) =>
  Ld vw6 ((⟨w.heap.size, 0, none⟩ : Addr).add 1) (Value.int .i64) fun (x8 : Int) =>
  Ld vw6 ((⟨w.heap.size, 0, none⟩ : Addr).add 2) (Value.int .i64) fun (x9 : Int) =>
  Ld vw6 ((⟨w.heap.size, 0, none⟩ : Addr).add 3) (Value.int .i64) fun (x10 : Int) =>
  Ld vw6 ((⟨w.heap.size, 0, none⟩ : Addr).add 4) (Value.int .i64) fun (x11 : Int) =>
  Ld vw6 ((⟨w.heap.size, 0, none⟩ : Addr).add 5) (Value.int .i64) fun (x12 : Int) =>
  Ld vw6 (⟨vw3.heap.size, 0, none⟩ : Addr) (Value.int .i64) fun (x13 : Int) =>
  Ld vw6 ((⟨vw3.heap.size, 0, none⟩ : Addr).add 1) (Value.int .i64) fun (x14 : Int) =>
  C136 (x7, x8, x9, x10, x11, x12) (x13, x14) vw6 fun r15 r16 vw17 =>
    Nw vw17 (.cells #[.int .i64 0, .int .i64 0] 68) fun vw18 =>
    St vw18 (⟨vw17.heap.size, 0, none⟩ : Addr) (.int .i64 (r15.1)) fun vw19 =>
    St vw19 ((⟨vw17.heap.size, 0, none⟩ : Addr).add 1) (.int .i64 (r15.2)) fun vw20 =>
    Br (r16 != 0) (R 0 r16 vw20) (Ld vw20 (⟨vw17.heap.size, 0, none⟩ : Addr) (Value.int .i64) fun (x21 : Int) =>
      Ld vw20 (⟨vw17.heap.size, 0, none⟩ : Addr) (Value.int .i64) fun (x22 : Int) =>
      Ld vw20 ((⟨vw17.heap.size, 0, none⟩ : Addr).add 1) (Value.int .i64) fun (x23 : Int) =>
      Ld vw20 ((⟨vw17.heap.size, 0, none⟩ : Addr).add 1) (Value.int .i64) fun (x24 : Int) =>
      Lp (σ := Int × Int) (S137L1 x21 x22 x23 x24 R) (0, 2147483648) vw20)
def pl137 : Plan := (.seq (.reg .seq) (.seq (.reg .seq) (.seq (.reg .seq) (.seq (.seq (.reg .seq) (.cond (.seq (.reg .seq) .leaf) .leaf)) (.seq (.reg .seq) (.seq (.reg .seq) (.seq (.block (.loop [(9, (.one (.int .i64))), (10, (.one (.int .i64)))] [8] (.seq (.seq (.reg .seq) (.cond .leaf .leaf)) (.block (.seq (.reg .seq) (.seq (.reg .seq) (.cond (.reg .seq) (.reg .seq)))))))) (.seq (.seq (.reg .seq) (.cond (.seq (.reg .seq) .leaf) .leaf)) (.seq (.reg .seq) .leaf)))))))))
set_option maxRecDepth 100000 in
theorem T137 (m1 : Int × Int × Int × Int × Int × Int) (p2 : Int × Int) (w : World) (R : Int → Int → World → Prop) (h : S137 m1 p2 w R) : C137 (m1.1, m1.2.1, m1.2.2.1, m1.2.2.2.1, m1.2.2.2.2.1, m1.2.2.2.2.2) (p2.1, p2.2) w R := by
  have e : fnT Tryz.prog ⟨FF, MAY, (fun _ _ => False)⟩ pl137 Tryz.f137 [.agg #[.int .i64 (m1.1), .int .i64 (m1.2.1), .int .i64 (m1.2.2.1), .int .i64 (m1.2.2.2.1), .int .i64 (m1.2.2.2.2.1), .int .i64 (m1.2.2.2.2.2)], .agg #[.int .i64 (p2.1), .int .i64 (p2.2)]] w [(.one (.int .i64)), (.one (.int .i64))] (fun s w => R s.1 s.2 w) = S137 m1 p2 w R := by kernel_rfl
  exact (fn_calls okF okM Tryz.func137 (by kernel_rfl) (by kernel_rfl) (e.mpr h)).mono fun _ _ ⟨s, he, hR⟩ => ⟨s.1, s.2, he, hR⟩

/-- foliant/foliantref42.One -/
def S22 (w : World) (R : (Int × Int × Int × Int × Int × Int) → World → Prop) : Prop :=
  Nw w (.cells #[.int .i64 0, .int .i64 0, .int .i64 0, .int .i64 0, .int .i64 0, .int .i64 0] 24) fun vw1 =>
  St vw1 (⟨w.heap.size, 0, none⟩ : Addr) (.int .i64 10000) fun vw2 =>
  St vw2 ((⟨w.heap.size, 0, none⟩ : Addr).add 1) (.int .i64 0) fun vw3 =>
  St vw3 ((⟨w.heap.size, 0, none⟩ : Addr).add 2) (.int .i64 0) fun vw4 =>
  St vw4 ((⟨w.heap.size, 0, none⟩ : Addr).add 3) (.int .i64 10000) fun vw5 =>
  St vw5 ((⟨w.heap.size, 0, none⟩ : Addr).add 4) (.int .i64 0) fun vw6 =>
  St vw6 ((⟨w.heap.size, 0, none⟩ : Addr).add 5) (.int .i64 0) fun vw7 =>
  Ld vw7 (⟨w.heap.size, 0, none⟩ : Addr) (Value.int .i64) fun (x8 : Int) =>
  Ld vw7 ((⟨w.heap.size, 0, none⟩ : Addr).add 1) (Value.int .i64) fun (x9 : Int) =>
  Ld vw7 ((⟨w.heap.size, 0, none⟩ : Addr).add 2) (Value.int .i64) fun (x10 : Int) =>
  Ld vw7 ((⟨w.heap.size, 0, none⟩ : Addr).add 3) (Value.int .i64) fun (x11 : Int) =>
  Ld vw7 ((⟨w.heap.size, 0, none⟩ : Addr).add 4) (Value.int .i64) fun (x12 : Int) =>
  Ld vw7 ((⟨w.heap.size, 0, none⟩ : Addr).add 5) (Value.int .i64) fun (x13 : Int) =>
  R (x8, x9, x10, x11, x12, x13) vw7
def pl22 : Plan := (.seq (.reg .seq) (.seq (.reg .seq) .leaf))
set_option maxRecDepth 100000 in
theorem T22 (w : World) (R : (Int × Int × Int × Int × Int × Int) → World → Prop) (h : S22 w R) : C22 w R := by
  have e : fnT Tryz.prog ⟨FF, MAY, (fun _ _ => False)⟩ pl22 Tryz.f22 [] w [(.agg [(.int .i64), (.int .i64), (.int .i64), (.int .i64), (.int .i64), (.int .i64)])] (fun s w => R s w) = S22 w R := by kernel_rfl
  exact (fn_calls okF okM Tryz.func22 (by kernel_rfl) (by kernel_rfl) (e.mpr h)).mono fun _ _ ⟨s, he, hR⟩ => ⟨s, he, hR⟩

/-- foliant/foliantref42.Move -/
def S20 (x1 : Int) (y2 : Int) (w : World) (R : (Int × Int × Int × Int × Int × Int) → World → Prop) : Prop :=
  Nw w (.cells #[.int .i64 0, .int .i64 0, .int .i64 0, .int .i64 0, .int .i64 0, .int .i64 0] 24) fun vw3 =>
  St vw3 (⟨w.heap.size, 0, none⟩ : Addr) (.int .i64 10000) fun vw4 =>
  St vw4 ((⟨w.heap.size, 0, none⟩ : Addr).add 1) (.int .i64 0) fun vw5 =>
  St vw5 ((⟨w.heap.size, 0, none⟩ : Addr).add 2) (.int .i64 0) fun vw6 =>
  St vw6 ((⟨w.heap.size, 0, none⟩ : Addr).add 3) (.int .i64 10000) fun vw7 =>
  St vw7 ((⟨w.heap.size, 0, none⟩ : Addr).add 4) (.int .i64 x1) fun vw8 =>
  St vw8 ((⟨w.heap.size, 0, none⟩ : Addr).add 5) (.int .i64 y2) fun vw9 =>
  Ld vw9 (⟨w.heap.size, 0, none⟩ : Addr) (Value.int .i64) fun (x10 : Int) =>
  Ld vw9 ((⟨w.heap.size, 0, none⟩ : Addr).add 1) (Value.int .i64) fun (x11 : Int) =>
  Ld vw9 ((⟨w.heap.size, 0, none⟩ : Addr).add 2) (Value.int .i64) fun (x12 : Int) =>
  Ld vw9 ((⟨w.heap.size, 0, none⟩ : Addr).add 3) (Value.int .i64) fun (x13 : Int) =>
  Ld vw9 ((⟨w.heap.size, 0, none⟩ : Addr).add 4) (Value.int .i64) fun (x14 : Int) =>
  Ld vw9 ((⟨w.heap.size, 0, none⟩ : Addr).add 5) (Value.int .i64) fun (x15 : Int) =>
  R (x10, x11, x12, x13, x14, x15) vw9
def pl20 : Plan := (.seq (.reg .seq) (.seq (.reg .seq) .leaf))
set_option maxRecDepth 100000 in
theorem T20 (x1 : Int) (y2 : Int) (w : World) (R : (Int × Int × Int × Int × Int × Int) → World → Prop) (h : S20 x1 y2 w R) : C20 x1 y2 w R := by
  have e : fnT Tryz.prog ⟨FF, MAY, (fun _ _ => False)⟩ pl20 Tryz.f20 [.int .i64 x1, .int .i64 y2] w [(.agg [(.int .i64), (.int .i64), (.int .i64), (.int .i64), (.int .i64), (.int .i64)])] (fun s w => R s w) = S20 x1 y2 w R := by kernel_rfl
  exact (fn_calls okF okM Tryz.func20 (by kernel_rfl) (by kernel_rfl) (e.mpr h)).mono fun _ _ ⟨s, he, hR⟩ => ⟨s, he, hR⟩

end Go.Proofs.YtcblpehnkogfdaaGreatDoor
